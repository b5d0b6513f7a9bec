
/- Layer 6's program: its constants and its word laws; each under the conditions that it names. -/
import Derived.Test.YtlmababpmmhhoaaGreatShaM
import Derived.Test.YtlmababpmmhhoaaGreatSha256
namespace Go.Proofs.YtlmababpmmhhoaaGreat
open Go.RowKit Go.Sep Go.Bv Go.Sha
set_option linter.unusedVariables false
set_option linter.unusedSimpArgs false
theorem Tryz.size_a80u64 : (Tryz.prog.info? 135).map (·.size) = some 80 := by kernel_rfl
theorem Tryz.size_a8u64 : (Tryz.prog.info? 109).map (·.size) = some 8 := by kernel_rfl
theorem u64s_one (xs : List (BitVec 64)) : ∀ u ∈ u64s xs, u.oneCell' = true := by
  intro u hu
  simp only [u64s, List.mem_map] at hu
  obtain ⟨b, _, rfl⟩ := hu
  rfl
theorem K512_len' : K512.length = 80 := by rfl
theorem H512_len' : H512.length = 8 := by rfl
def zero80 : List (BitVec 64) := List.replicate 80 0
theorem zero80_len : zero80.length = 80 := rfl
def zero8 : List (BitVec 64) := List.replicate 8 0
theorem zero8_len : zero8.length = 8 := rfl
theorem zero_a80u64 (w : World) : (zeroValue 135).run Tryz.prog w = .ok (.agg (u64s zero80).toArray) w := by kernel_rfl
theorem zero_a8u64 (w : World) : (zeroValue 109).run Tryz.prog w = .ok (.agg (u64s zero8).toArray) w := by kernel_rfl
theorem right64i (w : World) (x : BitVec 64) (k : Int) (h1 : 1 ≤ k) (h2 : k ≤ 63) : Calls Tryz.prog 87 #[.int .u64 (v64 x), .int .i64 k] w fun e w' => e = .returned (.int .u64 (v64 (rotr x k.toNat))) ∧ ∃ n, w' = w.drewN n := by
  obtain ⟨n, rfl⟩ : ∃ n : Nat, k = n := ⟨k.toNat, by omega⟩
  rw [Int.toNat_natCast]
  exact right64 w x n (by omega) (by omega)
theorem sum64_4 (a b c d : BitVec 64) : (v64 a + v64 b + v64 c + v64 d) % 18446744073709551616 = v64 (a + b + c + d) := by
  rw [← vadd64 (a + b + c) d, ← vadd64 (a + b) c, ← vadd64 a b]; omega
theorem sum64_5 (a b c d e : BitVec 64) : (v64 a + v64 b + v64 c + v64 d + v64 e) % 18446744073709551616 = v64 (a + b + c + d + e) := by
  rw [← vadd64 (a + b + c + d) e, ← vadd64 (a + b + c) d, ← vadd64 (a + b) c, ← vadd64 a b]; omega
theorem vnot64 (x : BitVec 64) : bits .xor .u64 (if IntKind.u64.signed = true then -1 else IntKind.u64.max) (v64 x) = v64 (~~~x) := by
  rw [show (if IntKind.u64.signed = true then (-1 : Int) else IntKind.u64.max) = v64 (BitVec.allOnes 64) from rfl, vxor64, BitVec.allOnes_xor]
theorem wpl_build {P : Program} {ops : Array Oper} {Q : Exit → Act → World → Prop} {o : Oper} {rest : List Oper} {a : Act} {w : World} (hgd : o.guard = none) (ty : TypeId) {parts : Array (Nat × Operand)} (ho : o.op = .build ty parts) (v : Value)
    (hb : (Instr.build ty (parts.map fun (i, x) => (i, a.eval x))).run P w = .ok v w) (h : wpList P ops Q rest (a.put o.dst v) w) : wpList P ops Q (o :: rest) a w := by
  refine wpList_plain hgd fun _ hK => ?_
  unfold Oper.wp execOp
  simp only [ho, hb, Sem.run_bind, Sem.run_pure, Result.andThen_ok]
  exact hK _ _ h
set_option maxRecDepth 100000 in
set_option maxHeartbeats 1000000 in
theorem keys512 {W0 w : World} {L : List Assn} (hs : Sat W0 w L) : Calls Tryz.prog 88 #[] w fun e w' => e = .returned (.agg (u64s K512).toArray) ∧ Sat W0 w' L := by
  go_enter Tryz.func88, Tryz.ntmps88
  go_wp2_with (first | (refine wpl_build rfl 135 rfl (.agg (u64s K512).toArray) (by kernel_rfl) ?_) | (refine wpl_alloc_agg rfl 135 rfl hs _ (zero_a80u64 _) ?_; intro w1 g s1 _) | (refine wpl_store_agg rfl rfl 135 (.tmp 0) (.tmp 1) rfl (cs := u64s K512) s1 0 0 Tryz.size_a80u64 rfl (by rfl) rfl (by rw [u64s_len, u64s_len, K512_len', zero80_len]; decide) (u64s_one _) ?_; intro w2 s2))
  rw [setL_all _ _ (by rw [u64s_len, u64s_len, K512_len', zero80_len])] at s2
  refine bodyPost_ret (v := .agg (u64s K512).toArray) ?_ rfl ⟨rfl, s2.tail⟩
  have hr := run_loadVar_agg (P := Tryz.prog) (ty := 135) Tryz.underlying135 rfl Tryz.size_a80u64 s2 0 0 rfl (by simp [u64s_len, K512_len'])
  rw [List.drop_zero, List.take_of_length_le (by simp [u64s_len, K512_len'])] at hr
  simp [results, Tryz.results88, asAddr]
  exact hr
set_option maxRecDepth 100000 in
set_option maxHeartbeats 1000000 in
theorem first512 {W0 w : World} {L : List Assn} (hs : Sat W0 w L) : Calls Tryz.prog 53 #[] w fun e w' => e = .returned (.agg (u64s H512).toArray) ∧ Sat W0 w' L := by
  go_enter Tryz.func53, Tryz.ntmps53
  go_wp2_with (first | (refine wpl_alloc_agg rfl 109 rfl hs _ (zero_a8u64 _) ?_; intro w1 g s1 _) | (refine wpl_store_agg rfl rfl 109 (.tmp 0) (.tmp 1) rfl (cs := u64s H512) s1 0 0 Tryz.size_a8u64 rfl (by rfl) rfl (by rw [u64s_len, u64s_len, H512_len', zero8_len]; decide) (u64s_one _) ?_; intro w2 s2))
  rw [setL_all _ _ (by rw [u64s_len, u64s_len, H512_len', zero8_len])] at s2
  refine bodyPost_ret (v := .agg (u64s H512).toArray) ?_ rfl ⟨rfl, s2.tail⟩
  have hr := run_loadVar_agg (P := Tryz.prog) (ty := 109) Tryz.underlying109 rfl Tryz.size_a8u64 s2 0 0 rfl (by simp [u64s_len, H512_len'])
  rw [List.drop_zero, List.take_of_length_le (by simp [u64s_len, H512_len'])] at hr
  simp [results, Tryz.results53, asAddr, hr]
end Go.Proofs.YtlmababpmmhhoaaGreat
