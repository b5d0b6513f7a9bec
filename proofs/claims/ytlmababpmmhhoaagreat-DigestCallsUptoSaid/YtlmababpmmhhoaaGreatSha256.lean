
/- The contracts of layer 5's program: a block is worked into the words; each under the conditions that it names. -/
import Derived.Test.YtlmababpmmhhoaaGreatShaM
import Derived.Test.YtlmababpmmhhoaaGreatLed
import Derived.Test.YtlmababpmmhhoaaGreatWord
namespace Go.Proofs.YtlmababpmmhhoaaGreat
open Go.RowKit Go.Sep Go.Bv Go.Sha
set_option linter.unusedVariables false
set_option linter.unusedSimpArgs false
theorem Tryz.size_a64u32 : (Tryz.prog.info? 129).map (·.size) = some 64 := by kernel_rfl
theorem u32s_one (xs : List (BitVec 32)) : ∀ u ∈ u32s xs, u.oneCell' = true := by
  intro u hu
  simp only [u32s, List.mem_map] at hu
  obtain ⟨b, _, rfl⟩ := hu
  rfl
def zero64 : List (BitVec 32) := List.replicate 64 0
theorem zero64_len : zero64.length = 64 := rfl
theorem zero_a64u32 (w : World) : (zeroValue 129).run Tryz.prog w = .ok (.agg (u32s zero64).toArray) w := by kernel_rfl
theorem right32i (w : World) (x : BitVec 32) (k : Int) (h1 : 1 ≤ k) (h2 : k ≤ 31) : Calls Tryz.prog 83 #[.int .u32 (v32 x), .int .i64 k] w fun e w' => e = .returned (.int .u32 (v32 (rotr x k.toNat))) ∧ ∃ n, w' = w.drewN n := by
  obtain ⟨n, rfl⟩ : ∃ n : Nat, k = n := ⟨k.toNat, by omega⟩
  rw [Int.toNat_natCast]
  exact right32 w x n (by omega) (by omega)
/-- A callee's contract in a second region that only reads: the draws of both add up. -/
theorem quietAdd {P : Program} {f : FuncId} {args : Array Value} {w : World} {a n : Nat} {v : Value} (h : Calls P f args (w.drewN (a + n)) fun e w' => e = .returned v ∧ ∃ m, w' = (w.drewN (a + n)).drewN m) :
    Calls P f args (w.drewN (a + n)) fun e w'' => e = .returned v ∧ ∃ m, w'' = w.drewN (a + m) := by
  refine h.mono ?_
  rintro e w' ⟨he, m, rfl⟩
  exact ⟨he, n + m, by rw [World.drewN_drewN, Nat.add_assoc]⟩
theorem vshr32_3 (x : BitVec 32) : v32 x / (8 : Int) = v32 (x >>> 3) := vshr32 x 3
theorem vshr32_10 (x : BitVec 32) : v32 x / (1024 : Int) = v32 (x >>> 10) := vshr32 x 10
theorem sum32_4 (a b c d : BitVec 32) : (v32 a + v32 b + v32 c + v32 d) % 4294967296 = v32 (a + b + c + d) := by
  rw [← vadd32 (a + b + c) d, ← vadd32 (a + b) c, ← vadd32 a b]; omega
theorem xs3 (p x : BitVec 32) : bits .xor .u32 (v32 p) (v32 x / (8 : Int)) = v32 (p ^^^ x >>> 3) := by rw [vshr32_3, vxor32]
theorem xs10 (p x : BitVec 32) : bits .xor .u32 (v32 p) (v32 x / (1024 : Int)) = v32 (p ^^^ x >>> 10) := by rw [vshr32_10, vxor32]
theorem sum32_5 (a b c d e : BitVec 32) : (v32 a + v32 b + v32 c + v32 d + v32 e) % 4294967296 = v32 (a + b + c + d + e) := by
  rw [← vadd32 (a + b + c + d) e, ← vadd32 (a + b + c) d, ← vadd32 (a + b) c, ← vadd32 a b]; omega
theorem vnot32 (x : BitVec 32) : bits .xor .u32 (if IntKind.u32.signed = true then -1 else IntKind.u32.max) (v32 x) = v32 (~~~x) := by
  rw [show (if IntKind.u32.signed = true then (-1 : Int) else IntKind.u32.max) = v32 (BitVec.allOnes 32) from rfl, vxor32, BitVec.allOnes_xor]
/-- What is left to be added, word by word. -/
def upd32 (h s : List (BitVec 32)) (i : Nat) : List (BitVec 32) := (List.range 8).map fun j => if j < i then h.getD j 0 + s.getD j 0 else h.getD j 0
theorem upd32_set (h s : List (BitVec 32)) (i : Nat) (hi : i < 8) : (upd32 h s i).set i (h.getD i 0 + s.getD i 0) = upd32 h s (i + 1) := by
  apply List.ext_getElem
  · simp [upd32]
  · intro j h1 h2
    simp only [upd32, List.getElem_set, List.getElem_map, List.getElem_range]
    by_cases e : i = j
    · subst e; simp
    · rw [if_neg e]
      by_cases h : j < i
      · rw [if_pos h, if_pos (by omega)]
      · rw [if_neg h, if_neg (by omega)]
theorem upd32_len (h s : List (BitVec 32)) (i : Nat) : (upd32 h s i).length = 8 := by simp [upd32]
theorem upd32_get (h s : List (BitVec 32)) (i : Nat) (hi : i < 8) : (upd32 h s i).getD i 0 = h.getD i 0 := by simp [upd32, hi]
theorem i64w (n : Nat) (h : n < 9223372036854775808) : IntKind.i64.wrap (n : Int) = (n : Int) := by rw [IntKind.wrap_i64]; omega
set_option maxRecDepth 100000 in
set_option maxHeartbeats 1000000 in
theorem consts256 {W0 w : World} {L : List Assn} (hs : Sat W0 w L) : Calls Tryz.prog 81 #[] w fun e w' => e = .returned (.agg (u32s K256).toArray) ∧ Sat W0 w' L := by
  go_enter Tryz.func81, Tryz.ntmps81
  go_wp2_with (first | (refine wpl_alloc_agg rfl 129 rfl hs _ (zero_a64u32 _) ?_; intro w1 g s1 _) | (refine wpl_store_agg rfl rfl 129 (.tmp 0) (.tmp 1) rfl (cs := u32s K256) s1 0 0 Tryz.size_a64u32 rfl (by rfl) rfl (by rw [u32s_len, u32s_len, K256_len, zero64_len]; decide) (u32s_one _) ?_; intro w2 s2))
  rw [setL_all _ _ (by rw [u32s_len, u32s_len, K256_len, zero64_len])] at s2
  refine bodyPost_ret (v := .agg (u32s K256).toArray) ?_ rfl ⟨rfl, s2.tail⟩
  have hr := run_loadVar_agg (P := Tryz.prog) (ty := 129) Tryz.underlying129 rfl Tryz.size_a64u32 s2 0 0 rfl (by simp [u32s_len, K256_len])
  rw [List.drop_zero, List.take_of_length_le (by simp [u32s_len, K256_len])] at hr
  simp [results, Tryz.results81, asAddr, hr]
end Go.Proofs.YtlmababpmmhhoaaGreat
