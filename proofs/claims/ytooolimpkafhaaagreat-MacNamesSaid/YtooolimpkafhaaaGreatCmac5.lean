
/- CMAC: a mac copied, its form, wiped; under the conditions that each names. -/
import Derived.Test.YtooolimpkafhaaaGreatCmac4
namespace Go.Proofs.YtooolimpkafhaaaGreat
open Go.RowKit Go.Sep Go.Bv Go.Aes
set_option linter.unusedVariables false
set_option linter.unusedSimpArgs false
section
variable {P : Program} {w : World} {T : TypeId}
theorem run_build_array {n sz : Nat} {e : TypeId} (hu : P.underlying T = some (.array n e)) (hsz : (P.info? e).map (·.size) = some sz) {zs cells : Array Value} (hz : (zeroValue T).run P w = .ok (.agg zs) w) {parts : Array (Nat × Value)} (hf : Instr.fill (fun i => some (i * sz, sz)) zs parts.toList = some cells) : (Instr.build T parts).run P w = .ok (.agg cells) w := by
  cases hq : P.info? e with
  | none => simp [hq] at hsz
  | some inf =>
    have hsz' : inf.size = sz := by simpa [hq] using hsz
    unfold Instr.build
    have e : (Value.agg zs).cells = zs := rfl
    simp [Sem.run_bind, hz, run_underlying hu, sizeOf, typeInfo, hq, hsz', e, hf]
end
theorem zero_b4x16 (w : World) : (zeroValue 211).run Tryz.prog w = .ok (.agg (u8s (List.replicate 64 0)).toArray) w := by kernel_rfl
theorem fill_u8 (X : List Byte) (i : Nat) (Y : List Byte) (rest : List (Nat × Value)) (hX : X.length = 64) (hY : Y.length = 16) (hi : i * 16 + 16 ≤ 64) : Instr.fill (fun i => some (i * 16, 16)) (u8s X).toArray ((i, .agg (u8s Y).toArray) :: rest) = Instr.fill (fun i => some (i * 16, 16)) (u8s (putB X (i * 16) Y)).toArray rest := by
  rw [fill_one (off := i * 16) (size := 16) rfl (by show (u8s Y).toArray.size = 16; rw [List.size_toArray, u8s_len, hY]) (by rw [List.size_toArray, u8s_len, hX]; exact hi)]
  show Instr.fill _ (setL (u8s X) (i * 16) (u8s Y)).toArray rest = _
  rw [setL_u8s _ _ _ (by omega)]
theorem build_4x16 (A B C D : List Byte) (hA : A.length = 16) (hB : B.length = 16) (hC : C.length = 16) (hD : D.length = 16) (w : World) : (Instr.build 211 #[(0, .agg (u8s A).toArray), (1, .agg (u8s B).toArray), (2, .agg (u8s C).toArray), (3, .agg (u8s D).toArray)]).run Tryz.prog w = .ok (.agg (u8s (A ++ B ++ C ++ D)).toArray) w := by
  refine run_build_array (sz := 16) Tryz.underlying211 Tryz.size_b16 (zero_b4x16 w) ?_
  have p1 : putB (List.replicate 64 (0 : Byte)) 0 A = A ++ List.replicate (64 - 16) 0 := by have := putB_next [] A 0 64 rfl (by omega); simpa [hA] using this
  have p2 : putB (A ++ List.replicate (64 - 16) 0) 16 B = A ++ B ++ List.replicate (64 - 32) 0 := by have := putB_next A B 16 64 hA (by omega); rw [hB] at this; exact this
  have p3 : putB (A ++ B ++ List.replicate (64 - 32) 0) 32 C = A ++ B ++ C ++ List.replicate (64 - 48) 0 := by have := putB_next (A ++ B) C 32 64 (by simp [hA, hB]) (by omega); rw [hC] at this; exact this
  have p4 : putB (A ++ B ++ C ++ List.replicate (64 - 48) 0) 48 D = A ++ B ++ C ++ D := by have := putB_next (A ++ B ++ C) D 48 64 (by simp [hA, hB, hC]) (by omega); rw [hD] at this; simpa using this
  show Instr.fill (fun i => some (i * 16, 16)) (u8s (List.replicate 64 0)).toArray [(0, .agg (u8s A).toArray), (1, .agg (u8s B).toArray), (2, .agg (u8s C).toArray), (3, .agg (u8s D).toArray)] = _
  rw [fill_u8 _ 0 A _ (by simp) hA (by omega), p1, fill_u8 _ 1 B _ (by simp [hA]) hB (by omega), p2, fill_u8 _ 2 C _ (by simp [hA, hB]) hC (by omega), p3, fill_u8 _ 3 D _ (by simp [hA, hB, hC]) hD (by omega), p4]
  rfl
theorem cmAll_one {c : Option Addr} {k1 k2 ch wt : List Byte} {n : Nat} : ∀ u ∈ cmAll (.pointer c) k1 k2 ch wt n, u.oneCell' = true := by
  intro u hu
  unfold cmAll at hu
  simp only [List.mem_append, List.mem_singleton] at hu
  rcases hu with rfl | hu | hu | hu | hu | rfl
  · rfl
  · exact u8s_one _ u hu
  · exact u8s_one _ u hu
  · exact u8s_one _ u hu
  · exact u8s_one _ u hu
  · rfl
set_option maxRecDepth 100000 in
set_option maxHeartbeats 2000000 in
theorem cmacClone {W0 w : World} {L : List Assn} {b c kl : Nat} (ks k1 k2 ch wt : List Byte) (n0 : Nat) (hks : ks.length = 240) (hk0 : 0 < kl) (hk1 : k1.length = 16) (hk2 : k2.length = 16) (hch : ch.length = 16) (hwt : wt.length = 16)
    (hs : Sat W0 w (cmS b (.pointer (some ⟨c, 0, none⟩)) k1 k2 ch wt n0 (cipS c kl ks L))) :
    Calls Tryz.prog 108 #[.pointer (some ⟨b, 0, none⟩)] w fun e w' => ∃ d c2, e = .returned (.tuple #[.pointer (some ⟨d, 0, none⟩), .int .i64 0]) ∧ Sat W0 w' (cmS d (.pointer (some ⟨c2, 0, none⟩)) k1 k2 ch wt n0 (cipS c2 kl ks (cmS b (.pointer (some ⟨c, 0, none⟩)) k1 k2 ch wt n0 (cipS c kl ks L)))) := by
  have hm := cmacMade ((Sat.sub (hs) (by (repeat (first | with_reducible exact Fr.done | with_reducible exact Fr.nil | (with_reducible apply Fr.cons; (focus ((repeat (first | with_reducible exact Take.here | with_reducible apply Take.there)); done))) | with_reducible apply Fr.skip)))) : Sat W0 w (seg true b 0 [.pointer (some ⟨c, 0, none⟩)] :: []))
  have sj := cmJoin hk1 hk2 hch hwt hs
  clear hs
  have hcl := cmAll_len (pv := .pointer (some ⟨c, 0, none⟩)) (n := n0) hk1 hk2 hch hwt
  have z0 := satLt sj (by rw [hcl]; decide)
  obtain ⟨cs, hcs⟩ : ∃ cs, cs = cmAll (.pointer (some ⟨c, 0, none⟩)) k1 k2 ch wt n0 := ⟨_, rfl⟩
  have h1 : ∀ u ∈ cs, u.oneCell' = true := by rw [hcs]; exact cmAll_one
  have h0 : cs[0]? = some (.pointer (some ⟨c, 0, none⟩)) := by rw [hcs]; rfl
  rw [← hcs] at sj hcl
  have ht : (cs.drop 0).take 66 = cs := by rw [List.drop_zero]; exact List.take_of_length_le (by omega)
  have hzl : (cmAll (.pointer none) nought16 nought16 nought16 nought16 0).length = 66 := cmAll_len rfl rfl rfl rfl
  have HN := Lib.hid (And.intro hm (And.intro hcl (And.intro h1 (And.intro ht (And.intro h0 (And.intro hcs (And.intro hks (And.intro hk0 (And.intro hk1 (And.intro hk2 (And.intro hch (And.intro hwt hzl)))))))))))); clear hm hcl h1 ht h0 hcs hks hk0 hk1 hk2 hch hwt hzl
  go_enter Tryz.func108, Tryz.ntmps108
  go_wp2_with fail
  refine HN.out.1.mono ?_
  rintro e w1 ⟨rfl, rfl⟩
  go_wp2_with (first | (refine wpl_load_agg rfl 160 (.tmp 10) rfl Tryz.underlying160 rfl Tryz.size_cm sj 0 0 rfl rfl (by rw [HN.out.2.1]; exact Nat.le_refl _) ?_; rw [HN.out.2.2.2.1]) | (refine wpl_alloc_agg rfl 160 rfl sj _ (zero_cm _) ?_; intro w2 d s2 _) | (refine wpl_store_agg rfl rfl 160 (.tmp 4) (.tmp 11) rfl (cs := cs) s2 0 0 (by rw [HN.out.2.1]; exact Tryz.size_cm) rfl rfl rfl (by rw [HN.out.2.1, HN.out.2.2.2.2.2.2.2.2.2.2.2.2]; decide) HN.out.2.2.1 ?_; intro w3 s3; rw [setL_all _ _ (by rw [HN.out.2.1, HN.out.2.2.2.2.2.2.2.2.2.2.2.2])] at s3; have sb : Sat W0 w3 (seg true b 0 cs :: _) := s3.pull 1; have c3 := sb.at 0 HN.out.2.2.2.2.1; have z3 := satLt sb (by rw [HN.out.2.1]; decide); clear sb))
  refine (aesClone ks HN.out.2.2.2.2.2.2.1 HN.out.2.2.2.2.2.2.2.1 (L := seg true d 0 cs :: seg true b 0 cs :: L) (Sat.sub (s3) (by (repeat (first | with_reducible exact Fr.done | with_reducible exact Fr.nil | (with_reducible apply Fr.cons; (focus ((repeat (first | with_reducible exact Take.here | with_reducible apply Take.there)); done))) | with_reducible apply Fr.skip))))).mono ?_
  rintro e w4 ⟨c2, rfl, s4⟩
  clear s2 s3 sj c3 z3
  have s5 : Sat W0 w4 (seg true d 0 cs :: cipS c2 kl ks (cipS c kl ks (seg true b 0 cs :: L))) := (Sat.sub (s4) (by (repeat (first | with_reducible exact Fr.done | with_reducible exact Fr.nil | (with_reducible apply Fr.cons; (focus ((repeat (first | with_reducible exact Take.here | with_reducible apply Take.there)); done))) | with_reducible apply Fr.skip))))
  clear s4
  have c5 := s5.at 0 HN.out.2.2.2.2.1
  have f5 := s5.fr 0 (by rw [HN.out.2.1]; decide)
  have z5 := satLt s5 (by rw [HN.out.2.1]; decide)
  have HS := Lib.hid s5; clear s5
  go_wp2_with fail
  refine bodyPost_ret (v := .tuple #[.pointer (some ⟨d, 0, none⟩), .int .i64 0]) (by simp [results, Tryz.results108, go_sem]) rfl ⟨d, c2, rfl, ?_⟩
  obtain ⟨_, hcl, _, _, _, hcs, _, _, hk1, hk2, hch, hwt, _⟩ := HN.out
  have s6 := HS.out
  rw [hcs] at s6
  have s7 := cmPart hk1 hk2 hch hwt s6
  have s8 : Sat W0 (w4.setCell ⟨d, 0, none⟩ (.pointer (some ⟨c2, 0, none⟩))) (cmS d (.pointer (some ⟨c2, 0, none⟩)) k1 k2 ch wt n0 (cipS c2 kl ks (cipS c kl ks (seg true b 0 (cmAll (.pointer (some ⟨c, 0, none⟩)) k1 k2 ch wt n0) :: L)))) := s7.store (i := 0) (by simp) (.pointer (some ⟨c2, 0, none⟩)) (q := 0) rfl
  have s9 := cmPart hk1 hk2 hch hwt (show Sat W0 (w4.setCell ⟨d, 0, none⟩ (.pointer (some ⟨c2, 0, none⟩))) (seg true b 0 (cmAll (.pointer (some ⟨c, 0, none⟩)) k1 k2 ch wt n0) :: cmS d (.pointer (some ⟨c2, 0, none⟩)) k1 k2 ch wt n0 (cipS c2 kl ks (cipS c kl ks L))) from (Sat.sub (s8) (by (repeat (first | with_reducible exact Fr.done | with_reducible exact Fr.nil | (with_reducible apply Fr.cons; (focus ((repeat (first | with_reducible exact Take.here | with_reducible apply Take.there)); done))) | with_reducible apply Fr.skip)))))
  exact (Sat.sub (s9) (by (repeat (first | with_reducible exact Fr.done | with_reducible exact Fr.nil | (with_reducible apply Fr.cons; (focus ((repeat (first | with_reducible exact Take.here | with_reducible apply Take.there)); done))) | with_reducible apply Fr.skip))))
theorem v8_small (n : Nat) (h : n < 256) : v8 (BitVec.ofNat 8 n) = (n : Int) := by unfold v8; rw [BitVec.toNat_ofNat, Nat.mod_eq_of_lt h]
end Go.Proofs.YtooolimpkafhaaaGreat
