
/- The cipher: copied, wiped, its form; under the conditions that each names. -/
import Derived.Test.YtooolimpkafhaaaGreatAes3
namespace Go.Proofs.YtooolimpkafhaaaGreat
open Go.RowKit Go.Sep Go.Bv Go.Aes
set_option linter.unusedVariables false
set_option linter.unusedSimpArgs false
theorem cipCells_len (n : Int) (E : List Byte) (h : E.length = 240) : (cipCells n E).length = 241 := by unfold cipCells; rw [List.length_cons, u8s_len, h]
theorem cipCells_one (n : Int) (E : List Byte) : ∀ u ∈ cipCells n E, u.oneCell' = true := by
  intro u hu
  unfold cipCells at hu
  rcases List.mem_cons.1 hu with rfl | hu
  · rfl
  · exact u8s_one _ u hu
theorem cipJoin {W0 w : World} {L : List Assn} {c kl : Nat} {ks : List Byte} (h : Sat W0 w (cipS c kl ks L)) : Sat W0 w (seg true c 0 (cipCells kl ks) :: L) := Sat.join (xs := [.int .i64 (kl : Int)]) h (by simp)
theorem cipPart {W0 w : World} {L : List Assn} {c kl : Nat} {ks : List Byte} (h : Sat W0 w (seg true c 0 (cipCells kl ks) :: L)) : Sat W0 w (cipS c kl ks L) := Sat.part (xs := [.int .i64 (kl : Int)]) (ys := u8s ks) h (by simp)
theorem cipZero_len : cipZero.length = 241 := by unfold cipZero; rw [List.length_cons, u8s_len, nought240_len]
set_option maxRecDepth 100000 in
set_option maxHeartbeats 2000000 in
theorem aesClone {W0 w : World} {L : List Assn} {c kl : Nat} (ks : List Byte) (hks : ks.length = 240) (hk0 : 0 < kl) (hs : Sat W0 w (cipS c kl ks L)) :
    Calls Tryz.prog 164 #[.pointer (some ⟨c, 0, none⟩)] w fun e w' => ∃ d, e = .returned (.tuple #[.pointer (some ⟨d, 0, none⟩), .int .i64 0]) ∧ Sat W0 w' (cipS d kl ks (cipS c kl ks L)) := by
  have hm := aesMade hk0 hs
  have sj := cipJoin hs
  clear hs
  have z0 := sj.lt (by rw [cipCells_len _ _ hks]; decide)
  obtain ⟨cs, hcs⟩ : ∃ cs, cs = cipCells kl ks := ⟨_, rfl⟩
  have hl : cs.length = 241 := by rw [hcs]; exact cipCells_len _ _ hks
  have h1 : ∀ u ∈ cs, u.oneCell' = true := by rw [hcs]; exact cipCells_one _ _
  have ht : (cs.drop 0).take 241 = cs := by rw [List.drop_zero]; exact List.take_of_length_le (by omega)
  rw [← hcs] at sj
  have HN := Lib.hid (And.intro hm (And.intro hl (And.intro h1 (And.intro ht hcs)))); clear hm hl h1 ht hcs hks hk0
  go_enter Tryz.func164, Tryz.ntmps164
  go_wp2_with fail
  refine HN.out.1.mono ?_
  rintro e w1 ⟨rfl, rfl⟩
  go_wp2_with (first | (refine wpl_load_agg rfl 204 (.tmp 9) rfl Tryz.underlying204 rfl Tryz.size_cip sj 0 0 rfl rfl (by rw [HN.out.2.1]; exact Nat.le_refl _) ?_; rw [HN.out.2.2.2.1]) | (refine wpl_alloc_agg rfl 204 rfl sj _ (zero_cip _) ?_; intro w2 d s2 _) | (refine wpl_store_agg rfl rfl 204 (.tmp 4) (.tmp 10) rfl (cs := cs) s2 0 0 (by rw [HN.out.2.1]; exact Tryz.size_cip) rfl rfl rfl (by rw [HN.out.2.1, cipZero_len]; decide) HN.out.2.2.1 ?_; intro w3 s3; rw [setL_all _ _ (by rw [HN.out.2.1, cipZero_len])] at s3))
  have s4 : Sat W0 w3 (cipS d kl ks (cipS c kl ks L)) := by
    rw [HN.out.2.2.2.2] at s3
    have t1 := cipPart s3
    have t2 := cipPart (show Sat W0 w3 (seg true c 0 (cipCells kl ks) :: cipS d kl ks L) from (Sat.sub (t1) (by (repeat (first | with_reducible exact Fr.done | with_reducible exact Fr.nil | (with_reducible apply Fr.cons; (focus ((repeat (first | with_reducible exact Take.here | with_reducible apply Take.there)); done))) | with_reducible apply Fr.skip)))))
    exact (Sat.sub (t2) (by (repeat (first | with_reducible exact Fr.done | with_reducible exact Fr.nil | (with_reducible apply Fr.cons; (focus ((repeat (first | with_reducible exact Take.here | with_reducible apply Take.there)); done))) | with_reducible apply Fr.skip))))
  have HS := Lib.hid s4; clear s4 s3 s2 sj
  refine bodyPost_ret (v := .tuple #[.pointer (some ⟨d, 0, none⟩), .int .i64 0]) (by simp [results, Tryz.results164, go_sem]) rfl ⟨d, rfl, HS.out⟩
set_option maxRecDepth 100000 in
set_option maxHeartbeats 2000000 in
theorem aesWipe {W0 w : World} {L : List Assn} {c kl : Nat} {pv : Value} (p : Option Nat) (rs : List Run3) (ks : List Byte) (hp : pv = ptrO p) (hks : ks.length = 240) (hk0 : 0 < kl) (hk : kl ≤ 32) (hb : tot rs + 1 ≤ 4611686018427387904) (hl : rs.length ≤ 4294967296) (hs : Sat W0 w (ledO p rs :: cipS c kl ks L)) :
    Calls Tryz.prog 162 #[.pointer (some ⟨c, 0, none⟩), pv] w fun e w' => e = .returned (.int .i64 0) ∧ Sat W0 w' (ledO p (note rs 8 (16 * ((kl / 4 + 7 : Nat) : Int)) 1) :: L) := by
  subst hp
  obtain ⟨R, hR⟩ : ∃ R, R = kl / 4 + 6 := ⟨_, rfl⟩
  have hR14 : R ≤ 14 := by omega
  have hR1 : kl / 4 + 7 = R + 1 := by omega
  rw [hR1]
  have hrd := aesRounds hk ((Sat.sub (hs) (by (repeat (first | with_reducible exact Fr.done | with_reducible exact Fr.nil | (with_reducible apply Fr.cons; (focus ((repeat (first | with_reducible exact Take.here | with_reducible apply Take.there)); done))) | with_reducible apply Fr.skip)))) : Sat W0 w (seg true c 0 [.int .i64 (kl : Int)] :: []))
  rw [← hR] at hrd
  have hm := aesMade hk0 ((Sat.sub (hs) (by (repeat (first | with_reducible exact Fr.done | with_reducible exact Fr.nil | (with_reducible apply Fr.cons; (focus ((repeat (first | with_reducible exact Take.here | with_reducible apply Take.there)); done))) | with_reducible apply Fr.skip)))) : Sat W0 w (seg true c 0 [.int .i64 (kl : Int)] :: []))
  have sj := cipJoin (show Sat W0 w (cipS c kl ks (ledO p rs :: L)) from (Sat.sub (hs) (by (repeat (first | with_reducible exact Fr.done | with_reducible exact Fr.nil | (with_reducible apply Fr.cons; (focus ((repeat (first | with_reducible exact Take.here | with_reducible apply Take.there)); done))) | with_reducible apply Fr.skip)))))
  clear hs
  have hcl := cipCells_len (kl : Int) ks hks
  obtain ⟨cs, hcs⟩ : ∃ cs, cs = cipCells kl ks := ⟨_, rfl⟩
  rw [← hcs] at sj hcl
  have ho : ∀ u ∈ cipZero, u.oneCell' = true := cipCells_one 0 nought240
  have HN := Lib.hid (And.intro hm (And.intro hrd (And.intro hcl (And.intro hb (And.intro hl ho))))); clear hm hrd hcl hb hl ho hcs hks hk0 hR hR1 hk
  go_enter Tryz.func162, Tryz.ntmps162
  go_wp2_with fail
  refine HN.out.1.mono ?_
  rintro e w1 ⟨rfl, rfl⟩
  go_wp2_with fail
  refine HN.out.2.1.mono ?_
  rintro e w2 ⟨rfl, rfl⟩
  go_wp2_with fail
  refine (noteOne p rs 8 _ (by first | exact (by (repeat (first | with_reducible apply Sat.sub (sj) | with_reducible apply Sat.alloc' | with_reducible apply Sat.drew | with_reducible apply Sat.drewN)); (repeat (first | with_reducible exact Fr.done | with_reducible exact Fr.nil | (with_reducible apply Fr.cons; (focus ((repeat (first | with_reducible exact Take.here | with_reducible apply Take.there)); done))) | with_reducible apply Fr.skip)); done)) HN.out.2.2.2.1 HN.out.2.2.2.2.1).mono ?_
  rintro e w3 ⟨rfl, s3'⟩
  have s3 : Sat W0 w3 (seg true c 0 cs :: ledO p (note rs 8 _ 1) :: L) := (Sat.sub (s3') (by (repeat (first | with_reducible exact Fr.done | with_reducible exact Fr.nil | (with_reducible apply Fr.cons; (focus ((repeat (first | with_reducible exact Take.here | with_reducible apply Take.there)); done))) | with_reducible apply Fr.skip))))
  clear s3' sj
  have z0 := s3.lt (by rw [HN.out.2.2.1]; decide)
  go_wp2_with (first | (refine wpl_build rfl 204 rfl (.agg cipZero.toArray) (build_cip0 _) ?_) | (refine wpl_store_agg rfl rfl 204 (.tmp 17) (.tmp 16) rfl (cs := cipZero) s3 0 0 (by rw [cipZero_len]; exact Tryz.size_cip) rfl rfl rfl (by rw [cipZero_len, HN.out.2.2.1]; decide) HN.out.2.2.2.2.2 ?_; intro w4 s4))
  refine bodyPost_ret (v := .int .i64 0) (by simp [results, Tryz.results162, go_sem]) rfl ⟨rfl, ?_⟩
  have s5 := s4.tail
  exact s5
set_option maxRecDepth 100000 in
set_option maxHeartbeats 2000000 in
theorem aesForm {W0 w : World} {L : List Assn} {c kl : Nat} (ks : List Byte) (hks : ks.length = 240) (hk0 : 0 < kl) (hk : kl ≤ 32) (hs : Sat W0 w (cipS c kl ks L)) :
    Calls Tryz.prog 163 #[.pointer (some ⟨c, 0, none⟩)] w fun e w' => ∃ q d, e = .returned (.slice q (16 * (kl / 4 + 7)) d) ∧ Sat W0 w' (row q d 1 (16 * (kl / 4 + 7)) (u8s (ks.take (16 * (kl / 4 + 7)))) :: cipS c kl ks L) := by
  obtain ⟨R, hR⟩ : ∃ R, R = kl / 4 + 6 := ⟨_, rfl⟩
  have hR14 : R ≤ 14 := by omega
  have hR1 : kl / 4 + 7 = R + 1 := by omega
  obtain ⟨r1, hr1⟩ : ∃ r1, r1 = R + 1 := ⟨_, rfl⟩
  rw [hR1, ← hr1]
  have hrd := fun (w : World) (X : List Assn) (s : Sat W0 w (seg true c 0 [.int .i64 (kl : Int)] :: X)) => aesRounds hk s
  rw [← hR] at hrd
  have hm := aesMade hk0 hs
  have z0 := hs.lt (by simp)
  have e1 : IntKind.i64.wrap ((R : Int) + 1) = (r1 : Int) := by rw [IntKind.wrap_i64]; omega
  have hr15 : r1 ≤ 15 := by omega
  have hsl := fun w => run_sliceTo (P := Tryz.prog) (T := 201) (U := 158) Tryz.underlying201 Tryz.size_b16 c 1 r1 (by omega) (by decide) w
  have HN := Lib.hid (And.intro hm (And.intro hrd hks)); clear hm hrd hks hk0 hR hR1 hk hr1
  go_enter Tryz.func163, Tryz.ntmps163
  go_wp2_with fail
  refine HN.out.1.mono ?_
  rintro e w1 ⟨rfl, rfl⟩
  go_wp2_with fail
  go_quiet ((go_at_call 157; exact Calls.quiet_of_same (HN.out.2.1 _ _ ((Sat.sub (hs.drewN _) (by (repeat (first | with_reducible exact Fr.done | with_reducible exact Fr.nil | (with_reducible apply Fr.cons; (focus ((repeat (first | with_reducible exact Take.here | with_reducible apply Take.there)); done))) | with_reducible apply Fr.skip)))) : Sat W0 _ (seg true c 0 [.int .i64 (kl : Int)] :: [])))))
  go_wp2_with fail
  have s2 := (hs.drewN nq).rowNil 1
  obtain ⟨w2, hw2⟩ : ∃ w2, w2 = w1.drewN nq := ⟨_, rfl⟩
  rw [← hw2] at s2 ⊢
  clear hw2 hs
  go_loopw [3, 17] (fun t3 t17 wr => ∃ (i : Nat) (q : Option Addr) (d : Nat), i ≤ r1 ∧ t17 = .int .i64 (i : Int) ∧ t3 = .slice q (16 * i) d ∧ Sat W0 wr (row q d 1 (16 * i) (u8s (ks.take (16 * i))) :: cipS c kl ks L)) (fun _ t17 _ => r1 - (intOf t17).toNat)
  case atStart => exact ⟨0, none, 0, by omega, rfl, rfl, s2⟩
  case round =>
    clear s2
    obtain ⟨i, q, d, hi, rfl, rfl, s⟩ := hrel
    by_cases hlt : i < r1
    · have hkl : (rkey ks i).length = 16 := rkey_len ks i HN.out.2.2 (by omega)
      have htk : ks.take (16 * i) ++ rkey ks i = ks.take (16 * i + 16) := by unfold rkey; rw [Nat.mul_comm, ← List.take_add]
      obtain ⟨V, hV⟩ : ∃ V, V = rkey ks i := ⟨_, rfl⟩
      have hV2 : (ks.drop (i * 16)).take 16 = V := hV.symm
      rw [← hV] at hkl htk
      have HV := Lib.hid (And.intro hkl (And.intro htk hV2)); clear hkl htk hV2 hV
      have hsa := fun g w => run_sliceAll (P := Tryz.prog) (T := 158) (U := 5) Tryz.underlying158 (by kernel_rfl) g 0 w
      go_wp2_with (first | (refine wpl_ld8 (k := i * 16) rfl (.tmp 19) rfl Tryz.underlying158 Tryz.size_b16 (s.pull 2) rfl (by omega) (by rw [HN.out.2.2]; omega) ?_; rw [HV.out.2.2]) | (refine wpl_al16 rfl rfl s ?_; intro w3 g s3 _) | (refine wpl_st8a rfl rfl (.tmp 5) (.tmp 20) rfl s3 Tryz.size_b16 rfl rfl HV.out.1 nought16_len ?_; intro w4 s4; have s5 : Sat W0 w4 (row q d 1 (16 * i) (u8s (ks.take (16 * i))) :: bytes true (some ⟨g, 0, none⟩) V :: cipS c kl ks L) := (bytesOf s4).pull 1) | (at_builtin; refine wpl_app8 rfl (.tmp 21) (.tmp 22) rfl rfl rfl s5 HV.out.1 (by omega) ?_; intro p9 c9 w9 s9; rw [HV.out.2.1] at s9))
      go_roundw
      case rel => exact ⟨i + 1, p9, c9, by omega, by go_num, rfl, s9.drop 1⟩
      case measure => simp [intOf]; omega
    · obtain rfl : i = r1 := by omega
      go_wp2
      go_ret
      exact ⟨q, d, rfl, s⟩
end Go.Proofs.YtooolimpkafhaaaGreat
