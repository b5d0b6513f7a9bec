
/- Layer 17: what Begin answers, asked by a law; the kinds of all algorithms; under the conditions that each names. -/
import Derived.Test.YtooolimpkafhaaaGreatL17h
namespace Go.Proofs.YtooolimpkafhaaaGreat
open Go.RowKit Go.Sep Go.Bv Go.Kec Go.Aes Go.Sha
set_option linter.unusedVariables false
set_option linter.unusedSimpArgs false
set_option maxHeartbeats 2000000 in
theorem code17no {W0 w : World} {L : List Assn} (a : Int) (p : Option Addr) (n c : Nat) (p2 : Option Addr) (n2 c2 : Nat) (o : Int) (cd : Int) (hcd : cd ≠ 0)
    (hb : ∀ w, Sat W0 w L → Calls Tryz.prog 12 #[.pointer none, .int .u8 a, .slice p n c, .slice p2 n2 c2, .int .i64 o] w fun e w' => e = .returned (.tuple #[.pointer none, .int .i64 cd]) ∧ Sat W0 w' L) (hs : Sat W0 w L) :
    Calls Tryz.prog 17 #[.agg #[.int .u8 a, .slice p n c, .slice p2 n2 c2, .int .i64 o]] w fun e w' => e = .returned (.int .i64 cd) ∧ Sat W0 w' L := by
  have h0 : (cd != 0) = true := by rw [bne_iff_ne]; exact hcd
  have HF := Lib.hid (hF17_all W0)
  have HB := Lib.hid hb; clear hb hcd
  go_enter Tryz.func17, Tryz.ntmps17
  go_wp2_with (refine wpl_box rfl 25 (.tmp 0) rfl [.int .u8 a, .slice p n c, .slice p2 n2 c2, .int .i64 o] rfl hs ?_; intro w1 gx s1 _; clear hs; obtain ⟨q0, q1, q2, q3, z0⟩ := HF.out _ _ _ _ _ _ _ s1)
  refine (HB.out _ s1.tail).mono ?_
  rintro e w2 ⟨rfl, s2⟩
  have HS := Lib.hid s2; clear s1 s2 q0 q1 q2 q3 z0
  go_wp2_with fail
  go_ret
  exact ⟨rfl, HS.out⟩
set_option maxHeartbeats 2000000 in
theorem code17yes {W0 w : World} {L : List Assn} (a : Int) (p : Option Addr) (n c : Nat) (p2 : Option Addr) (n2 c2 : Nat) (o : Int)
    (hb : ∀ w, Sat W0 w L → Calls Tryz.prog 12 #[.pointer none, .int .u8 a, .slice p n c, .slice p2 n2 c2, .int .i64 o] w fun e w' => ∃ s, e = .returned (.tuple #[.pointer (some ⟨s, 0, none⟩), .int .i64 0]) ∧ Sat W0 w' L) (hs : Sat W0 w L) :
    Calls Tryz.prog 17 #[.agg #[.int .u8 a, .slice p n c, .slice p2 n2 c2, .int .i64 o]] w fun e w' => e = .returned (.int .i64 0) ∧ Sat W0 w' L := by
  have HF := Lib.hid (hF17_all W0)
  have HB := Lib.hid hb; clear hb
  go_enter Tryz.func17, Tryz.ntmps17
  go_wp2_with (refine wpl_box rfl 25 (.tmp 0) rfl [.int .u8 a, .slice p n c, .slice p2 n2 c2, .int .i64 o] rfl hs ?_; intro w1 gx s1 _; clear hs; obtain ⟨q0, q1, q2, q3, z0⟩ := HF.out _ _ _ _ _ _ _ s1)
  refine (HB.out _ s1.tail).mono ?_
  rintro e w2 ⟨s, rfl, s2⟩
  have HS := Lib.hid s2; clear s1 s2 q0 q1 q2 q3 z0
  go_wp2_with fail
  go_ret
  exact ⟨rfl, HS.out⟩
def MKind.keyOkI (K : MKind) (n : Int) : Bool :=
  match K with
  | .cm => n == 16 || n == 24 || n == 32
  | _ => decide (0 ≤ n)
set_option maxHeartbeats 1000000 in
theorem macAesI (w : World) (n : Int) : Calls Tryz.prog 63 #[.int .i64 n] w fun e w' => e = .returned (.bool (n == 16 || n == 24 || n == 32)) ∧ w' = w := by
  rcases h1 : (n == 16) with _ | _
  · rcases h2 : (n == 24) with _ | _
    · rcases h3 : (n == 32) with _ | _
      · go_enter Tryz.func63, Tryz.ntmps63
        go_wp2
        go_ret
        exact ⟨rfl, rfl⟩
      · go_enter Tryz.func63, Tryz.ntmps63
        go_wp2
        go_ret
        exact ⟨rfl, rfl⟩
    · go_enter Tryz.func63, Tryz.ntmps63
      go_wp2
      go_ret
      exact ⟨rfl, rfl⟩
  · go_enter Tryz.func63, Tryz.ntmps63
    go_wp2
    go_ret
    exact ⟨rfl, rfl⟩
theorem macAnyI (w : World) (n : Int) : Calls Tryz.prog 62 #[.int .i64 n] w fun e w' => e = .returned (.bool (decide (0 ≤ n))) ∧ w' = w := by
  by_cases h : 0 ≤ n
  · rw [decide_eq_true h]
    go_enter Tryz.func62, Tryz.ntmps62
    go_wp2
    go_ret
    exact ⟨rfl, rfl⟩
  · rw [decide_eq_false h]
    go_enter Tryz.func62, Tryz.ntmps62
    go_wp2
    go_ret
    exact ⟨rfl, rfl⟩
theorem macKeyI (K : MKind) (w : World) (n : Int) : Calls Tryz.prog K.keyF #[.int .i64 n] w fun e w' => e = .returned (.bool (K.keyOkI n)) ∧ w' = w := by
  cases K with
  | hm wide => exact macAnyI w n
  | cm => exact macAesI w n
  | km large xof => exact macAnyI w n
set_option maxHeartbeats 4000000 in
theorem refKeyI (w : World) (K : MKind) (n : Int) : Calls Tryz.prog 43 #[.int .u8 (K.alg : Int), .int .i64 n] w fun e w' => e = .returned (.bool (K.keyOkI n)) ∧ w' = w := by
  by_cases hK : K = .cm
  · subst hK
    simp only [MKind.alg, MKind.keyOkI]
    rcases h1 : (n == 16) with _ | _
    · rcases h2 : (n == 24) with _ | _
      · rcases h3 : (n == 32) with _ | _
        · go_enter Tryz.func43, Tryz.ntmps43
          go_wp2
          go_ret
          exact ⟨rfl, rfl⟩
        · go_enter Tryz.func43, Tryz.ntmps43
          go_wp2
          go_ret
          exact ⟨rfl, rfl⟩
      · go_enter Tryz.func43, Tryz.ntmps43
        go_wp2
        go_ret
        exact ⟨rfl, rfl⟩
    · go_enter Tryz.func43, Tryz.ntmps43
      go_wp2
      go_ret
      exact ⟨rfl, rfl⟩
  · have e : K.keyOkI n = decide (0 ≤ n) := by
      cases K with
      | hm wide => rfl
      | cm => exact absurd rfl hK
      | km large xof => rfl
    rw [e]
    have e3 : ((K.alg : Int) == 3) = false := by
      rw [beq_eq_false_iff_ne]
      rcases K with (wide | wide) | _ | ⟨large | large, xof | xof⟩ <;> first | exact absurd rfl hK | simp [MKind.alg]
    obtain ⟨al, hal⟩ : ∃ al, al = K.alg := ⟨_, rfl⟩
    rw [← hal] at e3 ⊢
    clear e hal hK
    by_cases h : 0 ≤ n
    · rw [decide_eq_true h]
      go_enter Tryz.func43, Tryz.ntmps43
      go_wp2
      go_ret
      exact ⟨rfl, rfl⟩
    · rw [decide_eq_false h]
      go_enter Tryz.func43, Tryz.ntmps43
      go_wp2
      go_ret
      exact ⟨rfl, rfl⟩
abbrev kind0 : List Value := [.int .u8 0, .int .i64 0, .bool false, .nilFunc]
theorem zero_kind (w : World) : (zeroValue 92).run Tryz.prog w = .ok (.agg kind0.toArray) w := by kernel_rfl
theorem funcNil0 (w : World) : (binOp .neq 90 .nilFunc .nilFunc).run Tryz.prog w = .ok (.bool false) w := by kernel_rfl
theorem kind_one (K : MKind) : ∀ v ∈ kindL K, v.oneCell' = true := by
  intro v hv; simp only [kindL, List.mem_cons, List.not_mem_nil, or_false] at hv; rcases hv with rfl | rfl | rfl | rfl <;> rfl
set_option maxRecDepth 100000 in
set_option maxHeartbeats 8000000 in
theorem kinds17 {W0 w : World} {L : List Assn} (hs : Sat W0 w L) : Calls Tryz.prog 21 #[] w fun e w' => e = .returned (.bool true) ∧ Sat W0 w' L := by
  have HF := Lib.hid (hF17_all W0)
  go_enter Tryz.func21, Tryz.ntmps21
  go_wp2
  go_loopw [1] (fun t1 wr => ∃ (i : Nat), i ≤ 256 ∧ t1 = .int .i64 (i : Int) ∧ Sat W0 wr L) (fun t1 _ => 256 - (intOf t1).toNat)
  case atStart => exact ⟨0, Nat.zero_le _, rfl, hs⟩
  case round =>
    clear hs
    obtain ⟨i, hi, rfl, s⟩ := hrel
    by_cases hlt : i < 256
    · have e256 : (i : Int) % 256 = (i : Int) := by omega
      have hcase : (i < 1 ∨ 7 < i) ∨ ∃ K : MKind, K.alg = i := by
        rcases Nat.lt_or_ge i 1 with h | h
        · exact .inl (.inl h)
        rcases Nat.lt_or_ge 7 i with h' | h'
        · exact .inl (.inr h')
        · exact .inr (kindOf i h h')
      rcases hcase with ha | ⟨K, hK⟩
      · have hof := macOfNone (i : Int) (fun k h1 h7 e => by have : i = k := Int.ofNat.inj e; omega) s
        have hkn := fun w => refKnown w i
        rw [decide_eq_false (show ¬ (1 ≤ i ∧ i ≤ 7) by omega)] at hkn
        have HN := Lib.hid (And.intro hof hkn); clear hof hkn ha s
        have hfn := funcNil0
        go_wp2_with fail
        refine HN.out.1.mono ?_
        rintro e w1 ⟨rfl, s1⟩
        go_wp2_with (first | (refine wpl_alloc_agg rfl 92 rfl s1 _ (zero_kind _) ?_; intro w2 g2 s2 _; clear s1) | (refine wpl_store_agg rfl rfl 92 (.tmp 2) (.tmp 14) rfl (cs := kind0) s2 0 0 Tryz.size_kind rfl rfl rfl (Nat.le_refl 4) (fun v hv => by simp only [List.mem_cons, List.not_mem_nil, or_false] at hv; rcases hv with rfl | rfl | rfl | rfl <;> rfl) ?_; intro w3 s3; rw [setL_all _ _ (by rfl)] at s3; clear s2; obtain ⟨r0, r1, r2, r3, y0⟩ := HF.out _ _ _ _ _ _ _ s3))
        refine (HN.out.2 _).mono ?_
        rintro e w4 ⟨rfl, rfl⟩
        have HS := Lib.hid s3.tail; clear s3 HN
        go_wp2_with fail
        exact ⟨⟨i + 1, by omega, by go_num, HS.out⟩, by simp [intOf]; omega⟩
      · have hof := macOf K rfl s
        have hkn := fun w => refKnown w i
        rw [decide_eq_true (show 1 ≤ i ∧ i ≤ 7 by have := alg_lt K; omega)] at hkn
        have hmo := fun w => refMost w K
        have hcu := fun w => refCustom w K
        have hkI := fun w n => refKeyI w K n
        have hki := fun w n => macKeyI K w n
        have hcf := fun w n => keyF_call K (.int .i64 n) w
        have hone := kind_one K
        have hkv : kindV K = .agg (kindL K).toArray := rfl
        have hkl : kindL K = [.int .u8 (K.alg : Int), .int .i64 (K.most : Int), .bool K.cust, .func (.func K.keyF) #[] #[]] := rfl
        rw [hkv, hkl] at hof
        rw [hkl] at hone
        clear hkv hkl
        obtain ⟨mo, hmoE⟩ : ∃ mo : Nat, mo = K.most := ⟨_, rfl⟩
        obtain ⟨cu, hcuE⟩ : ∃ cu : Bool, cu = K.cust := ⟨_, rfl⟩
        obtain ⟨kf, hkfE⟩ : ∃ kf : Nat, kf = K.keyF := ⟨_, rfl⟩
        rw [hK, ← hmoE, ← hcuE, ← hkfE] at hof hone
        rw [hK, ← hmoE] at hmo
        rw [hK, ← hcuE] at hcu
        rw [hK] at hkI
        rw [← hkfE] at hki hcf
        clear hmoE hcuE hkfE hK s
        have HN := Lib.hid (And.intro hof (And.intro hkn (And.intro hmo (And.intro hcu (And.intro hkI (And.intro hki (And.intro hone hcf))))))); clear hof hkn hmo hcu hkI hki hone hcf
        have hfn := fun w => funcNil kf w
        go_wp2_with fail
        refine HN.out.1.mono ?_
        rintro e w1 ⟨rfl, s1⟩
        go_wp2_with (first | (refine wpl_alloc_agg rfl 92 rfl s1 _ (zero_kind _) ?_; intro w2 g2 s2 _; clear s1) | (refine wpl_store_agg rfl rfl 92 (.tmp 2) (.tmp 14) rfl (cs := [.int .u8 (i : Int), .int .i64 (mo : Int), .bool cu, .func (.func kf) #[] #[]]) s2 0 0 Tryz.size_kind rfl rfl rfl (Nat.le_refl 4) HN.out.2.2.2.2.2.2.1 ?_; intro w3 s3; rw [setL_all _ _ (by rfl)] at s3; clear s2; obtain ⟨r0, r1, r2, r3, y0⟩ := HF.out _ _ _ _ _ _ _ s3))
        refine (HN.out.2.1 _).mono ?_
        rintro e w4 ⟨rfl, rfl⟩
        go_wp2_with fail
        go_quiet ((first | (go_at_call 45; exact Calls.quiet_of_same (HN.out.2.2.1 _)) | (go_at_call 44; exact Calls.quiet_of_same (HN.out.2.2.2.1 _))))
        have s5 := s3.drewN nq
        clear s3 r0 r1 r2 r3 y0
        go_wp2_with fail
        go_loopw [5] (fun t5 wr => ∃ z : Int, -1 ≤ z ∧ z ≤ 40 ∧ t5 = .int .i64 z ∧ Sat W0 wr (seg true g2 0 [.int .u8 (i : Int), .int .i64 (mo : Int), .bool cu, .func (.func kf) #[] #[]] :: L)) (fun t5 _ => (40 - intOf t5).toNat)
        case atStart => exact ⟨-1, by omega, by omega, rfl, s5⟩
        case round =>
          clear s5
          obtain ⟨z, hz1, hz2, rfl, s6⟩ := hrel
          by_cases hz : z < 40
          · obtain ⟨r0, r1, r2, r3, y0⟩ := HF.out _ _ _ _ _ _ _ s6
            have hcf := fun w => HN.out.2.2.2.2.2.2.2 w z
            obtain ⟨kb, hkb⟩ : ∃ kb, kb = K.keyOkI z := ⟨_, rfl⟩
            have hk1 := fun w => HN.out.2.2.2.2.1 w z
            have hk2 := fun w => HN.out.2.2.2.2.2.1 w z
            rw [← hkb] at hk1 hk2
            have HK := Lib.hid (And.intro hk1 hk2); clear hk1 hk2 hkb
            go_wp2_with fail
            refine (HK.out.2 _).mono ?_
            rintro e w7 ⟨rfl, rfl⟩
            go_wp2_with fail
            refine (HK.out.1 _).mono ?_
            rintro e w8 ⟨rfl, rfl⟩
            have HS := Lib.hid s6; clear s6 r0 r1 r2 r3 y0 HK hcf
            have hzw : wrap64 (z + 1) = z + 1 := wrap64_small (by omega) (by omega)
            go_wp2_with fail
            exact ⟨⟨z + 1, by omega, by omega, rfl, HS.out⟩, by simp only [intOf]; omega⟩
          · obtain rfl : z = 40 := by omega
            have HS := Lib.hid s6.tail; clear s6
            go_wp2_with fail
            exact ⟨⟨i + 1, by omega, by go_num, HS.out⟩, by simp [intOf]; omega⟩
    · obtain rfl : i = 256 := by omega
      have HS := Lib.hid s; clear s
      go_wp2_with fail
      go_ret
      exact ⟨rfl, HS.out⟩
end Go.Proofs.YtooolimpkafhaaaGreat
