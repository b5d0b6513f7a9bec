
/- MacBegins: what Begin refuses; where the argument reads as a case of bulk at most 1048576. -/
import Derived.Test.YtooolimpkafhaaaGreatHE
namespace Go.Proofs.YtooolimpkafhaaaGreat
open Go.RowKit Go.Sep Go.Bv Go.Kec Go.Aes Go.Sha
set_option linter.unusedVariables false
set_option linter.unusedSimpArgs false
theorem beg_pos (K : MKind) (kl cl : Nat) : 0 < tot (K.beg kl cl []) := by
  cases K with
  | hm wide =>
    simp only [MKind.beg]
    rw [tot_noteN]
    unfold keyN
    split <;> omega
  | cm => simp only [MKind.beg]; rw [tot_note, tot_note]; omega
  | km large xof =>
    simp only [MKind.beg]
    rw [tot_noteN]
    obtain ⟨P, hP⟩ : ∃ P, P = padB (strB nameK ++ strB (List.replicate cl 0)) (krt large) := ⟨_, rfl⟩
    have h1 := (padB_len (strB nameK ++ strB (List.replicate cl 0)) (krt large) (krt_pos large)).1
    have h2 : 0 < P.length := by
      rw [hP]; unfold padB
      rw [List.length_append, List.length_append, leftB_len]; omega
    rw [← hP] at h1
    have h3 : (kmPre (krt large) (List.replicate kl 0) (List.replicate cl 0)).length = P.length + (padB (strB (List.replicate kl 0)) (krt large)).length := by
      unfold kmPre; rw [List.length_append, hP]
    have h4 : krt large ≤ P.length := by
      rcases Nat.lt_or_ge P.length (krt large) with h | h
      · rw [Nat.mod_eq_of_lt h] at h1; omega
      · exact h
    have h5 := Nat.div_le_div_right (c := krt large) (show krt large ≤ (kmPre (krt large) (List.replicate kl 0) (List.replicate cl 0)).length by omega)
    rw [Nat.div_self (krt_pos large)] at h5
    omega
set_option maxRecDepth 100000 in
set_option maxHeartbeats 8000000 in
theorem macBegins_any (W : World) (x : CaseC) (key custom : List Byte) (h : CaseA W x key custom) (hb : x.kc + x.cc ≤ 1048576) :
    Calls Tryz.prog 3 #[.agg (encC x).toArray] W fun e W' => e = .returned (.bool true) ∧ Below W.heap.size W W' := by
  obtain ⟨⟨b, hb8⟩, hkey, hcus, ho⟩ := h
  have s0 : Sat W W (bytes false x.kp key :: bytes false x.cp custom :: []) := hkey.sat (hcus.sat (Sat.nil W))
  obtain ⟨hk1, hk2, hk3, -⟩ := hkey
  obtain ⟨hc1, hc2, hc3, -⟩ := hcus
  obtain ⟨xa, kp, kn, kc, cp, cn, cc, out⟩ := x
  simp only at hb8 s0 hk1 hk2 hk3 hc1 hc2 hc3 ho hb
  obtain ⟨a, ha⟩ : ∃ a : Nat, (a : Int) = v8 b := ⟨b.toNat, rfl⟩
  rw [← ha] at hb8
  have ha256 : a < 256 := by have := (v8_bd b).2; omega
  subst hb8
  clear ha
  show Calls Tryz.prog 3 #[.agg #[.int .u8 (a : Int), .slice kp kn kc, .slice cp cn cc, .int .i64 out]] W _
  have s1 : Sat W (W.alloc (.cells #[.int .u8 (a : Int), .slice kp kn kc, .slice cp cn cc, .int .i64 out] 25)) (seg true W.heap.size 0 [.int .u8 (a : Int), .slice kp kn kc, .slice cp cn cc, .int .i64 out] :: bytes false kp key :: bytes false cp custom :: []) := s0.alloc #[.int .u8 (a : Int), .slice kp kn kc, .slice cp cn cc, .int .i64 out] 25
  clear s0
  obtain ⟨gx, hgx⟩ : ∃ gx, gx = W.heap.size := ⟨_, rfl⟩
  have hF : ∀ wx X, Sat W wx (seg true gx 0 [.int .u8 (a : Int), .slice kp kn kc, .slice cp cn cc, .int .i64 out] :: X) → wx.cell? ⟨gx, 0, none⟩ = some (.int .u8 (a : Int)) ∧ wx.cell? ⟨gx, 1, none⟩ = some (.slice kp kn kc) ∧ wx.cell? ⟨gx, 2, none⟩ = some (.slice cp cn cc) ∧ wx.cell? ⟨gx, 3, none⟩ = some (.int .i64 out) ∧ gx < wx.heap.size := fun wx X h => ⟨h.at 0 rfl, h.at 1 rfl, h.at 2 rfl, h.at 3 rfl, h.lt (by simp)⟩
  have HF := Lib.hid (And.intro hF (And.intro hk1 (And.intro hk2 (And.intro hk3 (And.intro hc1 (And.intro hc2 hc3)))))); clear hF hk1 hk2 hk3 hc1 hc2 hc3
  rw [← hgx] at s1
  have hb1 : kn + cn ≤ 1048576 := by have := HF.out.2.2.1; have := HF.out.2.2.2.2.2.1; omega
  go_enter Tryz.func3, Tryz.ntmps3
  go_wp2_with fail
  rw [← hgx]
  refine (lives17 s1).mono ?_
  rintro e w1 ⟨rfl, s2⟩
  clear s1 hgx
  obtain ⟨q0, q1, q2, q3, z0⟩ := HF.out.1 _ _ s2
  go_wp2_with fail
  have s3 : Sat W (w1.alloc (.cells #[.int .u8 (a : Int), .slice kp kn kc, .slice cp cn cc, .int .i64 out] 25)) (seg true w1.heap.size 0 ([(⟨(a : Int), kp, kn, kc, cp, cn, cc, out⟩ : CaseC)].flatMap encC) :: seg true gx 0 [.int .u8 (a : Int), .slice kp kn kc, .slice cp cn cc, .int .i64 out] :: bytes false kp key :: bytes false cp custom :: []) := s2.alloc #[.int .u8 (a : Int), .slice kp kn kc, .slice cp cn cc, .int .i64 out] 25
  refine (smallOf (cap := 1) [(⟨(a : Int), kp, kn, kc, cp, cn, cc, out⟩ : CaseC)] rfl (by simp) (by simp only [sumC]; omega) s3).mono ?_
  rintro e w3 ⟨rfl, n3, rfl⟩
  have s4 := (s3.drewN n3).tail
  clear s2 s3 q0 q1 q2 q3 z0
  obtain ⟨w4, hw4⟩ : ∃ w4, w4 = (w1.alloc (.cells #[.int .u8 (a : Int), .slice kp kn kc, .slice cp cn cc, .int .i64 out] 25)).drewN n3 := ⟨_, rfl⟩
  rw [← hw4] at s4 ⊢
  clear hw4
  by_cases hsm : sumC [(⟨(a : Int), kp, kn, kc, cp, cn, cc, out⟩ : CaseC)] ≤ 3000
  · rw [decide_eq_true hsm]
    simp only [sumC] at hsm
    have hkn : kn ≤ 3000 := by omega
    have hcn : cn ≤ 3000 := by omega
    clear hsm hb1
    go_wp2_with fail
    refine (ledNewF s4).mono ?_
    rintro e w5 ⟨l, rfl, s5'⟩
    clear s4
    have s5 : Sat W w5 (seg true gx 0 [.int .u8 (a : Int), .slice kp kn kc, .slice cp cn cc, .int .i64 out] :: ledO (some l) [] :: bytes false kp key :: bytes false cp custom :: []) := (Sat.sub (s5') (by (repeat (first | with_reducible exact Fr.done | with_reducible exact Fr.nil | (with_reducible apply Fr.cons; (focus ((repeat (first | with_reducible exact Take.here | with_reducible apply Take.there)); done))) | with_reducible apply Fr.skip))))
    clear s5'
    obtain ⟨q0, q1, q2, q3, z0⟩ := HF.out.1 _ _ s5
    have hcase : (a < 1 ∨ 7 < a) ∨ ∃ K : MKind, K.alg = a := by
      rcases Nat.lt_or_ge a 1 with h | h
      · exact .inl (.inl h)
      rcases Nat.lt_or_ge 7 a with h' | h'
      · exact .inl (.inr h')
      · exact .inr (kindOf a h h')
    rcases hcase with ha | ⟨K, hK⟩
    · have hbg := macUnknown (a : Int) (fun k h1 h7 e => by have : a = k := Int.ofNat.inj e; omega) (.pointer (some ⟨l, 0, none⟩)) (.slice kp kn kc) (.slice cp cn cc) (.int .i64 out) s5
      have hrc := fun w => refCodeNone w a kn cn out ha
      obtain ⟨cd, hcd⟩ : ∃ cd : Int, cd = 4 := ⟨_, rfl⟩
      rw [← hcd] at hbg hrc
      have hne : (cd != 0) = true := by rw [hcd]; rfl
      have HB := Lib.hid (And.intro hbg hrc); clear hbg hrc ha hcd
      clear s5
      go_wp2_with fail
      refine HB.out.1.mono ?_
      rintro e w6 ⟨rfl, s6⟩
      clear q0 q1 q2 q3 z0
      obtain ⟨q0, q1, q2, q3, z0⟩ := HF.out.1 _ _ s6
      go_wp2_with fail
      refine (HB.out.2 _).mono ?_
      rintro e w7 ⟨rfl, rfl⟩
      have s7 : Sat W w7 (led l [] :: []) := Sat.sub s6 (.cons (.there .here) .nil)
      have hbel := Lib.hid s6.below
      clear s6 q0 q1 q2 q3 z0
      go_wp2_with fail
      refine (ledLen s7).mono ?_
      rintro e w8 ⟨rfl, rfl⟩
      simp only [tot]
      go_wp2_with fail
      go_ret
      exact ⟨rfl, hbel.out⟩
    · have hrc := fun w => refCodeK w K kn cn out
      by_cases hc0 : K.code kn cn out = 0
      · obtain ⟨o, rfl, hfit⟩ := code_fits (K := K) (key := key) (custom := custom) (out := out) (by rw [HF.out.2.1, HF.out.2.2.2.2.1]; exact hc0) (by rw [HF.out.2.1]; omega)
        have hbg := macBegin (ck := kc) (cap := cc) (pv := .pointer (some ⟨l, 0, none⟩)) (av := .int .u8 (a : Int)) (ov := .int .i64 (o : Int)) K (some l) [] key custom rfl (by rw [hK]) rfl hfit cut_roomy HF.out.2.1 HF.out.2.2.1 HF.out.2.2.2.1 HF.out.2.2.2.2.1 HF.out.2.2.2.2.2.1 HF.out.2.2.2.2.2.2 (L := seg true gx 0 [.int .u8 (a : Int), .slice kp kn kc, .slice cp cn cc, .int .i64 (o : Int)] :: []) (Sat.sub s5 (.cons (.there .here) (.cons (.there .here) (.cons (.there .here) (.cons .here .nil)))))
        rw [hK, hc0] at hrc
        have hpos := beg_pos K kn cn
        obtain ⟨T, hT⟩ : ∃ T, T = tot (K.beg kn cn []) := ⟨_, rfl⟩
        rw [← hT] at hpos
        have gT : (0 : Int) < (T : Int) := by omega
        have HP := Lib.hid hpos
        have HB := Lib.hid (And.intro hbg (And.intro hrc (And.intro hT hK))); clear hbg hrc hT hK hc0 hfit hpos s5
        go_wp2_with fail
        refine HB.out.1.mono ?_
        rintro e w6 ⟨s, rfl, s6'⟩
        have s6 : Sat W w6 (seg true gx 0 [.int .u8 (a : Int), .slice kp kn kc, .slice cp cn cc, .int .i64 (o : Int)] :: ses K s key custom o [] :: led l (K.beg kn cn []) :: []) := Sat.sub s6' (.cons (.there (.there (.there (.there .here)))) (.cons .here (.cons .here .nil)))
        clear q0 q1 q2 q3 z0
        obtain ⟨q0, q1, q2, q3, z0⟩ := HF.out.1 _ _ s6
        go_wp2_with fail
        refine (HB.out.2.1 _).mono ?_
        rintro e w7 ⟨rfl, rfl⟩
        go_wp2_with fail
        have hal : ∀ wx, Sat W wx (ses K s key custom o [] :: []) → Calls Tryz.prog 15 #[.pointer (some ⟨s, 0, none⟩)] wx fun e w' => e = .returned (.int .u8 (a : Int)) ∧ w' = wx := fun wx h => by
          have h1 := macAlg h
          rw [HB.out.2.2.2] at h1
          exact h1
        have hou : ∀ wx, Sat W wx (ses K s key custom o [] :: []) → Calls Tryz.prog 16 #[.pointer (some ⟨s, 0, none⟩)] wx fun e w' => e = .returned (.int .i64 (o : Int)) ∧ w' = wx := fun wx h => macOut h
        have hle : ∀ wx, Sat W wx (led l (K.beg kn cn []) :: []) → Calls Tryz.prog 14 #[.pointer (some ⟨l, 0, none⟩)] wx fun e w' => e = .returned (.int .i64 (T : Int)) ∧ w' = wx := fun wx h => by
          have h1 := ledLen h
          rw [← HB.out.2.2.1] at h1
          exact h1.mono fun e w' he => ⟨he.1, he.2.symm⟩
        have HC := Lib.hid (And.intro hal (And.intro hou hle)); clear hal hou hle
        go_quiet ((first | (go_at_call 15; exact Calls.quiet_of_same (HC.out.1 _ (Sat.sub (s6.drewN _) (.skip (.cons .here .nil))))) | (go_at_call 16; exact Calls.quiet_of_same (HC.out.2.1 _ (Sat.sub (s6.drewN _) (.skip (.cons .here .nil))))) | (go_at_call 14; exact Calls.quiet_of_same (HC.out.2.2 _ (Sat.sub (s6.drewN _) (.skip (.skip (.cons .here .nil))))))))
        have hbel := Lib.hid (s6.drewN nq).below
        clear s6
        go_wp2_with fail
        go_ret
        exact ⟨congrArg (fun b => Ending.returned (Value.bool b)) (decide_eq_true HP.out), hbel.out⟩
      · have hbg := macRefuse (ck := kc) (cap := cc) (pk := kp) (pc := cp) (pv := .pointer (some ⟨l, 0, none⟩)) (av := .int .u8 (a : Int)) K out (by rw [hK]) hc0 s5
        rw [hK] at hrc
        obtain ⟨cd, hcd⟩ : ∃ cd : Int, cd = K.code kn cn out := ⟨_, rfl⟩
        rw [← hcd] at hbg hrc hc0
        have hne : (cd != 0) = true := by rw [bne_iff_ne]; exact hc0
        have HB := Lib.hid (And.intro hbg hrc); clear hbg hrc hcd hc0 hK
        clear s5
        go_wp2_with fail
        refine HB.out.1.mono ?_
        rintro e w6 ⟨rfl, s6⟩
        clear q0 q1 q2 q3 z0
        obtain ⟨q0, q1, q2, q3, z0⟩ := HF.out.1 _ _ s6
        go_wp2_with fail
        refine (HB.out.2 _).mono ?_
        rintro e w7 ⟨rfl, rfl⟩
        have s7 : Sat W w7 (led l [] :: []) := Sat.sub s6 (.cons (.there .here) .nil)
        have hbel := Lib.hid s6.below
        clear s6 q0 q1 q2 q3 z0
        go_wp2_with fail
        refine (ledLen s7).mono ?_
        rintro e w8 ⟨rfl, rfl⟩
        simp only [tot]
        go_wp2_with fail
        go_ret
        exact ⟨rfl, hbel.out⟩
  · rw [decide_eq_false hsm]
    have HS := Lib.hid s4; clear s4 hsm
    go_wp2_with fail
    go_ret
    exact ⟨rfl, HS.out.below⟩
end Go.Proofs.YtooolimpkafhaaaGreat
