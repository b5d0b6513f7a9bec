
/- MacNone: what is no session, and one that was wiped; where the arguments read as a case and bytes of bulk at most 1048576. -/
import Derived.Test.YtooolimpkafhaaaGreatL17g
namespace Go.Proofs.YtooolimpkafhaaaGreat
open Go.RowKit Go.Sep Go.Bv Go.Kec Go.Aes Go.Sha
set_option linter.unusedVariables false
set_option linter.unusedSimpArgs false
theorem formN_pos (K : MKind) (kl : Nat) (h : kl ≤ 100000000) : 0 < K.formN kl ∧ K.formN kl ≤ 1000000000 := by
  cases K with
  | hm wide => cases wide <;> (simp only [MKind.formN, fsz]; omega)
  | cm => simp only [MKind.formN]; omega
  | km large xof => simp only [MKind.formN]; omega
theorem note_nil (k s : Int) (n : Nat) : note [] k s n = [(k, s, n)] := rfl
abbrev hF17 (W0 : World) : Prop := ∀ g wx X (v0 v1 v2 v3 : Value), Sat W0 wx (seg true g 0 [v0, v1, v2, v3] :: X) → wx.cell? ⟨g, 0, none⟩ = some v0 ∧ wx.cell? ⟨g, 1, none⟩ = some v1 ∧ wx.cell? ⟨g, 2, none⟩ = some v2 ∧ wx.cell? ⟨g, 3, none⟩ = some v3 ∧ g < wx.heap.size
theorem hF17_all (W0 : World) : hF17 W0 := fun g wx X v0 v1 v2 v3 h => ⟨h.at 0 rfl, h.at 1 rfl, h.at 2 rfl, h.at 3 rfl, h.lt (by simp)⟩
set_option maxRecDepth 100000 in
set_option maxHeartbeats 8000000 in
theorem macNone_any (W : World) (x : CaseC) (key custom : List Byte) (h : CaseA W x key custom) (pp : Option Addr) (pn pc : Nat) (hb : x.kc + x.cc ≤ 1048576) (hpb : pn ≤ 1048576) :
    Calls Tryz.prog 8 #[.agg (encC x).toArray, .slice pp pn pc] W fun e W' => e = .returned (.bool true) ∧ Below W.heap.size W W' := by
  obtain ⟨⟨b, hb8⟩, hkey, hcus, ho⟩ := h
  have s0 : Sat W W (bytes false x.kp key :: bytes false x.cp custom :: []) := hkey.sat (hcus.sat (Sat.nil W))
  obtain ⟨hk1, hk2, hk3, -⟩ := hkey
  obtain ⟨hc1, hc2, hc3, -⟩ := hcus
  obtain ⟨xa, kp, kn, kc, cp, cn, cc, out⟩ := x
  simp only at hb8 s0 hk1 hk2 hk3 hc1 hc2 hc3 ho hb
  obtain ⟨a, ha⟩ : ∃ a : Nat, (a : Int) = v8 b := ⟨b.toNat, rfl⟩
  rw [← ha] at hb8
  have ha256 : a < 256 := by have := (v8_bd b).2; omega
  subst hb8
  clear ha
  show Calls Tryz.prog 8 #[.agg (CellsC a kp kn kc cp cn cc out).toArray, .slice pp pn pc] W _
  have HF := Lib.hid (hF17_all W)
  have hbg := fun (w : World) (X : List Assn) (s : Sat W w (bytes false kp key :: bytes false cp custom :: X)) => begun17 (out := out) key custom hk1 hk2 hk3 hc1 hc2 hc3 ha256 (by omega) (by omega) s
  have HB := Lib.hid (And.intro hbg hpb); clear hbg hk1 hk2 hk3 hc1 hc2 hc3 ha256 ho hb hpb
  go_enter Tryz.func8, Tryz.ntmps8
  go_wp2_with (refine wpl_box rfl 25 (.tmp 0) rfl (CellsC a kp kn kc cp cn cc out) rfl s0 ?_; intro w1 gx s1 _; clear s0; obtain ⟨q0, q1, q2, q3, z0⟩ := HF.out _ _ _ _ _ _ _ s1)
  refine (HB.out.1 _ _ ((Sat.sub (s1) (by (repeat (first | with_reducible exact Fr.done | with_reducible exact Fr.nil | (with_reducible apply Fr.cons; (focus ((repeat (first | with_reducible exact Take.here | with_reducible apply Take.there)); done))) | with_reducible apply Fr.skip)))) : Sat W w1 (bytes false kp key :: bytes false cp custom :: []))).mono ?_
  rintro e w2 ⟨K, ⟨xa, kp', kn', kc', cp', cn', cc', o'⟩, key', custom', o, m, rfl, ⟨fa, fo, ff, f1, f2, f3, f4, f5, f6⟩, hKa, s2'⟩
  clear s1 q0 q1 q2 q3 z0
  simp only at fa fo f1 f2 f3 f4 f5 f6 s2'
  subst fa fo
  have s2 : Sat W w2 (bytes m kp' key' :: bytes false cp' custom' :: []) := (Sat.sub (s2') (by (repeat (first | with_reducible exact Fr.done | with_reducible exact Fr.nil | (with_reducible apply Fr.cons; (focus ((repeat (first | with_reducible exact Take.here | with_reducible apply Take.there)); done))) | with_reducible apply Fr.skip))))
  clear s2' hKa
  have hkb : kn' ≤ 100000000 := by rw [← f1]; exact ff.2.2.1
  have hcb : cn' ≤ 100000000 := by
    rw [← f4]
    obtain ⟨_, _, _, h4⟩ := ff
    cases K with
    | hm wide => simp only at h4; subst h4; exact Nat.zero_le _
    | cm => simp only at h4; obtain ⟨rfl, _⟩ := h4; exact Nat.zero_le _
    | km large xof => simp only at h4; omega
  have HG := Lib.hid (And.intro ff (And.intro f1 (And.intro f2 (And.intro f3 (And.intro f4 (And.intro f5 (And.intro f6 (And.intro hkb hcb)))))))); clear ff f1 f2 f3 f4 f5 f6 hkb hcb
  obtain ⟨al, hal⟩ : ∃ al : Nat, al = K.alg := ⟨_, rfl⟩
  rw [← hal]
  have HA := Lib.hid hal; clear hal
  go_wp2_with (first | (refine wpl_alloc_agg rfl 25 rfl s2 _ (zero_case _) ?_; intro w3 g3 s3 _; clear s2) | (refine wpl_store_agg rfl rfl 25 (.tmp 5) (.tmp 13) rfl (cs := [.int .u8 (al : Int), .slice kp' kn' kc', .slice cp' cn' cc', .int .i64 (o : Int)]) s3 0 0 Tryz.size_case rfl rfl rfl (Nat.le_refl 4) (fun v hv => by simp only [List.mem_cons, List.not_mem_nil, or_false] at hv; rcases hv with rfl | rfl | rfl | rfl <;> rfl) ?_; intro w4 s4; rw [setL_all _ _ (by rfl)] at s4; clear s3; obtain ⟨r0, r1, r2, r3, y0⟩ := HF.out _ _ _ _ _ _ _ s4))
  have s5 : Sat W (w4.alloc (.cells #[.int .u8 (al : Int), .slice kp' kn' kc', .slice cp' cn' cc', .int .i64 (o : Int), .int .u8 0, .slice pp pn pc, .slice none 0 0, .int .i64 0] 25)) (seg true w4.heap.size 0 ([(⟨(al : Int), kp', kn', kc', cp', cn', cc', (o : Int)⟩ : CaseC), (⟨0, pp, pn, pc, none, 0, 0, 0⟩ : CaseC)].flatMap encC) :: seg true g3 0 [.int .u8 (al : Int), .slice kp' kn' kc', .slice cp' cn' cc', .int .i64 (o : Int)] :: bytes m kp' key' :: bytes false cp' custom' :: []) := s4.alloc #[.int .u8 (al : Int), .slice kp' kn' kc', .slice cp' cn' cc', .int .i64 (o : Int), .int .u8 0, .slice pp pn pc, .slice none 0 0, .int .i64 0] 25
  refine (smallOf (cap := 2) [(⟨(al : Int), kp', kn', kc', cp', cn', cc', (o : Int)⟩ : CaseC), (⟨0, pp, pn, pc, none, 0, 0, 0⟩ : CaseC)] rfl (by simp) (by simp only [sumC]; have := HG.out.2.2.2.2.2.2.2; have := HB.out.2; omega) s5).mono ?_
  rintro e w5 ⟨rfl, n3, rfl⟩
  have s6 := (s5.drewN n3).tail
  clear s4 s5 r0 r1 r2 r3 y0
  obtain ⟨w6, hw6⟩ : ∃ w6, w6 = (w4.alloc (.cells #[.int .u8 (al : Int), .slice kp' kn' kc', .slice cp' cn' cc', .int .i64 (o : Int), .int .u8 0, .slice pp pn pc, .slice none 0 0, .int .i64 0] 25)).drewN n3 := ⟨_, rfl⟩
  rw [← hw6] at s6 ⊢
  clear hw6
  obtain ⟨q0, q1, q2, q3, z0⟩ := HF.out _ _ _ _ _ _ _ s6
  obtain ⟨fine, hfine⟩ : ∃ f, f = decide (sumC [(⟨(al : Int), kp', kn', kc', cp', cn', cc', (o : Int)⟩ : CaseC), (⟨0, pp, pn, pc, none, 0, 0, 0⟩ : CaseC)] ≤ 3000) := ⟨_, rfl⟩
  rw [← hfine]
  clear hfine
  cases fine with
  | false =>
    have HS := Lib.hid s6; clear s6
    go_wp2_with fail
    go_ret
    exact ⟨rfl, HS.out.below⟩
  | true =>
    have hbe := macBegin (L := seg true g3 0 [.int .u8 (al : Int), .slice kp' kn' kc', .slice cp' cn' cc', .int .i64 (o : Int)] :: []) (ck := kc') (cap := cc') (pv := .pointer none) (av := .int .u8 (al : Int)) (ov := .int .i64 (o : Int)) K none [] key' custom' rfl (by rw [HA.out]) rfl HG.out.1 cut_roomy HG.out.2.1 HG.out.2.2.1 HG.out.2.2.2.1 HG.out.2.2.2.2.1 HG.out.2.2.2.2.2.1 HG.out.2.2.2.2.2.2.1 (Sat.sub s6.addEmp (.cons .here (.cons (.there .here) (.cons (.there .here) .done))))
    have HBE := Lib.hid hbe; clear hbe s6
    go_wp2_with fail
    refine HBE.out.mono ?_
    rintro e w7 ⟨s, rfl, s7'⟩
    have s7 : Sat W w7 (ses K s key' custom' o [] :: []) := (Sat.sub (s7') (by (repeat (first | with_reducible exact Fr.done | with_reducible exact Fr.nil | (with_reducible apply Fr.cons; (focus ((repeat (first | with_reducible exact Take.here | with_reducible apply Take.there)); done))) | with_reducible apply Fr.skip))))
    clear s7' q0 q1 q2 q3 z0 HBE
    go_wp2_with fail
    refine (ledNewF s7).mono ?_
    rintro e w8 ⟨l, rfl, s8'⟩
    have s8 : Sat W w8 (ses K s key' custom' o [] :: ledO (some l) [] :: []) := (Sat.sub (s8') (by (repeat (first | with_reducible exact Fr.done | with_reducible exact Fr.nil | (with_reducible apply Fr.cons; (focus ((repeat (first | with_reducible exact Take.here | with_reducible apply Take.there)); done))) | with_reducible apply Fr.skip))))
    clear s7 s8'
    have hfp := formN_pos K key'.length HG.out.1.2.2.1
    have hfo := sesForm K key' custom' [] HG.out.1 (by simp) s8
    have hwp := fun (w : World) (X : List Assn) (s' : Sat W w (ledO (some l) [] :: ses K s key' custom' o [] :: X)) => macWipe (pv := .pointer (some ⟨l, 0, none⟩)) K (some l) [] key' custom' [] rfl HG.out.1 cut_roomy (by simp) s'
    obtain ⟨N, hN⟩ : ∃ N, N = K.formN key'.length := ⟨_, rfl⟩
    rw [← hN] at hfp hfo hwp
    have e0 : ((N : Int) == 0) = false := by rw [beq_eq_false_iff_ne]; omega
    have HW := Lib.hid (And.intro hfo hwp); clear hfo hwp hN hfp s8
    go_wp2_with fail
    refine HW.out.1.mono ?_
    rintro e w9 ⟨q, c, rfl, s9'⟩
    have s9 : Sat W w9 (ledO (some l) [] :: ses K s key' custom' o [] :: []) := (Sat.sub (s9') (by (repeat (first | with_reducible exact Fr.done | with_reducible exact Fr.nil | (with_reducible apply Fr.cons; (focus ((repeat (first | with_reducible exact Take.here | with_reducible apply Take.there)); done))) | with_reducible apply Fr.skip))))
    clear s9'
    go_wp2_with fail
    refine (HW.out.2 _ _ s9).mono ?_
    rintro e w10 ⟨rfl, s10⟩
    clear s9 HW
    rw [note_nil] at s10
    go_wp2_with fail
    refine (ledRunsF (by simp) s10).mono ?_
    rintro e w11 ⟨rq, rc, rfl, s11⟩
    clear s10
    go_wp2_with fail
    have s12 : Sat W (w11.alloc (.cells #[.int .u8 8, .int .i64 (N : Int), .int .i64 ((1 : Nat) : Int)] 79)) (runsA true (some ⟨w11.heap.size, 0, none⟩) [(8, (N : Int), 1)] :: runsA true rq [(8, (N : Int), 1)] :: ledO (some l) [(8, (N : Int), 1)] :: wipedS s :: []) := runOne (T := 79) s11
    refine (sameRuns (ca := rc) (cb := 1) [(8, (N : Int), 1)] rfl rfl (by simp) ((Sat.sub (s12) (by (repeat (first | with_reducible exact Fr.done | with_reducible exact Fr.nil | (with_reducible apply Fr.cons; (focus ((repeat (first | with_reducible exact Take.here | with_reducible apply Take.there)); done))) | with_reducible apply Fr.skip)))) : Sat W _ (runsA true rq [(8, (N : Int), 1)] :: runsA true (some ⟨w11.heap.size, 0, none⟩) [(8, (N : Int), 1)] :: wipedS s :: []))).mono ?_
    rintro e w13 ⟨rfl, s13'⟩
    have s13 : Sat W w13 (wipedS s :: []) := (Sat.sub (s13') (by (repeat (first | with_reducible exact Fr.done | with_reducible exact Fr.nil | (with_reducible apply Fr.cons; (focus ((repeat (first | with_reducible exact Take.here | with_reducible apply Take.there)); done))) | with_reducible apply Fr.skip))))
    clear s11 s12 s13'
    go_wp2_with fail
    refine (lives17 s13).mono ?_
    rintro e w14 ⟨rfl, s14⟩
    clear s13
    go_wp2_with fail
    refine (empty17 none pp pn pc s14.addEmp).mono ?_
    rintro e w15 ⟨rfl, s15'⟩
    have s15 := s15'.tail
    clear s14 s15'
    go_wp2_with fail
    have s16 : Sat W (w15.alloc (.cells #[Value.nilFunc, .nilFunc, .nilFunc, .nilFunc, .nilFunc, .int .u8 0, .int .i64 0] 85)) (noneS (some w15.heap.size) :: wipedS s :: []) := s15.alloc #[Value.nilFunc, .nilFunc, .nilFunc, .nilFunc, .nilFunc, .int .u8 0, .int .i64 0] 85
    refine (empty17 (some w15.heap.size) pp pn pc s16).mono ?_
    rintro e w17 ⟨rfl, s17'⟩
    have s17 : Sat W w17 (noneS (some s) :: []) := s17'.tail
    clear s15 s16 s17'
    go_wp2_with fail
    refine (empty17 (some s) pp pn pc s17).mono ?_
    rintro e w18 ⟨rfl, s18⟩
    have HS := Lib.hid s18.below; clear s17 s18
    go_wp2_with fail
    go_ret
    exact ⟨rfl, HS.out⟩
end Go.Proofs.YtooolimpkafhaaaGreat
