
/- MacLedger: events hang on lengths alone; where the arguments read as a case, bytes and a spoil of bulk at most 1048576. -/
import Derived.Test.YtooolimpkafhaaaGreatL17j
namespace Go.Proofs.YtooolimpkafhaaaGreat
open Go.RowKit Go.Sep Go.Bv Go.Kec Go.Aes Go.Sha
set_option linter.unusedVariables false
set_option linter.unusedSimpArgs false
set_option maxRecDepth 100000 in
set_option maxHeartbeats 8000000 in
theorem macLedger_any (W : World) (x : CaseC) (key custom : List Byte) (h : CaseA W x key custom) (a2 : Option Addr × Nat × Nat × List Byte) (hP : IsBytes W a2.1 a2.2.1 a2.2.2.1 a2.2.2.2) (y : SpoilC) (C : List Byte) (hS : SpoilA W y C) (hb : x.kc + x.cc ≤ 1048576) (hpb : a2.2.2.1 ≤ 1048576) (hyb : y.tc ≤ 1048576) :
    Calls Tryz.prog 5 #[.agg (encC x).toArray, .slice a2.1 a2.2.1 a2.2.2.1, .agg (encS y).toArray] W fun e W' => e = .returned (.bool true) ∧ Below W.heap.size W W' := by
  obtain ⟨pp, pn, pc, P⟩ := a2
  simp only at hP hpb ⊢
  obtain ⟨⟨b, hb8⟩, hkey, hcus, ho⟩ := h
  obtain ⟨hsp, ⟨sb, hsb⟩, hat⟩ := hS
  have s0 : Sat W W (bytes false x.kp key :: bytes false x.cp custom :: bytes false pp P :: bytes false y.tp C :: []) := hkey.sat (hcus.sat (hP.sat (hsp.sat (Sat.nil W))))
  obtain ⟨hk1, hk2, hk3, -⟩ := hkey
  obtain ⟨hc1, hc2, hc3, -⟩ := hcus
  obtain ⟨hp1, hp2, hp3, -⟩ := hP
  obtain ⟨hs1, hs2, hs3, -⟩ := hsp
  obtain ⟨xa, kp, kn, kc, cp, cn, cc, out⟩ := x
  obtain ⟨tp, tn, tc, at_, bit⟩ := y
  simp only at hb8 s0 hk1 hk2 hk3 hc1 hc2 hc3 ho hb hs1 hs2 hs3 hsb hyb
  obtain ⟨a, ha⟩ : ∃ a : Nat, (a : Int) = v8 b := ⟨b.toNat, rfl⟩
  rw [← ha] at hb8
  have ha256 : a < 256 := by have := (v8_bd b).2; omega
  subst hb8 hsb
  clear ha
  show Calls Tryz.prog 5 #[.agg (CellsC a kp kn kc cp cn cc out).toArray, .slice pp pn pc, .agg #[.slice tp tn tc, .int .i64 at_, .int .u8 (v8 sb)]] W _
  have HF := Lib.hid (hF17_all W)
  have HFS := Lib.hid (hFS17_all W)
  have hbg := fun (w : World) (X : List Assn) (s : Sat W w (bytes false kp key :: bytes false cp custom :: X)) => begun17 (out := out) key custom hk1 hk2 hk3 hc1 hc2 hc3 ha256 (by omega) (by omega) s
  have hpn : pn ≤ 1048576 := by omega
  have htn : tn ≤ 1048576 := by omega
  have HB := Lib.hid (And.intro hbg (And.intro hpn (And.intro htn (And.intro hp1 (And.intro hp2 (And.intro hp3 (And.intro hs1 (And.intro hs2 (And.intro hs3 hat))))))))); clear hbg hk1 hk2 hk3 hc1 hc2 hc3 ha256 ho hb hpb hpn htn hp1 hp2 hp3 hs1 hs2 hs3 hyb hat
  go_enter Tryz.func5, Tryz.ntmps5
  go_wp2_with (first | (refine wpl_box rfl 25 (.tmp 0) rfl (CellsC a kp kn kc cp cn cc out) rfl s0 ?_; intro w1 gx s1 _; clear s0) | (refine wpl_box rfl 45 (.tmp 2) rfl [.slice tp tn tc, .int .i64 at_, .int .u8 (v8 sb)] rfl s1 ?_; intro w2 gs s2 _; clear s1))
  refine (lives17 s2).mono ?_
  rintro e w3 ⟨rfl, s3'⟩
  have s3 : Sat W w3 (seg true gx 0 (CellsC a kp kn kc cp cn cc out) :: bytes false kp key :: bytes false cp custom :: bytes false pp P :: bytes false tp C :: seg true gs 0 [.slice tp tn tc, .int .i64 at_, .int .u8 (v8 sb)] :: []) := (Sat.sub (s3') (by (repeat (first | with_reducible exact Fr.done | with_reducible exact Fr.nil | (with_reducible apply Fr.cons; (focus ((repeat (first | with_reducible exact Take.here | with_reducible apply Take.there)); done))) | with_reducible apply Fr.skip))))
  clear s2 s3'
  obtain ⟨q0, q1, q2, q3, z0⟩ := HF.out _ _ _ _ _ _ _ s3
  go_wp2_with fail
  refine (HB.out.1 _ _ ((Sat.sub (s3) (by (repeat (first | with_reducible exact Fr.done | with_reducible exact Fr.nil | (with_reducible apply Fr.cons; (focus ((repeat (first | with_reducible exact Take.here | with_reducible apply Take.there)); done))) | with_reducible apply Fr.skip)))) : Sat W w3 (bytes false kp key :: bytes false cp custom :: bytes false pp P :: bytes false tp C :: seg true gs 0 [.slice tp tn tc, .int .i64 at_, .int .u8 (v8 sb)] :: []))).mono ?_
  rintro e w4 ⟨kd, ⟨xa, kp', kn', kc', cp', cn', cc', o'⟩, key', custom', o, m, rfl, ⟨fa, fo, ff, f1, f2, f3, f4, f5, f6⟩, hKa, s4'⟩
  clear s3 q0 q1 q2 q3 z0
  simp only at fa fo f1 f2 f3 f4 f5 f6 s4'
  subst fa fo
  have s4 : Sat W w4 (bytes m kp' key' :: bytes false cp' custom' :: bytes false pp P :: bytes false tp C :: seg true gs 0 [.slice tp tn tc, .int .i64 at_, .int .u8 (v8 sb)] :: []) := (Sat.sub (s4') (by (repeat (first | with_reducible exact Fr.done | with_reducible exact Fr.nil | (with_reducible apply Fr.cons; (focus ((repeat (first | with_reducible exact Take.here | with_reducible apply Take.there)); done))) | with_reducible apply Fr.skip))))
  clear s4' hKa
  have hbd := fits_bd ff
  have HG := Lib.hid (And.intro ff (And.intro f1 (And.intro f2 (And.intro f3 (And.intro f4 (And.intro f5 (And.intro f6 hbd))))))); clear ff f1 f2 f3 f4 f5 f6 hbd
  have hkb : kn' ≤ 100000000 := by rw [← HG.out.2.1]; exact HG.out.2.2.2.2.2.2.2.1
  have hcb : cn' ≤ 64 := by rw [← HG.out.2.2.2.2.1]; exact HG.out.2.2.2.2.2.2.2.2.1
  have HKB := Lib.hid (And.intro hkb hcb); clear hkb hcb
  obtain ⟨al, hal⟩ : ∃ al : Nat, al = kd.alg := ⟨_, rfl⟩
  rw [← hal]
  have HA := Lib.hid hal; clear hal
  go_wp2_with (first | (refine wpl_alloc_agg rfl 25 rfl s4 _ (zero_case _) ?_; intro w5 g3 s5 _; clear s4) | (refine wpl_store_agg rfl rfl 25 (.tmp 7) (.tmp 25) rfl (cs := [.int .u8 (al : Int), .slice kp' kn' kc', .slice cp' cn' cc', .int .i64 (o : Int)]) s5 0 0 Tryz.size_case rfl rfl rfl (Nat.le_refl 4) (fun v hv => by simp only [List.mem_cons, List.not_mem_nil, or_false] at hv; rcases hv with rfl | rfl | rfl | rfl <;> rfl) ?_; intro w6 s6; rw [setL_all _ _ (by rfl)] at s6; clear s5; obtain ⟨r0, r1, r2, r3, y0⟩ := HF.out _ _ _ _ _ _ _ s6))
  have s7 : Sat W (w6.alloc (.cells #[.int .u8 (al : Int), .slice kp' kn' kc', .slice cp' cn' cc', .int .i64 (o : Int), .int .u8 0, .slice pp pn pc, .slice none 0 0, .int .i64 0] 25)) (seg true w6.heap.size 0 ([(⟨(al : Int), kp', kn', kc', cp', cn', cc', (o : Int)⟩ : CaseC), (⟨0, pp, pn, pc, none, 0, 0, 0⟩ : CaseC)].flatMap encC) :: seg true g3 0 [.int .u8 (al : Int), .slice kp' kn' kc', .slice cp' cn' cc', .int .i64 (o : Int)] :: bytes m kp' key' :: bytes false cp' custom' :: bytes false pp P :: bytes false tp C :: seg true gs 0 [.slice tp tn tc, .int .i64 at_, .int .u8 (v8 sb)] :: []) := s6.alloc #[.int .u8 (al : Int), .slice kp' kn' kc', .slice cp' cn' cc', .int .i64 (o : Int), .int .u8 0, .slice pp pn pc, .slice none 0 0, .int .i64 0] 25
  refine (smallOf (cap := 2) [(⟨(al : Int), kp', kn', kc', cp', cn', cc', (o : Int)⟩ : CaseC), (⟨0, pp, pn, pc, none, 0, 0, 0⟩ : CaseC)] rfl (by simp) (by simp only [sumC]; have := HKB.out; have := HB.out.2.1; omega) s7).mono ?_
  rintro e w8 ⟨rfl, n3, rfl⟩
  have s8 := (s7.drewN n3).tail
  clear s6 s7 r0 r1 r2 r3 y0
  obtain ⟨w9, hw9⟩ : ∃ w9, w9 = (w6.alloc (.cells #[.int .u8 (al : Int), .slice kp' kn' kc', .slice cp' cn' cc', .int .i64 (o : Int), .int .u8 0, .slice pp pn pc, .slice none 0 0, .int .i64 0] 25)).drewN n3 := ⟨_, rfl⟩
  rw [← hw9] at s8 ⊢
  clear hw9
  have s9 : Sat W w9 (bytes m kp' key' :: bytes false cp' custom' :: bytes false pp P :: bytes false tp C :: seg true gs 0 [.slice tp tn tc, .int .i64 at_, .int .u8 (v8 sb)] :: seg true g3 0 [.int .u8 (al : Int), .slice kp' kn' kc', .slice cp' cn' cc', .int .i64 (o : Int)] :: []) := (Sat.sub (s8) (by (repeat (first | with_reducible exact Fr.done | with_reducible exact Fr.nil | (with_reducible apply Fr.cons; (focus ((repeat (first | with_reducible exact Take.here | with_reducible apply Take.there)); done))) | with_reducible apply Fr.skip))))
  clear s8
  by_cases hsm : sumC [(⟨(al : Int), kp', kn', kc', cp', cn', cc', (o : Int)⟩ : CaseC), (⟨0, pp, pn, pc, none, 0, 0, 0⟩ : CaseC)] ≤ 3000
  rotate_left
  · rw [decide_eq_false hsm]
    have HS := Lib.hid s9; clear s9 hsm
    go_wp2_with fail
    go_ret
    exact ⟨rfl, HS.out.below⟩
  rw [decide_eq_true hsm]
  have hpn : pn ≤ 3000 := by simp only [sumC] at hsm; omega
  have HPN := Lib.hid hpn; clear hpn hsm
  go_wp2_with fail
  refine (ledNewF s9).mono ?_
  rintro e w10 ⟨l, rfl, s10⟩
  clear s9
  go_wp2_with fail
  refine (ledNewF s10).mono ?_
  rintro e w11 ⟨k, rfl, s11'⟩
  have s11 : Sat W w11 (seg true g3 0 [.int .u8 (al : Int), .slice kp' kn' kc', .slice cp' cn' cc', .int .i64 (o : Int)] :: ledO (some l) [] :: bytes m kp' key' :: bytes false cp' custom' :: ledO (some k) [] :: bytes false pp P :: bytes false tp C :: seg true gs 0 [.slice tp tn tc, .int .i64 at_, .int .u8 (v8 sb)] :: []) := (Sat.sub (s11') (by (repeat (first | with_reducible exact Fr.done | with_reducible exact Fr.nil | (with_reducible apply Fr.cons; (focus ((repeat (first | with_reducible exact Take.here | with_reducible apply Take.there)); done))) | with_reducible apply Fr.skip))))
  clear s10 s11'
  have hbe := macBegin (L := seg true g3 0 [.int .u8 (al : Int), .slice kp' kn' kc', .slice cp' cn' cc', .int .i64 (o : Int)] :: ledO (some k) [] :: bytes false pp P :: bytes false tp C :: seg true gs 0 [.slice tp tn tc, .int .i64 at_, .int .u8 (v8 sb)] :: []) (ck := kc') (cap := cc') (pv := .pointer (some ⟨l, 0, none⟩)) (av := .int .u8 (al : Int)) (ov := .int .i64 (o : Int)) kd (some l) [] key' custom' rfl (by rw [HA.out]) rfl HG.out.1 cut_roomy HG.out.2.1 HG.out.2.2.1 HG.out.2.2.2.1 HG.out.2.2.2.2.1 HG.out.2.2.2.2.2.1 HG.out.2.2.2.2.2.2.1 (Sat.sub (s11) (by (repeat (first | with_reducible exact Fr.done | with_reducible exact Fr.nil | (with_reducible apply Fr.cons; (focus ((repeat (first | with_reducible exact Take.here | with_reducible apply Take.there)); done))) | with_reducible apply Fr.skip))))
  have HBE := Lib.hid hbe; clear hbe
  obtain ⟨q0, q1, q2, q3, z0⟩ := HF.out _ _ _ _ _ _ _ s11
  clear s11
  go_wp2_with fail
  refine HBE.out.mono ?_
  rintro e w12 ⟨sa, rfl, s12'⟩
  rw [← runsOn_zero] at s12'
  have s12 : Sat W w12 (ses kd sa key' custom' o [] :: ledO (some l) (runsOn kd kn' cn' 0) :: ledO (some k) [] :: bytes m kp' key' :: bytes false cp' custom' :: seg true g3 0 [.int .u8 (al : Int), .slice kp' kn' kc', .slice cp' cn' cc', .int .i64 (o : Int)] :: seg true gs 0 [.slice tp tn tc, .int .i64 at_, .int .u8 (v8 sb)] :: bytes false pp P :: bytes false tp C :: []) := (Sat.sub (s12') (by (repeat (first | with_reducible exact Fr.done | with_reducible exact Fr.nil | (with_reducible apply Fr.cons; (focus ((repeat (first | with_reducible exact Take.here | with_reducible apply Take.there)); done))) | with_reducible apply Fr.skip))))
  clear s12' q0 q1 q2 q3 z0 HBE

  have s12d := s12.drew
  have hST : ∀ wx X, Sat W wx (seg true g3 0 [.int .u8 (al : Int), .slice kp' kn' kc', .slice cp' cn' cc', .int .i64 (o : Int)] :: seg true gs 0 [.slice tp tn tc, .int .i64 at_, .int .u8 (v8 sb)] :: X) → wx.cell? ⟨g3, 0, none⟩ = some (.int .u8 (al : Int)) ∧ wx.cell? ⟨g3, 1, none⟩ = some (.slice kp' kn' kc') ∧ wx.cell? ⟨g3, 2, none⟩ = some (.slice cp' cn' cc') ∧ wx.cell? ⟨g3, 3, none⟩ = some (.int .i64 (o : Int)) ∧ g3 < wx.heap.size ∧ wx.cell? ⟨gs, 2, none⟩ = some (.int .u8 (v8 sb)) ∧ gs < wx.heap.size := fun wx X h => by
    have h2 : Sat W wx (seg true gs 0 [.slice tp tn tc, .int .i64 at_, .int .u8 (v8 sb)] :: _) := h.pull 1
    exact ⟨h.at 0 rfl, h.at 1 rfl, h.at 2 rfl, h.at 3 rfl, h.lt (by simp), h2.at 2 rfl, h2.lt (by simp)⟩
  have HST := Lib.hid hST; clear hST
  go_wp2_with fail
  refine region_E (fun w' => w'.cell? ⟨g3, 0, none⟩ = some (.int .u8 (al : Int)) ∧ w'.cell? ⟨g3, 1, none⟩ = some (.slice kp' kn' kc') ∧ w'.cell? ⟨g3, 2, none⟩ = some (.slice cp' cn' cc') ∧ w'.cell? ⟨g3, 3, none⟩ = some (.int .i64 (o : Int)) ∧ g3 < w'.heap.size ∧ w'.cell? ⟨gs, 2, none⟩ = some (.int .u8 (v8 sb)) ∧ gs < w'.heap.size) [2, 4, 6, 9, 11, 14] (by kernel_rfl) ?_
  have hHeld := HST.out _ [] (Sat.sub (s12d) (by (repeat (first | with_reducible exact Fr.done | with_reducible exact Fr.nil | (with_reducible apply Fr.cons; (focus ((repeat (first | with_reducible exact Take.here | with_reducible apply Take.there)); done))) | with_reducible apply Fr.skip))))
  refine anyE_pure (i := 0) (x := ?_) (v := ?_) ?_ (by kernel_rfl) (by kernel_rfl) (by kernel_rfl) ?_ ?_ ?_
  rotate_left 2
  · (simp only [List.getElem?_toArray, List.getElem?_cons_succ, List.getElem?_cons_zero]; rfl)
  · exact fun _ _ _ h => h
  · refine Or.inl ⟨by rfl, ?_⟩
    intro w hSw
    go_simp
    try (with_reducible rfl)
  try simp only [Act.put, List.setIfInBounds_toArray, List.set_cons_zero, List.set_cons_succ]
  refine anyE_pure (i := 1) (x := ?_) (v := ?_) ?_ (by kernel_rfl) (by kernel_rfl) (by kernel_rfl) ?_ ?_ ?_
  rotate_left 2
  · (simp only [List.getElem?_toArray, List.getElem?_cons_succ, List.getElem?_cons_zero]; rfl)
  · exact fun _ _ _ h => h
  · refine Or.inl ⟨by rfl, ?_⟩
    intro w hSw
    go_simp
    try (with_reducible rfl)
  try simp only [Act.put, List.setIfInBounds_toArray, List.set_cons_zero, List.set_cons_succ]
  refine anyE_take (i := 2) (x := ?_) (v := ?_) ?_ (by kernel_rfl) (by kernel_rfl) (by kernel_rfl) (by kernel_rfl) ?_ ?_ hHeld ?_
  rotate_left 2
  · (simp only [List.getElem?_toArray, List.getElem?_cons_succ, List.getElem?_cons_zero]; rfl)
  · exact fun _ _ _ h => h
  · refine Or.inl ⟨by rfl, ?_⟩
    intro w hSw
    (try dsimp only at hSw)
    go_simp
    try (with_reducible rfl)
  try simp only [Act.put, List.setIfInBounds_toArray, List.set_cons_zero, List.set_cons_succ]
  refine anyE_pure (i := 3) (x := ?_) (v := ?_) ?_ (by kernel_rfl) (by kernel_rfl) (by kernel_rfl) ?_ ?_ ?_
  rotate_left 2
  · (simp only [List.getElem?_toArray, List.getElem?_cons_succ, List.getElem?_cons_zero]; rfl)
  · exact fun _ _ _ h => h
  · refine Or.inl ⟨by rfl, ?_⟩
    intro w hSw
    go_simp
    try (with_reducible rfl)
  try simp only [Act.put, List.setIfInBounds_toArray, List.set_cons_zero, List.set_cons_succ]
  refine anyE_take (i := 4) (x := ?_) (v := ?_) ?_ (by kernel_rfl) (by kernel_rfl) (by kernel_rfl) (by kernel_rfl) ?_ ?_ hHeld ?_
  rotate_left 2
  · (simp only [List.getElem?_toArray, List.getElem?_cons_succ, List.getElem?_cons_zero]; rfl)
  · exact fun _ _ _ h => h
  · refine Or.inl ⟨by rfl, ?_⟩
    intro w hSw
    (try dsimp only at hSw)
    go_simp
    try (with_reducible rfl)
  try simp only [Act.put, List.setIfInBounds_toArray, List.set_cons_zero, List.set_cons_succ]
  refine anyE_pure (i := 5) (x := ?_) (v := ?_) ?_ (by kernel_rfl) (by kernel_rfl) (by kernel_rfl) ?_ ?_ ?_
  rotate_left 2
  · (simp only [List.getElem?_toArray, List.getElem?_cons_succ, List.getElem?_cons_zero]; rfl)
  · exact fun _ _ _ h => h
  · refine Or.inl ⟨by rfl, ?_⟩
    intro w hSw
    go_simp
    try (with_reducible rfl)
  try simp only [Act.put, List.setIfInBounds_toArray, List.set_cons_zero, List.set_cons_succ]
  refine anyE_take (i := 6) (x := ?_) (v := ?_) ?_ (by kernel_rfl) (by kernel_rfl) (by kernel_rfl) (by kernel_rfl) ?_ ?_ hHeld ?_
  rotate_left 2
  · (simp only [List.getElem?_toArray, List.getElem?_cons_succ, List.getElem?_cons_zero]; rfl)
  · exact fun _ _ _ h => h
  · refine Or.inl ⟨by rfl, ?_⟩
    intro w hSw
    (try dsimp only at hSw)
    go_simp
    try (with_reducible rfl)
  try simp only [Act.put, List.setIfInBounds_toArray, List.set_cons_zero, List.set_cons_succ]
  refine anyE_pure (i := 8) (x := ?_) (v := ?_) ?_ (by kernel_rfl) (by kernel_rfl) (by kernel_rfl) ?_ ?_ ?_
  rotate_left 2
  · (simp only [List.getElem?_toArray, List.getElem?_cons_succ, List.getElem?_cons_zero]; rfl)
  · exact fun _ _ _ h => h
  · refine Or.inl ⟨by rfl, ?_⟩
    intro w hSw
    go_simp
    try (with_reducible rfl)
  try simp only [Act.put, List.setIfInBounds_toArray, List.set_cons_zero, List.set_cons_succ]
  refine anyE_take (i := 9) (x := ?_) (v := ?_) ?_ (by kernel_rfl) (by kernel_rfl) (by kernel_rfl) (by kernel_rfl) ?_ ?_ hHeld ?_
  rotate_left 2
  · (simp only [List.getElem?_toArray, List.getElem?_cons_succ, List.getElem?_cons_zero]; rfl)
  · exact fun _ _ _ h => h
  · refine Or.inl ⟨by rfl, ?_⟩
    intro w hSw
    (try dsimp only at hSw)
    go_simp
    try (with_reducible rfl)
  try simp only [Act.put, List.setIfInBounds_toArray, List.set_cons_zero, List.set_cons_succ]
  refine anyE_pure (i := 10) (x := ?_) (v := ?_) ?_ (by kernel_rfl) (by kernel_rfl) (by kernel_rfl) ?_ ?_ ?_
  rotate_left 2
  · (simp only [List.getElem?_toArray, List.getElem?_cons_succ, List.getElem?_cons_zero]; rfl)
  · exact fun _ _ _ h => h
  · refine Or.inl ⟨by rfl, ?_⟩
    intro w hSw
    go_simp
    try (with_reducible rfl)
  try simp only [Act.put, List.setIfInBounds_toArray, List.set_cons_zero, List.set_cons_succ]
  refine anyE_take (i := 11) (x := ?_) (v := ?_) ?_ (by kernel_rfl) (by kernel_rfl) (by kernel_rfl) (by kernel_rfl) ?_ ?_ hHeld ?_
  rotate_left 2
  · (simp only [List.getElem?_toArray, List.getElem?_cons_succ, List.getElem?_cons_zero]; rfl)
  · exact fun _ _ _ h => h
  · refine Or.inl ⟨by rfl, ?_⟩
    intro w hSw
    (try dsimp only at hSw)
    go_simp
    try (with_reducible rfl)
  try simp only [Act.put, List.setIfInBounds_toArray, List.set_cons_zero, List.set_cons_succ]
  refine anyE_pure (i := 13) (x := ?_) (v := ?_) ?_ (by kernel_rfl) (by kernel_rfl) (by kernel_rfl) ?_ ?_ ?_
  rotate_left 2
  · (simp only [List.getElem?_toArray, List.getElem?_cons_succ, List.getElem?_cons_zero]; rfl)
  · exact fun _ _ _ h => h
  · refine Or.inl ⟨by rfl, ?_⟩
    intro w hSw
    go_simp
    try (with_reducible rfl)
  try simp only [Act.put, List.setIfInBounds_toArray, List.set_cons_zero, List.set_cons_succ]
  refine anyE_take (i := 14) (x := ?_) (v := ?_) ?_ (by kernel_rfl) (by kernel_rfl) (by kernel_rfl) (by kernel_rfl) ?_ ?_ hHeld ?_
  rotate_left 2
  · (simp only [List.getElem?_toArray, List.getElem?_cons_succ, List.getElem?_cons_zero]; rfl)
  · exact fun _ _ _ h => h
  · refine Or.inl ⟨by rfl, ?_⟩
    intro w hSw
    (try dsimp only at hSw)
    go_simp
    try (with_reducible rfl)
  try simp only [Act.put, List.setIfInBounds_toArray, List.set_cons_zero, List.set_cons_succ]
  refine anyE_one (i := 7) (x := ?_) ?_ (by kernel_rfl) (fun K hK => ?_)
  rotate_left
  · (simp only [List.getElem?_toArray, List.getElem?_cons_succ, List.getElem?_cons_zero]; rfl)
  go_simp
  refine (other17 key' sb HG.out.2.1 (by have := HKB.out.1; omega) ((Sat.sub (s12d) (by (repeat (first | with_reducible exact Fr.done | with_reducible exact Fr.nil | (with_reducible apply Fr.cons; (focus ((repeat (first | with_reducible exact Take.here | with_reducible apply Take.there)); done))) | with_reducible apply Fr.skip)))) : Sat W _ (bytes m kp' key' :: bytes false cp' custom' :: ses kd sa key' custom' o [] :: ledO (some l) (runsOn kd kn' cn' 0) :: ledO (some k) [] :: seg true g3 0 [.int .u8 (al : Int), .slice kp' kn' kc', .slice cp' cn' cc', .int .i64 (o : Int)] :: seg true gs 0 [.slice tp tn tc, .int .i64 at_, .int .u8 (v8 sb)] :: bytes false pp P :: bytes false tp C :: []))).mono ?_
  rintro e w13 ⟨x1, c1, b1, rfl, hb1, hc1, hd1, s13⟩
  have hk13 := HST.out w13 [] (Sat.sub (s13) (by (repeat (first | with_reducible exact Fr.done | with_reducible exact Fr.nil | (with_reducible apply Fr.cons; (focus ((repeat (first | with_reducible exact Take.here | with_reducible apply Take.there)); done))) | with_reducible apply Fr.skip))))
  go_wp2_with fail
  refine hK.out _ _ hk13 ?_
  clear hK K hHeld
  have hHeld := hk13
  try simp only [Act.put, List.setIfInBounds_toArray, List.set_cons_zero, List.set_cons_succ]
  clear s12 s12d
  refine anyE_one (i := 12) (x := ?_) ?_ (by kernel_rfl) (fun K hK => ?_)
  rotate_left
  · (simp only [List.getElem?_toArray, List.getElem?_cons_succ, List.getElem?_cons_zero]; rfl)
  go_simp
  refine (other17 custom' sb HG.out.2.2.2.2.1 (by have := HKB.out.2; omega) ((Sat.sub (s13) (by (repeat (first | with_reducible exact Fr.done | with_reducible exact Fr.nil | (with_reducible apply Fr.cons; (focus ((repeat (first | with_reducible exact Take.here | with_reducible apply Take.there)); done))) | with_reducible apply Fr.skip)))) : Sat W _ (bytes false cp' custom' :: bytes true x1 b1 :: ses kd sa key' custom' o [] :: ledO (some l) (runsOn kd kn' cn' 0) :: ledO (some k) [] :: seg true g3 0 [.int .u8 (al : Int), .slice kp' kn' kc', .slice cp' cn' cc', .int .i64 (o : Int)] :: seg true gs 0 [.slice tp tn tc, .int .i64 at_, .int .u8 (v8 sb)] :: bytes false pp P :: bytes false tp C :: []))).mono ?_
  rintro e w14 ⟨x2, c2, b2, rfl, hb2, hc2, hd2, s14⟩
  have hk14 := HST.out w14 [] (Sat.sub (s14) (by (repeat (first | with_reducible exact Fr.done | with_reducible exact Fr.nil | (with_reducible apply Fr.cons; (focus ((repeat (first | with_reducible exact Take.here | with_reducible apply Take.there)); done))) | with_reducible apply Fr.skip))))
  go_wp2_with fail
  refine hK.out _ _ hk14 ?_
  clear hK K hHeld
  have hHeld := hk14
  try simp only [Act.put, List.setIfInBounds_toArray, List.set_cons_zero, List.set_cons_succ]
  clear s13 hk13
  refine anyE_one (i := 15) (x := ?_) ?_ (by kernel_rfl) (fun K hK => ?_)
  rotate_left
  · (simp only [List.getElem?_toArray, List.getElem?_cons_succ, List.getElem?_cons_zero]; rfl)
  go_simp
  have HB1 := Lib.hid (And.intro hb1 (And.intro hb2 (And.intro hc1 (And.intro hc2 (And.intro hd1 hd2))))); clear hb1 hb2 hc1 hc2 hd1 hd2
  have HFB := Lib.hid (fits_len HG.out.1 (HB1.out.1.trans HG.out.2.1.symm) (HB1.out.2.1.trans HG.out.2.2.2.2.1.symm))
  refine (macBegin (L := ses kd sa key' custom' o [] :: ledO (some l) (runsOn kd kn' cn' 0) :: seg true g3 0 [.int .u8 (al : Int), .slice kp' kn' kc', .slice cp' cn' cc', .int .i64 (o : Int)] :: seg true gs 0 [.slice tp tn tc, .int .i64 at_, .int .u8 (v8 sb)] :: bytes false pp P :: bytes false tp C :: []) (pv := .pointer (some ⟨k, 0, none⟩)) (av := .int .u8 (al : Int)) (ov := .int .i64 (o : Int)) kd (some k) [] b1 b2 rfl (by rw [HA.out]) rfl HFB.out cut_roomy HB1.out.1 HB1.out.2.2.1 HB1.out.2.2.2.2.1 HB1.out.2.1 HB1.out.2.2.2.1 HB1.out.2.2.2.2.2 (Sat.sub (s14) (by (repeat (first | with_reducible exact Fr.done | with_reducible exact Fr.nil | (with_reducible apply Fr.cons; (focus ((repeat (first | with_reducible exact Take.here | with_reducible apply Take.there)); done))) | with_reducible apply Fr.skip))))).mono ?_
  rintro e w15 ⟨sc, rfl, s15'⟩
  rw [← runsOn_zero] at s15'
  have s15 : Sat W w15 (bytes false pp P :: bytes false tp C :: ses kd sa key' custom' o [] :: ses kd sc b1 b2 o [] :: ledO (some l) (runsOn kd kn' cn' 0) :: ledO (some k) (runsOn kd kn' cn' 0) :: seg true gs 0 [.slice tp tn tc, .int .i64 at_, .int .u8 (v8 sb)] :: []) := (Sat.sub (s15') (by (repeat (first | with_reducible exact Fr.done | with_reducible exact Fr.nil | (with_reducible apply Fr.cons; (focus ((repeat (first | with_reducible exact Take.here | with_reducible apply Take.there)); done))) | with_reducible apply Fr.skip))))
  have hk15 := HST.out w15 [] (Sat.sub (s15') (by (repeat (first | with_reducible exact Fr.done | with_reducible exact Fr.nil | (with_reducible apply Fr.cons; (focus ((repeat (first | with_reducible exact Take.here | with_reducible apply Take.there)); done))) | with_reducible apply Fr.skip))))
  go_wp2_with fail
  refine hK.out _ _ hk15 ?_
  clear hK K hHeld
  have hHeld := hk15
  try simp only [Act.put, List.setIfInBounds_toArray, List.set_cons_zero, List.set_cons_succ]
  clear s14 hk14 s15'
  refine anyE_pure (i := 16) (x := ?_) (v := ?_) ?_ (by kernel_rfl) (by kernel_rfl) (by kernel_rfl) ?_ ?_ ?_
  rotate_left 2
  · (simp only [List.getElem?_toArray, List.getElem?_cons_succ, List.getElem?_cons_zero]; rfl)
  · exact fun _ _ _ h => h
  · refine Or.inl ⟨by rfl, ?_⟩
    intro w hSw
    go_simp
    try (with_reducible rfl)
  try simp only [Act.put, List.setIfInBounds_toArray, List.set_cons_zero, List.set_cons_succ]
  refine anyE_pure (i := 17) (x := ?_) (v := ?_) ?_ (by kernel_rfl) (by kernel_rfl) (by kernel_rfl) ?_ ?_ ?_
  rotate_left 2
  · (simp only [List.getElem?_toArray, List.getElem?_cons_succ, List.getElem?_cons_zero]; rfl)
  · exact fun _ _ _ h => h
  · refine Or.inl ⟨by rfl, ?_⟩
    intro w hSw
    go_simp
    try (with_reducible rfl)
  try simp only [Act.put, List.setIfInBounds_toArray, List.set_cons_zero, List.set_cons_succ]
  refine anyE_pure (i := 18) (x := ?_) (v := ?_) ?_ (by kernel_rfl) (by kernel_rfl) (by kernel_rfl) ?_ ?_ ?_
  rotate_left 2
  · (simp only [List.getElem?_toArray, List.getElem?_cons_succ, List.getElem?_cons_zero]; rfl)
  · exact fun _ _ _ h => h
  · refine Or.inl ⟨by rfl, ?_⟩
    intro w hSw
    go_simp
    try (with_reducible rfl)
  try simp only [Act.put, List.setIfInBounds_toArray, List.set_cons_zero, List.set_cons_succ]
  refine anyE_pure (i := 19) (x := ?_) (v := ?_) ?_ (by kernel_rfl) (by kernel_rfl) (by kernel_rfl) ?_ ?_ ?_
  rotate_left 2
  · (simp only [List.getElem?_toArray, List.getElem?_cons_succ, List.getElem?_cons_zero]; rfl)
  · exact fun _ _ _ h => h
  · refine Or.inl ⟨by rfl, ?_⟩
    intro w hSw
    go_simp
    try (with_reducible rfl)
  try simp only [Act.put, List.setIfInBounds_toArray, List.set_cons_zero, List.set_cons_succ]
  refine anyE_pure (i := 20) (x := ?_) (v := ?_) ?_ (by kernel_rfl) (by kernel_rfl) (by kernel_rfl) ?_ ?_ ?_
  rotate_left 2
  · (simp only [List.getElem?_toArray, List.getElem?_cons_succ, List.getElem?_cons_zero]; rfl)
  · exact fun _ _ _ h => h
  · refine Or.inl ⟨by rfl, ?_⟩
    intro w hSw
    go_simp
    try (with_reducible rfl)
  try simp only [Act.put, List.setIfInBounds_toArray, List.set_cons_zero, List.set_cons_succ]
  refine anyE_done (by kernel_rfl) ?_ _
  clear hHeld hk15
  have sgs : Sat W w15 (seg true gs 0 [.slice tp tn tc, .int .i64 at_, .int .u8 (v8 sb)] :: []) := (Sat.sub (s15) (by (repeat (first | with_reducible exact Fr.done | with_reducible exact Fr.nil | (with_reducible apply Fr.cons; (focus ((repeat (first | with_reducible exact Take.here | with_reducible apply Take.there)); done))) | with_reducible apply Fr.skip))))
  obtain ⟨u0, _, _, uz⟩ := HFS.out _ _ _ _ _ _ sgs
  clear sgs
  go_wp2_with fail
  refine (cutInto P C HB.out.2.2.2.1 HB.out.2.2.2.2.2.2.1 (by have := HB.out.2.1; omega) (by have := HB.out.2.2.1; omega) HB.out.2.2.2.2.1 HB.out.2.2.2.2.2.1 (Sat.sub (s15) (by (repeat (first | with_reducible exact Fr.done | with_reducible exact Fr.nil | (with_reducible apply Fr.cons; (focus ((repeat (first | with_reducible exact Take.here | with_reducible apply Take.there)); done))) | with_reducible apply Fr.skip))))).mono ?_
  rintro e w16 ⟨qp, cpp, ts, rfl, hts0, hfl, hok, s16⟩
  clear s15 u0 uz
  obtain ⟨gp, rfl, hcp, hcp2, s17'⟩ := rowSeg17 s16 hts0
  have s17 : Sat W w16 (ses kd sa key' custom' o [] :: ses kd sc b1 b2 o [] :: ledO (some l) (runsOn kd kn' cn' 0) :: ledO (some k) (runsOn kd kn' cn' 0) :: seg true gp 0 (ts.map pieceV) :: allRo ts :: seg true gs 0 [.slice tp tn tc, .int .i64 at_, .int .u8 (v8 sb)] :: []) := (Sat.sub (s17') (by (repeat (first | with_reducible exact Fr.done | with_reducible exact Fr.nil | (with_reducible apply Fr.cons; (focus ((repeat (first | with_reducible exact Take.here | with_reducible apply Take.there)); done))) | with_reducible apply Fr.skip))))
  clear s16 s17'
  obtain ⟨N, hN⟩ : ∃ N, N = ts.length := ⟨_, rfl⟩
  rw [← hN] at hts0 hcp ⊢
  have HT := Lib.hid (And.intro hfl (And.intro hok hN)); clear hfl hok hN
  go_wp2
  go_loopw [16] (fun t16 wr => ∃ (i : Nat) (M2 : List Byte), i ≤ N ∧ t16 = .int .i64 (i : Int) ∧ M2.length = (flatP (ts.take i)).length ∧ Sat W wr (ses kd sa key' custom' o (flatP (ts.take i)) :: ses kd sc b1 b2 o M2 :: ledO (some l) (runsOn kd kn' cn' (flatP (ts.take i)).length) :: ledO (some k) (runsOn kd kn' cn' (flatP (ts.take i)).length) :: seg true gp 0 (ts.map pieceV) :: allRo ts :: seg true gs 0 [.slice tp tn tc, .int .i64 at_, .int .u8 (v8 sb)] :: [])) (fun t16 _ => N - (intOf t16).toNat)
  case atStart => exact ⟨0, [], Nat.zero_le _, rfl, rfl, s17⟩
  case round =>
    clear s17
    obtain ⟨i, M2, hi, rfl, hM2, s⟩ := hrel
    have HM2 := Lib.hid hM2; clear hM2
    by_cases hlt : i < N
    · have hit : i < ts.length := by rw [← HT.out.2.2]; exact hlt
      have hft := flatP_take17 ts i hit
      have hlen := flatP_take_len17 ts (i + 1)
      rw [HT.out.1, HB.out.2.2.2.1] at hlen
      have hokt := HT.out.2.1 ts[i] (List.getElem_mem hit)
      obtain ⟨⟨ep, ec, eb⟩, htt⟩ : ∃ t, t = ts[i] := ⟨_, rfl⟩
      rw [← htt] at hft hokt
      simp only at hft hokt
      have hcell : ∀ wx X, Sat W wx (seg true gp 0 (ts.map pieceV) :: seg true gs 0 [.slice tp tn tc, .int .i64 at_, .int .u8 (v8 sb)] :: X) → wx.cell? ⟨gp, i, none⟩ = some (.slice ep eb.length ec) ∧ gp < wx.heap.size ∧ wx.cell? ⟨gs, 2, none⟩ = some (.int .u8 (v8 sb)) ∧ gs < wx.heap.size := fun wx X h => by
        have h2 : Sat W wx (seg true gs 0 [.slice tp tn tc, .int .i64 at_, .int .u8 (v8 sb)] :: _) := h.pull 1
        exact ⟨h.at i (v := .slice ep eb.length ec) (by rw [List.getElem?_map, List.getElem?_eq_getElem hit, ← htt]; rfl), h.lt (by rw [List.length_map]; omega), h2.at 2 rfl, h2.lt (by simp)⟩
      have sp : Sat W wr (allRo ts :: ses kd sa key' custom' o (flatP (ts.take i)) :: ses kd sc b1 b2 o M2 :: ledO (some l) (runsOn kd kn' cn' (flatP (ts.take i)).length) :: ledO (some k) (runsOn kd kn' cn' (flatP (ts.take i)).length) :: seg true gp 0 (ts.map pieceV) :: seg true gs 0 [.slice tp tn tc, .int .i64 at_, .int .u8 (v8 sb)] :: []) := (Sat.sub (s) (by (repeat (first | with_reducible exact Fr.done | with_reducible exact Fr.nil | (with_reducible apply Fr.cons; (focus ((repeat (first | with_reducible exact Take.here | with_reducible apply Take.there)); done))) | with_reducible apply Fr.skip))))
      have sq := allPeek (t := ((ep, ec, eb) : Piece)) sp (by rw [htt]; exact List.getElem_mem hit)
      simp only at sq
      obtain ⟨M, hM⟩ : ∃ M, M = flatP (ts.take i) := ⟨_, rfl⟩
      rw [← hM] at hft sq
      have hM2' := HM2.out
      rw [← hM] at hM2'
      rw [hft, List.length_append] at hlen
      have HX := Lib.hid (And.intro hft (And.intro hokt (And.intro hlen (And.intro hM2' hcell)))); clear hft hokt hlen hM2' hcell hM htt sp s hit HM2
      have sqd := sq.drew
      have hin : (i : Int) < (N : Int) := by omega
      go_wp2_with fail
      refine region_E (fun w' => w'.cell? ⟨gp, i, none⟩ = some (.slice ep eb.length ec) ∧ gp < w'.heap.size ∧ w'.cell? ⟨gs, 2, none⟩ = some (.int .u8 (v8 sb)) ∧ gs < w'.heap.size) [5, 14, 16] (by kernel_rfl) ?_
      have hHeld := HX.out.2.2.2.2 _ [] (Sat.sub (sqd) (by (repeat (first | with_reducible exact Fr.done | with_reducible exact Fr.nil | (with_reducible apply Fr.cons; (focus ((repeat (first | with_reducible exact Take.here | with_reducible apply Take.there)); done))) | with_reducible apply Fr.skip))))
      refine anyE_pure (i := 0) (x := ?_) (v := ?_) ?_ (by kernel_rfl) (by kernel_rfl) (by kernel_rfl) ?_ ?_ ?_
      rotate_left 2
      · (simp only [List.getElem?_toArray, List.getElem?_cons_succ, List.getElem?_cons_zero]; rfl)
      · exact fun _ _ _ h => h
      · refine Or.inl ⟨by rfl, ?_⟩
        intro w hSw
        go_simp
        try (with_reducible rfl)
      try simp only [Act.put, List.setIfInBounds_toArray, List.set_cons_zero, List.set_cons_succ]
      refine anyE_pure (i := 1) (x := ?_) (v := ?_) ?_ (by kernel_rfl) (by kernel_rfl) (by kernel_rfl) ?_ ?_ ?_
      rotate_left 2
      · (simp only [List.getElem?_toArray, List.getElem?_cons_succ, List.getElem?_cons_zero]; rfl)
      · exact fun _ _ _ h => h
      · refine Or.inl ⟨by rfl, ?_⟩
        intro w hSw
        go_simp
        try (with_reducible rfl)
      try simp only [Act.put, List.setIfInBounds_toArray, List.set_cons_zero, List.set_cons_succ]
      refine anyE_pure (i := 2) (x := ?_) (v := ?_) ?_ (by kernel_rfl) (by kernel_rfl) (by kernel_rfl) ?_ ?_ ?_
      rotate_left 2
      · (simp only [List.getElem?_toArray, List.getElem?_cons_succ, List.getElem?_cons_zero]; rfl)
      · exact fun _ _ _ h => h
      · refine Or.inl ⟨by rfl, ?_⟩
        intro w hSw
        go_simp
        try (with_reducible rfl)
      try simp only [Act.put, List.setIfInBounds_toArray, List.set_cons_zero, List.set_cons_succ]
      refine anyE_pure (i := 3) (x := ?_) (v := ?_) ?_ (by kernel_rfl) (by kernel_rfl) (by kernel_rfl) ?_ ?_ ?_
      rotate_left 2
      · (simp only [List.getElem?_toArray, List.getElem?_cons_succ, List.getElem?_cons_zero]; rfl)
      · exact fun _ _ _ h => h
      · refine Or.inl ⟨by rfl, ?_⟩
        intro w hSw
        go_simp
        try (with_reducible rfl)
      try simp only [Act.put, List.setIfInBounds_toArray, List.set_cons_zero, List.set_cons_succ]
      refine anyE_pure (i := 4) (x := ?_) (v := ?_) ?_ (by kernel_rfl) (by kernel_rfl) (by kernel_rfl) ?_ ?_ ?_
      rotate_left 2
      · (simp only [List.getElem?_toArray, List.getElem?_cons_succ, List.getElem?_cons_zero]; rfl)
      · exact fun _ _ _ h => h
      · refine Or.inl ⟨by rfl, ?_⟩
        intro w hSw
        go_simp
        try (with_reducible rfl)
      try simp only [Act.put, List.setIfInBounds_toArray, List.set_cons_zero, List.set_cons_succ]
      refine anyE_take (i := 5) (x := ?_) (v := ?_) ?_ (by kernel_rfl) (by kernel_rfl) (by kernel_rfl) (by kernel_rfl) ?_ ?_ hHeld ?_
      rotate_left 2
      · (simp only [List.getElem?_toArray, List.getElem?_cons_succ, List.getElem?_cons_zero]; rfl)
      · exact fun _ _ _ h => h
      · refine Or.inl ⟨by rfl, ?_⟩
        intro w hSw
        (try dsimp only at hSw)
        go_simp
        try (with_reducible rfl)
      try simp only [Act.put, List.setIfInBounds_toArray, List.set_cons_zero, List.set_cons_succ]
      refine anyE_one (i := 6) (x := ?_) ?_ (by kernel_rfl) (fun K hK => ?_)
      rotate_left
      · (simp only [List.getElem?_toArray, List.getElem?_cons_succ, List.getElem?_cons_zero]; rfl)
      go_simp
      refine (macWrite (pv := .pointer (some ⟨l, 0, none⟩)) (L := allRo ts :: ses kd sc b1 b2 o M2 :: ledO (some k) (runsOn kd kn' cn' M.length) :: seg true gp 0 (ts.map pieceV) :: seg true gs 0 [.slice tp tn tc, .int .i64 at_, .int .u8 (v8 sb)] :: []) kd (some l) (runsOn kd kn' cn' M.length) key' custom' M eb rfl HG.out.1 (roomyN (runsOn_bd kd kn' cn' M.length HKB.out.1 HKB.out.2 (by have := HX.out.2.2.1; have := HPN.out; omega)) (by omega) (by omega)) rfl HX.out.2.1.1 HX.out.2.1.2 (by have := HX.out.2.2.1; have := HPN.out; omega) (Sat.sub (sqd) (by (repeat (first | with_reducible exact Fr.done | with_reducible exact Fr.nil | (with_reducible apply Fr.cons; (focus ((repeat (first | with_reducible exact Take.here | with_reducible apply Take.there)); done))) | with_reducible apply Fr.skip))))).mono ?_
      rintro e w18 ⟨rfl, s18'⟩
      rw [HG.out.2.1, runsOn_add] at s18'
      have s18 : Sat W w18 (bytes false ep eb :: ses kd sc b1 b2 o M2 :: ledO (some k) (runsOn kd kn' cn' M.length) :: allRo ts :: ses kd sa key' custom' o (M ++ eb) :: ledO (some l) (runsOn kd kn' cn' (M.length + eb.length)) :: seg true gp 0 (ts.map pieceV) :: seg true gs 0 [.slice tp tn tc, .int .i64 at_, .int .u8 (v8 sb)] :: []) := (Sat.sub (s18') (by (repeat (first | with_reducible exact Fr.done | with_reducible exact Fr.nil | (with_reducible apply Fr.cons; (focus ((repeat (first | with_reducible exact Take.here | with_reducible apply Take.there)); done))) | with_reducible apply Fr.skip))))
      have hk18 := HX.out.2.2.2.2 w18 [] (Sat.sub (s18) (by (repeat (first | with_reducible exact Fr.done | with_reducible exact Fr.nil | (with_reducible apply Fr.cons; (focus ((repeat (first | with_reducible exact Take.here | with_reducible apply Take.there)); done))) | with_reducible apply Fr.skip))))
      go_wp2_with fail
      refine hK.out _ _ hk18 ?_
      clear hK K hHeld
      have hHeld := hk18
      try simp only [Act.put, List.setIfInBounds_toArray, List.set_cons_zero, List.set_cons_succ]
      clear sq sqd s18'
      refine anyE_pure (i := 7) (x := ?_) (v := ?_) ?_ (by kernel_rfl) (by kernel_rfl) (by kernel_rfl) ?_ ?_ ?_
      rotate_left 2
      · (simp only [List.getElem?_toArray, List.getElem?_cons_succ, List.getElem?_cons_zero]; rfl)
      · exact fun _ _ _ h => h
      · refine Or.inl ⟨by rfl, ?_⟩
        intro w hSw
        go_simp
        try (with_reducible rfl)
      try simp only [Act.put, List.setIfInBounds_toArray, List.set_cons_zero, List.set_cons_succ]
      refine anyE_pure (i := 8) (x := ?_) (v := ?_) ?_ (by kernel_rfl) (by kernel_rfl) (by kernel_rfl) ?_ ?_ ?_
      rotate_left 2
      · (simp only [List.getElem?_toArray, List.getElem?_cons_succ, List.getElem?_cons_zero]; rfl)
      · exact fun _ _ _ h => h
      · refine Or.inl ⟨by rfl, ?_⟩
        intro w hSw
        go_simp
        try (with_reducible rfl)
      try simp only [Act.put, List.setIfInBounds_toArray, List.set_cons_zero, List.set_cons_succ]
      refine anyE_pure (i := 9) (x := ?_) (v := ?_) ?_ (by kernel_rfl) (by kernel_rfl) (by kernel_rfl) ?_ ?_ ?_
      rotate_left 2
      · (simp only [List.getElem?_toArray, List.getElem?_cons_succ, List.getElem?_cons_zero]; rfl)
      · exact fun _ _ _ h => h
      · refine Or.inl ⟨by rfl, ?_⟩
        intro w hSw
        go_simp
        try (with_reducible rfl)
      try simp only [Act.put, List.setIfInBounds_toArray, List.set_cons_zero, List.set_cons_succ]
      refine anyE_pure (i := 10) (x := ?_) (v := ?_) ?_ (by kernel_rfl) (by kernel_rfl) (by kernel_rfl) ?_ ?_ ?_
      rotate_left 2
      · (simp only [List.getElem?_toArray, List.getElem?_cons_succ, List.getElem?_cons_zero]; rfl)
      · exact fun _ _ _ h => h
      · refine Or.inl ⟨by rfl, ?_⟩
        intro w hSw
        go_simp
        try (with_reducible rfl)
      try simp only [Act.put, List.setIfInBounds_toArray, List.set_cons_zero, List.set_cons_succ]
      refine anyE_pure (i := 11) (x := ?_) (v := ?_) ?_ (by kernel_rfl) (by kernel_rfl) (by kernel_rfl) ?_ ?_ ?_
      rotate_left 2
      · (simp only [List.getElem?_toArray, List.getElem?_cons_succ, List.getElem?_cons_zero]; rfl)
      · exact fun _ _ _ h => h
      · refine Or.inl ⟨by rfl, ?_⟩
        intro w hSw
        go_simp
        try (with_reducible rfl)
      try simp only [Act.put, List.setIfInBounds_toArray, List.set_cons_zero, List.set_cons_succ]
      refine anyE_pure (i := 12) (x := ?_) (v := ?_) ?_ (by kernel_rfl) (by kernel_rfl) (by kernel_rfl) ?_ ?_ ?_
      rotate_left 2
      · (simp only [List.getElem?_toArray, List.getElem?_cons_succ, List.getElem?_cons_zero]; rfl)
      · exact fun _ _ _ h => h
      · refine Or.inl ⟨by rfl, ?_⟩
        intro w hSw
        go_simp
        try (with_reducible rfl)
      try simp only [Act.put, List.setIfInBounds_toArray, List.set_cons_zero, List.set_cons_succ]
      refine anyE_pure (i := 13) (x := ?_) (v := ?_) ?_ (by kernel_rfl) (by kernel_rfl) (by kernel_rfl) ?_ ?_ ?_
      rotate_left 2
      · (simp only [List.getElem?_toArray, List.getElem?_cons_succ, List.getElem?_cons_zero]; rfl)
      · exact fun _ _ _ h => h
      · refine Or.inl ⟨by rfl, ?_⟩
        intro w hSw
        go_simp
        try (with_reducible rfl)
      try simp only [Act.put, List.setIfInBounds_toArray, List.set_cons_zero, List.set_cons_succ]
      refine anyE_take (i := 14) (x := ?_) (v := ?_) ?_ (by kernel_rfl) (by kernel_rfl) (by kernel_rfl) (by kernel_rfl) ?_ ?_ hHeld ?_
      rotate_left 2
      · (simp only [List.getElem?_toArray, List.getElem?_cons_succ, List.getElem?_cons_zero]; rfl)
      · exact fun _ _ _ h => h
      · refine Or.inl ⟨by rfl, ?_⟩
        intro w hSw
        (try dsimp only at hSw)
        go_simp
        try (with_reducible rfl)
      try simp only [Act.put, List.setIfInBounds_toArray, List.set_cons_zero, List.set_cons_succ]
      refine anyE_pure (i := 15) (x := ?_) (v := ?_) ?_ (by kernel_rfl) (by kernel_rfl) (by kernel_rfl) ?_ ?_ ?_
      rotate_left 2
      · (simp only [List.getElem?_toArray, List.getElem?_cons_succ, List.getElem?_cons_zero]; rfl)
      · exact fun _ _ _ h => h
      · refine Or.inl ⟨by rfl, ?_⟩
        intro w hSw
        go_simp
        try (with_reducible rfl)
      try simp only [Act.put, List.setIfInBounds_toArray, List.set_cons_zero, List.set_cons_succ]
      refine anyE_take (i := 16) (x := ?_) (v := ?_) ?_ (by kernel_rfl) (by kernel_rfl) (by kernel_rfl) (by kernel_rfl) ?_ ?_ hHeld ?_
      rotate_left 2
      · (simp only [List.getElem?_toArray, List.getElem?_cons_succ, List.getElem?_cons_zero]; rfl)
      · exact fun _ _ _ h => h
      · refine Or.inl ⟨by rfl, ?_⟩
        intro w hSw
        (try dsimp only at hSw)
        go_simp
        try (with_reducible rfl)
      try simp only [Act.put, List.setIfInBounds_toArray, List.set_cons_zero, List.set_cons_succ]
      refine anyE_one (i := 17) (x := ?_) ?_ (by kernel_rfl) (fun K hK => ?_)
      rotate_left
      · (simp only [List.getElem?_toArray, List.getElem?_cons_succ, List.getElem?_cons_zero]; rfl)
      go_simp
      refine (other17 eb sb rfl (by have := HX.out.2.2.1; have := HPN.out; omega) s18).mono ?_
      rintro e w19 ⟨x4, c4, b4, rfl, hb4', hc4', hd4', s19'⟩
      have hb4 := Lib.hid hb4'
      have hcd4 := Lib.hid (And.intro hc4' hd4')
      have s19 : Sat W w19 (ledO (some k) (runsOn kd kn' cn' M.length) :: bytes true x4 b4 :: ses kd sc b1 b2 o M2 :: allRo ts :: ses kd sa key' custom' o (M ++ eb) :: ledO (some l) (runsOn kd kn' cn' (M.length + eb.length)) :: seg true gp 0 (ts.map pieceV) :: seg true gs 0 [.slice tp tn tc, .int .i64 at_, .int .u8 (v8 sb)] :: []) := (Sat.sub (s19') (by (repeat (first | with_reducible exact Fr.done | with_reducible exact Fr.nil | (with_reducible apply Fr.cons; (focus ((repeat (first | with_reducible exact Take.here | with_reducible apply Take.there)); done))) | with_reducible apply Fr.skip))))
      clear hb4' hc4' hd4'
      have hk19 := HX.out.2.2.2.2 w19 [] (Sat.sub (s19) (by (repeat (first | with_reducible exact Fr.done | with_reducible exact Fr.nil | (with_reducible apply Fr.cons; (focus ((repeat (first | with_reducible exact Take.here | with_reducible apply Take.there)); done))) | with_reducible apply Fr.skip))))
      go_wp2_with fail
      refine hK.out _ _ hk19 ?_
      clear hK K hHeld
      have hHeld := hk19
      try simp only [Act.put, List.setIfInBounds_toArray, List.set_cons_zero, List.set_cons_succ]
      clear s18 s19' hk18
      refine anyE_one (i := 18) (x := ?_) ?_ (by kernel_rfl) (fun K hK => ?_)
      rotate_left
      · (simp only [List.getElem?_toArray, List.getElem?_cons_succ, List.getElem?_cons_zero]; rfl)
      go_simp
      refine (macWrite (pv := .pointer (some ⟨k, 0, none⟩)) kd (some k) (runsOn kd kn' cn' M.length) b1 b2 M2 b4 rfl HFB.out (roomyN (runsOn_bd kd kn' cn' M.length HKB.out.1 HKB.out.2 (by have := HX.out.2.2.1; have := HPN.out; omega)) (by omega) (by omega)) hb4.out hcd4.out.1 hcd4.out.2 (by have := HX.out.2.2.1; have := HPN.out; have := HX.out.2.2.2.1; omega) s19).mono ?_
      rintro e w20 ⟨rfl, s20'⟩
      rw [HB1.out.1, HX.out.2.2.2.1, runsOn_add] at s20'
      have s20 : Sat W w20 (ses kd sa key' custom' o (M ++ eb) :: ses kd sc b1 b2 o (M2 ++ b4) :: ledO (some l) (runsOn kd kn' cn' (M.length + eb.length)) :: ledO (some k) (runsOn kd kn' cn' (M.length + eb.length)) :: seg true gp 0 (ts.map pieceV) :: allRo ts :: seg true gs 0 [.slice tp tn tc, .int .i64 at_, .int .u8 (v8 sb)] :: []) := (Sat.sub (s20') (by (repeat (first | with_reducible exact Fr.done | with_reducible exact Fr.nil | (with_reducible apply Fr.cons; (focus ((repeat (first | with_reducible exact Take.here | with_reducible apply Take.there)); done))) | with_reducible apply Fr.skip))))
      have hk20 := HX.out.2.2.2.2 w20 [] (Sat.sub (s20) (by (repeat (first | with_reducible exact Fr.done | with_reducible exact Fr.nil | (with_reducible apply Fr.cons; (focus ((repeat (first | with_reducible exact Take.here | with_reducible apply Take.there)); done))) | with_reducible apply Fr.skip))))
      go_wp2_with fail
      refine hK.out _ _ hk20 ?_
      clear hK K hHeld
      have hHeld := hk20
      try simp only [Act.put, List.setIfInBounds_toArray, List.set_cons_zero, List.set_cons_succ]
      clear s19 s20' hk19
      refine anyE_pure (i := 19) (x := ?_) (v := ?_) ?_ (by kernel_rfl) (by kernel_rfl) (by kernel_rfl) ?_ ?_ ?_
      rotate_left 2
      · (simp only [List.getElem?_toArray, List.getElem?_cons_succ, List.getElem?_cons_zero]; rfl)
      · exact fun _ _ _ h => h
      · refine Or.inl ⟨by rfl, ?_⟩
        intro w hSw
        go_simp
        try (with_reducible rfl)
      try simp only [Act.put, List.setIfInBounds_toArray, List.set_cons_zero, List.set_cons_succ]
      refine anyE_pure (i := 20) (x := ?_) (v := ?_) ?_ (by kernel_rfl) (by kernel_rfl) (by kernel_rfl) ?_ ?_ ?_
      rotate_left 2
      · (simp only [List.getElem?_toArray, List.getElem?_cons_succ, List.getElem?_cons_zero]; rfl)
      · exact fun _ _ _ h => h
      · refine Or.inl ⟨by rfl, ?_⟩
        intro w hSw
        go_simp
        try (with_reducible rfl)
      try simp only [Act.put, List.setIfInBounds_toArray, List.set_cons_zero, List.set_cons_succ]
      refine anyE_done (by kernel_rfl) ?_ _
      clear hHeld hk20
      have HS := Lib.hid s20; clear s20
      go_wp2_with fail
      go_roundw
      case rel =>
        refine ⟨i + 1, M2 ++ b4, by omega, by go_num, ?_, ?_⟩
        · rw [HX.out.1, List.length_append, List.length_append, HX.out.2.2.2.1, hb4.out]
        · have s8 := HS.out
          rw [HX.out.1, List.length_append]
          exact (Sat.sub (s8) (by (repeat (first | with_reducible exact Fr.done | with_reducible exact Fr.nil | (with_reducible apply Fr.cons; (focus ((repeat (first | with_reducible exact Take.here | with_reducible apply Take.there)); done))) | with_reducible apply Fr.skip))))
      case measure => simp [intOf]; omega
    · obtain rfl : i = N := by omega
      rw [HT.out.2.2, List.take_of_length_le (Nat.le_refl _), HT.out.1, HB.out.2.2.2.1] at s
      have hm2 := HM2.out
      rw [HT.out.2.2, List.take_of_length_le (Nat.le_refl _), HT.out.1, HB.out.2.2.2.1] at hm2
      have hr0 := runsOn_bd kd kn' cn' pn HKB.out.1 HKB.out.2 (by have := HPN.out; omega)
      have hfin := kd.fin_tot pn o
      obtain ⟨R0, hR0⟩ : ∃ R, R = runsOn kd kn' cn' pn := ⟨_, rfl⟩
      rw [← hR0] at s hr0
      clear hR0
      have hr1 := bdN hr0 kd.ek (kd.es kn') (kd.fin pn o)
      obtain ⟨R1, hR1⟩ : ∃ R, R = noteN R0 kd.ek (kd.es kn') (kd.fin pn o) := ⟨_, rfl⟩
      rw [← hR1] at hr1
      have hr2 := bd1 (bdN hr1 kd.ek (kd.es kn') (kd.fin pn o)) 6 (o : Int) 1
      obtain ⟨R2, hR2⟩ : ∃ R, R = note (noteN R1 kd.ek (kd.es kn') (kd.fin pn o)) 6 (o : Int) 1 := ⟨_, rfl⟩
      rw [← hR2] at hr2
      have hr3 := bd1 hr2 8 (kd.formN kn' : Int) 1
      obtain ⟨R3, hR3⟩ : ∃ R, R = note R2 8 (kd.formN kn' : Int) 1 := ⟨_, rfl⟩
      rw [← hR3] at hr3
      have ro0 : Roomy R0 := roomyN hr0 (by omega) (by omega)
      have ro1 : Roomy R1 := roomyN hr1 (by omega) (by omega)
      have ro2 : Roomy R2 := roomyN hr2 (by omega) (by omega)
      have hl3 : R3.length ≤ 1000000000 := by omega
      have hpb : P.length ≤ 1000000000 := by have := HPN.out; rw [HB.out.2.2.2.1]; omega
      have hpb2 : M2.length ≤ 1000000000 := by have := HPN.out; rw [hm2]; omega
      have HR := Lib.hid (And.intro ro0 (And.intro ro1 (And.intro ro2 (And.intro hl3 (And.intro hpb (And.intro hpb2 (And.intro hm2 (And.intro hR1 (And.intro hR2 hR3)))))))))
      clear ro0 ro1 ro2 hl3 hpb hpb2 hm2 hR1 hR2 hR3 hr0 hr1 hr2 hr3 hfin HM2
      have fb := HFB
      have t1 : Sat W wr (ledO (some l) R0 :: ses kd sa key' custom' o P :: ses kd sc b1 b2 o M2 :: ledO (some k) R0 :: []) := (Sat.sub (s) (by (repeat (first | with_reducible exact Fr.done | with_reducible exact Fr.nil | (with_reducible apply Fr.cons; (focus ((repeat (first | with_reducible exact Take.here | with_reducible apply Take.there)); done))) | with_reducible apply Fr.skip))))
      clear s
      go_wp2_with fail
      refine (macSum (pv := .pointer (some ⟨l, 0, none⟩)) kd (some l) R0 key' custom' P rfl HG.out.1 HR.out.1 HR.out.2.2.2.2.1 t1).mono ?_
      rintro e w21 ⟨qt, ct, rfl, t2'⟩
      rw [HG.out.2.1, HB.out.2.2.2.1, ← HR.out.2.2.2.2.2.2.2.1] at t2'
      obtain ⟨htl, htc, htm, t2''⟩ := rowBytes t2'
      obtain ⟨T, hT⟩ : ∃ T, T = kd.tag key' custom' o P := ⟨_, rfl⟩
      rw [← hT] at t2'' htl
      have t2 : Sat W w21 (ledO (some k) R0 :: ses kd sc b1 b2 o M2 :: bytes true qt T :: ledO (some l) R1 :: ses kd sa key' custom' o P :: []) := (Sat.sub (t2'') (by (repeat (first | with_reducible exact Fr.done | with_reducible exact Fr.nil | (with_reducible apply Fr.cons; (focus ((repeat (first | with_reducible exact Take.here | with_reducible apply Take.there)); done))) | with_reducible apply Fr.skip))))
      have HT2 := Lib.hid (And.intro htl (And.intro htc htm))
      clear htl htc htm t1 t2' t2'' hT
      go_wp2_with fail
      refine (macSum (pv := .pointer (some ⟨k, 0, none⟩)) kd (some k) R0 b1 b2 M2 rfl fb.out HR.out.1 HR.out.2.2.2.2.2.1 t2).mono ?_
      rintro e w22 ⟨qt2, ct2, rfl, t3'⟩
      rw [HB1.out.1, HR.out.2.2.2.2.2.2.1, ← HR.out.2.2.2.2.2.2.2.1] at t3'
      have t3 : Sat W w22 (ledO (some l) R1 :: bytes true qt T :: ses kd sa key' custom' o P :: ledO (some k) R1 :: ses kd sc b1 b2 o M2 :: []) := (Sat.sub (t3') (by (repeat (first | with_reducible exact Fr.done | with_reducible exact Fr.nil | (with_reducible apply Fr.cons; (focus ((repeat (first | with_reducible exact Take.here | with_reducible apply Take.there)); done))) | with_reducible apply Fr.skip))))
      clear t2 t3'
      go_wp2_with fail
      refine (macVerify (pv := .pointer (some ⟨l, 0, none⟩)) kd (some l) R1 key' custom' P T rfl HG.out.1 HR.out.2.1 HR.out.2.2.2.2.1 HT2.out.1 t3).mono ?_
      rintro e w23 ⟨rfl, t4'⟩
      rw [HG.out.2.1, HB.out.2.2.2.1, ← HR.out.2.2.2.2.2.2.2.2.1] at t4'
      obtain ⟨v1, hv1⟩ : ∃ v1, v1 = decide (kd.tag key' custom' o P = T) := ⟨_, rfl⟩
      rw [← hv1]
      have t4 : Sat W w23 (ledO (some k) R1 :: bytes true qt T :: ses kd sc b1 b2 o M2 :: ledO (some l) R2 :: ses kd sa key' custom' o P :: []) := (Sat.sub (t4') (by (repeat (first | with_reducible exact Fr.done | with_reducible exact Fr.nil | (with_reducible apply Fr.cons; (focus ((repeat (first | with_reducible exact Take.here | with_reducible apply Take.there)); done))) | with_reducible apply Fr.skip))))
      clear t3 t4' hv1
      go_wp2_with fail
      refine (macVerify (pv := .pointer (some ⟨k, 0, none⟩)) kd (some k) R1 b1 b2 M2 T rfl fb.out HR.out.2.1 HR.out.2.2.2.2.2.1 HT2.out.1 t4).mono ?_
      rintro e w24 ⟨rfl, t5'⟩
      rw [HB1.out.1, HR.out.2.2.2.2.2.2.1, ← HR.out.2.2.2.2.2.2.2.2.1] at t5'
      obtain ⟨v2, hv2⟩ : ∃ v2, v2 = decide (kd.tag b1 b2 o M2 = T) := ⟨_, rfl⟩
      rw [← hv2]
      have t5 : Sat W w24 (ledO (some l) R2 :: ses kd sa key' custom' o P :: ledO (some k) R2 :: ses kd sc b1 b2 o M2 :: []) := (Sat.sub (t5') (by (repeat (first | with_reducible exact Fr.done | with_reducible exact Fr.nil | (with_reducible apply Fr.cons; (focus ((repeat (first | with_reducible exact Take.here | with_reducible apply Take.there)); done))) | with_reducible apply Fr.skip))))
      clear t4 t5' hv2
      go_wp2_with fail
      refine (macWipe (pv := .pointer (some ⟨l, 0, none⟩)) kd (some l) R2 key' custom' P rfl HG.out.1 HR.out.2.2.1 HR.out.2.2.2.2.1 t5).mono ?_
      rintro e w25 ⟨rfl, t6'⟩
      rw [HG.out.2.1, ← HR.out.2.2.2.2.2.2.2.2.2] at t6'
      have t6 : Sat W w25 (ledO (some k) R2 :: ses kd sc b1 b2 o M2 :: ledO (some l) R3 :: []) := (Sat.sub (t6') (by (repeat (first | with_reducible exact Fr.done | with_reducible exact Fr.nil | (with_reducible apply Fr.cons; (focus ((repeat (first | with_reducible exact Take.here | with_reducible apply Take.there)); done))) | with_reducible apply Fr.skip))))
      clear t5 t6'
      go_wp2_with fail
      refine (macWipe (pv := .pointer (some ⟨k, 0, none⟩)) kd (some k) R2 b1 b2 M2 rfl fb.out HR.out.2.2.1 HR.out.2.2.2.2.2.1 t6).mono ?_
      rintro e w26 ⟨rfl, t7'⟩
      rw [HB1.out.1, ← HR.out.2.2.2.2.2.2.2.2.2] at t7'
      have t7 : Sat W w26 (ledO (some l) R3 :: ledO (some k) R3 :: []) := (Sat.sub (t7') (by (repeat (first | with_reducible exact Fr.done | with_reducible exact Fr.nil | (with_reducible apply Fr.cons; (focus ((repeat (first | with_reducible exact Take.here | with_reducible apply Take.there)); done))) | with_reducible apply Fr.skip))))
      clear t6 t7'
      go_wp2_with fail
      refine (ledRunsF HR.out.2.2.2.1 t7).mono ?_
      rintro e w27 ⟨rq, rc, rfl, t8'⟩
      have t8 : Sat W w27 (ledO (some k) R3 :: runsA true rq R3 :: []) := (Sat.sub (t8') (by (repeat (first | with_reducible exact Fr.done | with_reducible exact Fr.nil | (with_reducible apply Fr.cons; (focus ((repeat (first | with_reducible exact Take.here | with_reducible apply Take.there)); done))) | with_reducible apply Fr.skip))))
      clear t7 t8'
      go_wp2_with fail
      refine (ledRunsF HR.out.2.2.2.1 t8).mono ?_
      rintro e w28 ⟨rq2, rc2, rfl, t9'⟩
      have t9 : Sat W w28 (runsA true rq R3 :: runsA true rq2 R3 :: []) := (Sat.sub (t9') (by (repeat (first | with_reducible exact Fr.done | with_reducible exact Fr.nil | (with_reducible apply Fr.cons; (focus ((repeat (first | with_reducible exact Take.here | with_reducible apply Take.there)); done))) | with_reducible apply Fr.skip))))
      clear t8 t9'
      obtain ⟨rn, hrn⟩ : ∃ n, n = R3.length := ⟨_, rfl⟩
      rw [← hrn]
      have HRN := Lib.hid hrn; clear hrn
      go_wp2_with fail
      refine (sameRuns R3 HRN.out.symm HRN.out.symm (by rw [HRN.out]; exact HR.out.2.2.2.1) t9).mono ?_
      rintro e w29 ⟨rfl, t10⟩
      have HS := Lib.hid t10.below; clear t9 t10
      go_wp2_with fail
      go_ret
      exact ⟨rfl, HS.out⟩
end Go.Proofs.YtooolimpkafhaaaGreat
