
/- MacPieces: however a message is cut; what Verify takes; where the arguments read as a case, bytes and a spoil of bulk at most 1048576. -/
import Derived.Test.YtooolimpkafhaaaGreatL17j
namespace Go.Proofs.YtooolimpkafhaaaGreat
open Go.RowKit Go.Sep Go.Bv Go.Kec Go.Aes Go.Sha
set_option linter.unusedVariables false
set_option linter.unusedSimpArgs false
theorem spoil_eq (T : List Byte) (j : Nat) (hj : j < T.length) (sb : Byte) : decide (T = T.set j (T.getD j 0 ^^^ sb)) = (v8 sb == 0) := by
  by_cases h : sb = 0
  · subst h
    have h1 : T.getD j 0 ^^^ 0 = T[j] := by simp [hj]
    rw [h1, List.set_getElem_self, decide_eq_true rfl]
    rfl
  · have h2 : (v8 sb == 0) = false := by
      rw [beq_eq_false_iff_ne]
      intro e
      exact h (v8_inj (e.trans (show (0 : Int) = v8 0 from rfl)))
    rw [h2, decide_eq_false_iff_not]
    intro e
    have h3 : T.getD j 0 = T.getD j 0 ^^^ sb := by
      have h4 := congrArg (fun l : List Byte => l.getD j 0) e
      simpa [hj] using h4
    apply h
    have h5 := congrArg (fun x => T.getD j 0 ^^^ x) h3
    simp only [← BitVec.xor_assoc, BitVec.xor_self, BitVec.zero_xor] at h5
    exact h5.symm
set_option maxRecDepth 100000 in
set_option maxHeartbeats 8000000 in
theorem macPieces_any (W : World) (x : CaseC) (key custom : List Byte) (h : CaseA W x key custom) (a2 : Option Addr × Nat × Nat × List Byte) (hP : IsBytes W a2.1 a2.2.1 a2.2.2.1 a2.2.2.2) (y : SpoilC) (C : List Byte) (hS : SpoilA W y C) (hb : x.kc + x.cc ≤ 1048576) (hpb : a2.2.2.1 ≤ 1048576) (hyb : y.tc ≤ 1048576) :
    Calls Tryz.prog 6 #[.agg (encC x).toArray, .slice a2.1 a2.2.1 a2.2.2.1, .agg (encS y).toArray] W fun e W' => e = .returned (.bool true) ∧ Below W.heap.size W W' := by
  obtain ⟨pp, pn, pc, P⟩ := a2
  simp only at hP hpb ⊢
  obtain ⟨⟨b, hb8⟩, hkey, hcus, ho⟩ := h
  obtain ⟨hsp, ⟨sb, hsb⟩, hat⟩ := hS
  have s0 : Sat W W (bytes false x.kp key :: bytes false x.cp custom :: bytes false pp P :: bytes false y.tp C :: []) := hkey.sat (hcus.sat (hP.sat (hsp.sat (Sat.nil W))))
  obtain ⟨hk1, hk2, hk3, -⟩ := hkey
  obtain ⟨hc1, hc2, hc3, -⟩ := hcus
  obtain ⟨hp1, hp2, hp3, -⟩ := hP
  obtain ⟨hs1, hs2, hs3, -⟩ := hsp
  obtain ⟨xa, kp, kn, kc, cp, cn, cc, out⟩ := x
  obtain ⟨tp, tn, tc, at_, bit⟩ := y
  simp only at hb8 s0 hk1 hk2 hk3 hc1 hc2 hc3 ho hb hs1 hs2 hs3 hsb hyb
  obtain ⟨a, ha⟩ : ∃ a : Nat, (a : Int) = v8 b := ⟨b.toNat, rfl⟩
  rw [← ha] at hb8
  have ha256 : a < 256 := by have := (v8_bd b).2; omega
  subst hb8 hsb
  clear ha
  show Calls Tryz.prog 6 #[.agg (CellsC a kp kn kc cp cn cc out).toArray, .slice pp pn pc, .agg #[.slice tp tn tc, .int .i64 at_, .int .u8 (v8 sb)]] W _
  have HF := Lib.hid (hF17_all W)
  have HFS := Lib.hid (hFS17_all W)
  have hbg := fun (w : World) (X : List Assn) (s : Sat W w (bytes false kp key :: bytes false cp custom :: X)) => begun17 (out := out) key custom hk1 hk2 hk3 hc1 hc2 hc3 ha256 (by omega) (by omega) s
  have hpn : pn ≤ 1048576 := by omega
  have htn : tn ≤ 1048576 := by omega
  have HB := Lib.hid (And.intro hbg (And.intro hpn (And.intro htn (And.intro hp1 (And.intro hp2 (And.intro hp3 (And.intro hs1 (And.intro hs2 (And.intro hs3 hat))))))))); clear hbg hk1 hk2 hk3 hc1 hc2 hc3 ha256 ho hb hpb hpn htn hp1 hp2 hp3 hs1 hs2 hs3 hyb hat
  go_enter Tryz.func6, Tryz.ntmps6
  go_wp2_with (first | (refine wpl_box rfl 25 (.tmp 0) rfl (CellsC a kp kn kc cp cn cc out) rfl s0 ?_; intro w1 gx s1 _; clear s0) | (refine wpl_box rfl 45 (.tmp 2) rfl [.slice tp tn tc, .int .i64 at_, .int .u8 (v8 sb)] rfl s1 ?_; intro w2 gs s2 _; clear s1))
  refine (lives17 s2).mono ?_
  rintro e w3 ⟨rfl, s3'⟩
  have s3 : Sat W w3 (seg true gx 0 (CellsC a kp kn kc cp cn cc out) :: bytes false kp key :: bytes false cp custom :: bytes false pp P :: bytes false tp C :: seg true gs 0 [.slice tp tn tc, .int .i64 at_, .int .u8 (v8 sb)] :: []) := (Sat.sub (s3') (by (repeat (first | with_reducible exact Fr.done | with_reducible exact Fr.nil | (with_reducible apply Fr.cons; (focus ((repeat (first | with_reducible exact Take.here | with_reducible apply Take.there)); done))) | with_reducible apply Fr.skip))))
  clear s2 s3'
  obtain ⟨q0, q1, q2, q3, z0⟩ := HF.out _ _ _ _ _ _ _ s3
  go_wp2_with fail
  refine (HB.out.1 _ _ ((Sat.sub (s3) (by (repeat (first | with_reducible exact Fr.done | with_reducible exact Fr.nil | (with_reducible apply Fr.cons; (focus ((repeat (first | with_reducible exact Take.here | with_reducible apply Take.there)); done))) | with_reducible apply Fr.skip)))) : Sat W w3 (bytes false kp key :: bytes false cp custom :: bytes false pp P :: bytes false tp C :: seg true gs 0 [.slice tp tn tc, .int .i64 at_, .int .u8 (v8 sb)] :: []))).mono ?_
  rintro e w4 ⟨kd, ⟨xa, kp', kn', kc', cp', cn', cc', o'⟩, key', custom', o, m, rfl, ⟨fa, fo, ff, f1, f2, f3, f4, f5, f6⟩, hKa, s4'⟩
  clear s3 q0 q1 q2 q3 z0
  simp only at fa fo f1 f2 f3 f4 f5 f6 s4'
  subst fa fo
  have s4 : Sat W w4 (bytes m kp' key' :: bytes false cp' custom' :: bytes false pp P :: bytes false tp C :: seg true gs 0 [.slice tp tn tc, .int .i64 at_, .int .u8 (v8 sb)] :: []) := (Sat.sub (s4') (by (repeat (first | with_reducible exact Fr.done | with_reducible exact Fr.nil | (with_reducible apply Fr.cons; (focus ((repeat (first | with_reducible exact Take.here | with_reducible apply Take.there)); done))) | with_reducible apply Fr.skip))))
  clear s4' hKa
  have hbd := fits_bd ff
  have HG := Lib.hid (And.intro ff (And.intro f1 (And.intro f2 (And.intro f3 (And.intro f4 (And.intro f5 (And.intro f6 hbd))))))); clear ff f1 f2 f3 f4 f5 f6 hbd
  have hkb : kn' ≤ 100000000 := by rw [← HG.out.2.1]; exact HG.out.2.2.2.2.2.2.2.1
  have hcb : cn' ≤ 64 := by rw [← HG.out.2.2.2.2.1]; exact HG.out.2.2.2.2.2.2.2.2.1
  have HKB := Lib.hid (And.intro hkb hcb); clear hkb hcb
  obtain ⟨al, hal⟩ : ∃ al : Nat, al = kd.alg := ⟨_, rfl⟩
  rw [← hal]
  have HA := Lib.hid hal; clear hal
  go_wp2_with (first | (refine wpl_alloc_agg rfl 25 rfl s4 _ (zero_case _) ?_; intro w5 g3 s5 _; clear s4) | (refine wpl_store_agg rfl rfl 25 (.tmp 7) (.tmp 31) rfl (cs := [.int .u8 (al : Int), .slice kp' kn' kc', .slice cp' cn' cc', .int .i64 (o : Int)]) s5 0 0 Tryz.size_case rfl rfl rfl (Nat.le_refl 4) (fun v hv => by simp only [List.mem_cons, List.not_mem_nil, or_false] at hv; rcases hv with rfl | rfl | rfl | rfl <;> rfl) ?_; intro w6 s6; rw [setL_all _ _ (by rfl)] at s6; clear s5; obtain ⟨r0, r1, r2, r3, y0⟩ := HF.out _ _ _ _ _ _ _ s6))
  have s7 : Sat W (w6.alloc (.cells #[.int .u8 (al : Int), .slice kp' kn' kc', .slice cp' cn' cc', .int .i64 (o : Int), .int .u8 0, .slice pp pn pc, .slice none 0 0, .int .i64 0] 25)) (seg true w6.heap.size 0 ([(⟨(al : Int), kp', kn', kc', cp', cn', cc', (o : Int)⟩ : CaseC), (⟨0, pp, pn, pc, none, 0, 0, 0⟩ : CaseC)].flatMap encC) :: seg true g3 0 [.int .u8 (al : Int), .slice kp' kn' kc', .slice cp' cn' cc', .int .i64 (o : Int)] :: bytes m kp' key' :: bytes false cp' custom' :: bytes false pp P :: bytes false tp C :: seg true gs 0 [.slice tp tn tc, .int .i64 at_, .int .u8 (v8 sb)] :: []) := s6.alloc #[.int .u8 (al : Int), .slice kp' kn' kc', .slice cp' cn' cc', .int .i64 (o : Int), .int .u8 0, .slice pp pn pc, .slice none 0 0, .int .i64 0] 25
  refine (smallOf (cap := 2) [(⟨(al : Int), kp', kn', kc', cp', cn', cc', (o : Int)⟩ : CaseC), (⟨0, pp, pn, pc, none, 0, 0, 0⟩ : CaseC)] rfl (by simp) (by simp only [sumC]; have := HKB.out; have := HB.out.2.1; omega) s7).mono ?_
  rintro e w8 ⟨rfl, n3, rfl⟩
  have s8 := (s7.drewN n3).tail
  clear s6 s7 r0 r1 r2 r3 y0
  obtain ⟨w9, hw9⟩ : ∃ w9, w9 = (w6.alloc (.cells #[.int .u8 (al : Int), .slice kp' kn' kc', .slice cp' cn' cc', .int .i64 (o : Int), .int .u8 0, .slice pp pn pc, .slice none 0 0, .int .i64 0] 25)).drewN n3 := ⟨_, rfl⟩
  rw [← hw9] at s8 ⊢
  clear hw9
  have s9 : Sat W w9 (bytes m kp' key' :: bytes false cp' custom' :: bytes false pp P :: bytes false tp C :: seg true gs 0 [.slice tp tn tc, .int .i64 at_, .int .u8 (v8 sb)] :: seg true g3 0 [.int .u8 (al : Int), .slice kp' kn' kc', .slice cp' cn' cc', .int .i64 (o : Int)] :: []) := (Sat.sub (s8) (by (repeat (first | with_reducible exact Fr.done | with_reducible exact Fr.nil | (with_reducible apply Fr.cons; (focus ((repeat (first | with_reducible exact Take.here | with_reducible apply Take.there)); done))) | with_reducible apply Fr.skip))))
  clear s8
  by_cases hsm : sumC [(⟨(al : Int), kp', kn', kc', cp', cn', cc', (o : Int)⟩ : CaseC), (⟨0, pp, pn, pc, none, 0, 0, 0⟩ : CaseC)] ≤ 3000
  rotate_left
  · rw [decide_eq_false hsm]
    have HS := Lib.hid s9; clear s9 hsm
    go_wp2_with fail
    go_ret
    exact ⟨rfl, HS.out.below⟩
  rw [decide_eq_true hsm]
  have hpn : pn ≤ 3000 := by simp only [sumC] at hsm; omega
  have HPN := Lib.hid hpn; clear hpn hsm
  go_wp2_with fail
  refine (ledNewF s9).mono ?_
  rintro e w10 ⟨l, rfl, s10⟩
  clear s9
  go_wp2_with fail
  refine (ledNewF s10).mono ?_
  rintro e w11 ⟨k, rfl, s11'⟩
  have s11 : Sat W w11 (seg true g3 0 [.int .u8 (al : Int), .slice kp' kn' kc', .slice cp' cn' cc', .int .i64 (o : Int)] :: ledO (some l) [] :: bytes m kp' key' :: bytes false cp' custom' :: ledO (some k) [] :: bytes false pp P :: bytes false tp C :: seg true gs 0 [.slice tp tn tc, .int .i64 at_, .int .u8 (v8 sb)] :: []) := (Sat.sub (s11') (by (repeat (first | with_reducible exact Fr.done | with_reducible exact Fr.nil | (with_reducible apply Fr.cons; (focus ((repeat (first | with_reducible exact Take.here | with_reducible apply Take.there)); done))) | with_reducible apply Fr.skip))))
  clear s10 s11'
  have hbe := macBegin (L := seg true g3 0 [.int .u8 (al : Int), .slice kp' kn' kc', .slice cp' cn' cc', .int .i64 (o : Int)] :: ledO (some k) [] :: bytes false pp P :: bytes false tp C :: seg true gs 0 [.slice tp tn tc, .int .i64 at_, .int .u8 (v8 sb)] :: []) (ck := kc') (cap := cc') (pv := .pointer (some ⟨l, 0, none⟩)) (av := .int .u8 (al : Int)) (ov := .int .i64 (o : Int)) kd (some l) [] key' custom' rfl (by rw [HA.out]) rfl HG.out.1 cut_roomy HG.out.2.1 HG.out.2.2.1 HG.out.2.2.2.1 HG.out.2.2.2.2.1 HG.out.2.2.2.2.2.1 HG.out.2.2.2.2.2.2.1 (Sat.sub (s11) (by (repeat (first | with_reducible exact Fr.done | with_reducible exact Fr.nil | (with_reducible apply Fr.cons; (focus ((repeat (first | with_reducible exact Take.here | with_reducible apply Take.there)); done))) | with_reducible apply Fr.skip))))
  have HBE := Lib.hid hbe; clear hbe
  obtain ⟨q0, q1, q2, q3, z0⟩ := HF.out _ _ _ _ _ _ _ s11
  clear s11
  go_wp2_with fail
  refine HBE.out.mono ?_
  rintro e w12 ⟨sa, rfl, s12'⟩
  rw [← runsOn_zero] at s12'
  have s12 : Sat W w12 (ses kd sa key' custom' o [] :: ledO (some l) (runsOn kd kn' cn' 0) :: ledO (some k) [] :: bytes m kp' key' :: bytes false cp' custom' :: seg true g3 0 [.int .u8 (al : Int), .slice kp' kn' kc', .slice cp' cn' cc', .int .i64 (o : Int)] :: seg true gs 0 [.slice tp tn tc, .int .i64 at_, .int .u8 (v8 sb)] :: bytes false pp P :: bytes false tp C :: []) := (Sat.sub (s12') (by (repeat (first | with_reducible exact Fr.done | with_reducible exact Fr.nil | (with_reducible apply Fr.cons; (focus ((repeat (first | with_reducible exact Take.here | with_reducible apply Take.there)); done))) | with_reducible apply Fr.skip))))
  clear s12' q0 q1 q2 q3 z0 HBE

  have sg3 : Sat W w12 (seg true g3 0 [.int .u8 (al : Int), .slice kp' kn' kc', .slice cp' cn' cc', .int .i64 (o : Int)] :: []) := (Sat.sub (s12) (by (repeat (first | with_reducible exact Fr.done | with_reducible exact Fr.nil | (with_reducible apply Fr.cons; (focus ((repeat (first | with_reducible exact Take.here | with_reducible apply Take.there)); done))) | with_reducible apply Fr.skip))))
  obtain ⟨q0, q1, q2, q3, z0⟩ := HF.out _ _ _ _ _ _ _ sg3
  clear sg3
  go_wp2_with fail
  refine (macBegin (L := ses kd sa key' custom' o [] :: ledO (some l) (runsOn kd kn' cn' 0) :: seg true g3 0 [.int .u8 (al : Int), .slice kp' kn' kc', .slice cp' cn' cc', .int .i64 (o : Int)] :: seg true gs 0 [.slice tp tn tc, .int .i64 at_, .int .u8 (v8 sb)] :: bytes false pp P :: bytes false tp C :: []) (ck := kc') (cap := cc') (pv := .pointer (some ⟨k, 0, none⟩)) (av := .int .u8 (al : Int)) (ov := .int .i64 (o : Int)) kd (some k) [] key' custom' rfl (by rw [HA.out]) rfl HG.out.1 cut_roomy HG.out.2.1 HG.out.2.2.1 HG.out.2.2.2.1 HG.out.2.2.2.2.1 HG.out.2.2.2.2.2.1 HG.out.2.2.2.2.2.2.1 (Sat.sub (s12) (by (repeat (first | with_reducible exact Fr.done | with_reducible exact Fr.nil | (with_reducible apply Fr.cons; (focus ((repeat (first | with_reducible exact Take.here | with_reducible apply Take.there)); done))) | with_reducible apply Fr.skip))))).mono ?_
  rintro e w13 ⟨sc, rfl, s13'⟩
  rw [← runsOn_zero] at s13'
  have s13 : Sat W w13 (ledO (some k) (runsOn kd kn' cn' 0) :: bytes false pp P :: ses kd sc key' custom' o [] :: ses kd sa key' custom' o [] :: ledO (some l) (runsOn kd kn' cn' 0) :: bytes false tp C :: seg true gs 0 [.slice tp tn tc, .int .i64 at_, .int .u8 (v8 sb)] :: seg true g3 0 [.int .u8 (al : Int), .slice kp' kn' kc', .slice cp' cn' cc', .int .i64 (o : Int)] :: []) := (Sat.sub (s13') (by (repeat (first | with_reducible exact Fr.done | with_reducible exact Fr.nil | (with_reducible apply Fr.cons; (focus ((repeat (first | with_reducible exact Take.here | with_reducible apply Take.there)); done))) | with_reducible apply Fr.skip))))
  clear s12 s13' q0 q1 q2 q3 z0
  go_wp2_with fail
  refine (macWrite (pv := .pointer (some ⟨k, 0, none⟩)) kd (some k) (runsOn kd kn' cn' 0) key' custom' [] P rfl HG.out.1 (roomyN (runsOn_bd kd kn' cn' 0 HKB.out.1 HKB.out.2 (by omega)) (by omega) (by omega)) HB.out.2.2.2.1 HB.out.2.2.2.2.1 HB.out.2.2.2.2.2.1 (by have := HPN.out; simp only [List.length_nil]; omega) s13).mono ?_
  rintro e w14 ⟨rfl, s14'⟩
  simp only [List.length_nil, List.nil_append] at s14'
  rw [HG.out.2.1, runsOn_add, Nat.zero_add] at s14'
  have s14 : Sat W w14 (bytes false pp P :: bytes false tp C :: ses kd sc key' custom' o P :: ledO (some k) (runsOn kd kn' cn' pn) :: ses kd sa key' custom' o [] :: ledO (some l) (runsOn kd kn' cn' 0) :: seg true gs 0 [.slice tp tn tc, .int .i64 at_, .int .u8 (v8 sb)] :: seg true g3 0 [.int .u8 (al : Int), .slice kp' kn' kc', .slice cp' cn' cc', .int .i64 (o : Int)] :: []) := (Sat.sub (s14') (by (repeat (first | with_reducible exact Fr.done | with_reducible exact Fr.nil | (with_reducible apply Fr.cons; (focus ((repeat (first | with_reducible exact Take.here | with_reducible apply Take.there)); done))) | with_reducible apply Fr.skip))))
  clear s13 s14'
  have sgs : Sat W w14 (seg true gs 0 [.slice tp tn tc, .int .i64 at_, .int .u8 (v8 sb)] :: []) := (Sat.sub (s14) (by (repeat (first | with_reducible exact Fr.done | with_reducible exact Fr.nil | (with_reducible apply Fr.cons; (focus ((repeat (first | with_reducible exact Take.here | with_reducible apply Take.there)); done))) | with_reducible apply Fr.skip))))
  obtain ⟨u0, _, _, uz⟩ := HFS.out _ _ _ _ _ _ sgs
  clear sgs
  go_wp2_with fail
  refine (cutInto P C HB.out.2.2.2.1 HB.out.2.2.2.2.2.2.1 (by have := HB.out.2.1; omega) (by have := HB.out.2.2.1; omega) HB.out.2.2.2.2.1 HB.out.2.2.2.2.2.1 (Sat.sub (s14) (by (repeat (first | with_reducible exact Fr.done | with_reducible exact Fr.nil | (with_reducible apply Fr.cons; (focus ((repeat (first | with_reducible exact Take.here | with_reducible apply Take.there)); done))) | with_reducible apply Fr.skip))))).mono ?_
  rintro e w16 ⟨qp, cpp, ts, rfl, hts0, hfl, hok, s16⟩
  clear s14 u0 uz
  obtain ⟨gp, rfl, hcp, hcp2, s17'⟩ := rowSeg17 s16 hts0
  have s17 : Sat W w16 (ses kd sa key' custom' o [] :: ledO (some l) (runsOn kd kn' cn' 0) :: ses kd sc key' custom' o P :: ledO (some k) (runsOn kd kn' cn' pn) :: seg true gp 0 (ts.map pieceV) :: allRo ts :: bytes false pp P :: seg true gs 0 [.slice tp tn tc, .int .i64 at_, .int .u8 (v8 sb)] :: seg true g3 0 [.int .u8 (al : Int), .slice kp' kn' kc', .slice cp' cn' cc', .int .i64 (o : Int)] :: []) := (Sat.sub (s17') (by (repeat (first | with_reducible exact Fr.done | with_reducible exact Fr.nil | (with_reducible apply Fr.cons; (focus ((repeat (first | with_reducible exact Take.here | with_reducible apply Take.there)); done))) | with_reducible apply Fr.skip))))
  clear s16 s17'
  obtain ⟨N, hN⟩ : ∃ N, N = ts.length := ⟨_, rfl⟩
  rw [← hN] at hts0 hcp ⊢
  have HT := Lib.hid (And.intro hfl (And.intro hok hN)); clear hfl hok hN
  go_wp2
  go_loopw [16] (fun t16 wr => ∃ (i : Nat), i ≤ N ∧ t16 = .int .i64 (i : Int) ∧ Sat W wr (ses kd sa key' custom' o (flatP (ts.take i)) :: ledO (some l) (runsOn kd kn' cn' (flatP (ts.take i)).length) :: ses kd sc key' custom' o P :: ledO (some k) (runsOn kd kn' cn' pn) :: seg true gp 0 (ts.map pieceV) :: allRo ts :: bytes false pp P :: seg true gs 0 [.slice tp tn tc, .int .i64 at_, .int .u8 (v8 sb)] :: seg true g3 0 [.int .u8 (al : Int), .slice kp' kn' kc', .slice cp' cn' cc', .int .i64 (o : Int)] :: [])) (fun t16 _ => N - (intOf t16).toNat)
  case atStart => exact ⟨0, Nat.zero_le _, rfl, s17⟩
  case round =>
    clear s17
    obtain ⟨i, hi, rfl, s⟩ := hrel
    by_cases hlt : i < N
    · have hit : i < ts.length := by rw [← HT.out.2.2]; exact hlt
      have hft := flatP_take17 ts i hit
      have hlen := flatP_take_len17 ts (i + 1)
      rw [HT.out.1, HB.out.2.2.2.1] at hlen
      have hokt := HT.out.2.1 ts[i] (List.getElem_mem hit)
      obtain ⟨⟨ep, ec, eb⟩, htt⟩ : ∃ t, t = ts[i] := ⟨_, rfl⟩
      rw [← htt] at hft hokt
      simp only at hft hokt
      have hcell : ∀ wx X, Sat W wx (seg true gp 0 (ts.map pieceV) :: X) → wx.cell? ⟨gp, i, none⟩ = some (.slice ep eb.length ec) ∧ gp < wx.heap.size := fun wx X h =>
        ⟨h.at i (v := .slice ep eb.length ec) (by rw [List.getElem?_map, List.getElem?_eq_getElem hit, ← htt]; rfl), h.lt (by rw [List.length_map]; omega)⟩
      have sp : Sat W wr (allRo ts :: ses kd sa key' custom' o (flatP (ts.take i)) :: ledO (some l) (runsOn kd kn' cn' (flatP (ts.take i)).length) :: ses kd sc key' custom' o P :: ledO (some k) (runsOn kd kn' cn' pn) :: seg true gp 0 (ts.map pieceV) :: bytes false pp P :: seg true gs 0 [.slice tp tn tc, .int .i64 at_, .int .u8 (v8 sb)] :: seg true g3 0 [.int .u8 (al : Int), .slice kp' kn' kc', .slice cp' cn' cc', .int .i64 (o : Int)] :: []) := (Sat.sub (s) (by (repeat (first | with_reducible exact Fr.done | with_reducible exact Fr.nil | (with_reducible apply Fr.cons; (focus ((repeat (first | with_reducible exact Take.here | with_reducible apply Take.there)); done))) | with_reducible apply Fr.skip))))
      have sq := allPeek (t := ((ep, ec, eb) : Piece)) sp (by rw [htt]; exact List.getElem_mem hit)
      simp only at sq
      obtain ⟨M, hM⟩ : ∃ M, M = flatP (ts.take i) := ⟨_, rfl⟩
      rw [← hM] at hft sq
      rw [hft, List.length_append] at hlen
      have hMb : M.length + eb.length ≤ 3000 := Nat.le_trans hlen HPN.out
      have HX := Lib.hid (And.intro hft (And.intro hokt (And.intro hMb hcell))); clear hft hokt hlen hMb hcell hM htt sp s hit
      have s18 : Sat W wr (ses kd sa key' custom' o M :: seg true gp 0 (ts.map pieceV) :: ledO (some l) (runsOn kd kn' cn' M.length) :: bytes false ep eb :: ses kd sc key' custom' o P :: ledO (some k) (runsOn kd kn' cn' pn) :: allRo ts :: bytes false pp P :: seg true gs 0 [.slice tp tn tc, .int .i64 at_, .int .u8 (v8 sb)] :: seg true g3 0 [.int .u8 (al : Int), .slice kp' kn' kc', .slice cp' cn' cc', .int .i64 (o : Int)] :: []) := (Sat.sub (sq) (by (repeat (first | with_reducible exact Fr.done | with_reducible exact Fr.nil | (with_reducible apply Fr.cons; (focus ((repeat (first | with_reducible exact Take.here | with_reducible apply Take.there)); done))) | with_reducible apply Fr.skip))))
      clear sq
      have hin : (i : Int) < (N : Int) := by omega
      go_wp2_with fail
      refine (sesClone kd key' custom' M HG.out.1 s18).mono ?_
      rintro e w19 ⟨sd, rfl, s19'⟩
      have s19 : Sat W w19 (seg true gp 0 (ts.map pieceV) :: ledO (some l) (runsOn kd kn' cn' M.length) :: bytes false ep eb :: ses kd sa key' custom' o M :: ses kd sd key' custom' o M :: ses kd sc key' custom' o P :: ledO (some k) (runsOn kd kn' cn' pn) :: allRo ts :: bytes false pp P :: seg true gs 0 [.slice tp tn tc, .int .i64 at_, .int .u8 (v8 sb)] :: seg true g3 0 [.int .u8 (al : Int), .slice kp' kn' kc', .slice cp' cn' cc', .int .i64 (o : Int)] :: []) := (Sat.sub (s19') (by (repeat (first | with_reducible exact Fr.done | with_reducible exact Fr.nil | (with_reducible apply Fr.cons; (focus ((repeat (first | with_reducible exact Take.here | with_reducible apply Take.there)); done))) | with_reducible apply Fr.skip))))
      clear s18 s19'
      obtain ⟨cg, zg⟩ := HX.out.2.2.2 _ _ s19
      go_wp2_with fail
      refine (macWrite (pv := .pointer (some ⟨l, 0, none⟩)) (L := ses kd sd key' custom' o M :: ses kd sc key' custom' o P :: ledO (some k) (runsOn kd kn' cn' pn) :: seg true gp 0 (ts.map pieceV) :: allRo ts :: bytes false pp P :: seg true gs 0 [.slice tp tn tc, .int .i64 at_, .int .u8 (v8 sb)] :: seg true g3 0 [.int .u8 (al : Int), .slice kp' kn' kc', .slice cp' cn' cc', .int .i64 (o : Int)] :: []) kd (some l) (runsOn kd kn' cn' M.length) key' custom' M eb rfl HG.out.1 (roomyN (runsOn_bd kd kn' cn' M.length HKB.out.1 HKB.out.2 (by have := HX.out.2.2.1; omega)) (by omega) (by omega)) rfl HX.out.2.1.1 HX.out.2.1.2 (by have := HX.out.2.2.1; omega) (Sat.sub (s19) (by (repeat (first | with_reducible exact Fr.done | with_reducible exact Fr.nil | (with_reducible apply Fr.cons; (focus ((repeat (first | with_reducible exact Take.here | with_reducible apply Take.there)); done))) | with_reducible apply Fr.skip))))).mono ?_
      rintro e w20 ⟨rfl, s20'⟩
      rw [HG.out.2.1, runsOn_add] at s20'
      have s20e : Sat W w20 (ledO none [] :: _) := s20'.addEmp
      have s20 : Sat W w20 (ledO none [] :: bytes false pp P :: ses kd sd key' custom' o M :: ses kd sa key' custom' o (M ++ eb) :: ledO (some l) (runsOn kd kn' cn' (M.length + eb.length)) :: ses kd sc key' custom' o P :: ledO (some k) (runsOn kd kn' cn' pn) :: seg true gp 0 (ts.map pieceV) :: allRo ts :: seg true gs 0 [.slice tp tn tc, .int .i64 at_, .int .u8 (v8 sb)] :: seg true g3 0 [.int .u8 (al : Int), .slice kp' kn' kc', .slice cp' cn' cc', .int .i64 (o : Int)] :: []) := (Sat.sub (s20e) (by (repeat (first | with_reducible exact Fr.done | with_reducible exact Fr.nil | (with_reducible apply Fr.cons; (focus ((repeat (first | with_reducible exact Take.here | with_reducible apply Take.there)); done))) | with_reducible apply Fr.skip))))
      clear s19 s20' s20e cg zg
      go_wp2_with fail
      refine (macWrite (pv := .pointer none) kd none [] key' custom' M P rfl HG.out.1 cut_roomy HB.out.2.2.2.1 HB.out.2.2.2.2.1 HB.out.2.2.2.2.2.1 (by have := HX.out.2.2.1; have := HPN.out; omega) s20).mono ?_
      rintro e w21 ⟨rfl, s21'⟩
      have s21 : Sat W w21 (ledO none [] :: ses kd sd key' custom' o (M ++ P) :: ses kd sa key' custom' o (M ++ eb) :: ledO (some l) (runsOn kd kn' cn' (M.length + eb.length)) :: ses kd sc key' custom' o P :: ledO (some k) (runsOn kd kn' cn' pn) :: seg true gp 0 (ts.map pieceV) :: allRo ts :: bytes false pp P :: seg true gs 0 [.slice tp tn tc, .int .i64 at_, .int .u8 (v8 sb)] :: seg true g3 0 [.int .u8 (al : Int), .slice kp' kn' kc', .slice cp' cn' cc', .int .i64 (o : Int)] :: []) := by
        have s21e : Sat W w21 (ledO none [] :: bytes false pp P :: ses kd sd key' custom' o (M ++ P) :: ses kd sa key' custom' o (M ++ eb) :: ledO (some l) (runsOn kd kn' cn' (M.length + eb.length)) :: ses kd sc key' custom' o P :: ledO (some k) (runsOn kd kn' cn' pn) :: seg true gp 0 (ts.map pieceV) :: allRo ts :: seg true gs 0 [.slice tp tn tc, .int .i64 at_, .int .u8 (v8 sb)] :: seg true g3 0 [.int .u8 (al : Int), .slice kp' kn' kc', .slice cp' cn' cc', .int .i64 (o : Int)] :: []) := s21'
        exact (Sat.sub (s21e) (by (repeat (first | with_reducible exact Fr.done | with_reducible exact Fr.nil | (with_reducible apply Fr.cons; (focus ((repeat (first | with_reducible exact Take.here | with_reducible apply Take.there)); done))) | with_reducible apply Fr.skip))))
      clear s20 s21'
      go_wp2_with fail
      refine (macWipe (pv := .pointer none) kd none [] key' custom' (M ++ P) rfl HG.out.1 cut_roomy (by rw [List.length_append, HB.out.2.2.2.1]; have := HX.out.2.2.1; have := HPN.out; omega) s21).mono ?_
      rintro e w22 ⟨rfl, s22'⟩
      have s22 : Sat W w22 (ses kd sa key' custom' o (M ++ eb) :: ledO (some l) (runsOn kd kn' cn' (M.length + eb.length)) :: ses kd sc key' custom' o P :: ledO (some k) (runsOn kd kn' cn' pn) :: seg true gp 0 (ts.map pieceV) :: allRo ts :: bytes false pp P :: seg true gs 0 [.slice tp tn tc, .int .i64 at_, .int .u8 (v8 sb)] :: seg true g3 0 [.int .u8 (al : Int), .slice kp' kn' kc', .slice cp' cn' cc', .int .i64 (o : Int)] :: []) := (Sat.sub (s22') (by (repeat (first | with_reducible exact Fr.done | with_reducible exact Fr.nil | (with_reducible apply Fr.cons; (focus ((repeat (first | with_reducible exact Take.here | with_reducible apply Take.there)); done))) | with_reducible apply Fr.skip))))
      have HS := Lib.hid s22; clear s21 s22' s22
      go_wp2_with fail
      go_roundw
      case rel =>
        refine ⟨i + 1, by omega, by go_num, ?_⟩
        rw [HX.out.1, List.length_append]
        exact HS.out
      case measure => simp [intOf]; omega
    · obtain rfl : i = N := by omega
      rw [HT.out.2.2, List.take_of_length_le (Nat.le_refl _), HT.out.1, HB.out.2.2.2.1] at s
      have hr0 := runsOn_bd kd kn' cn' pn HKB.out.1 HKB.out.2 (by have := HPN.out; omega)
      have hfin := kd.fin_tot pn o
      obtain ⟨R0, hR0⟩ : ∃ R, R = runsOn kd kn' cn' pn := ⟨_, rfl⟩
      rw [← hR0] at s hr0
      clear hR0
      have hr1 := bdN hr0 kd.ek (kd.es kn') (kd.fin pn o)
      obtain ⟨R1, hR1⟩ : ∃ R, R = noteN R0 kd.ek (kd.es kn') (kd.fin pn o) := ⟨_, rfl⟩
      rw [← hR1] at hr1
      have ro0 : Roomy R0 := roomyN hr0 (by omega) (by omega)
      have ro1 : Roomy R1 := roomyN hr1 (by omega) (by omega)
      have hl1 : R1.length ≤ 1000000000 := by omega
      have hpb : P.length ≤ 1000000000 := by have := HPN.out; rw [HB.out.2.2.2.1]; omega
      have hfp := formN_pos kd key'.length (by rw [HG.out.2.1]; exact HKB.out.1)
      have hfl2 := fun (w : World) (X : List Assn) (s' : Nat) (h : Sat W w (ses kd s' key' custom' o P :: X)) => sesForm kd key' custom' P HG.out.1 hpb h
      obtain ⟨FN, hFN⟩ : ∃ F, F = kd.formN key'.length := ⟨_, rfl⟩
      rw [← hFN] at hfp hfl2
      obtain ⟨FB, hFB⟩ : ∃ F, F = kd.form key' custom' P := ⟨_, rfl⟩
      rw [← hFB] at hfl2
      have htl0 := kd.tag_len key' custom' o P HG.out.1
      have hob := HG.out.2.2.2.2.2.2.2.2.2
      have HR := Lib.hid (And.intro ro0 (And.intro ro1 (And.intro hl1 (And.intro hpb (And.intro hfp (And.intro hfl2 (And.intro htl0 (And.intro hob hR1))))))))
      clear ro0 ro1 hl1 hpb hfp hfl2 htl0 hob hR1 hr0 hr1 hfin hFN hFB
      have t1 : Sat W wr (ledO (some l) R0 :: ses kd sa key' custom' o P :: ses kd sc key' custom' o P :: ledO (some k) R0 :: seg true gs 0 [.slice tp tn tc, .int .i64 at_, .int .u8 (v8 sb)] :: seg true g3 0 [.int .u8 (al : Int), .slice kp' kn' kc', .slice cp' cn' cc', .int .i64 (o : Int)] :: []) := (Sat.sub (s) (by (repeat (first | with_reducible exact Fr.done | with_reducible exact Fr.nil | (with_reducible apply Fr.cons; (focus ((repeat (first | with_reducible exact Take.here | with_reducible apply Take.there)); done))) | with_reducible apply Fr.skip))))
      clear s
      go_wp2_with fail
      refine (macSum (pv := .pointer (some ⟨l, 0, none⟩)) kd (some l) R0 key' custom' P rfl HG.out.1 HR.out.1 HR.out.2.2.2.1 t1).mono ?_
      rintro e w21 ⟨qt, ct, rfl, t2'⟩
      rw [HG.out.2.1, HB.out.2.2.2.1, ← HR.out.2.2.2.2.2.2.2.2] at t2'
      obtain ⟨htl, htc, htm, t2''⟩ := rowBytes t2'
      have t2 : Sat W w21 (ledO (some k) R0 :: ses kd sc key' custom' o P :: bytes true qt (kd.tag key' custom' o P) :: ledO (some l) R1 :: ses kd sa key' custom' o P :: seg true gs 0 [.slice tp tn tc, .int .i64 at_, .int .u8 (v8 sb)] :: seg true g3 0 [.int .u8 (al : Int), .slice kp' kn' kc', .slice cp' cn' cc', .int .i64 (o : Int)] :: []) := (Sat.sub (t2'') (by (repeat (first | with_reducible exact Fr.done | with_reducible exact Fr.nil | (with_reducible apply Fr.cons; (focus ((repeat (first | with_reducible exact Take.here | with_reducible apply Take.there)); done))) | with_reducible apply Fr.skip))))
      have HT2 := Lib.hid (And.intro htl (And.intro htc htm))
      clear htl htc htm t1 t2' t2''
      go_wp2_with fail
      refine (macSum (pv := .pointer (some ⟨k, 0, none⟩)) kd (some k) R0 key' custom' P rfl HG.out.1 HR.out.1 HR.out.2.2.2.1 t2).mono ?_
      rintro e w22 ⟨qt2, ct2, rfl, t3'⟩
      rw [HG.out.2.1, HB.out.2.2.2.1, ← HR.out.2.2.2.2.2.2.2.2] at t3'
      obtain ⟨_, _, _, t3''⟩ := rowBytes t3'
      clear t2 t3'
      have t3a : Sat W w22 (bytes true qt (kd.tag key' custom' o P) :: bytes true qt2 (kd.tag key' custom' o P) :: seg true g3 0 [.int .u8 (al : Int), .slice kp' kn' kc', .slice cp' cn' cc', .int .i64 (o : Int)] :: ledO (some l) R1 :: ses kd sa key' custom' o P :: ledO (some k) R1 :: ses kd sc key' custom' o P :: seg true gs 0 [.slice tp tn tc, .int .i64 at_, .int .u8 (v8 sb)] :: []) := (Sat.sub (t3'') (by (repeat (first | with_reducible exact Fr.done | with_reducible exact Fr.nil | (with_reducible apply Fr.cons; (focus ((repeat (first | with_reducible exact Take.here | with_reducible apply Take.there)); done))) | with_reducible apply Fr.skip))))
      clear t3''
      have hve := fun (w : World) (X : List Assn) (T : List Byte) (pt : Option Addr) (cap p : Nat) (rs : List Run3) (hro : Roomy rs) (hT : T.length = o) (h : Sat W w (ledO (some p) rs :: bytes true pt T :: ses kd sc key' custom' o P :: X)) => macVerify (pv := .pointer (some ⟨p, 0, none⟩)) (cap := cap) kd (some p) rs key' custom' P T rfl HG.out.1 hro HR.out.2.2.2.1 hT h
      obtain ⟨T, hT⟩ : ∃ T, T = kd.tag key' custom' o P := ⟨_, rfl⟩
      rw [← hT] at t3a hve HT2
      have HV := Lib.hid hve
      clear hve hT
      have sg3 : Sat W w22 (seg true g3 0 [.int .u8 (al : Int), .slice kp' kn' kc', .slice cp' cn' cc', .int .i64 (o : Int)] :: []) := (Sat.sub (t3a) (by (repeat (first | with_reducible exact Fr.done | with_reducible exact Fr.nil | (with_reducible apply Fr.cons; (focus ((repeat (first | with_reducible exact Take.here | with_reducible apply Take.there)); done))) | with_reducible apply Fr.skip))))
      obtain ⟨_, _, _, q3, z0⟩ := HF.out _ _ _ _ _ _ _ sg3
      clear sg3
      have hsb : ∀ (w : World) (X : List Assn), Sat W w (bytes true qt T :: bytes true qt2 T :: X) → Calls Tryz.prog 29 #[.slice qt o ct, .slice qt2 o ct2] w fun e w' => e = .returned (.bool true) ∧ ∃ n, w' = w.drewN n := fun w X h => by
        have h1 := sameBytes (ca := ct) (cb := ct2) T T (by rw [HT2.out.1]; have := HT2.out.2; omega) (by rw [HT2.out.1]; have := HT2.out.2; omega) h
        rw [HT2.out.1, sameB_self] at h1
        exact h1
      have HSB := Lib.hid hsb; clear hsb
      go_wp2_with fail
      refine (HSB.out _ _ t3a).mono ?_
      rintro e w23 ⟨rfl, n23, rfl⟩
      have t4 : Sat W (w22.drewN n23) (ses kd sa key' custom' o P :: bytes true qt T :: ledO (some l) R1 :: ledO (some k) R1 :: ses kd sc key' custom' o P :: seg true gs 0 [.slice tp tn tc, .int .i64 at_, .int .u8 (v8 sb)] :: []) := Sat.drewN (Sat.sub (t3a) (by (repeat (first | with_reducible exact Fr.done | with_reducible exact Fr.nil | (with_reducible apply Fr.cons; (focus ((repeat (first | with_reducible exact Take.here | with_reducible apply Take.there)); done))) | with_reducible apply Fr.skip)))) _
      obtain ⟨w24, hw24⟩ : ∃ w24, w24 = w22.drewN n23 := ⟨_, rfl⟩
      rw [← hw24] at t4 ⊢
      clear hw24 t3a q3 z0 HSB
      go_wp2_with fail
      refine (HR.out.2.2.2.2.2.1 _ _ _ t4).mono ?_
      rintro e w25 ⟨qf, cf, rfl, t5'⟩
      obtain ⟨hfb, hfc, hfm, t5''⟩ := rowBytes t5'
      have t5 : Sat W w25 (ses kd sc key' custom' o P :: bytes true qf FB :: bytes true qt T :: ledO (some l) R1 :: ledO (some k) R1 :: seg true gs 0 [.slice tp tn tc, .int .i64 at_, .int .u8 (v8 sb)] :: []) := (Sat.sub (t5'') (by (repeat (first | with_reducible exact Fr.done | with_reducible exact Fr.nil | (with_reducible apply Fr.cons; (focus ((repeat (first | with_reducible exact Take.here | with_reducible apply Take.there)); done))) | with_reducible apply Fr.skip))))
      clear t4 t5' t5''
      have HFB := Lib.hid (And.intro hfb (And.intro hfc hfm)); clear hfb hfc hfm
      go_wp2_with fail
      refine (HR.out.2.2.2.2.2.1 _ _ _ t5).mono ?_
      rintro e w26 ⟨qf2, cf2, rfl, t6'⟩
      obtain ⟨_, _, _, t6''⟩ := rowBytes t6'
      have t6 : Sat W w26 (bytes true qf FB :: bytes true qf2 FB :: bytes true qt T :: ledO (some l) R1 :: ledO (some k) R1 :: ses kd sc key' custom' o P :: seg true gs 0 [.slice tp tn tc, .int .i64 at_, .int .u8 (v8 sb)] :: []) := (Sat.sub (t6'') (by (repeat (first | with_reducible exact Fr.done | with_reducible exact Fr.nil | (with_reducible apply Fr.cons; (focus ((repeat (first | with_reducible exact Take.here | with_reducible apply Take.there)); done))) | with_reducible apply Fr.skip))))
      clear t5 t6' t6''
      have hsb : ∀ (w : World) (X : List Assn), Sat W w (bytes true qf FB :: bytes true qf2 FB :: X) → Calls Tryz.prog 29 #[.slice qf FN cf, .slice qf2 FN cf2] w fun e w' => e = .returned (.bool true) ∧ ∃ n, w' = w.drewN n := fun w X h => by
        have h1 := sameBytes (ca := cf) (cb := cf2) FB FB (by rw [HFB.out.1]; have := HFB.out.2; omega) (by rw [HFB.out.1]; have := HFB.out.2; omega) h
        rw [HFB.out.1, sameB_self] at h1
        exact h1
      have HSB := Lib.hid hsb; clear hsb
      go_wp2_with fail
      refine (HSB.out _ _ t6).mono ?_
      rintro e w27 ⟨rfl, n27, rfl⟩
      have t7 : Sat W (w26.drewN n27) (ledO (some l) R1 :: ledO (some k) R1 :: bytes true qt T :: ses kd sc key' custom' o P :: seg true gs 0 [.slice tp tn tc, .int .i64 at_, .int .u8 (v8 sb)] :: []) := Sat.drewN (Sat.sub (t6) (by (repeat (first | with_reducible exact Fr.done | with_reducible exact Fr.nil | (with_reducible apply Fr.cons; (focus ((repeat (first | with_reducible exact Take.here | with_reducible apply Take.there)); done))) | with_reducible apply Fr.skip)))) _
      obtain ⟨w28, hw28⟩ : ∃ w28, w28 = w26.drewN n27 := ⟨_, rfl⟩
      rw [← hw28] at t7 ⊢
      clear hw28 t6 HSB
      go_wp2_with fail
      refine (ledRunsF HR.out.2.2.1 t7).mono ?_
      rintro e w29 ⟨rq, rc, rfl, t8'⟩
      have t8 : Sat W w29 (ledO (some k) R1 :: runsA true rq R1 :: ledO (some l) R1 :: bytes true qt T :: ses kd sc key' custom' o P :: seg true gs 0 [.slice tp tn tc, .int .i64 at_, .int .u8 (v8 sb)] :: []) := (Sat.sub (t8') (by (repeat (first | with_reducible exact Fr.done | with_reducible exact Fr.nil | (with_reducible apply Fr.cons; (focus ((repeat (first | with_reducible exact Take.here | with_reducible apply Take.there)); done))) | with_reducible apply Fr.skip))))
      clear t7 t8'
      go_wp2_with fail
      refine (ledRunsF HR.out.2.2.1 t8).mono ?_
      rintro e w30 ⟨rq2, rc2, rfl, t9'⟩
      have t9 : Sat W w30 (runsA true rq R1 :: runsA true rq2 R1 :: ledO (some k) R1 :: ledO (some l) R1 :: bytes true qt T :: ses kd sc key' custom' o P :: seg true gs 0 [.slice tp tn tc, .int .i64 at_, .int .u8 (v8 sb)] :: []) := (Sat.sub (t9') (by (repeat (first | with_reducible exact Fr.done | with_reducible exact Fr.nil | (with_reducible apply Fr.cons; (focus ((repeat (first | with_reducible exact Take.here | with_reducible apply Take.there)); done))) | with_reducible apply Fr.skip))))
      clear t8 t9'
      obtain ⟨rn, hrn⟩ : ∃ n, n = R1.length := ⟨_, rfl⟩
      rw [← hrn]
      have HRN := Lib.hid hrn; clear hrn
      go_wp2_with fail
      refine (sameRuns R1 HRN.out.symm HRN.out.symm (by rw [HRN.out]; exact HR.out.2.2.1) t9).mono ?_
      rintro e w31 ⟨rfl, t10'⟩
      have t10 : Sat W w31 (ledO (some k) R1 :: bytes true qt T :: ses kd sc key' custom' o P :: ledO (some l) R1 :: seg true gs 0 [.slice tp tn tc, .int .i64 at_, .int .u8 (v8 sb)] :: []) := (Sat.sub (t10') (by (repeat (first | with_reducible exact Fr.done | with_reducible exact Fr.nil | (with_reducible apply Fr.cons; (focus ((repeat (first | with_reducible exact Take.here | with_reducible apply Take.there)); done))) | with_reducible apply Fr.skip))))
      clear t9 t10'
      go_wp2_with fail
      refine (HV.out _ _ T qt ct k R1 HR.out.2.1 HT2.out.1 t10).mono ?_
      rintro e w32 ⟨rfl, t11'⟩
      rw [decide_eq_true rfl]
      have t11 : Sat W w32 (bytes true qt T :: ses kd sc key' custom' o P :: ledO (some l) R1 :: seg true gs 0 [.slice tp tn tc, .int .i64 at_, .int .u8 (v8 sb)] :: []) := (Sat.sub (t11') (by (repeat (first | with_reducible exact Fr.done | with_reducible exact Fr.nil | (with_reducible apply Fr.cons; (focus ((repeat (first | with_reducible exact Take.here | with_reducible apply Take.there)); done))) | with_reducible apply Fr.skip))))
      clear t10 t11'
      have hcb := copyBytes (ca := ct) T (by rw [HT2.out.1]; have := HR.out.2.2.2.2.2.2.2.1; omega) t11
      rw [HT2.out.1] at hcb
      have HCB := Lib.hid hcb; clear hcb t11
      go_wp2_with fail
      refine HCB.out.mono ?_
      rintro e w33 ⟨qo, co, rfl, t12'⟩
      clear HCB
      obtain ⟨go, rfl, hco, hcm, t12''⟩ := rowSeg17 t12' (by have := HR.out.2.2.2.2.2.2.2.1; omega)
      have t12 : Sat W w33 (seg true go 0 (u8s T) :: ses kd sc key' custom' o P :: ledO (some l) R1 :: seg true gs 0 [.slice tp tn tc, .int .i64 at_, .int .u8 (v8 sb)] :: []) := (Sat.sub (t12'') (by (repeat (first | with_reducible exact Fr.done | with_reducible exact Fr.nil | (with_reducible apply Fr.cons; (focus ((repeat (first | with_reducible exact Take.here | with_reducible apply Take.there)); done))) | with_reducible apply Fr.skip))))
      clear t12' t12''
      have sgs : Sat W w33 (seg true gs 0 [.slice tp tn tc, .int .i64 at_, .int .u8 (v8 sb)] :: []) := (Sat.sub (t12) (by (repeat (first | with_reducible exact Fr.done | with_reducible exact Fr.nil | (with_reducible apply Fr.cons; (focus ((repeat (first | with_reducible exact Take.here | with_reducible apply Take.there)); done))) | with_reducible apply Fr.skip))))
      obtain ⟨_, u1, u2, uz⟩ := HFS.out _ _ _ _ _ _ sgs
      obtain ⟨j, hj⟩ : ∃ j, j = pickM at_ o := ⟨_, rfl⟩
      have hjo : j < o := by rw [hj]; exact pickM_lt _ _ (by have := HR.out.2.2.2.2.2.2.2.1; omega)
      have hpw : ∀ w, Calls Tryz.prog 32 #[.int .i64 at_, .int .i64 (o : Int)] w fun e w' => e = .returned (.int .i64 (j : Int)) ∧ w' = w := fun w => (pickW w at_ o (by have := HR.out.2.2.2.2.2.2.2.1; omega) (by have := HR.out.2.2.2.2.2.2.2.1; omega)).mono fun e w' h => ⟨by rw [hj]; exact h.1, h.2.symm⟩
      have cj := t12.at j (u8s_get T j (by rw [HT2.out.1]; exact hjo))
      have fj := t12.fr j (by rw [u8s_len, HT2.out.1]; exact hjo)
      have zj : go < w33.heap.size := t12.lt (by rw [u8s_len, HT2.out.1]; omega)
      have hse := spoil_eq T j (by rw [HT2.out.1]; exact hjo) sb
      obtain ⟨xj, hxj⟩ : ∃ x, x = T.getD j 0 := ⟨_, rfl⟩
      rw [← hxj] at cj hse
      have hjI : (j : Int) < (o : Int) := by omega
      have ho64 := HR.out.2.2.2.2.2.2.2.1
      have gco : (o : Int) ≤ (co : Int) := by omega
      have HJ := Lib.hid (And.intro hpw (And.intro hse hjo)); clear hpw hse hj hxj sgs hcm
      go_wp2_with fail
      refine wp_region_quiet_tail_lit 11 (by kernel_rfl) (by kernel_rfl) ?_
      simp only [List.take_succ_cons, List.take_zero, List.drop_succ_cons, List.drop_zero]
      repeat (go_big_quiet_step ((go_at_call 32; exact Calls.quiet_of_same (HJ.out.1 _))))
      refine wpQuiet_nil ?_
      rintro _ ⟨nr, rfl⟩
      have t13 := (t12.drewN nr).store (i := j) (by rw [u8s_len, HT2.out.1]; exact HJ.out.2.2) (.int .u8 (v8 (xj ^^^ sb))) (q := j) (by omega)
      rw [u8s_set] at t13
      have HS13 := Lib.hid t13
      clear t12 t13
      go_wp2_with fail
      rw [vxor8]
      have t13 := bytesOf HS13.out
      have t14 : Sat W ((w33.drewN nr).setCell ⟨go, j, none⟩ (.int .u8 (v8 (xj ^^^ sb)))) (ledO (some l) R1 :: bytes true (some ⟨go, 0, none⟩) (T.set j (xj ^^^ sb)) :: ses kd sc key' custom' o P :: seg true gs 0 [.slice tp tn tc, .int .i64 at_, .int .u8 (v8 sb)] :: []) := (Sat.sub (t13) (by (repeat (first | with_reducible exact Fr.done | with_reducible exact Fr.nil | (with_reducible apply Fr.cons; (focus ((repeat (first | with_reducible exact Take.here | with_reducible apply Take.there)); done))) | with_reducible apply Fr.skip))))
      clear t13
      obtain ⟨z, hz⟩ : ∃ z, z = (v8 sb == 0) := ⟨_, rfl⟩
      have hve := HV.out _ _ (T.set j (xj ^^^ sb)) (some ⟨go, 0, none⟩) co l R1 HR.out.2.1 (by rw [List.length_set]; exact HT2.out.1) t14
      rw [HJ.out.2.1, ← hz] at hve
      have hz' := hz.symm
      clear HS13 t14 cj fj zj hz u1
      refine hve.mono ?_
      rintro e w35 ⟨rfl, t15'⟩
      have t15 : Sat W w35 (ses kd sc key' custom' o P :: seg true gs 0 [.slice tp tn tc, .int .i64 at_, .int .u8 (v8 sb)] :: []) := (Sat.sub (t15') (by (repeat (first | with_reducible exact Fr.done | with_reducible exact Fr.nil | (with_reducible apply Fr.cons; (focus ((repeat (first | with_reducible exact Take.here | with_reducible apply Take.there)); done))) | with_reducible apply Fr.skip))))
      have sgs : Sat W w35 (seg true gs 0 [.slice tp tn tc, .int .i64 at_, .int .u8 (v8 sb)] :: []) := (Sat.sub (t15') (by (repeat (first | with_reducible exact Fr.done | with_reducible exact Fr.nil | (with_reducible apply Fr.cons; (focus ((repeat (first | with_reducible exact Take.here | with_reducible apply Take.there)); done))) | with_reducible apply Fr.skip))))
      clear t15' hve u2 uz
      obtain ⟨_, _, u2, uz⟩ := HFS.out _ _ _ _ _ _ sgs
      clear sgs
      have HZ := Lib.hid hz'
      clear hz'
      have go1 : (1 : Int) ≤ (o : Int) := by have := HR.out.2.2.2.2.2.2.2.1; omega
      have gco1 : (1 : Int) ≤ (co : Int) := by omega
      go_wp2_with fail
      all_goals
        refine (macVerifyLen (n := o - 1) HG.out.1.1 (by omega) t15).mono ?_
        rintro e w36 ⟨rfl, rfl⟩
        have HS := Lib.hid t15.below; clear t15 go1 gco1 gco hjI
        have hz' := HZ.out
        cases z with
        | false =>
          go_wp2_with fail
          go_ret
          exact ⟨rfl, HS.out⟩
        | true =>
          go_wp2_with fail
          go_ret
          exact ⟨rfl, HS.out⟩
end Go.Proofs.YtooolimpkafhaaaGreat
