
/- MacNames: all algorithms, numbers, examples. No condition. -/
import Derived.Test.YtooolimpkafhaaaGreatL17m
namespace Go.Proofs.YtooolimpkafhaaaGreat
open Go.RowKit Go.Sep Go.Bv Go.Kec Go.Aes Go.Sha
set_option linter.unusedVariables false
set_option linter.unusedSimpArgs false
def oddTag : List Byte := [91, 220, 193, 70, 191, 96, 117, 79, 106, 4, 36, 38, 8, 149, 117, 199, 90, 0, 63, 8, 157, 39, 57, 131, 157, 236, 88, 185, 100, 236, 56, 67]
theorem rowSeg17n {W0 w : World} {L : List Assn} {p : Option Addr} {c sz n : Nat} {vs : List Value} (h : Sat W0 w (row p c sz n vs :: L)) (hn : 0 < n) : ∃ g, p = some ⟨g, 0, none⟩ ∧ n ≤ c ∧ c ≤ 9223372036854775807 ∧ Sat W0 w (seg true g 0 vs :: L) := by
  obtain ⟨hl, ⟨rfl, rfl, h0, hx, h1⟩ | ⟨g, rest, rfl, h1, h2, h3, h4⟩⟩ := h.rowOpen
  · omega
  · exact ⟨g, rfl, h1, h2, (h4.part (q := 0 + vs.length) rfl).drop 1⟩
theorem codeNo {W0 w : World} {L : List Assn} {K : MKind} {nk n : Nat} {out cd : Int} (a : Int) (p : Option Addr) (c : Nat) (p2 : Option Addr) (c2 : Nat) (ha : a = (K.alg : Int)) (hc : K.code nk n out = cd) (hcd : cd ≠ 0) (hs : Sat W0 w L) :
    Calls Tryz.prog 17 #[.agg #[.int .u8 a, .slice p nk c, .slice p2 n c2, .int .i64 out]] w fun e w' => e = .returned (.int .i64 cd) ∧ Sat W0 w' L := by
  subst ha
  refine code17no _ p nk c p2 n c2 out cd hcd (fun w h => ?_) hs
  have h1 := macRefuse (ck := c) (cap := c2) (pk := p) (pc := p2) (pv := .pointer none) (av := .int .u8 (K.alg : Int)) K out rfl (by rw [hc]; exact hcd) h
  rw [hc] at h1
  exact h1
theorem codeUn {W0 w : World} {L : List Assn} (a : Int) (p : Option Addr) (n c : Nat) (p2 : Option Addr) (n2 c2 : Nat) (o : Int) (ha : ∀ k : Nat, 1 ≤ k → k ≤ 7 → ¬ a = (k : Int)) (hs : Sat W0 w L) :
    Calls Tryz.prog 17 #[.agg #[.int .u8 a, .slice p n c, .slice p2 n2 c2, .int .i64 o]] w fun e w' => e = .returned (.int .i64 4) ∧ Sat W0 w' L :=
  code17no a p n c p2 n2 c2 o 4 (by decide) (fun w h => macUnknown a ha (.pointer none) (.slice p n c) (.slice p2 n2 c2) (.int .i64 o) h) hs
theorem fits64 : (MKind.km true false).fits [] (List.replicate 64 0) 64 := ⟨by decide, by decide, by decide, by decide⟩
theorem codeYes {W0 w : World} {L : List Assn} {m : Bool} {p2 : Option Addr} (hs : Sat W0 w (bytes m p2 (List.replicate 64 0) :: L)) :
    Calls Tryz.prog 17 #[.agg #[.int .u8 5, .slice none 0 0, .slice p2 64 64, .int .i64 64]] w fun e w' => e = .returned (.int .i64 0) ∧ Sat W0 w' (bytes m p2 (List.replicate 64 0) :: L) := by
  refine code17yes 5 none 0 0 p2 64 64 64 (fun w h => ?_) hs
  have h0 : Sat W0 w (ledO none [] :: bytes true none [] :: bytes m p2 (List.replicate 64 0) :: L) := (bytesNil true none h).addEmp
  refine (macBegin (ck := 0) (cap := 64) (pv := .pointer none) (av := .int .u8 5) (ov := .int .i64 64) (MKind.km true false) none [] [] (List.replicate 64 0) rfl rfl rfl fits64 cut_roomy rfl (by decide) (by decide) rfl (by decide) (by decide) h0).mono ?_
  rintro e w' ⟨s, rfl, h1⟩
  exact ⟨s, rfl, h1.tail.tail.tail⟩
set_option maxRecDepth 100000 in
set_option maxHeartbeats 8000000 in
theorem macNames_any (W : World) :
    Calls Tryz.prog 4 #[] W fun e W' => e = .returned (.bool true) ∧ Below W.heap.size W W' := by
  obtain ⟨i3, hi3, hz3, hs3, hb3⟩ := info_parts Tryz.info_u8
  have HI3 := Lib.hid (And.intro hi3 (And.intro hz3 (And.intro hs3 hb3))); clear hi3 hz3 hs3 hb3
  have hbeg := fun (w : World) (X : List Assn) (q : Option Addr) (s : Sat W w (bytes true q jefe :: X)) => macBegin (ck := 4) (cap := 0) (m2 := true) (pv := .pointer none) (av := .int .u8 1) (ov := .int .i64 32) (pc := none) (MKind.hm false) none [] jefe [] rfl rfl rfl jefeFits ⟨by decide, by decide⟩ rfl (by decide) (by decide) rfl (by decide) (by decide) (Sat.sub (ledNone (bytesNil true none s)) (.cons .here (.cons (.there .here) (.cons .here .done))))
  have hwr := fun (w : World) (q : Option Addr) (X : List Assn) (s : Nat) (h : Sat W w (ses (.hm false) s jefe [] 32 [] :: bytes true q whatDo :: X)) => macWrite (cap := 28) (pv := .pointer none) (MKind.hm false) none [] jefe [] [] whatDo rfl jefeFits ⟨by decide, by decide⟩ rfl (by decide) (by decide) (by decide) (Sat.sub (ledNone h) (.cons .here (.cons (.there .here) .done)))
  have hsm := fun (w : World) (X : List Assn) (s : Nat) (h : Sat W w (ses (.hm false) s jefe [] 32 whatDo :: X)) => macSum (pv := .pointer none) (MKind.hm false) none [] jefe [] whatDo rfl jefeFits ⟨by decide, by decide⟩ (by decide) (ledNone h)
  have hve := fun (w : World) (X : List Assn) (s : Nat) (q : Option Addr) (c : Nat) (T : List Byte) (hT : T.length = 32) (h : Sat W w (ledO none [] :: bytes true q T :: ses (.hm false) s jefe [] 32 whatDo :: X)) => macVerify (cap := c) (pv := .pointer none) (MKind.hm false) none [] jefe [] whatDo T rfl jefeFits ⟨by decide, by decide⟩ (by decide) hT h
  have hvl := fun (w : World) (X : List Assn) (s : Nat) (q : Option Addr) (c : Nat) (h : Sat W w (ses (.hm false) s jefe [] 32 whatDo :: X)) => macVerifyLen (n := 31) (cap := c) (pt := q) (pv := .pointer none) (K := MKind.hm false) (by decide) (by decide) h
  rw [jefeIs] at hsm hve
  have HN := Lib.hid (And.intro hbeg (And.intro hwr (And.intro hsm (And.intro hve hvl)))); clear hbeg hwr hsm hve hvl
  have s0 : Sat W W [] := Sat.nil W
  go_enter Tryz.func4, Tryz.ntmps4
  go_wp2_with (refine wpl_make rfl 23 5 (.const (.int .i64 16)) (.const (.int .i64 16)) rfl Tryz.underlying23 HI3.out.1 HI3.out.2.1 HI3.out.2.2.1 HI3.out.2.2.2 rfl 16 rfl rfl (by decide) (by decide) s0 ?_; intro w1 gb s1 _; rw [u8s_zero] at s1; clear s0)
  refine (codeNo (K := .hm false) (nk := 0) (n := 0) (out := 33) (cd := 11) 1 none 0 none 0 rfl (by decide) (by decide) s1).mono ?_
  rintro e w2 ⟨rfl, s2⟩
  clear s1
  go_wp2_with fail
  refine (codeNo (K := .cm) (nk := 16) (n := 0) (out := 17) (cd := 11) 3 _ 16 none 0 rfl (by decide) (by decide) s2).mono ?_
  rintro e w3 ⟨rfl, s3⟩
  clear s2
  go_wp2_with fail
  refine (codeNo (K := .km false false) (nk := 0) (n := 0) (out := 65) (cd := 11) 4 none 0 none 0 rfl (by decide) (by decide) s3).mono ?_
  rintro e w4 ⟨rfl, s4⟩
  clear s3
  go_wp2_with fail
  refine (codeNo (K := .km false false) (nk := 0) (n := 0) (out := 0) (cd := 11) 4 none 0 none 0 rfl (by decide) (by decide) s4).mono ?_
  rintro e w5 ⟨rfl, s5⟩
  clear s4
  go_wp2_with fail
  refine (codeNo (K := .cm) (nk := 15) (n := 0) (out := 16) (cd := 7) 3 _ 16 none 0 rfl (by decide) (by decide) s5).mono ?_
  rintro e w6 ⟨rfl, s6⟩
  clear s5
  go_wp2_with fail
  refine (codeNo (K := .cm) (nk := 16) (n := 16) (out := 16) (cd := 2) 3 _ 16 _ 16 rfl (by decide) (by decide) s6).mono ?_
  rintro e w7 ⟨rfl, s7⟩
  clear s6
  go_wp2_with fail
  refine (codeNo (K := .hm true) (nk := 0) (n := 16) (out := 16) (cd := 2) 2 none 0 _ 16 rfl (by decide) (by decide) s7).mono ?_
  rintro e w8 ⟨rfl, s8⟩
  clear s7
  go_wp2_with fail
  refine (codeUn 0 none 0 0 none 0 0 16 (fun k h1 h7 e => by omega) s8).mono ?_
  rintro e w9 ⟨rfl, s9⟩
  clear s8
  go_wp2_with fail
  refine (codeUn 8 none 0 0 none 0 0 16 (fun k h1 h7 e => by omega) s9).mono ?_
  rintro e w10 ⟨rfl, s10⟩
  clear s9
  go_wp2_with (refine wpl_make rfl 23 5 (.const (.int .i64 65)) (.const (.int .i64 65)) rfl Tryz.underlying23 HI3.out.1 HI3.out.2.1 HI3.out.2.2.1 HI3.out.2.2.2 rfl 65 rfl rfl (by decide) (by decide) s10 ?_; intro w11 ga s11 _; rw [u8s_zero] at s11; clear s10)
  refine (codeNo (K := .km true false) (nk := 0) (n := 65) (out := 16) (cd := 9) 5 none 0 _ 65 rfl (by decide) (by decide) s11).mono ?_
  rintro e w12 ⟨rfl, s12⟩
  clear s11
  have hmk : ∀ w : World, (Instr.makeSlice 23 (.int .i64 64) (.int .i64 64)).run Tryz.prog w = .ok (.slice (some ⟨w.heap.size, 0, none⟩) 64 64) (w.alloc (.cells (madeCells #[.int .u8 0] 64) 5)) := fun w => by
    have hr := run_make (P := Tryz.prog) w 23 5 _ _ Tryz.underlying23 HI3.out.1 HI3.out.2.1 .i64 .i64 (64 : Int) (64 : Int) (by omega) (by omega) (by rw [HI3.out.2.2.2]; decide) (by omega)
    rw [HI3.out.2.2.1] at hr
    exact hr
  have s13 := s12.make (.int .u8 0) 64 5
  rw [u8s_zero] at s13
  clear s12
  go_wp2_with fail
  refine (codeYes (bytesOf s13)).mono ?_
  rintro e w14 ⟨rfl, s14'⟩
  have s14 : Sat W w14 [] := s14'.tail.tail.tail
  clear s13 s14'
  have kc := fun (w : World) (C : Array Value) (n c g : Nat) (hg : g = w.heap.size) => Joins.run_convert_bytes_const_at (P := Tryz.prog) w 23 5 C n c g hg Tryz.underlying23 Tryz.underlying5
  have s15 := bytesOf (s14.allocMark (u8s jefe).toArray 5)
  clear s14
  go_wp2_with fail
  refine (HN.out.1 _ _ (some ⟨w14.heap.size, 0, none⟩) s15).mono ?_
  rintro e w16 ⟨s, rfl, s16⟩
  clear s15
  have s17 := bytesOf (s16.allocMark (u8s whatDo).toArray 5)
  have s18 : Sat W _ (ses (.hm false) s jefe [] 32 [] :: bytes true (some ⟨w16.heap.size, 0, none⟩) whatDo :: []) := (Sat.sub (s17) (by (repeat (first | with_reducible exact Fr.done | with_reducible exact Fr.nil | (with_reducible apply Fr.cons; (focus ((repeat (first | with_reducible exact Take.here | with_reducible apply Take.there)); done))) | with_reducible apply Fr.skip))))
  clear s16 s17
  go_wp2_with fail
  refine (HN.out.2.1 _ _ [] s s18).mono ?_
  rintro e w19 ⟨rfl, s19⟩
  clear s18
  rw [List.nil_append] at s19
  have s20 : Sat W w19 (ses (.hm false) s jefe [] 32 whatDo :: []) := (Sat.sub (s19) (by (repeat (first | with_reducible exact Fr.done | with_reducible exact Fr.nil | (with_reducible apply Fr.cons; (focus ((repeat (first | with_reducible exact Take.here | with_reducible apply Take.there)); done))) | with_reducible apply Fr.skip))))
  clear s19 kc
  go_wp2_with fail
  refine (HN.out.2.2.1 _ [] s s20).mono ?_
  rintro e w21 ⟨q, c, rfl, s21⟩
  clear s20
  obtain ⟨g, rfl, hnc, hcm, s22'⟩ := rowSeg17n s21 (by decide)
  have s22 : Sat W w21 (ledO none [] :: bytes true (some ⟨g, 0, none⟩) jefeTag :: ses (.hm false) s jefe [] 32 whatDo :: []) := by
    have s22e : Sat W w21 (ledO none [] :: _) := (bytesOf s22').addEmp
    exact (Sat.sub (s22e) (by (repeat (first | with_reducible exact Fr.done | with_reducible exact Fr.nil | (with_reducible apply Fr.cons; (focus ((repeat (first | with_reducible exact Take.here | with_reducible apply Take.there)); done))) | with_reducible apply Fr.skip))))
  clear s21 s22'
  go_wp2_with fail
  refine (HN.out.2.2.2.1 _ [] s _ c jefeTag rfl s22).mono ?_
  rintro e w23 ⟨rfl, s23'⟩
  rw [decide_eq_true rfl]
  have s23 : Sat W w23 (ses (.hm false) s jefe [] 32 whatDo :: bytes true (some ⟨g, 0, none⟩) jefeTag :: []) := (Sat.sub (s23') (by (repeat (first | with_reducible exact Fr.done | with_reducible exact Fr.nil | (with_reducible apply Fr.cons; (focus ((repeat (first | with_reducible exact Take.here | with_reducible apply Take.there)); done))) | with_reducible apply Fr.skip))))
  clear s22 s23'
  have g31 : (31 : Int) ≤ (c : Int) := by omega
  go_wp2_with fail
  all_goals
    refine (HN.out.2.2.2.2 _ _ s _ _ s23).mono ?_
    rintro e w24 ⟨rfl, rfl⟩
    obtain ⟨b', o', e0, s25⟩ := bytesCell ((Sat.sub (s23) (by (repeat (first | with_reducible exact Fr.done | with_reducible exact Fr.nil | (with_reducible apply Fr.cons; (focus ((repeat (first | with_reducible exact Take.here | with_reducible apply Take.there)); done))) | with_reducible apply Fr.skip)))) : Sat W w24 (bytes true (some ⟨g, 0, none⟩) jefeTag :: ses (.hm false) s jefe [] 32 whatDo :: [])) (by decide)
    cases e0
    have c7 := s25.at 7 (v := .int .u8 78) rfl
    have f7 := s25.fr 7 (by decide)
    have z7 := s25.lt (by decide)
    have x7 : bits .xor .u8 78 1 = 79 := by rfl
    go_wp2_with fail
    have s26 := s25.store (i := 7) (by decide) (.int .u8 79) (q := 7) rfl
    rw [show (u8s jefeTag).set 7 (.int .u8 79) = u8s oddTag from rfl] at s26
    have s27 : Sat W (w24.setCell ⟨g, 7, none⟩ (.int .u8 79)) (ledO none [] :: bytes true (some ⟨g, 0, none⟩) oddTag :: ses (.hm false) s jefe [] 32 whatDo :: []) := (bytesOf s26).addEmp
    clear s25 s26 s23 c7 f7 z7 x7
    refine (HN.out.2.2.2.1 _ [] s _ c oddTag rfl s27).mono ?_
    rintro e w28 ⟨rfl, s28'⟩
    rw [decide_eq_false (show ¬ jefeTag = oddTag by decide)]
    have s28 : Sat W w28 [] := s28'.tail.tail.tail
    clear s27 s28'
    go_wp2_with fail
    refine (lives17 s28).mono ?_
    rintro e w29 ⟨rfl, s29⟩
    clear s28
    go_wp2_with fail
    refine (kinds17 s29).mono ?_
    rintro e w30 ⟨rfl, s30⟩
    have HS := Lib.hid s30.below
    clear s29 s30
    go_wp2_with fail
    go_ret
    exact ⟨rfl, HS.out⟩
end Go.Proofs.YtooolimpkafhaaaGreat
