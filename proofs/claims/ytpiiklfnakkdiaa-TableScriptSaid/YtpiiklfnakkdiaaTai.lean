
/- A call of the table of ints, beside the document's; under the conditions that each names. -/
import Derived.Test.YtpiiklfnakkdiaaTag
namespace Go.Proofs.Ytpiiklfnakkdiaa
open Go.RowKit Go.Sep
set_option linter.unusedVariables false
set_option linter.unusedSimpArgs false
/-- What a call of the table of ints leaves. -/
def postI (W0 : World) (L : List Assn) (k b hb vb rb rhb rvb n : Nat) (A : List KI) (B : List KP) (e : Ending) (w' : World) : Prop := e = .returned (.bool true) ∧ ∃ A' held tv rv, A'.length ≤ A.length + 1 ∧ agG 0 id n held tv rv ∧ Sat W0 w' (keptA k A' B :: tI b hb vb rb rhb rvb n held tv rv L)
set_option maxRecDepth 100000 in
set_option maxHeartbeats 4000000 in
theorem ai_other {W0 w : World} {L : List Assn} {k b hb vb rb rhb rvb n : Nat} {A : List KI} {B : List KP} {held : List Bool} {tv rv : List Int} (hag : agG 0 id n held tv rv) (h0 : 0 < n) (hsm : n ≤ 64) (hA : A.length ≤ 100000) (on h v : Int) (kd : Int) (n0 : kd ≠ 0) (n1 : kd ≠ 1) (n2 : kd ≠ 2) (n3 : kd ≠ 3) (n4 : kd ≠ 4) (n5 : kd ≠ 5) (hs : Sat W0 w (keptA k A B :: tI b hb vb rb rhb rvb n held tv rv L)) :
    Calls Try.prog 8 #[.pointer (some ⟨k,0,none⟩), .pointer (some ⟨b,0,none⟩), .pointer (some ⟨rb,0,none⟩), .agg #[.int .i64 on, .int .i64 kd, .int .i64 h, .int .i64 v]] w (postI W0 L k b hb vb rb rhb rvb n A B) := by
  have HG := Lib.hid hag; clear hag
  go_enter Try.func8, Try.ntmps8
  go_wp2_with (refine wpl_box rfl 44 (.tmp 3) rfl [.int .i64 on, .int .i64 kd, .int .i64 h, .int .i64 v] rfl hs ?_; intro w1 g s1 _; clear hs; have g1 := s1.at 1 rfl; have g2 := s1.at 2 rfl; have g3 := s1.at 3 rfl; have gz := s1.lt (by simp))
  go_ret
  exact ⟨rfl, A, held, tv, rv, by omega, HG.out, (Sat.sub (s1) (by with_reducible repeat first | exact Fr1 | exact Fr2 | (apply Fr3; focus ((repeat (first | exact Tk1 | apply Tk2)); done)) | apply Fr4))⟩
set_option maxRecDepth 100000 in
set_option maxHeartbeats 4000000 in
theorem ai_get {W0 w : World} {L : List Assn} {k b hb vb rb rhb rvb n : Nat} {A : List KI} {B : List KP} {held : List Bool} {tv rv : List Int} (hag : agG 0 id n held tv rv) (h0 : 0 < n) (hsm : n ≤ 64) (hA : A.length ≤ 100000) (on h v : Int) (hs : Sat W0 w (keptA k A B :: tI b hb vb rb rhb rvb n held tv rv L)) :
    Calls Try.prog 8 #[.pointer (some ⟨k,0,none⟩), .pointer (some ⟨b,0,none⟩), .pointer (some ⟨rb,0,none⟩), .agg #[.int .i64 on, .int .i64 1, .int .i64 h, .int .i64 v]] w (postI W0 L k b hb vb rb rhb rvb n A B) := by
  have HG := Lib.hid hag; clear hag
  cases hy : (decide (0 ≤ h) && held.getD h.toNat false) with
  | false =>
    go_enter Try.func8, Try.ntmps8
    go_wp2_with (refine wpl_box rfl 44 (.tmp 3) rfl [.int .i64 on, .int .i64 1, .int .i64 h, .int .i64 v] rfl hs ?_; intro w1 g s1 _; clear hs; have g1 := s1.at 1 rfl; have g2 := s1.at 2 rfl; have g3 := s1.at 3 rfl; have gz := s1.lt (by simp))
    have sa : Sat W0 w1 (seg true b 0 [.slice (some ⟨hb,0,none⟩) n n, .slice (some ⟨vb,0,none⟩) n n] :: seg true hb 0 (held.map .bool) :: seg true vb 0 (tv.map fun x => Value.int .i64 x) :: seg true rb 0 [.slice (some ⟨rhb,0,none⟩) n n, .slice (some ⟨rvb,0,none⟩) n n] :: seg true rhb 0 (held.map .bool) :: seg true rvb 0 (rv.map fun x => Value.int .i64 x) :: seg true g 0 [.int .i64 on, .int .i64 1, .int .i64 h, .int .i64 v] :: keptA k A B :: L) := (Sat.sub (s1) (by with_reducible repeat first | exact Fr1 | exact Fr2 | (apply Fr3; focus ((repeat (first | exact Tk1 | apply Tk2)); done)) | apply Fr4))
    refine (get_no_int h hy HG.out.1 HG.out.2.1 h0 hsm sa).mono ?_
    rintro e w2 ⟨rfl, s2⟩
    clear s1 sa g1 g2 g3 gz
    have g1 := ((Sat.sub (s2) (by with_reducible repeat first | exact Fr1 | exact Fr2 | (apply Fr3; focus ((repeat (first | exact Tk1 | apply Tk2)); done)) | apply Fr4)) : Sat W0 w2 (seg true g 0 [.int .i64 on, .int .i64 1, .int .i64 h, .int .i64 v] :: [])).at 1 rfl
    have g2 := ((Sat.sub (s2) (by with_reducible repeat first | exact Fr1 | exact Fr2 | (apply Fr3; focus ((repeat (first | exact Tk1 | apply Tk2)); done)) | apply Fr4)) : Sat W0 w2 (seg true g 0 [.int .i64 on, .int .i64 1, .int .i64 h, .int .i64 v] :: [])).at 2 rfl
    have g3 := ((Sat.sub (s2) (by with_reducible repeat first | exact Fr1 | exact Fr2 | (apply Fr3; focus ((repeat (first | exact Tk1 | apply Tk2)); done)) | apply Fr4)) : Sat W0 w2 (seg true g 0 [.int .i64 on, .int .i64 1, .int .i64 h, .int .i64 v] :: [])).at 3 rfl
    have gz := ((Sat.sub (s2) (by with_reducible repeat first | exact Fr1 | exact Fr2 | (apply Fr3; focus ((repeat (first | exact Tk1 | apply Tk2)); done)) | apply Fr4)) : Sat W0 w2 (seg true g 0 [.int .i64 on, .int .i64 1, .int .i64 h, .int .i64 v] :: [])).lt (by simp)
    go_wp2_with fail
    have sb : Sat W0 w2 (seg true rb 0 [.slice (some ⟨rhb,0,none⟩) n n, .slice (some ⟨rvb,0,none⟩) n n] :: seg true rhb 0 (held.map .bool) :: seg true rvb 0 (rv.map fun x => Value.int .i64 x) :: seg true b 0 [.slice (some ⟨hb,0,none⟩) n n, .slice (some ⟨vb,0,none⟩) n n] :: seg true hb 0 (held.map .bool) :: seg true vb 0 (tv.map fun x => Value.int .i64 x) :: seg true g 0 [.int .i64 on, .int .i64 1, .int .i64 h, .int .i64 v] :: keptA k A B :: L) := (Sat.sub (s2) (by with_reducible repeat first | exact Fr1 | exact Fr2 | (apply Fr3; focus ((repeat (first | exact Tk1 | apply Tk2)); done)) | apply Fr4))
    refine (get_no_ref h hy HG.out.1 HG.out.2.2.1 h0 hsm sb).mono ?_
    rintro e w3 ⟨rfl, s3⟩
    clear s2 sb g1 g2 g3 gz
    go_wp2_with fail
    go_ret
    exact ⟨rfl, A, held, tv, rv, by omega, HG.out, (Sat.sub (s3) (by with_reducible repeat first | exact Fr1 | exact Fr2 | (apply Fr3; focus ((repeat (first | exact Tk1 | apply Tk2)); done)) | apply Fr4))⟩
  | true =>
    obtain ⟨m, rfl, hm, hh⟩ := there_nat HG.out.1 hy
    have e1 := getD_some 0 (show m < tv.length by rw [HG.out.2.1]; exact hm)
    have e2 := getD_some 0 (show m < rv.length by rw [HG.out.2.2.1]; exact hm)
    rw [HG.out.2.2.2 m hh] at e1
    have HE := Lib.hid (And.intro hh (And.intro e1 e2)); clear hh e1 e2 hy
    obtain ⟨z, hz⟩ : ∃ z, z = rv.getD m 0 := ⟨_, rfl⟩
    go_enter Try.func8, Try.ntmps8
    go_wp2_with (refine wpl_box rfl 44 (.tmp 3) rfl [.int .i64 on, .int .i64 1, .int .i64 (m : Int), .int .i64 v] rfl hs ?_; intro w1 g s1 _; clear hs; have g1 := s1.at 1 rfl; have g2 := s1.at 2 rfl; have g3 := s1.at 3 rfl; have gz := s1.lt (by simp))
    have sa : Sat W0 w1 (seg true b 0 [.slice (some ⟨hb,0,none⟩) n n, .slice (some ⟨vb,0,none⟩) n n] :: seg true hb 0 (held.map .bool) :: seg true vb 0 (tv.map fun x => Value.int .i64 x) :: seg true rb 0 [.slice (some ⟨rhb,0,none⟩) n n, .slice (some ⟨rvb,0,none⟩) n n] :: seg true rhb 0 (held.map .bool) :: seg true rvb 0 (rv.map fun x => Value.int .i64 x) :: seg true g 0 [.int .i64 on, .int .i64 1, .int .i64 (m : Int), .int .i64 v] :: keptA k A B :: L) := (Sat.sub (s1) (by with_reducible repeat first | exact Fr1 | exact Fr2 | (apply Fr3; focus ((repeat (first | exact Tk1 | apply Tk2)); done)) | apply Fr4))
    refine (get_yes_int m HE.out.1 HE.out.2.1 HG.out.1 HG.out.2.1 h0 hsm sa).mono ?_
    rintro e w2 ⟨rfl, s2⟩
    clear s1 sa g1 g2 g3 gz
    have g1 := ((Sat.sub (s2) (by with_reducible repeat first | exact Fr1 | exact Fr2 | (apply Fr3; focus ((repeat (first | exact Tk1 | apply Tk2)); done)) | apply Fr4)) : Sat W0 w2 (seg true g 0 [.int .i64 on, .int .i64 1, .int .i64 (m : Int), .int .i64 v] :: [])).at 1 rfl
    have g2 := ((Sat.sub (s2) (by with_reducible repeat first | exact Fr1 | exact Fr2 | (apply Fr3; focus ((repeat (first | exact Tk1 | apply Tk2)); done)) | apply Fr4)) : Sat W0 w2 (seg true g 0 [.int .i64 on, .int .i64 1, .int .i64 (m : Int), .int .i64 v] :: [])).at 2 rfl
    have g3 := ((Sat.sub (s2) (by with_reducible repeat first | exact Fr1 | exact Fr2 | (apply Fr3; focus ((repeat (first | exact Tk1 | apply Tk2)); done)) | apply Fr4)) : Sat W0 w2 (seg true g 0 [.int .i64 on, .int .i64 1, .int .i64 (m : Int), .int .i64 v] :: [])).at 3 rfl
    have gz := ((Sat.sub (s2) (by with_reducible repeat first | exact Fr1 | exact Fr2 | (apply Fr3; focus ((repeat (first | exact Tk1 | apply Tk2)); done)) | apply Fr4)) : Sat W0 w2 (seg true g 0 [.int .i64 on, .int .i64 1, .int .i64 (m : Int), .int .i64 v] :: [])).lt (by simp)
    go_wp2_with fail
    have sb : Sat W0 w2 (seg true rb 0 [.slice (some ⟨rhb,0,none⟩) n n, .slice (some ⟨rvb,0,none⟩) n n] :: seg true rhb 0 (held.map .bool) :: seg true rvb 0 (rv.map fun x => Value.int .i64 x) :: seg true b 0 [.slice (some ⟨hb,0,none⟩) n n, .slice (some ⟨vb,0,none⟩) n n] :: seg true hb 0 (held.map .bool) :: seg true vb 0 (tv.map fun x => Value.int .i64 x) :: seg true g 0 [.int .i64 on, .int .i64 1, .int .i64 (m : Int), .int .i64 v] :: keptA k A B :: L) := (Sat.sub (s2) (by with_reducible repeat first | exact Fr1 | exact Fr2 | (apply Fr3; focus ((repeat (first | exact Tk1 | apply Tk2)); done)) | apply Fr4))
    refine (get_yes_ref m HE.out.1 HE.out.2.2 HG.out.1 HG.out.2.2.1 h0 hsm sb).mono ?_
    rintro e w3 ⟨rfl, s3⟩
    clear s2 sb g1 g2 g3 gz
    go_wp2_with fail
    go_ret
    exact ⟨rfl, A, held, tv, rv, by omega, HG.out, (Sat.sub (s3) (by with_reducible repeat first | exact Fr1 | exact Fr2 | (apply Fr3; focus ((repeat (first | exact Tk1 | apply Tk2)); done)) | apply Fr4))⟩
set_option maxRecDepth 100000 in
set_option maxHeartbeats 4000000 in
theorem ai_drop {W0 w : World} {L : List Assn} {k b hb vb rb rhb rvb n : Nat} {A : List KI} {B : List KP} {held : List Bool} {tv rv : List Int} (hag : agG 0 id n held tv rv) (h0 : 0 < n) (hsm : n ≤ 64) (hA : A.length ≤ 100000) (on h v : Int) (hs : Sat W0 w (keptA k A B :: tI b hb vb rb rhb rvb n held tv rv L)) :
    Calls Try.prog 8 #[.pointer (some ⟨k,0,none⟩), .pointer (some ⟨b,0,none⟩), .pointer (some ⟨rb,0,none⟩), .agg #[.int .i64 on, .int .i64 3, .int .i64 h, .int .i64 v]] w (postI W0 L k b hb vb rb rhb rvb n A B) := by
  have HG := Lib.hid hag; clear hag
  cases hy : (decide (0 ≤ h) && held.getD h.toNat false) with
  | false =>
    go_enter Try.func8, Try.ntmps8
    go_wp2_with (refine wpl_box rfl 44 (.tmp 3) rfl [.int .i64 on, .int .i64 3, .int .i64 h, .int .i64 v] rfl hs ?_; intro w1 g s1 _; clear hs; have g1 := s1.at 1 rfl; have g2 := s1.at 2 rfl; have g3 := s1.at 3 rfl; have gz := s1.lt (by simp))
    have sa : Sat W0 w1 (seg true b 0 [.slice (some ⟨hb,0,none⟩) n n, .slice (some ⟨vb,0,none⟩) n n] :: seg true hb 0 (held.map .bool) :: seg true vb 0 (tv.map fun x => Value.int .i64 x) :: seg true rb 0 [.slice (some ⟨rhb,0,none⟩) n n, .slice (some ⟨rvb,0,none⟩) n n] :: seg true rhb 0 (held.map .bool) :: seg true rvb 0 (rv.map fun x => Value.int .i64 x) :: seg true g 0 [.int .i64 on, .int .i64 3, .int .i64 h, .int .i64 v] :: keptA k A B :: L) := (Sat.sub (s1) (by with_reducible repeat first | exact Fr1 | exact Fr2 | (apply Fr3; focus ((repeat (first | exact Tk1 | apply Tk2)); done)) | apply Fr4))
    refine (drop_no_int h hy HG.out.1 HG.out.2.1 h0 hsm sa).mono ?_
    rintro e w2 ⟨rfl, s2⟩
    clear s1 sa g1 g2 g3 gz
    have g1 := ((Sat.sub (s2) (by with_reducible repeat first | exact Fr1 | exact Fr2 | (apply Fr3; focus ((repeat (first | exact Tk1 | apply Tk2)); done)) | apply Fr4)) : Sat W0 w2 (seg true g 0 [.int .i64 on, .int .i64 3, .int .i64 h, .int .i64 v] :: [])).at 1 rfl
    have g2 := ((Sat.sub (s2) (by with_reducible repeat first | exact Fr1 | exact Fr2 | (apply Fr3; focus ((repeat (first | exact Tk1 | apply Tk2)); done)) | apply Fr4)) : Sat W0 w2 (seg true g 0 [.int .i64 on, .int .i64 3, .int .i64 h, .int .i64 v] :: [])).at 2 rfl
    have g3 := ((Sat.sub (s2) (by with_reducible repeat first | exact Fr1 | exact Fr2 | (apply Fr3; focus ((repeat (first | exact Tk1 | apply Tk2)); done)) | apply Fr4)) : Sat W0 w2 (seg true g 0 [.int .i64 on, .int .i64 3, .int .i64 h, .int .i64 v] :: [])).at 3 rfl
    have gz := ((Sat.sub (s2) (by with_reducible repeat first | exact Fr1 | exact Fr2 | (apply Fr3; focus ((repeat (first | exact Tk1 | apply Tk2)); done)) | apply Fr4)) : Sat W0 w2 (seg true g 0 [.int .i64 on, .int .i64 3, .int .i64 h, .int .i64 v] :: [])).lt (by simp)
    go_wp2_with fail
    have sb : Sat W0 w2 (seg true rb 0 [.slice (some ⟨rhb,0,none⟩) n n, .slice (some ⟨rvb,0,none⟩) n n] :: seg true rhb 0 (held.map .bool) :: seg true rvb 0 (rv.map fun x => Value.int .i64 x) :: seg true b 0 [.slice (some ⟨hb,0,none⟩) n n, .slice (some ⟨vb,0,none⟩) n n] :: seg true hb 0 (held.map .bool) :: seg true vb 0 (tv.map fun x => Value.int .i64 x) :: seg true g 0 [.int .i64 on, .int .i64 3, .int .i64 h, .int .i64 v] :: keptA k A B :: L) := (Sat.sub (s2) (by with_reducible repeat first | exact Fr1 | exact Fr2 | (apply Fr3; focus ((repeat (first | exact Tk1 | apply Tk2)); done)) | apply Fr4))
    refine (drop_no_ref h hy HG.out.1 HG.out.2.2.1 h0 hsm sb).mono ?_
    rintro e w3 ⟨rfl, s3⟩
    clear s2 sb g1 g2 g3 gz
    go_wp2_with fail
    go_ret
    exact ⟨rfl, A, held, tv, rv, by omega, HG.out, (Sat.sub (s3) (by with_reducible repeat first | exact Fr1 | exact Fr2 | (apply Fr3; focus ((repeat (first | exact Tk1 | apply Tk2)); done)) | apply Fr4))⟩
  | true =>
    obtain ⟨m, rfl, hm, hh⟩ := there_nat HG.out.1 hy
    have e1 := getD_some 0 (show m < tv.length by rw [HG.out.2.1]; exact hm)
    have e2 := getD_some 0 (show m < rv.length by rw [HG.out.2.2.1]; exact hm)
    rw [HG.out.2.2.2 m hh] at e1
    have HE := Lib.hid (And.intro hh (And.intro e1 e2)); clear hh e1 e2 hy
    go_enter Try.func8, Try.ntmps8
    go_wp2_with (refine wpl_box rfl 44 (.tmp 3) rfl [.int .i64 on, .int .i64 3, .int .i64 (m : Int), .int .i64 v] rfl hs ?_; intro w1 g s1 _; clear hs; have g1 := s1.at 1 rfl; have g2 := s1.at 2 rfl; have g3 := s1.at 3 rfl; have gz := s1.lt (by simp))
    have sa : Sat W0 w1 (seg true b 0 [.slice (some ⟨hb,0,none⟩) n n, .slice (some ⟨vb,0,none⟩) n n] :: seg true hb 0 (held.map .bool) :: seg true vb 0 (tv.map fun x => Value.int .i64 x) :: seg true rb 0 [.slice (some ⟨rhb,0,none⟩) n n, .slice (some ⟨rvb,0,none⟩) n n] :: seg true rhb 0 (held.map .bool) :: seg true rvb 0 (rv.map fun x => Value.int .i64 x) :: seg true g 0 [.int .i64 on, .int .i64 3, .int .i64 (m : Int), .int .i64 v] :: keptA k A B :: L) := (Sat.sub (s1) (by with_reducible repeat first | exact Fr1 | exact Fr2 | (apply Fr3; focus ((repeat (first | exact Tk1 | apply Tk2)); done)) | apply Fr4))
    refine (drop_yes_int m HE.out.1 HE.out.2.1 HG.out.1 HG.out.2.1 h0 hsm sa).mono ?_
    rintro e w2 ⟨rfl, s2⟩
    clear s1 sa g1 g2 g3 gz
    have g1 := ((Sat.sub (s2) (by with_reducible repeat first | exact Fr1 | exact Fr2 | (apply Fr3; focus ((repeat (first | exact Tk1 | apply Tk2)); done)) | apply Fr4)) : Sat W0 w2 (seg true g 0 [.int .i64 on, .int .i64 3, .int .i64 (m : Int), .int .i64 v] :: [])).at 1 rfl
    have g2 := ((Sat.sub (s2) (by with_reducible repeat first | exact Fr1 | exact Fr2 | (apply Fr3; focus ((repeat (first | exact Tk1 | apply Tk2)); done)) | apply Fr4)) : Sat W0 w2 (seg true g 0 [.int .i64 on, .int .i64 3, .int .i64 (m : Int), .int .i64 v] :: [])).at 2 rfl
    have g3 := ((Sat.sub (s2) (by with_reducible repeat first | exact Fr1 | exact Fr2 | (apply Fr3; focus ((repeat (first | exact Tk1 | apply Tk2)); done)) | apply Fr4)) : Sat W0 w2 (seg true g 0 [.int .i64 on, .int .i64 3, .int .i64 (m : Int), .int .i64 v] :: [])).at 3 rfl
    have gz := ((Sat.sub (s2) (by with_reducible repeat first | exact Fr1 | exact Fr2 | (apply Fr3; focus ((repeat (first | exact Tk1 | apply Tk2)); done)) | apply Fr4)) : Sat W0 w2 (seg true g 0 [.int .i64 on, .int .i64 3, .int .i64 (m : Int), .int .i64 v] :: [])).lt (by simp)
    go_wp2_with fail
    have sb : Sat W0 w2 (seg true rb 0 [.slice (some ⟨rhb,0,none⟩) n n, .slice (some ⟨rvb,0,none⟩) n n] :: seg true rhb 0 (held.map .bool) :: seg true rvb 0 (rv.map fun x => Value.int .i64 x) :: seg true b 0 [.slice (some ⟨hb,0,none⟩) n n, .slice (some ⟨vb,0,none⟩) n n] :: seg true hb 0 ((held.set m false).map .bool) :: seg true vb 0 ((tv.set m 0).map fun x => Value.int .i64 x) :: seg true g 0 [.int .i64 on, .int .i64 3, .int .i64 (m : Int), .int .i64 v] :: keptA k A B :: L) := (Sat.sub (s2) (by with_reducible repeat first | exact Fr1 | exact Fr2 | (apply Fr3; focus ((repeat (first | exact Tk1 | apply Tk2)); done)) | apply Fr4))
    refine (drop_yes_ref m HE.out.1 HE.out.2.2 HG.out.1 HG.out.2.2.1 h0 hsm sb).mono ?_
    rintro e w3 ⟨rfl, s3⟩
    clear s2 sb g1 g2 g3 gz
    go_wp2_with fail
    go_ret
    exact ⟨rfl, A, (held.set m false), (tv.set m 0), rv, by omega, HG.out.drop m hm 0, (Sat.sub (s3) (by with_reducible repeat first | exact Fr1 | exact Fr2 | (apply Fr3; focus ((repeat (first | exact Tk1 | apply Tk2)); done)) | apply Fr4))⟩
set_option maxRecDepth 100000 in
set_option maxHeartbeats 4000000 in
theorem ai_add {W0 w : World} {L : List Assn} {k b hb vb rb rhb rvb n : Nat} {A : List KI} {B : List KP} {held : List Bool} {tv rv : List Int} (hag : agG 0 id n held tv rv) (h0 : 0 < n) (hsm : n ≤ 64) (hA : A.length ≤ 100000) (on h v : Int) (hs : Sat W0 w (keptA k A B :: tI b hb vb rb rhb rvb n held tv rv L)) :
    Calls Try.prog 8 #[.pointer (some ⟨k,0,none⟩), .pointer (some ⟨b,0,none⟩), .pointer (some ⟨rb,0,none⟩), .agg #[.int .i64 on, .int .i64 0, .int .i64 h, .int .i64 v]] w (postI W0 L k b hb vb rb rhb rvb n A B) := by
  have HG := Lib.hid hag; clear hag
  go_enter Try.func8, Try.ntmps8
  go_wp2_with (refine wpl_box rfl 44 (.tmp 3) rfl [.int .i64 on, .int .i64 0, .int .i64 h, .int .i64 v] rfl hs ?_; intro w1 g s1 _; clear hs; have g1 := s1.at 1 rfl; have g2 := s1.at 2 rfl; have g3 := s1.at 3 rfl; have gz := s1.lt (by simp))
  have sa : Sat W0 w1 (seg true b 0 [.slice (some ⟨hb,0,none⟩) n n, .slice (some ⟨vb,0,none⟩) n n] :: seg true hb 0 (held.map .bool) :: seg true vb 0 (tv.map fun x => Value.int .i64 x) :: seg true rb 0 [.slice (some ⟨rhb,0,none⟩) n n, .slice (some ⟨rvb,0,none⟩) n n] :: seg true rhb 0 (held.map .bool) :: seg true rvb 0 (rv.map fun x => Value.int .i64 x) :: seg true g 0 [.int .i64 on, .int .i64 0, .int .i64 h, .int .i64 v] :: keptA k A B :: L) := (Sat.sub (s1) (by with_reducible repeat first | exact Fr1 | exact Fr2 | (apply Fr3; focus ((repeat (first | exact Tk1 | apply Tk2)); done)) | apply Fr4))
  refine (add_int v HG.out.1 HG.out.2.1 h0 hsm sa).mono ?_
  rintro e w2 (⟨i, hi, hl1, hl2, rfl, s2⟩ | ⟨hfull, rfl, s2⟩)
  · have HL := Lib.hid (And.intro hl1 hl2); clear hl1 hl2
    clear s1 sa g1 g2 g3 gz
    have g1 := ((Sat.sub (s2) (by with_reducible repeat first | exact Fr1 | exact Fr2 | (apply Fr3; focus ((repeat (first | exact Tk1 | apply Tk2)); done)) | apply Fr4)) : Sat W0 w2 (seg true g 0 [.int .i64 on, .int .i64 0, .int .i64 h, .int .i64 v] :: [])).at 1 rfl
    have g2 := ((Sat.sub (s2) (by with_reducible repeat first | exact Fr1 | exact Fr2 | (apply Fr3; focus ((repeat (first | exact Tk1 | apply Tk2)); done)) | apply Fr4)) : Sat W0 w2 (seg true g 0 [.int .i64 on, .int .i64 0, .int .i64 h, .int .i64 v] :: [])).at 2 rfl
    have g3 := ((Sat.sub (s2) (by with_reducible repeat first | exact Fr1 | exact Fr2 | (apply Fr3; focus ((repeat (first | exact Tk1 | apply Tk2)); done)) | apply Fr4)) : Sat W0 w2 (seg true g 0 [.int .i64 on, .int .i64 0, .int .i64 h, .int .i64 v] :: [])).at 3 rfl
    have gz := ((Sat.sub (s2) (by with_reducible repeat first | exact Fr1 | exact Fr2 | (apply Fr3; focus ((repeat (first | exact Tk1 | apply Tk2)); done)) | apply Fr4)) : Sat W0 w2 (seg true g 0 [.int .i64 on, .int .i64 0, .int .i64 h, .int .i64 v] :: [])).lt (by simp)
    go_wp2_with fail
    have sb : Sat W0 w2 (seg true rb 0 [.slice (some ⟨rhb,0,none⟩) n n, .slice (some ⟨rvb,0,none⟩) n n] :: seg true rhb 0 (held.map .bool) :: seg true rvb 0 (rv.map fun x => Value.int .i64 x) :: seg true b 0 [.slice (some ⟨hb,0,none⟩) n n, .slice (some ⟨vb,0,none⟩) n n] :: seg true hb 0 ((held.set i true).map .bool) :: seg true vb 0 ((tv.set i v).map fun x => Value.int .i64 x) :: seg true g 0 [.int .i64 on, .int .i64 0, .int .i64 h, .int .i64 v] :: keptA k A B :: L) := (Sat.sub (s2) (by with_reducible repeat first | exact Fr1 | exact Fr2 | (apply Fr3; focus ((repeat (first | exact Tk1 | apply Tk2)); done)) | apply Fr4))
    refine (add_ref v HG.out.1 HG.out.2.2.1 h0 hsm sb).mono ?_
    rintro e w3 (⟨j, hj, hr1, hr2, rfl, s3⟩ | ⟨hfull, rfl, s3⟩)
    · obtain rfl := least_uniq HL.out.1 HL.out.2 hr1 hr2
      clear hr1 hr2 s2 sb g1 g2 g3 gz
      go_wp2_with fail
      go_ret
      exact ⟨rfl, A, (held.set i true), (tv.set i v), (rv.set i v), by omega, HG.out.put i hi v, (Sat.sub (s3) (by with_reducible repeat first | exact Fr1 | exact Fr2 | (apply Fr3; focus ((repeat (first | exact Tk1 | apply Tk2)); done)) | apply Fr4))⟩
    · have := hfull i hi
      rw [HL.out.2] at this
      cases this
  · clear s1 sa g1 g2 g3 gz
    have g1 := ((Sat.sub (s2) (by with_reducible repeat first | exact Fr1 | exact Fr2 | (apply Fr3; focus ((repeat (first | exact Tk1 | apply Tk2)); done)) | apply Fr4)) : Sat W0 w2 (seg true g 0 [.int .i64 on, .int .i64 0, .int .i64 h, .int .i64 v] :: [])).at 1 rfl
    have g2 := ((Sat.sub (s2) (by with_reducible repeat first | exact Fr1 | exact Fr2 | (apply Fr3; focus ((repeat (first | exact Tk1 | apply Tk2)); done)) | apply Fr4)) : Sat W0 w2 (seg true g 0 [.int .i64 on, .int .i64 0, .int .i64 h, .int .i64 v] :: [])).at 2 rfl
    have g3 := ((Sat.sub (s2) (by with_reducible repeat first | exact Fr1 | exact Fr2 | (apply Fr3; focus ((repeat (first | exact Tk1 | apply Tk2)); done)) | apply Fr4)) : Sat W0 w2 (seg true g 0 [.int .i64 on, .int .i64 0, .int .i64 h, .int .i64 v] :: [])).at 3 rfl
    have gz := ((Sat.sub (s2) (by with_reducible repeat first | exact Fr1 | exact Fr2 | (apply Fr3; focus ((repeat (first | exact Tk1 | apply Tk2)); done)) | apply Fr4)) : Sat W0 w2 (seg true g 0 [.int .i64 on, .int .i64 0, .int .i64 h, .int .i64 v] :: [])).lt (by simp)
    have HF := Lib.hid hfull; clear hfull
    go_wp2_with fail
    have sb : Sat W0 w2 (seg true rb 0 [.slice (some ⟨rhb,0,none⟩) n n, .slice (some ⟨rvb,0,none⟩) n n] :: seg true rhb 0 (held.map .bool) :: seg true rvb 0 (rv.map fun x => Value.int .i64 x) :: seg true b 0 [.slice (some ⟨hb,0,none⟩) n n, .slice (some ⟨vb,0,none⟩) n n] :: seg true hb 0 (held.map .bool) :: seg true vb 0 (tv.map fun x => Value.int .i64 x) :: seg true g 0 [.int .i64 on, .int .i64 0, .int .i64 h, .int .i64 v] :: keptA k A B :: L) := (Sat.sub (s2) (by with_reducible repeat first | exact Fr1 | exact Fr2 | (apply Fr3; focus ((repeat (first | exact Tk1 | apply Tk2)); done)) | apply Fr4))
    refine (add_ref v HG.out.1 HG.out.2.2.1 h0 hsm sb).mono ?_
    rintro e w3 (⟨j, hj, hr1, hr2, rfl, s3⟩ | ⟨hfull, rfl, s3⟩)
    · have := HF.out j hj
      rw [hr2] at this
      cases this
    · clear hfull s2 sb g1 g2 g3 gz
      go_wp2_with fail
      go_ret
      exact ⟨rfl, A, held, tv, rv, by omega, HG.out, (Sat.sub (s3) (by with_reducible repeat first | exact Fr1 | exact Fr2 | (apply Fr3; focus ((repeat (first | exact Tk1 | apply Tk2)); done)) | apply Fr4))⟩
set_option maxRecDepth 100000 in
set_option maxHeartbeats 4000000 in
theorem ai_set {W0 w : World} {L : List Assn} {k b hb vb rb rhb rvb n : Nat} {A : List KI} {B : List KP} {held : List Bool} {tv rv : List Int} (hag : agG 0 id n held tv rv) (h0 : 0 < n) (hsm : n ≤ 64) (hA : A.length ≤ 100000) (on h v : Int) (hs : Sat W0 w (keptA k A B :: tI b hb vb rb rhb rvb n held tv rv L)) :
    Calls Try.prog 8 #[.pointer (some ⟨k,0,none⟩), .pointer (some ⟨b,0,none⟩), .pointer (some ⟨rb,0,none⟩), .agg #[.int .i64 on, .int .i64 2, .int .i64 h, .int .i64 v]] w (postI W0 L k b hb vb rb rhb rvb n A B) := by
  have HG := Lib.hid hag; clear hag
  cases hy : (decide (0 ≤ h) && held.getD h.toNat false) with
  | false =>
    go_enter Try.func8, Try.ntmps8
    go_wp2_with (refine wpl_box rfl 44 (.tmp 3) rfl [.int .i64 on, .int .i64 2, .int .i64 h, .int .i64 v] rfl hs ?_; intro w1 g s1 _; clear hs; have g1 := s1.at 1 rfl; have g2 := s1.at 2 rfl; have g3 := s1.at 3 rfl; have gz := s1.lt (by simp))
    have s1d := s1.drew
    clear s1 g1 g2 g3 gz
    refine region_E (fun w' => w'.cell? ⟨g, 2, none⟩ = some (.int .i64 h) ∧ w'.cell? ⟨g, 3, none⟩ = some (.int .i64 v) ∧ g < w'.heap.size) [2, 4, 8, 10] (by kernel_rfl) ?_
    have hHeld := (And.intro (((Sat.sub (s1d) (by with_reducible repeat first | exact Fr1 | exact Fr2 | (apply Fr3; focus ((repeat (first | exact Tk1 | apply Tk2)); done)) | apply Fr4)) : Sat W0 _ (seg true g 0 [.int .i64 on, .int .i64 2, .int .i64 h, .int .i64 v] :: [])).at 2 rfl) (And.intro (((Sat.sub (s1d) (by with_reducible repeat first | exact Fr1 | exact Fr2 | (apply Fr3; focus ((repeat (first | exact Tk1 | apply Tk2)); done)) | apply Fr4)) : Sat W0 _ (seg true g 0 [.int .i64 on, .int .i64 2, .int .i64 h, .int .i64 v] :: [])).at 3 rfl) (((Sat.sub (s1d) (by with_reducible repeat first | exact Fr1 | exact Fr2 | (apply Fr3; focus ((repeat (first | exact Tk1 | apply Tk2)); done)) | apply Fr4)) : Sat W0 _ (seg true g 0 [.int .i64 on, .int .i64 2, .int .i64 h, .int .i64 v] :: [])).lt (by simp))))
    iterate 10
     first | refine autoT hHeld (by rfl) (by rfl) (x := ?_) (v := ?_) ?_ (by kernel_rfl) ?_ ?_ ?_ | refine autoP (by rfl) (x := ?_) (v := ?_) ?_ (by kernel_rfl) ?_ ?_ ?_
     rotate_left 2
     · (simp only [gE1, gE2, gE3]; rfl)
     · exact fun _ _ _ h => h
     · refine Or.inl ⟨by rfl, fun w hSw => ?_⟩
       (try dsimp only at hSw)
       go_simp
       try (with_reducible rfl)
     try simp only [pA1, pA2, pA3, pA4]
    refine anyE_one (i := 5) (x := ?_) ?_ (by kernel_rfl) (fun K hK => ?_)
    rotate_left
    · (simp only [gE1, gE2, gE3]; rfl)
    go_simp
    have sa : Sat W0 _ (seg true b 0 [.slice (some ⟨hb,0,none⟩) n n, .slice (some ⟨vb,0,none⟩) n n] :: seg true hb 0 (held.map .bool) :: seg true vb 0 (tv.map fun x => Value.int .i64 x) :: seg true rb 0 [.slice (some ⟨rhb,0,none⟩) n n, .slice (some ⟨rvb,0,none⟩) n n] :: seg true rhb 0 (held.map .bool) :: seg true rvb 0 (rv.map fun x => Value.int .i64 x) :: seg true g 0 [.int .i64 on, .int .i64 2, .int .i64 h, .int .i64 v] :: keptA k A B :: L) := (Sat.sub (s1d) (by with_reducible repeat first | exact Fr1 | exact Fr2 | (apply Fr3; focus ((repeat (first | exact Tk1 | apply Tk2)); done)) | apply Fr4))
    refine (set_no_int h v hy HG.out.1 HG.out.2.1 h0 hsm sa).mono ?_
    rintro e w2 ⟨rfl, s2⟩
    clear sa
    go_wp2_with fail
    have hKp := (And.intro (((Sat.sub (s2) (by with_reducible repeat first | exact Fr1 | exact Fr2 | (apply Fr3; focus ((repeat (first | exact Tk1 | apply Tk2)); done)) | apply Fr4)) : Sat W0 w2 (seg true g 0 [.int .i64 on, .int .i64 2, .int .i64 h, .int .i64 v] :: [])).at 2 rfl) (And.intro (((Sat.sub (s2) (by with_reducible repeat first | exact Fr1 | exact Fr2 | (apply Fr3; focus ((repeat (first | exact Tk1 | apply Tk2)); done)) | apply Fr4)) : Sat W0 w2 (seg true g 0 [.int .i64 on, .int .i64 2, .int .i64 h, .int .i64 v] :: [])).at 3 rfl) (((Sat.sub (s2) (by with_reducible repeat first | exact Fr1 | exact Fr2 | (apply Fr3; focus ((repeat (first | exact Tk1 | apply Tk2)); done)) | apply Fr4)) : Sat W0 w2 (seg true g 0 [.int .i64 on, .int .i64 2, .int .i64 h, .int .i64 v] :: [])).lt (by simp))))
    refine hK.out _ _ hKp ?_
    clear hK K hHeld
    have hHeld := hKp
    clear hKp
    try simp only [pA1, pA2, pA3, pA4]
    refine anyE_one (i := 11) (x := ?_) ?_ (by kernel_rfl) (fun K hK => ?_)
    rotate_left
    · (simp only [gE1, gE2, gE3]; rfl)
    go_simp
    have sb : Sat W0 w2 (seg true rb 0 [.slice (some ⟨rhb,0,none⟩) n n, .slice (some ⟨rvb,0,none⟩) n n] :: seg true rhb 0 (held.map .bool) :: seg true rvb 0 (rv.map fun x => Value.int .i64 x) :: seg true b 0 [.slice (some ⟨hb,0,none⟩) n n, .slice (some ⟨vb,0,none⟩) n n] :: seg true hb 0 (held.map .bool) :: seg true vb 0 (tv.map fun x => Value.int .i64 x) :: seg true g 0 [.int .i64 on, .int .i64 2, .int .i64 h, .int .i64 v] :: keptA k A B :: L) := (Sat.sub (s2) (by with_reducible repeat first | exact Fr1 | exact Fr2 | (apply Fr3; focus ((repeat (first | exact Tk1 | apply Tk2)); done)) | apply Fr4))
    refine (set_no_ref h v hy HG.out.1 HG.out.2.2.1 h0 hsm sb).mono ?_
    rintro e w3 ⟨rfl, s3⟩
    clear sb
    go_wp2_with fail
    have hKp := (And.intro (((Sat.sub (s3) (by with_reducible repeat first | exact Fr1 | exact Fr2 | (apply Fr3; focus ((repeat (first | exact Tk1 | apply Tk2)); done)) | apply Fr4)) : Sat W0 w3 (seg true g 0 [.int .i64 on, .int .i64 2, .int .i64 h, .int .i64 v] :: [])).at 2 rfl) (And.intro (((Sat.sub (s3) (by with_reducible repeat first | exact Fr1 | exact Fr2 | (apply Fr3; focus ((repeat (first | exact Tk1 | apply Tk2)); done)) | apply Fr4)) : Sat W0 w3 (seg true g 0 [.int .i64 on, .int .i64 2, .int .i64 h, .int .i64 v] :: [])).at 3 rfl) (((Sat.sub (s3) (by with_reducible repeat first | exact Fr1 | exact Fr2 | (apply Fr3; focus ((repeat (first | exact Tk1 | apply Tk2)); done)) | apply Fr4)) : Sat W0 w3 (seg true g 0 [.int .i64 on, .int .i64 2, .int .i64 h, .int .i64 v] :: [])).lt (by simp))))
    refine hK.out _ _ hKp ?_
    clear hK K hHeld
    have hHeld := hKp
    clear hKp
    try simp only [pA1, pA2, pA3, pA4]
    iterate 2
     first | refine autoT hHeld (by rfl) (by rfl) (x := ?_) (v := ?_) ?_ (by kernel_rfl) ?_ ?_ ?_ | refine autoP (by rfl) (x := ?_) (v := ?_) ?_ (by kernel_rfl) ?_ ?_ ?_
     rotate_left 2
     · (simp only [gE1, gE2, gE3]; rfl)
     · exact fun _ _ _ h => h
     · refine Or.inl ⟨by rfl, fun w hSw => ?_⟩
       (try dsimp only at hSw)
       go_simp
       try (with_reducible rfl)
     try simp only [pA1, pA2, pA3, pA4]
    refine anyE_done (by kernel_rfl) ?_ _
    go_wp2_with fail
    go_ret
    exact ⟨rfl, A, held, tv, rv, by omega, HG.out, (Sat.sub (s3) (by with_reducible repeat first | exact Fr1 | exact Fr2 | (apply Fr3; focus ((repeat (first | exact Tk1 | apply Tk2)); done)) | apply Fr4))⟩
  | true =>
    obtain ⟨m, rfl, hm, hh⟩ := there_nat HG.out.1 hy
    have HE := Lib.hid hh; clear hh hy
    go_enter Try.func8, Try.ntmps8
    go_wp2_with (refine wpl_box rfl 44 (.tmp 3) rfl [.int .i64 on, .int .i64 2, .int .i64 (m : Int), .int .i64 v] rfl hs ?_; intro w1 g s1 _; clear hs; have g1 := s1.at 1 rfl; have g2 := s1.at 2 rfl; have g3 := s1.at 3 rfl; have gz := s1.lt (by simp))
    have s1d := s1.drew
    clear s1 g1 g2 g3 gz
    refine region_E (fun w' => w'.cell? ⟨g, 2, none⟩ = some (.int .i64 (m : Int)) ∧ w'.cell? ⟨g, 3, none⟩ = some (.int .i64 v) ∧ g < w'.heap.size) [2, 4, 8, 10] (by kernel_rfl) ?_
    have hHeld := (And.intro (((Sat.sub (s1d) (by with_reducible repeat first | exact Fr1 | exact Fr2 | (apply Fr3; focus ((repeat (first | exact Tk1 | apply Tk2)); done)) | apply Fr4)) : Sat W0 _ (seg true g 0 [.int .i64 on, .int .i64 2, .int .i64 (m : Int), .int .i64 v] :: [])).at 2 rfl) (And.intro (((Sat.sub (s1d) (by with_reducible repeat first | exact Fr1 | exact Fr2 | (apply Fr3; focus ((repeat (first | exact Tk1 | apply Tk2)); done)) | apply Fr4)) : Sat W0 _ (seg true g 0 [.int .i64 on, .int .i64 2, .int .i64 (m : Int), .int .i64 v] :: [])).at 3 rfl) (((Sat.sub (s1d) (by with_reducible repeat first | exact Fr1 | exact Fr2 | (apply Fr3; focus ((repeat (first | exact Tk1 | apply Tk2)); done)) | apply Fr4)) : Sat W0 _ (seg true g 0 [.int .i64 on, .int .i64 2, .int .i64 (m : Int), .int .i64 v] :: [])).lt (by simp))))
    iterate 10
     first | refine autoT hHeld (by rfl) (by rfl) (x := ?_) (v := ?_) ?_ (by kernel_rfl) ?_ ?_ ?_ | refine autoP (by rfl) (x := ?_) (v := ?_) ?_ (by kernel_rfl) ?_ ?_ ?_
     rotate_left 2
     · (simp only [gE1, gE2, gE3]; rfl)
     · exact fun _ _ _ h => h
     · refine Or.inl ⟨by rfl, fun w hSw => ?_⟩
       (try dsimp only at hSw)
       go_simp
       try (with_reducible rfl)
     try simp only [pA1, pA2, pA3, pA4]
    refine anyE_one (i := 5) (x := ?_) ?_ (by kernel_rfl) (fun K hK => ?_)
    rotate_left
    · (simp only [gE1, gE2, gE3]; rfl)
    go_simp
    have sa : Sat W0 _ (seg true b 0 [.slice (some ⟨hb,0,none⟩) n n, .slice (some ⟨vb,0,none⟩) n n] :: seg true hb 0 (held.map .bool) :: seg true vb 0 (tv.map fun x => Value.int .i64 x) :: seg true rb 0 [.slice (some ⟨rhb,0,none⟩) n n, .slice (some ⟨rvb,0,none⟩) n n] :: seg true rhb 0 (held.map .bool) :: seg true rvb 0 (rv.map fun x => Value.int .i64 x) :: seg true g 0 [.int .i64 on, .int .i64 2, .int .i64 (m : Int), .int .i64 v] :: keptA k A B :: L) := (Sat.sub (s1d) (by with_reducible repeat first | exact Fr1 | exact Fr2 | (apply Fr3; focus ((repeat (first | exact Tk1 | apply Tk2)); done)) | apply Fr4))
    refine (set_yes_int m v HE.out hm HG.out.1 HG.out.2.1 h0 hsm sa).mono ?_
    rintro e w2 ⟨rfl, s2⟩
    clear sa
    go_wp2_with fail
    have hKp := (And.intro (((Sat.sub (s2) (by with_reducible repeat first | exact Fr1 | exact Fr2 | (apply Fr3; focus ((repeat (first | exact Tk1 | apply Tk2)); done)) | apply Fr4)) : Sat W0 w2 (seg true g 0 [.int .i64 on, .int .i64 2, .int .i64 (m : Int), .int .i64 v] :: [])).at 2 rfl) (And.intro (((Sat.sub (s2) (by with_reducible repeat first | exact Fr1 | exact Fr2 | (apply Fr3; focus ((repeat (first | exact Tk1 | apply Tk2)); done)) | apply Fr4)) : Sat W0 w2 (seg true g 0 [.int .i64 on, .int .i64 2, .int .i64 (m : Int), .int .i64 v] :: [])).at 3 rfl) (((Sat.sub (s2) (by with_reducible repeat first | exact Fr1 | exact Fr2 | (apply Fr3; focus ((repeat (first | exact Tk1 | apply Tk2)); done)) | apply Fr4)) : Sat W0 w2 (seg true g 0 [.int .i64 on, .int .i64 2, .int .i64 (m : Int), .int .i64 v] :: [])).lt (by simp))))
    refine hK.out _ _ hKp ?_
    clear hK K hHeld
    have hHeld := hKp
    clear hKp
    try simp only [pA1, pA2, pA3, pA4]
    refine anyE_one (i := 11) (x := ?_) ?_ (by kernel_rfl) (fun K hK => ?_)
    rotate_left
    · (simp only [gE1, gE2, gE3]; rfl)
    go_simp
    have sb : Sat W0 w2 (seg true rb 0 [.slice (some ⟨rhb,0,none⟩) n n, .slice (some ⟨rvb,0,none⟩) n n] :: seg true rhb 0 (held.map .bool) :: seg true rvb 0 (rv.map fun x => Value.int .i64 x) :: seg true b 0 [.slice (some ⟨hb,0,none⟩) n n, .slice (some ⟨vb,0,none⟩) n n] :: seg true hb 0 (held.map .bool) :: seg true vb 0 ((tv.set m v).map fun x => Value.int .i64 x) :: seg true g 0 [.int .i64 on, .int .i64 2, .int .i64 (m : Int), .int .i64 v] :: keptA k A B :: L) := (Sat.sub (s2) (by with_reducible repeat first | exact Fr1 | exact Fr2 | (apply Fr3; focus ((repeat (first | exact Tk1 | apply Tk2)); done)) | apply Fr4))
    refine (set_yes_ref m v HE.out hm HG.out.1 HG.out.2.2.1 h0 hsm sb).mono ?_
    rintro e w3 ⟨rfl, s3⟩
    clear sb
    go_wp2_with fail
    have hKp := (And.intro (((Sat.sub (s3) (by with_reducible repeat first | exact Fr1 | exact Fr2 | (apply Fr3; focus ((repeat (first | exact Tk1 | apply Tk2)); done)) | apply Fr4)) : Sat W0 w3 (seg true g 0 [.int .i64 on, .int .i64 2, .int .i64 (m : Int), .int .i64 v] :: [])).at 2 rfl) (And.intro (((Sat.sub (s3) (by with_reducible repeat first | exact Fr1 | exact Fr2 | (apply Fr3; focus ((repeat (first | exact Tk1 | apply Tk2)); done)) | apply Fr4)) : Sat W0 w3 (seg true g 0 [.int .i64 on, .int .i64 2, .int .i64 (m : Int), .int .i64 v] :: [])).at 3 rfl) (((Sat.sub (s3) (by with_reducible repeat first | exact Fr1 | exact Fr2 | (apply Fr3; focus ((repeat (first | exact Tk1 | apply Tk2)); done)) | apply Fr4)) : Sat W0 w3 (seg true g 0 [.int .i64 on, .int .i64 2, .int .i64 (m : Int), .int .i64 v] :: [])).lt (by simp))))
    refine hK.out _ _ hKp ?_
    clear hK K hHeld
    have hHeld := hKp
    clear hKp
    try simp only [pA1, pA2, pA3, pA4]
    iterate 2
     first | refine autoT hHeld (by rfl) (by rfl) (x := ?_) (v := ?_) ?_ (by kernel_rfl) ?_ ?_ ?_ | refine autoP (by rfl) (x := ?_) (v := ?_) ?_ (by kernel_rfl) ?_ ?_ ?_
     rotate_left 2
     · (simp only [gE1, gE2, gE3]; rfl)
     · exact fun _ _ _ h => h
     · refine Or.inl ⟨by rfl, fun w hSw => ?_⟩
       (try dsimp only at hSw)
       go_simp
       try (with_reducible rfl)
     try simp only [pA1, pA2, pA3, pA4]
    refine anyE_done (by kernel_rfl) ?_ _
    go_wp2_with fail
    go_ret
    exact ⟨rfl, A, held, (tv.set m v), (rv.set m v), by omega, HG.out.set m hm v, (Sat.sub (s3) (by with_reducible repeat first | exact Fr1 | exact Fr2 | (apply Fr3; focus ((repeat (first | exact Tk1 | apply Tk2)); done)) | apply Fr4))⟩
set_option maxRecDepth 100000 in
set_option maxHeartbeats 4000000 in
theorem ai_len {W0 w : World} {L : List Assn} {k b hb vb rb rhb rvb n : Nat} {A : List KI} {B : List KP} {held : List Bool} {tv rv : List Int} (hag : agG 0 id n held tv rv) (h0 : 0 < n) (hsm : n ≤ 64) (hA : A.length ≤ 100000) (on h v : Int) (hs : Sat W0 w (keptA k A B :: tI b hb vb rb rhb rvb n held tv rv L)) :
    Calls Try.prog 8 #[.pointer (some ⟨k,0,none⟩), .pointer (some ⟨b,0,none⟩), .pointer (some ⟨rb,0,none⟩), .agg #[.int .i64 on, .int .i64 4, .int .i64 h, .int .i64 v]] w (postI W0 L k b hb vb rb rhb rvb n A B) := by
  have HG := Lib.hid hag; clear hag
  obtain ⟨q, hq⟩ : ∃ q, q = held.count true := ⟨_, rfl⟩
  have hq2 : (idxT held n).length = q := by have := idxT_all HG.out.1; rw [← hq] at this; omega
  have HQ := Lib.hid (And.intro hq.symm hq2); clear hq hq2
  by_cases hqn : q = n
  · have hqe : ((q : Int) == (n : Int)) = true := by rw [hqn]; simp
    have hqf : ((q : Int) = (n : Int)) := by rw [hqn]
    have HE := Lib.hid (And.intro hqn hqe); clear hqn hqe
    go_enter Try.func8, Try.ntmps8
    go_wp2_with (refine wpl_box rfl 44 (.tmp 3) rfl [.int .i64 on, .int .i64 4, .int .i64 h, .int .i64 v] rfl hs ?_; intro w1 g s1 _; clear hs; have g1 := s1.at 1 rfl; have g2 := s1.at 2 rfl; have g3 := s1.at 3 rfl; have gz := s1.lt (by simp))
    have s1d := s1.drew
    clear s1 g1 g2 g3 gz
    refine region_E (fun w' => w'.cell? ⟨rb, 0, none⟩ = some (.slice (some ⟨rhb,0,none⟩) n n) ∧ rb < w'.heap.size) [15] (by kernel_rfl) ?_
    have hHeld := (And.intro (((Sat.sub (s1d) (by with_reducible repeat first | exact Fr1 | exact Fr2 | (apply Fr3; focus ((repeat (first | exact Tk1 | apply Tk2)); done)) | apply Fr4)) : Sat W0 _ (seg true rb 0 [.slice (some ⟨rhb,0,none⟩) n n, .slice (some ⟨rvb,0,none⟩) n n] :: [])).at 0 rfl) (((Sat.sub (s1d) (by with_reducible repeat first | exact Fr1 | exact Fr2 | (apply Fr3; focus ((repeat (first | exact Tk1 | apply Tk2)); done)) | apply Fr4)) : Sat W0 _ (seg true rb 0 [.slice (some ⟨rhb,0,none⟩) n n, .slice (some ⟨rvb,0,none⟩) n n] :: [])).lt (by simp)))
    iterate 2
     first | refine autoT hHeld (by rfl) (by rfl) (x := ?_) (v := ?_) ?_ (by kernel_rfl) ?_ ?_ ?_ | refine autoP (by rfl) (x := ?_) (v := ?_) ?_ (by kernel_rfl) ?_ ?_ ?_
     rotate_left 2
     · (simp only [gE1, gE2, gE3]; rfl)
     · exact fun _ _ _ h => h
     · refine Or.inl ⟨by rfl, fun w hSw => ?_⟩
       (try dsimp only at hSw)
       go_simp
       try (with_reducible rfl)
     try simp only [pA1, pA2, pA3, pA4]
    refine anyE_one (i := 1) (x := ?_) ?_ (by kernel_rfl) (fun K hK => ?_)
    rotate_left
    · (simp only [gE1, gE2, gE3]; rfl)
    go_simp
    have sa : Sat W0 _ (seg true b 0 [.slice (some ⟨hb,0,none⟩) n n, .slice (some ⟨vb,0,none⟩) n n] :: seg true hb 0 (held.map .bool) :: seg true vb 0 (tv.map fun x => Value.int .i64 x) :: seg true rb 0 [.slice (some ⟨rhb,0,none⟩) n n, .slice (some ⟨rvb,0,none⟩) n n] :: seg true rhb 0 (held.map .bool) :: seg true rvb 0 (rv.map fun x => Value.int .i64 x) :: keptA k A B :: L) := (Sat.sub (s1d) (by with_reducible repeat first | exact Fr1 | exact Fr2 | (apply Fr3; focus ((repeat (first | exact Tk1 | apply Tk2)); done)) | apply Fr4))
    refine (len_int HG.out.1 HG.out.2.1 h0 hsm sa).mono ?_
    rintro e w2 ⟨rfl, rfl⟩
    rw [HQ.out.1]
    go_wp2_with fail
    have hKp := (And.intro (((Sat.sub (sa) (by with_reducible repeat first | exact Fr1 | exact Fr2 | (apply Fr3; focus ((repeat (first | exact Tk1 | apply Tk2)); done)) | apply Fr4)) : Sat W0 _ (seg true rb 0 [.slice (some ⟨rhb,0,none⟩) n n, .slice (some ⟨rvb,0,none⟩) n n] :: [])).at 0 rfl) (((Sat.sub (sa) (by with_reducible repeat first | exact Fr1 | exact Fr2 | (apply Fr3; focus ((repeat (first | exact Tk1 | apply Tk2)); done)) | apply Fr4)) : Sat W0 _ (seg true rb 0 [.slice (some ⟨rhb,0,none⟩) n n, .slice (some ⟨rvb,0,none⟩) n n] :: [])).lt (by simp)))
    refine hK.out _ _ hKp ?_
    clear hK K hHeld
    have hHeld := hKp
    clear hKp
    try simp only [pA1, pA2, pA3, pA4]
    refine anyE_one (i := 3) (x := ?_) ?_ (by kernel_rfl) (fun K hK => ?_)
    rotate_left
    · (simp only [gE1, gE2, gE3]; rfl)
    go_simp
    have sb : Sat W0 _ (seg true rb 0 [.slice (some ⟨rhb,0,none⟩) n n, .slice (some ⟨rvb,0,none⟩) n n] :: seg true rhb 0 (held.map .bool) :: seg true rvb 0 (rv.map fun x => Value.int .i64 x) :: seg true b 0 [.slice (some ⟨hb,0,none⟩) n n, .slice (some ⟨vb,0,none⟩) n n] :: seg true hb 0 (held.map .bool) :: seg true vb 0 (tv.map fun x => Value.int .i64 x) :: keptA k A B :: L) := (Sat.sub (sa) (by with_reducible repeat first | exact Fr1 | exact Fr2 | (apply Fr3; focus ((repeat (first | exact Tk1 | apply Tk2)); done)) | apply Fr4))
    refine (held_ref HG.out.1 h0 hsm sb).mono ?_
    rintro e w3 ⟨p, c, rfl, s3⟩
    rw [HQ.out.2] at s3 ⊢
    go_wp2_with fail
    have hKp := (And.intro (((Sat.sub (s3) (by with_reducible repeat first | exact Fr1 | exact Fr2 | (apply Fr3; focus ((repeat (first | exact Tk1 | apply Tk2)); done)) | apply Fr4)) : Sat W0 w3 (seg true rb 0 [.slice (some ⟨rhb,0,none⟩) n n, .slice (some ⟨rvb,0,none⟩) n n] :: [])).at 0 rfl) (((Sat.sub (s3) (by with_reducible repeat first | exact Fr1 | exact Fr2 | (apply Fr3; focus ((repeat (first | exact Tk1 | apply Tk2)); done)) | apply Fr4)) : Sat W0 w3 (seg true rb 0 [.slice (some ⟨rhb,0,none⟩) n n, .slice (some ⟨rvb,0,none⟩) n n] :: [])).lt (by simp)))
    refine hK.out _ _ hKp ?_
    clear hK K hHeld
    have hHeld := hKp
    clear hKp
    try simp only [pA1, pA2, pA3, pA4]
    iterate 5
     first | refine autoT hHeld (by rfl) (by rfl) (x := ?_) (v := ?_) ?_ (by kernel_rfl) ?_ ?_ ?_ | refine autoP (by rfl) (x := ?_) (v := ?_) ?_ (by kernel_rfl) ?_ ?_ ?_
     rotate_left 2
     · (simp only [gE1, gE2, gE3]; rfl)
     · exact fun _ _ _ h => h
     · refine Or.inl ⟨by rfl, fun w hSw => ?_⟩
       (try dsimp only at hSw)
       go_simp
       try (with_reducible rfl)
     try simp only [pA1, pA2, pA3, pA4]
    refine anyE_pure (i := 12) (x := ?_) (v := ?_) ?_ (by kernel_rfl) (by kernel_rfl) (by kernel_rfl) ?_ ?_ ?_
    rotate_left 2
    · (simp only [gE1, gE2, gE3]; rfl)
    · exact fun _ _ _ h => h
    · refine Or.inl ⟨by rfl, fun w hSw => ?_⟩
      (try dsimp only at hSw)
      go_simp
      try (with_reducible rfl)
    try simp only [pA1, pA2, pA3, pA4]
    refine anyE_pure (i := 13) (x := ?_) (v := ?_) ?_ (by kernel_rfl) (by kernel_rfl) (by kernel_rfl) ?_ ?_ ?_
    rotate_left 2
    · (simp only [gE1, gE2, gE3]; rfl)
    · exact fun _ _ _ h => h
    · refine Or.inl ⟨by rfl, fun w hSw => ?_⟩
      (try dsimp only at hSw)
      go_simp
      try (with_reducible rfl)
    try simp only [pA1, pA2, pA3, pA4]
    refine anyE_pure (i := 14) (x := ?_) (v := ?_) ?_ (by kernel_rfl) (by kernel_rfl) (by kernel_rfl) ?_ ?_ ?_
    rotate_left 2
    · (simp only [gE1, gE2, gE3]; rfl)
    · exact fun _ _ _ h => h
    · refine Or.inl ⟨by rfl, fun w hSw => ?_⟩
      (try dsimp only at hSw)
      go_simp
      try (with_reducible rfl)
    try simp only [pA1, pA2, pA3, pA4]
    refine anyE_take (i := 15) (x := ?_) (v := ?_) ?_ (by kernel_rfl) (by kernel_rfl) (by kernel_rfl) (by kernel_rfl) ?_ ?_ hHeld ?_
    rotate_left 2
    · (simp only [gE1, gE2, gE3]; rfl)
    · exact fun _ _ _ h => h
    · refine Or.inl ⟨by rfl, fun w hSw => ?_⟩
      (try dsimp only at hSw)
      go_simp
      try (with_reducible rfl)
    try simp only [pA1, pA2, pA3, pA4]
    refine anyE_pure (i := 16) (x := ?_) (v := ?_) ?_ (by kernel_rfl) (by kernel_rfl) (by kernel_rfl) ?_ ?_ ?_
    rotate_left 2
    · (simp only [gE1, gE2, gE3]; rfl)
    · exact fun _ _ _ h => h
    · refine Or.inl ⟨by rfl, fun w hSw => ?_⟩
      (try dsimp only at hSw)
      go_simp
      try (with_reducible rfl)
    try simp only [pA1, pA2, pA3, pA4]
    refine anyE_one (i := 8) (x := ?_) ?_ (by kernel_rfl) (fun K hK => ?_)
    rotate_left
    · (simp only [gE1, gE2, gE3]; rfl)
    go_simp
    have sa : Sat W0 w3 (seg true b 0 [.slice (some ⟨hb,0,none⟩) n n, .slice (some ⟨vb,0,none⟩) n n] :: seg true hb 0 (held.map .bool) :: seg true vb 0 (tv.map fun x => Value.int .i64 x) :: seg true rb 0 [.slice (some ⟨rhb,0,none⟩) n n, .slice (some ⟨rvb,0,none⟩) n n] :: seg true rhb 0 (held.map .bool) :: seg true rvb 0 (rv.map fun x => Value.int .i64 x) :: keptA k A B :: L) := (Sat.sub (s3) (by with_reducible repeat first | exact Fr1 | exact Fr2 | (apply Fr3; focus ((repeat (first | exact Tk1 | apply Tk2)); done)) | apply Fr4))
    refine (full_int HG.out.1 HG.out.2.1 h0 hsm sa).mono ?_
    rintro e w4 ⟨rfl, kk, hw4⟩
    have s4 := sa.drewN kk
    rw [← hw4] at s4
    clear hw4
    rw [HQ.out.1]
    rw [HE.out.2]
    go_wp2_with fail
    have hKp := (And.intro (((Sat.sub (s4) (by with_reducible repeat first | exact Fr1 | exact Fr2 | (apply Fr3; focus ((repeat (first | exact Tk1 | apply Tk2)); done)) | apply Fr4)) : Sat W0 w4 (seg true rb 0 [.slice (some ⟨rhb,0,none⟩) n n, .slice (some ⟨rvb,0,none⟩) n n] :: [])).at 0 rfl) (((Sat.sub (s4) (by with_reducible repeat first | exact Fr1 | exact Fr2 | (apply Fr3; focus ((repeat (first | exact Tk1 | apply Tk2)); done)) | apply Fr4)) : Sat W0 w4 (seg true rb 0 [.slice (some ⟨rhb,0,none⟩) n n, .slice (some ⟨rvb,0,none⟩) n n] :: [])).lt (by simp)))
    refine hK.out _ _ hKp ?_
    clear hK K hHeld
    have hHeld := hKp
    clear hKp
    try simp only [pA1, pA2, pA3, pA4]
    refine anyE_one (i := 10) (x := ?_) ?_ (by kernel_rfl) (fun K hK => ?_)
    rotate_left
    · (simp only [gE1, gE2, gE3]; rfl)
    go_simp
    have sb : Sat W0 w4 (seg true rb 0 [.slice (some ⟨rhb,0,none⟩) n n, .slice (some ⟨rvb,0,none⟩) n n] :: seg true rhb 0 (held.map .bool) :: seg true rvb 0 (rv.map fun x => Value.int .i64 x) :: seg true b 0 [.slice (some ⟨hb,0,none⟩) n n, .slice (some ⟨vb,0,none⟩) n n] :: seg true hb 0 (held.map .bool) :: seg true vb 0 (tv.map fun x => Value.int .i64 x) :: keptA k A B :: L) := (Sat.sub (s4) (by with_reducible repeat first | exact Fr1 | exact Fr2 | (apply Fr3; focus ((repeat (first | exact Tk1 | apply Tk2)); done)) | apply Fr4))
    refine (held_ref HG.out.1 h0 hsm sb).mono ?_
    rintro e w5 ⟨p, c, rfl, s5⟩
    rw [HQ.out.2] at s5 ⊢
    go_wp2_with fail
    have hKp := (And.intro (((Sat.sub (s5) (by with_reducible repeat first | exact Fr1 | exact Fr2 | (apply Fr3; focus ((repeat (first | exact Tk1 | apply Tk2)); done)) | apply Fr4)) : Sat W0 w5 (seg true rb 0 [.slice (some ⟨rhb,0,none⟩) n n, .slice (some ⟨rvb,0,none⟩) n n] :: [])).at 0 rfl) (((Sat.sub (s5) (by with_reducible repeat first | exact Fr1 | exact Fr2 | (apply Fr3; focus ((repeat (first | exact Tk1 | apply Tk2)); done)) | apply Fr4)) : Sat W0 w5 (seg true rb 0 [.slice (some ⟨rhb,0,none⟩) n n, .slice (some ⟨rvb,0,none⟩) n n] :: [])).lt (by simp)))
    refine hK.out _ _ hKp ?_
    clear hK K hHeld
    have hHeld := hKp
    clear hKp
    try simp only [pA1, pA2, pA3, pA4]
    iterate 5
     first | refine autoT hHeld (by rfl) (by rfl) (x := ?_) (v := ?_) ?_ (by kernel_rfl) ?_ ?_ ?_ | refine autoP (by rfl) (x := ?_) (v := ?_) ?_ (by kernel_rfl) ?_ ?_ ?_
     rotate_left 2
     · (simp only [gE1, gE2, gE3]; rfl)
     · exact fun _ _ _ h => h
     · refine Or.inl ⟨by rfl, fun w hSw => ?_⟩
       (try dsimp only at hSw)
       go_simp
       try (with_reducible rfl)
     try simp only [pA1, pA2, pA3, pA4]
    refine anyE_done (by kernel_rfl) ?_ _
    go_wp2_with fail
    go_ret
    exact ⟨rfl, A, held, tv, rv, by omega, HG.out, (Sat.sub (s5) (by with_reducible repeat first | exact Fr1 | exact Fr2 | (apply Fr3; focus ((repeat (first | exact Tk1 | apply Tk2)); done)) | apply Fr4))⟩
  · have hqe : ((q : Int) == (n : Int)) = false := by simp; omega
    have hqf : ((q : Int) = (n : Int)) = False := by simp; omega
    have HE := Lib.hid (And.intro hqn hqe); clear hqn hqe
    go_enter Try.func8, Try.ntmps8
    go_wp2_with (refine wpl_box rfl 44 (.tmp 3) rfl [.int .i64 on, .int .i64 4, .int .i64 h, .int .i64 v] rfl hs ?_; intro w1 g s1 _; clear hs; have g1 := s1.at 1 rfl; have g2 := s1.at 2 rfl; have g3 := s1.at 3 rfl; have gz := s1.lt (by simp))
    have s1d := s1.drew
    clear s1 g1 g2 g3 gz
    refine region_E (fun w' => w'.cell? ⟨rb, 0, none⟩ = some (.slice (some ⟨rhb,0,none⟩) n n) ∧ rb < w'.heap.size) [15] (by kernel_rfl) ?_
    have hHeld := (And.intro (((Sat.sub (s1d) (by with_reducible repeat first | exact Fr1 | exact Fr2 | (apply Fr3; focus ((repeat (first | exact Tk1 | apply Tk2)); done)) | apply Fr4)) : Sat W0 _ (seg true rb 0 [.slice (some ⟨rhb,0,none⟩) n n, .slice (some ⟨rvb,0,none⟩) n n] :: [])).at 0 rfl) (((Sat.sub (s1d) (by with_reducible repeat first | exact Fr1 | exact Fr2 | (apply Fr3; focus ((repeat (first | exact Tk1 | apply Tk2)); done)) | apply Fr4)) : Sat W0 _ (seg true rb 0 [.slice (some ⟨rhb,0,none⟩) n n, .slice (some ⟨rvb,0,none⟩) n n] :: [])).lt (by simp)))
    iterate 2
     first | refine autoT hHeld (by rfl) (by rfl) (x := ?_) (v := ?_) ?_ (by kernel_rfl) ?_ ?_ ?_ | refine autoP (by rfl) (x := ?_) (v := ?_) ?_ (by kernel_rfl) ?_ ?_ ?_
     rotate_left 2
     · (simp only [gE1, gE2, gE3]; rfl)
     · exact fun _ _ _ h => h
     · refine Or.inl ⟨by rfl, fun w hSw => ?_⟩
       (try dsimp only at hSw)
       go_simp
       try (with_reducible rfl)
     try simp only [pA1, pA2, pA3, pA4]
    refine anyE_one (i := 1) (x := ?_) ?_ (by kernel_rfl) (fun K hK => ?_)
    rotate_left
    · (simp only [gE1, gE2, gE3]; rfl)
    go_simp
    have sa : Sat W0 _ (seg true b 0 [.slice (some ⟨hb,0,none⟩) n n, .slice (some ⟨vb,0,none⟩) n n] :: seg true hb 0 (held.map .bool) :: seg true vb 0 (tv.map fun x => Value.int .i64 x) :: seg true rb 0 [.slice (some ⟨rhb,0,none⟩) n n, .slice (some ⟨rvb,0,none⟩) n n] :: seg true rhb 0 (held.map .bool) :: seg true rvb 0 (rv.map fun x => Value.int .i64 x) :: keptA k A B :: L) := (Sat.sub (s1d) (by with_reducible repeat first | exact Fr1 | exact Fr2 | (apply Fr3; focus ((repeat (first | exact Tk1 | apply Tk2)); done)) | apply Fr4))
    refine (len_int HG.out.1 HG.out.2.1 h0 hsm sa).mono ?_
    rintro e w2 ⟨rfl, rfl⟩
    rw [HQ.out.1]
    go_wp2_with fail
    have hKp := (And.intro (((Sat.sub (sa) (by with_reducible repeat first | exact Fr1 | exact Fr2 | (apply Fr3; focus ((repeat (first | exact Tk1 | apply Tk2)); done)) | apply Fr4)) : Sat W0 _ (seg true rb 0 [.slice (some ⟨rhb,0,none⟩) n n, .slice (some ⟨rvb,0,none⟩) n n] :: [])).at 0 rfl) (((Sat.sub (sa) (by with_reducible repeat first | exact Fr1 | exact Fr2 | (apply Fr3; focus ((repeat (first | exact Tk1 | apply Tk2)); done)) | apply Fr4)) : Sat W0 _ (seg true rb 0 [.slice (some ⟨rhb,0,none⟩) n n, .slice (some ⟨rvb,0,none⟩) n n] :: [])).lt (by simp)))
    refine hK.out _ _ hKp ?_
    clear hK K hHeld
    have hHeld := hKp
    clear hKp
    try simp only [pA1, pA2, pA3, pA4]
    refine anyE_one (i := 3) (x := ?_) ?_ (by kernel_rfl) (fun K hK => ?_)
    rotate_left
    · (simp only [gE1, gE2, gE3]; rfl)
    go_simp
    have sb : Sat W0 _ (seg true rb 0 [.slice (some ⟨rhb,0,none⟩) n n, .slice (some ⟨rvb,0,none⟩) n n] :: seg true rhb 0 (held.map .bool) :: seg true rvb 0 (rv.map fun x => Value.int .i64 x) :: seg true b 0 [.slice (some ⟨hb,0,none⟩) n n, .slice (some ⟨vb,0,none⟩) n n] :: seg true hb 0 (held.map .bool) :: seg true vb 0 (tv.map fun x => Value.int .i64 x) :: keptA k A B :: L) := (Sat.sub (sa) (by with_reducible repeat first | exact Fr1 | exact Fr2 | (apply Fr3; focus ((repeat (first | exact Tk1 | apply Tk2)); done)) | apply Fr4))
    refine (held_ref HG.out.1 h0 hsm sb).mono ?_
    rintro e w3 ⟨p, c, rfl, s3⟩
    rw [HQ.out.2] at s3 ⊢
    go_wp2_with fail
    have hKp := (And.intro (((Sat.sub (s3) (by with_reducible repeat first | exact Fr1 | exact Fr2 | (apply Fr3; focus ((repeat (first | exact Tk1 | apply Tk2)); done)) | apply Fr4)) : Sat W0 w3 (seg true rb 0 [.slice (some ⟨rhb,0,none⟩) n n, .slice (some ⟨rvb,0,none⟩) n n] :: [])).at 0 rfl) (((Sat.sub (s3) (by with_reducible repeat first | exact Fr1 | exact Fr2 | (apply Fr3; focus ((repeat (first | exact Tk1 | apply Tk2)); done)) | apply Fr4)) : Sat W0 w3 (seg true rb 0 [.slice (some ⟨rhb,0,none⟩) n n, .slice (some ⟨rvb,0,none⟩) n n] :: [])).lt (by simp)))
    refine hK.out _ _ hKp ?_
    clear hK K hHeld
    have hHeld := hKp
    clear hKp
    try simp only [pA1, pA2, pA3, pA4]
    iterate 5
     first | refine autoT hHeld (by rfl) (by rfl) (x := ?_) (v := ?_) ?_ (by kernel_rfl) ?_ ?_ ?_ | refine autoP (by rfl) (x := ?_) (v := ?_) ?_ (by kernel_rfl) ?_ ?_ ?_
     rotate_left 2
     · (simp only [gE1, gE2, gE3]; rfl)
     · exact fun _ _ _ h => h
     · refine Or.inl ⟨by rfl, fun w hSw => ?_⟩
       (try dsimp only at hSw)
       go_simp
       try (with_reducible rfl)
     try simp only [pA1, pA2, pA3, pA4]
    refine anyE_pure (i := 12) (x := ?_) (v := ?_) ?_ (by kernel_rfl) (by kernel_rfl) (by kernel_rfl) ?_ ?_ ?_
    rotate_left 2
    · (simp only [gE1, gE2, gE3]; rfl)
    · exact fun _ _ _ h => h
    · refine Or.inl ⟨by rfl, fun w hSw => ?_⟩
      (try dsimp only at hSw)
      go_simp
      try (with_reducible rfl)
    try simp only [pA1, pA2, pA3, pA4]
    refine anyE_pure (i := 13) (x := ?_) (v := ?_) ?_ (by kernel_rfl) (by kernel_rfl) (by kernel_rfl) ?_ ?_ ?_
    rotate_left 2
    · (simp only [gE1, gE2, gE3]; rfl)
    · exact fun _ _ _ h => h
    · refine Or.inl ⟨by rfl, fun w hSw => ?_⟩
      (try dsimp only at hSw)
      go_simp
      try (with_reducible rfl)
    try simp only [pA1, pA2, pA3, pA4]
    refine anyE_pure (i := 14) (x := ?_) (v := ?_) ?_ (by kernel_rfl) (by kernel_rfl) (by kernel_rfl) ?_ ?_ ?_
    rotate_left 2
    · (simp only [gE1, gE2, gE3]; rfl)
    · exact fun _ _ _ h => h
    · refine Or.inl ⟨by rfl, fun w hSw => ?_⟩
      (try dsimp only at hSw)
      go_simp
      try (with_reducible rfl)
    try simp only [pA1, pA2, pA3, pA4]
    refine anyE_take (i := 15) (x := ?_) (v := ?_) ?_ (by kernel_rfl) (by kernel_rfl) (by kernel_rfl) (by kernel_rfl) ?_ ?_ hHeld ?_
    rotate_left 2
    · (simp only [gE1, gE2, gE3]; rfl)
    · exact fun _ _ _ h => h
    · refine Or.inl ⟨by rfl, fun w hSw => ?_⟩
      (try dsimp only at hSw)
      go_simp
      try (with_reducible rfl)
    try simp only [pA1, pA2, pA3, pA4]
    refine anyE_pure (i := 16) (x := ?_) (v := ?_) ?_ (by kernel_rfl) (by kernel_rfl) (by kernel_rfl) ?_ ?_ ?_
    rotate_left 2
    · (simp only [gE1, gE2, gE3]; rfl)
    · exact fun _ _ _ h => h
    · refine Or.inl ⟨by rfl, fun w hSw => ?_⟩
      (try dsimp only at hSw)
      go_simp
      try (with_reducible rfl)
    try simp only [pA1, pA2, pA3, pA4]
    refine anyE_one (i := 8) (x := ?_) ?_ (by kernel_rfl) (fun K hK => ?_)
    rotate_left
    · (simp only [gE1, gE2, gE3]; rfl)
    go_simp
    have sa : Sat W0 w3 (seg true b 0 [.slice (some ⟨hb,0,none⟩) n n, .slice (some ⟨vb,0,none⟩) n n] :: seg true hb 0 (held.map .bool) :: seg true vb 0 (tv.map fun x => Value.int .i64 x) :: seg true rb 0 [.slice (some ⟨rhb,0,none⟩) n n, .slice (some ⟨rvb,0,none⟩) n n] :: seg true rhb 0 (held.map .bool) :: seg true rvb 0 (rv.map fun x => Value.int .i64 x) :: keptA k A B :: L) := (Sat.sub (s3) (by with_reducible repeat first | exact Fr1 | exact Fr2 | (apply Fr3; focus ((repeat (first | exact Tk1 | apply Tk2)); done)) | apply Fr4))
    refine (full_int HG.out.1 HG.out.2.1 h0 hsm sa).mono ?_
    rintro e w4 ⟨rfl, kk, hw4⟩
    have s4 := sa.drewN kk
    rw [← hw4] at s4
    clear hw4
    rw [HQ.out.1]
    rw [HE.out.2]
    go_wp2_with fail
    have hKp := (And.intro (((Sat.sub (s4) (by with_reducible repeat first | exact Fr1 | exact Fr2 | (apply Fr3; focus ((repeat (first | exact Tk1 | apply Tk2)); done)) | apply Fr4)) : Sat W0 w4 (seg true rb 0 [.slice (some ⟨rhb,0,none⟩) n n, .slice (some ⟨rvb,0,none⟩) n n] :: [])).at 0 rfl) (((Sat.sub (s4) (by with_reducible repeat first | exact Fr1 | exact Fr2 | (apply Fr3; focus ((repeat (first | exact Tk1 | apply Tk2)); done)) | apply Fr4)) : Sat W0 w4 (seg true rb 0 [.slice (some ⟨rhb,0,none⟩) n n, .slice (some ⟨rvb,0,none⟩) n n] :: [])).lt (by simp)))
    refine hK.out _ _ hKp ?_
    clear hK K hHeld
    have hHeld := hKp
    clear hKp
    try simp only [pA1, pA2, pA3, pA4]
    refine anyE_one (i := 10) (x := ?_) ?_ (by kernel_rfl) (fun K hK => ?_)
    rotate_left
    · (simp only [gE1, gE2, gE3]; rfl)
    go_simp
    have sb : Sat W0 w4 (seg true rb 0 [.slice (some ⟨rhb,0,none⟩) n n, .slice (some ⟨rvb,0,none⟩) n n] :: seg true rhb 0 (held.map .bool) :: seg true rvb 0 (rv.map fun x => Value.int .i64 x) :: seg true b 0 [.slice (some ⟨hb,0,none⟩) n n, .slice (some ⟨vb,0,none⟩) n n] :: seg true hb 0 (held.map .bool) :: seg true vb 0 (tv.map fun x => Value.int .i64 x) :: keptA k A B :: L) := (Sat.sub (s4) (by with_reducible repeat first | exact Fr1 | exact Fr2 | (apply Fr3; focus ((repeat (first | exact Tk1 | apply Tk2)); done)) | apply Fr4))
    refine (held_ref HG.out.1 h0 hsm sb).mono ?_
    rintro e w5 ⟨p, c, rfl, s5⟩
    rw [HQ.out.2] at s5 ⊢
    go_wp2_with fail
    have hKp := (And.intro (((Sat.sub (s5) (by with_reducible repeat first | exact Fr1 | exact Fr2 | (apply Fr3; focus ((repeat (first | exact Tk1 | apply Tk2)); done)) | apply Fr4)) : Sat W0 w5 (seg true rb 0 [.slice (some ⟨rhb,0,none⟩) n n, .slice (some ⟨rvb,0,none⟩) n n] :: [])).at 0 rfl) (((Sat.sub (s5) (by with_reducible repeat first | exact Fr1 | exact Fr2 | (apply Fr3; focus ((repeat (first | exact Tk1 | apply Tk2)); done)) | apply Fr4)) : Sat W0 w5 (seg true rb 0 [.slice (some ⟨rhb,0,none⟩) n n, .slice (some ⟨rvb,0,none⟩) n n] :: [])).lt (by simp)))
    refine hK.out _ _ hKp ?_
    clear hK K hHeld
    have hHeld := hKp
    clear hKp
    try simp only [pA1, pA2, pA3, pA4]
    iterate 5
     first | refine autoT hHeld (by rfl) (by rfl) (x := ?_) (v := ?_) ?_ (by kernel_rfl) ?_ ?_ ?_ | refine autoP (by rfl) (x := ?_) (v := ?_) ?_ (by kernel_rfl) ?_ ?_ ?_
     rotate_left 2
     · (simp only [gE1, gE2, gE3]; rfl)
     · exact fun _ _ _ h => h
     · refine Or.inl ⟨by rfl, fun w hSw => ?_⟩
       (try dsimp only at hSw)
       go_simp
       try (with_reducible rfl)
     try simp only [pA1, pA2, pA3, pA4]
    refine anyE_done (by kernel_rfl) ?_ _
    go_wp2_with fail
    go_ret
    exact ⟨(by show Ending.returned (.bool (!((q : Int) == (n : Int)))) = _; rw [HE.out.2]; rfl), A, held, tv, rv, by omega, HG.out, (Sat.sub (s5) (by with_reducible repeat first | exact Fr1 | exact Fr2 | (apply Fr3; focus ((repeat (first | exact Tk1 | apply Tk2)); done)) | apply Fr4))⟩
theorem Try.infoSeq : (Try.prog.info? 64).map (fun i => (i.zero, i.size, i.bytes)) = some (some .nilFunc, 1, 8) := by kernel_rfl
theorem Try.infoInts : (Try.prog.info? 50).map (fun i => (i.zero, i.size, i.bytes)) = some (some (.slice none 0 0), 1, 24) := by kernel_rfl
set_option maxRecDepth 100000 in
set_option maxHeartbeats 4000000 in
theorem ai_all {W0 w : World} {L : List Assn} {k b hb vb rb rhb rvb n : Nat} {A : List KI} {B : List KP} {held : List Bool} {tv rv : List Int} (hag : agG 0 id n held tv rv) (h0 : 0 < n) (hsm : n ≤ 64) (hA : A.length ≤ 100000) (on h v : Int) (hs : Sat W0 w (keptA k A B :: tI b hb vb rb rhb rvb n held tv rv L)) :
    Calls Try.prog 8 #[.pointer (some ⟨k,0,none⟩), .pointer (some ⟨b,0,none⟩), .pointer (some ⟨rb,0,none⟩), .agg #[.int .i64 on, .int .i64 5, .int .i64 h, .int .i64 v]] w (postI W0 L k b hb vb rb rhb rvb n A B) := by
  have HG := Lib.hid hag; clear hag
  go_enter Try.func8, Try.ntmps8
  go_wp2_with (refine wpl_box rfl 44 (.tmp 3) rfl [.int .i64 on, .int .i64 5, .int .i64 h, .int .i64 v] rfl hs ?_; intro w1 g s1 _; clear hs; have g1 := s1.at 1 rfl; have g2 := s1.at 2 rfl; have g3 := s1.at 3 rfl; have gz := s1.lt (by simp))
  have sa : Sat W0 w1 (seg true b 0 [.slice (some ⟨hb,0,none⟩) n n, .slice (some ⟨vb,0,none⟩) n n] :: seg true hb 0 (held.map .bool) :: seg true vb 0 (tv.map fun x => Value.int .i64 x) :: seg true rb 0 [.slice (some ⟨rhb,0,none⟩) n n, .slice (some ⟨rvb,0,none⟩) n n] :: seg true rhb 0 (held.map .bool) :: seg true rvb 0 (rv.map fun x => Value.int .i64 x) :: seg true g 0 [.int .i64 on, .int .i64 5, .int .i64 h, .int .i64 v] :: keptA k A B :: L) := (Sat.sub (s1) (by with_reducible repeat first | exact Fr1 | exact Fr2 | (apply Fr3; focus ((repeat (first | exact Tk1 | apply Tk2)); done)) | apply Fr4))
  refine (all_int HG.out.1 HG.out.2.1 h0 hsm sa).mono ?_
  rintro e w2 ⟨gi, p1, c1x, p2, c2x, rfl, s2⟩
  clear s1 sa g1 g2 g3 gz
  have g1 := ((Sat.sub (s2) (by with_reducible repeat first | exact Fr1 | exact Fr2 | (apply Fr3; focus ((repeat (first | exact Tk1 | apply Tk2)); done)) | apply Fr4)) : Sat W0 w2 (seg true g 0 [.int .i64 on, .int .i64 5, .int .i64 h, .int .i64 v] :: [])).at 1 rfl
  have g2 := ((Sat.sub (s2) (by with_reducible repeat first | exact Fr1 | exact Fr2 | (apply Fr3; focus ((repeat (first | exact Tk1 | apply Tk2)); done)) | apply Fr4)) : Sat W0 w2 (seg true g 0 [.int .i64 on, .int .i64 5, .int .i64 h, .int .i64 v] :: [])).at 2 rfl
  have g3 := ((Sat.sub (s2) (by with_reducible repeat first | exact Fr1 | exact Fr2 | (apply Fr3; focus ((repeat (first | exact Tk1 | apply Tk2)); done)) | apply Fr4)) : Sat W0 w2 (seg true g 0 [.int .i64 on, .int .i64 5, .int .i64 h, .int .i64 v] :: [])).at 3 rfl
  have gz := ((Sat.sub (s2) (by with_reducible repeat first | exact Fr1 | exact Fr2 | (apply Fr3; focus ((repeat (first | exact Tk1 | apply Tk2)); done)) | apply Fr4)) : Sat W0 w2 (seg true g 0 [.int .i64 on, .int .i64 5, .int .i64 h, .int .i64 v] :: [])).lt (by simp)
  go_wp2_with fail
  have sb : Sat W0 w2 (seg true rb 0 [.slice (some ⟨rhb,0,none⟩) n n, .slice (some ⟨rvb,0,none⟩) n n] :: seg true rhb 0 (held.map .bool) :: seg true rvb 0 (rv.map fun x => Value.int .i64 x) :: seg true b 0 [.slice (some ⟨hb,0,none⟩) n n, .slice (some ⟨vb,0,none⟩) n n] :: seg true hb 0 (held.map .bool) :: seg true vb 0 (tv.map fun x => Value.int .i64 x) :: seg true g 0 [.int .i64 on, .int .i64 5, .int .i64 h, .int .i64 v] :: seg true gi 0 [.slice p1 n c1x, .slice p2 n c2x] :: row p1 c1x 1 n (held.map .bool) :: row p2 c2x 1 n (tv.map fun x => Value.int .i64 x) :: keptA k A B :: L) := (Sat.sub (s2) (by with_reducible repeat first | exact Fr1 | exact Fr2 | (apply Fr3; focus ((repeat (first | exact Tk1 | apply Tk2)); done)) | apply Fr4))
  refine (held19 HG.out.1 HG.out.2.2.1 h0 hsm sb).mono ?_
  rintro e w3 ⟨m, hp, hc, vp, vc, hm, rfl, s3⟩
  rw [valsT_ag HG.out] at s3
  clear s2 sb g1 g2 g3 gz
  obtain ⟨i1, hi1, hz1, hs1, hb1⟩ := info_parts Try.infoSeq
  obtain ⟨i3, hi3, hz3, hs3, hb3⟩ := info_parts Try.infoInts
  have I1 := Lib.hid (And.intro hi1 (And.intro hz1 (And.intro hs1 hb1))); clear hi1 hz1 hs1 hb1
  have I3 := Lib.hid (And.intro hi3 (And.intro hz3 (And.intro hs3 hb3))); clear hi3 hz3 hs3 hb3
  have HM := Lib.hid hm; clear hm
  obtain ⟨a1, c1, a2, c2, a3, c3, a4, c4, a5, c5, a6, c6, s4⟩ := keptOpen ((Sat.sub (s3) (by with_reducible repeat first | exact Fr1 | exact Fr2 | (apply Fr3; focus ((repeat (first | exact Tk1 | apply Tk2)); done)) | apply Fr4)) : Sat W0 w3 (keptA k A B :: seg true gi 0 [.slice p1 n c1x, .slice p2 n c2x] :: row p1 c1x 1 n (held.map .bool) :: row p2 c2x 1 n (tv.map fun x => Value.int .i64 x) :: row hp hc 1 m (ints (idxT held n)) :: row vp vc 1 m (valsT tv (idxT held n)) :: seg true g 0 [.int .i64 on, .int .i64 5, .int .i64 h, .int .i64 v] :: seg true b 0 [.slice (some ⟨hb,0,none⟩) n n, .slice (some ⟨vb,0,none⟩) n n] :: seg true hb 0 (held.map .bool) :: seg true vb 0 (tv.map fun x => Value.int .i64 x) :: seg true rb 0 [.slice (some ⟨rhb,0,none⟩) n n, .slice (some ⟨rvb,0,none⟩) n n] :: seg true rhb 0 (held.map .bool) :: seg true rvb 0 (rv.map fun x => Value.int .i64 x) :: L))
  clear s3
  have k1 := s4.at 0 rfl; have k2 := s4.at 2 rfl; have k3 := s4.at 4 rfl
  have kf1 := s4.fr 0 (by simp); have kf2 := s4.fr 2 (by simp); have kf3 := s4.fr 4 (by simp)
  have kz := s4.lt (by simp)
  go_wp2_with (first | (at_builtin; refine wpl_append rfl (.tmp 148) (.tmp 150) 36 rfl Try.underlying36 I1.out.1 I1.out.2.1 I1.out.2.2.1 I1.out.2.2.2 rfl (by decide) (p := a1) (cp := c1) (n := A.length) (xs := A.map KI.fv) (L := seg true k 0 [.slice a1 A.length c1, .slice a2 B.length c2, .slice a3 A.length c3, .slice a4 B.length c4, .slice a5 A.length c5, .slice a6 B.length c6] :: row a2 c2 1 B.length (B.map KP.fv) :: row a3 c3 1 A.length (A.map KI.lv) :: row a4 c4 1 B.length (B.map KP.lv) :: row a5 c5 1 A.length (A.map KI.vv) :: row a6 c6 1 B.length (B.map KP.vv) :: stars (A.map KI.a) :: stars (B.map KP.a) :: seg true gi 0 [.slice p1 n c1x, .slice p2 n c2x] :: row p1 c1x 1 n (held.map .bool) :: row p2 c2x 1 n (tv.map fun x => Value.int .i64 x) :: row hp hc 1 m (ints (idxT held n)) :: row vp vc 1 m (valsT tv (idxT held n)) :: seg true g 0 [.int .i64 on, .int .i64 5, .int .i64 h, .int .i64 v] :: seg true b 0 [.slice (some ⟨hb,0,none⟩) n n, .slice (some ⟨vb,0,none⟩) n n] :: seg true hb 0 (held.map .bool) :: seg true vb 0 (tv.map fun x => Value.int .i64 x) :: seg true rb 0 [.slice (some ⟨rhb,0,none⟩) n n, .slice (some ⟨rvb,0,none⟩) n n] :: seg true rhb 0 (held.map .bool) :: seg true rvb 0 (rv.map fun x => Value.int .i64 x) :: L) (by have h9 := s4.alloc' (.cells #[.func (.func 37) #[] #[.pointer (some ⟨gi, 0, none⟩)]] 64); exact (Sat.sub (h9) (by with_reducible repeat first | exact Fr1 | exact Fr2 | (apply Fr3; focus ((repeat (first | exact Tk1 | apply Tk2)); done)) | apply Fr4))) rfl (some _) 1 1 rfl [.func (.func 37) #[] #[.pointer (some ⟨gi, 0, none⟩)]] rfl ((s4.alloc #[.func (.func 37) #[] #[.pointer (some ⟨gi, 0, none⟩)]] 64).news) (fun h => by cases h) (by intro u hu; simp only [List.mem_singleton] at hu; subst hu; rfl) (by unfold maxLen; omega) (by omega) ?_; intro b1 d1 wy1 sx1 _ _; have sy1 : Sat W0 wy1 (seg true k 0 [.slice a1 A.length c1, .slice a2 B.length c2, .slice a3 A.length c3, .slice a4 B.length c4, .slice a5 A.length c5, .slice a6 B.length c6] :: row b1 d1 1 (A.length + 1) (A.map KI.fv ++ [.func (.func 37) #[] #[.pointer (some ⟨gi, 0, none⟩)]]) :: row a2 c2 1 B.length (B.map KP.fv) :: row a3 c3 1 A.length (A.map KI.lv) :: row a4 c4 1 B.length (B.map KP.lv) :: row a5 c5 1 A.length (A.map KI.vv) :: row a6 c6 1 B.length (B.map KP.vv) :: stars (A.map KI.a) :: stars (B.map KP.a) :: seg true gi 0 [.slice p1 n c1x, .slice p2 n c2x] :: row p1 c1x 1 n (held.map .bool) :: row p2 c2x 1 n (tv.map fun x => Value.int .i64 x) :: row hp hc 1 m (ints (idxT held n)) :: row vp vc 1 m (valsT tv (idxT held n)) :: seg true g 0 [.int .i64 on, .int .i64 5, .int .i64 h, .int .i64 v] :: seg true b 0 [.slice (some ⟨hb,0,none⟩) n n, .slice (some ⟨vb,0,none⟩) n n] :: seg true hb 0 (held.map .bool) :: seg true vb 0 (tv.map fun x => Value.int .i64 x) :: seg true rb 0 [.slice (some ⟨rhb,0,none⟩) n n, .slice (some ⟨rvb,0,none⟩) n n] :: seg true rhb 0 (held.map .bool) :: seg true rvb 0 (rv.map fun x => Value.int .i64 x) :: L) := (Sat.sub (sx1) (by with_reducible repeat first | exact Fr1 | exact Fr2 | (apply Fr3; focus ((repeat (first | exact Tk1 | apply Tk2)); done)) | apply Fr4)); clear sx1 k1 k2 k3 kf1 kf2 kf3 kz s4; have k1 := sy1.at 0 rfl; have k2 := sy1.at 2 rfl; have k3 := sy1.at 4 rfl; have kf1 := sy1.fr 0 (by simp); have kf2 := sy1.fr 2 (by simp); have kf3 := sy1.fr 4 (by simp); have kz := sy1.lt (by simp); have st1 : Sat W0 _ (seg true k 0 [.slice b1 (A.length + 1) d1, .slice a2 B.length c2, .slice a3 A.length c3, .slice a4 B.length c4, .slice a5 A.length c5, .slice a6 B.length c6] :: row b1 d1 1 (A.length + 1) (A.map KI.fv ++ [.func (.func 37) #[] #[.pointer (some ⟨gi, 0, none⟩)]]) :: row a2 c2 1 B.length (B.map KP.fv) :: row a3 c3 1 A.length (A.map KI.lv) :: row a4 c4 1 B.length (B.map KP.lv) :: row a5 c5 1 A.length (A.map KI.vv) :: row a6 c6 1 B.length (B.map KP.vv) :: stars (A.map KI.a) :: stars (B.map KP.a) :: seg true gi 0 [.slice p1 n c1x, .slice p2 n c2x] :: row p1 c1x 1 n (held.map .bool) :: row p2 c2x 1 n (tv.map fun x => Value.int .i64 x) :: row hp hc 1 m (ints (idxT held n)) :: row vp vc 1 m (valsT tv (idxT held n)) :: seg true g 0 [.int .i64 on, .int .i64 5, .int .i64 h, .int .i64 v] :: seg true b 0 [.slice (some ⟨hb,0,none⟩) n n, .slice (some ⟨vb,0,none⟩) n n] :: seg true hb 0 (held.map .bool) :: seg true vb 0 (tv.map fun x => Value.int .i64 x) :: seg true rb 0 [.slice (some ⟨rhb,0,none⟩) n n, .slice (some ⟨rvb,0,none⟩) n n] :: seg true rhb 0 (held.map .bool) :: seg true rvb 0 (rv.map fun x => Value.int .i64 x) :: L) := sy1.store (i := 0) (by simp) (.slice b1 (A.length + 1) d1) (q := 0) rfl; clear sy1) | (at_builtin; refine wpl_append rfl (.tmp 158) (.tmp 160) 38 rfl Try.underlying38 I3.out.1 I3.out.2.1 I3.out.2.2.1 I3.out.2.2.2 rfl (by decide) (p := a3) (cp := c3) (n := A.length) (xs := A.map KI.lv) (L := seg true k 0 [.slice b1 (A.length + 1) d1, .slice a2 B.length c2, .slice a3 A.length c3, .slice a4 B.length c4, .slice a5 A.length c5, .slice a6 B.length c6] :: row b1 d1 1 (A.length + 1) (A.map KI.fv ++ [.func (.func 37) #[] #[.pointer (some ⟨gi, 0, none⟩)]]) :: row a2 c2 1 B.length (B.map KP.fv) :: row a4 c4 1 B.length (B.map KP.lv) :: row a5 c5 1 A.length (A.map KI.vv) :: row a6 c6 1 B.length (B.map KP.vv) :: stars (A.map KI.a) :: stars (B.map KP.a) :: seg true gi 0 [.slice p1 n c1x, .slice p2 n c2x] :: row p1 c1x 1 n (held.map .bool) :: row p2 c2x 1 n (tv.map fun x => Value.int .i64 x) :: row hp hc 1 m (ints (idxT held n)) :: row vp vc 1 m (valsT tv (idxT held n)) :: seg true g 0 [.int .i64 on, .int .i64 5, .int .i64 h, .int .i64 v] :: seg true b 0 [.slice (some ⟨hb,0,none⟩) n n, .slice (some ⟨vb,0,none⟩) n n] :: seg true hb 0 (held.map .bool) :: seg true vb 0 (tv.map fun x => Value.int .i64 x) :: seg true rb 0 [.slice (some ⟨rhb,0,none⟩) n n, .slice (some ⟨rvb,0,none⟩) n n] :: seg true rhb 0 (held.map .bool) :: seg true rvb 0 (rv.map fun x => Value.int .i64 x) :: L) (by have h9 := st1.alloc' (.cells #[.slice hp m hc] 50); exact (Sat.sub (h9) (by with_reducible repeat first | exact Fr1 | exact Fr2 | (apply Fr3; focus ((repeat (first | exact Tk1 | apply Tk2)); done)) | apply Fr4))) rfl (some _) 1 1 rfl [.slice hp m hc] rfl (by rw [← (by simp : (wy1.setCell ⟨k, 0, none⟩ (.slice b1 (A.length + 1) d1)).heap.size = wy1.heap.size)]; exact (st1.alloc #[.slice hp m hc] 50).news) (fun h => by cases h) (by intro u hu; simp only [List.mem_singleton] at hu; subst hu; rfl) (by unfold maxLen; omega) (by omega) ?_; intro b3 d3 wy3 sx3 _ _; have sy3 : Sat W0 wy3 (seg true k 0 [.slice b1 (A.length + 1) d1, .slice a2 B.length c2, .slice a3 A.length c3, .slice a4 B.length c4, .slice a5 A.length c5, .slice a6 B.length c6] :: row b1 d1 1 (A.length + 1) (A.map KI.fv ++ [.func (.func 37) #[] #[.pointer (some ⟨gi, 0, none⟩)]]) :: row a2 c2 1 B.length (B.map KP.fv) :: row b3 d3 1 (A.length + 1) (A.map KI.lv ++ [.slice hp m hc]) :: row a4 c4 1 B.length (B.map KP.lv) :: row a5 c5 1 A.length (A.map KI.vv) :: row a6 c6 1 B.length (B.map KP.vv) :: stars (A.map KI.a) :: stars (B.map KP.a) :: seg true gi 0 [.slice p1 n c1x, .slice p2 n c2x] :: row p1 c1x 1 n (held.map .bool) :: row p2 c2x 1 n (tv.map fun x => Value.int .i64 x) :: row hp hc 1 m (ints (idxT held n)) :: row vp vc 1 m (valsT tv (idxT held n)) :: seg true g 0 [.int .i64 on, .int .i64 5, .int .i64 h, .int .i64 v] :: seg true b 0 [.slice (some ⟨hb,0,none⟩) n n, .slice (some ⟨vb,0,none⟩) n n] :: seg true hb 0 (held.map .bool) :: seg true vb 0 (tv.map fun x => Value.int .i64 x) :: seg true rb 0 [.slice (some ⟨rhb,0,none⟩) n n, .slice (some ⟨rvb,0,none⟩) n n] :: seg true rhb 0 (held.map .bool) :: seg true rvb 0 (rv.map fun x => Value.int .i64 x) :: L) := (Sat.sub (sx3) (by with_reducible repeat first | exact Fr1 | exact Fr2 | (apply Fr3; focus ((repeat (first | exact Tk1 | apply Tk2)); done)) | apply Fr4)); clear sx3 k1 k2 k3 kf1 kf2 kf3 kz st1; have k1 := sy3.at 0 rfl; have k2 := sy3.at 2 rfl; have k3 := sy3.at 4 rfl; have kf1 := sy3.fr 0 (by simp); have kf2 := sy3.fr 2 (by simp); have kf3 := sy3.fr 4 (by simp); have kz := sy3.lt (by simp); have st3 : Sat W0 _ (seg true k 0 [.slice b1 (A.length + 1) d1, .slice a2 B.length c2, .slice b3 (A.length + 1) d3, .slice a4 B.length c4, .slice a5 A.length c5, .slice a6 B.length c6] :: row b1 d1 1 (A.length + 1) (A.map KI.fv ++ [.func (.func 37) #[] #[.pointer (some ⟨gi, 0, none⟩)]]) :: row a2 c2 1 B.length (B.map KP.fv) :: row b3 d3 1 (A.length + 1) (A.map KI.lv ++ [.slice hp m hc]) :: row a4 c4 1 B.length (B.map KP.lv) :: row a5 c5 1 A.length (A.map KI.vv) :: row a6 c6 1 B.length (B.map KP.vv) :: stars (A.map KI.a) :: stars (B.map KP.a) :: seg true gi 0 [.slice p1 n c1x, .slice p2 n c2x] :: row p1 c1x 1 n (held.map .bool) :: row p2 c2x 1 n (tv.map fun x => Value.int .i64 x) :: row hp hc 1 m (ints (idxT held n)) :: row vp vc 1 m (valsT tv (idxT held n)) :: seg true g 0 [.int .i64 on, .int .i64 5, .int .i64 h, .int .i64 v] :: seg true b 0 [.slice (some ⟨hb,0,none⟩) n n, .slice (some ⟨vb,0,none⟩) n n] :: seg true hb 0 (held.map .bool) :: seg true vb 0 (tv.map fun x => Value.int .i64 x) :: seg true rb 0 [.slice (some ⟨rhb,0,none⟩) n n, .slice (some ⟨rvb,0,none⟩) n n] :: seg true rhb 0 (held.map .bool) :: seg true rvb 0 (rv.map fun x => Value.int .i64 x) :: L) := sy3.store (i := 2) (by simp) (.slice b3 (A.length + 1) d3) (q := 2) rfl; clear sy3) | (at_builtin; refine wpl_append rfl (.tmp 168) (.tmp 170) 38 rfl Try.underlying38 I3.out.1 I3.out.2.1 I3.out.2.2.1 I3.out.2.2.2 rfl (by decide) (p := a5) (cp := c5) (n := A.length) (xs := A.map KI.vv) (L := seg true k 0 [.slice b1 (A.length + 1) d1, .slice a2 B.length c2, .slice b3 (A.length + 1) d3, .slice a4 B.length c4, .slice a5 A.length c5, .slice a6 B.length c6] :: row b1 d1 1 (A.length + 1) (A.map KI.fv ++ [.func (.func 37) #[] #[.pointer (some ⟨gi, 0, none⟩)]]) :: row a2 c2 1 B.length (B.map KP.fv) :: row b3 d3 1 (A.length + 1) (A.map KI.lv ++ [.slice hp m hc]) :: row a4 c4 1 B.length (B.map KP.lv) :: row a6 c6 1 B.length (B.map KP.vv) :: stars (A.map KI.a) :: stars (B.map KP.a) :: seg true gi 0 [.slice p1 n c1x, .slice p2 n c2x] :: row p1 c1x 1 n (held.map .bool) :: row p2 c2x 1 n (tv.map fun x => Value.int .i64 x) :: row hp hc 1 m (ints (idxT held n)) :: row vp vc 1 m (valsT tv (idxT held n)) :: seg true g 0 [.int .i64 on, .int .i64 5, .int .i64 h, .int .i64 v] :: seg true b 0 [.slice (some ⟨hb,0,none⟩) n n, .slice (some ⟨vb,0,none⟩) n n] :: seg true hb 0 (held.map .bool) :: seg true vb 0 (tv.map fun x => Value.int .i64 x) :: seg true rb 0 [.slice (some ⟨rhb,0,none⟩) n n, .slice (some ⟨rvb,0,none⟩) n n] :: seg true rhb 0 (held.map .bool) :: seg true rvb 0 (rv.map fun x => Value.int .i64 x) :: L) (by have h9 := st3.alloc' (.cells #[.slice vp m vc] 50); exact (Sat.sub (h9) (by with_reducible repeat first | exact Fr1 | exact Fr2 | (apply Fr3; focus ((repeat (first | exact Tk1 | apply Tk2)); done)) | apply Fr4))) rfl (some _) 1 1 rfl [.slice vp m vc] rfl (by rw [← (by simp : (wy3.setCell ⟨k, 2, none⟩ (.slice b3 (A.length + 1) d3)).heap.size = wy3.heap.size)]; exact (st3.alloc #[.slice vp m vc] 50).news) (fun h => by cases h) (by intro u hu; simp only [List.mem_singleton] at hu; subst hu; rfl) (by unfold maxLen; omega) (by omega) ?_; intro b5 d5 wy5 sx5 _ _; have sy5 : Sat W0 wy5 (seg true k 0 [.slice b1 (A.length + 1) d1, .slice a2 B.length c2, .slice b3 (A.length + 1) d3, .slice a4 B.length c4, .slice a5 A.length c5, .slice a6 B.length c6] :: row b1 d1 1 (A.length + 1) (A.map KI.fv ++ [.func (.func 37) #[] #[.pointer (some ⟨gi, 0, none⟩)]]) :: row a2 c2 1 B.length (B.map KP.fv) :: row b3 d3 1 (A.length + 1) (A.map KI.lv ++ [.slice hp m hc]) :: row a4 c4 1 B.length (B.map KP.lv) :: row b5 d5 1 (A.length + 1) (A.map KI.vv ++ [.slice vp m vc]) :: row a6 c6 1 B.length (B.map KP.vv) :: stars (A.map KI.a) :: stars (B.map KP.a) :: seg true gi 0 [.slice p1 n c1x, .slice p2 n c2x] :: row p1 c1x 1 n (held.map .bool) :: row p2 c2x 1 n (tv.map fun x => Value.int .i64 x) :: row hp hc 1 m (ints (idxT held n)) :: row vp vc 1 m (valsT tv (idxT held n)) :: seg true g 0 [.int .i64 on, .int .i64 5, .int .i64 h, .int .i64 v] :: seg true b 0 [.slice (some ⟨hb,0,none⟩) n n, .slice (some ⟨vb,0,none⟩) n n] :: seg true hb 0 (held.map .bool) :: seg true vb 0 (tv.map fun x => Value.int .i64 x) :: seg true rb 0 [.slice (some ⟨rhb,0,none⟩) n n, .slice (some ⟨rvb,0,none⟩) n n] :: seg true rhb 0 (held.map .bool) :: seg true rvb 0 (rv.map fun x => Value.int .i64 x) :: L) := (Sat.sub (sx5) (by with_reducible repeat first | exact Fr1 | exact Fr2 | (apply Fr3; focus ((repeat (first | exact Tk1 | apply Tk2)); done)) | apply Fr4)); clear sx5 k1 k2 k3 kf1 kf2 kf3 kz st3; have k1 := sy5.at 0 rfl; have k2 := sy5.at 2 rfl; have k3 := sy5.at 4 rfl; have kf1 := sy5.fr 0 (by simp); have kf2 := sy5.fr 2 (by simp); have kf3 := sy5.fr 4 (by simp); have kz := sy5.lt (by simp); have st5 : Sat W0 _ (seg true k 0 [.slice b1 (A.length + 1) d1, .slice a2 B.length c2, .slice b3 (A.length + 1) d3, .slice a4 B.length c4, .slice b5 (A.length + 1) d5, .slice a6 B.length c6] :: row b1 d1 1 (A.length + 1) (A.map KI.fv ++ [.func (.func 37) #[] #[.pointer (some ⟨gi, 0, none⟩)]]) :: row a2 c2 1 B.length (B.map KP.fv) :: row b3 d3 1 (A.length + 1) (A.map KI.lv ++ [.slice hp m hc]) :: row a4 c4 1 B.length (B.map KP.lv) :: row b5 d5 1 (A.length + 1) (A.map KI.vv ++ [.slice vp m vc]) :: row a6 c6 1 B.length (B.map KP.vv) :: stars (A.map KI.a) :: stars (B.map KP.a) :: seg true gi 0 [.slice p1 n c1x, .slice p2 n c2x] :: row p1 c1x 1 n (held.map .bool) :: row p2 c2x 1 n (tv.map fun x => Value.int .i64 x) :: row hp hc 1 m (ints (idxT held n)) :: row vp vc 1 m (valsT tv (idxT held n)) :: seg true g 0 [.int .i64 on, .int .i64 5, .int .i64 h, .int .i64 v] :: seg true b 0 [.slice (some ⟨hb,0,none⟩) n n, .slice (some ⟨vb,0,none⟩) n n] :: seg true hb 0 (held.map .bool) :: seg true vb 0 (tv.map fun x => Value.int .i64 x) :: seg true rb 0 [.slice (some ⟨rhb,0,none⟩) n n, .slice (some ⟨rvb,0,none⟩) n n] :: seg true rhb 0 (held.map .bool) :: seg true rvb 0 (rv.map fun x => Value.int .i64 x) :: L) := sy5.store (i := 4) (by simp) (.slice b5 (A.length + 1) d5) (q := 4) rfl; have g3 := ((Sat.sub (sy5) (by with_reducible repeat first | exact Fr1 | exact Fr2 | (apply Fr3; focus ((repeat (first | exact Tk1 | apply Tk2)); done)) | apply Fr4)) : Sat W0 _ (seg true g 0 [.int .i64 on, .int .i64 5, .int .i64 h, .int .i64 v] :: [])).at 3 rfl; have gz := ((Sat.sub (sy5) (by with_reducible repeat first | exact Fr1 | exact Fr2 | (apply Fr3; focus ((repeat (first | exact Tk1 | apply Tk2)); done)) | apply Fr4)) : Sat W0 _ (seg true g 0 [.int .i64 on, .int .i64 5, .int .i64 h, .int .i64 v] :: [])).lt (by simp); have hgk := ((Sat.sub (sy5) (by with_reducible repeat first | exact Fr1 | exact Fr2 | (apply Fr3; focus ((repeat (first | exact Tk1 | apply Tk2)); done)) | apply Fr4)) : Sat W0 _ (seg true g 0 [.int .i64 on, .int .i64 5, .int .i64 h, .int .i64 v] :: seg true k 0 [.slice b1 (A.length + 1) d1, .slice a2 B.length c2, .slice b3 (A.length + 1) d3, .slice a4 B.length c4, .slice a5 A.length c5, .slice a6 B.length c6] :: [])).ne' (by simp) (by simp); have hkg := Ne.symm hgk; clear sy5))
  have sw : Sat W0 _ (seg true gi 0 [.slice p1 n c1x, .slice p2 n c2x] :: row p1 c1x 1 n (held.map .bool) :: row p2 c2x 1 n (tv.map fun x => Value.int .i64 x) :: row hp hc 1 m (ints (idxT held n)) :: row vp vc 1 m (valsT tv (idxT held n)) :: seg true k 0 [.slice b1 (A.length + 1) d1, .slice a2 B.length c2, .slice b3 (A.length + 1) d3, .slice a4 B.length c4, .slice b5 (A.length + 1) d5, .slice a6 B.length c6] :: row b1 d1 1 (A.length + 1) (A.map KI.fv ++ [.func (.func 37) #[] #[.pointer (some ⟨gi, 0, none⟩)]]) :: row a2 c2 1 B.length (B.map KP.fv) :: row b3 d3 1 (A.length + 1) (A.map KI.lv ++ [.slice hp m hc]) :: row a4 c4 1 B.length (B.map KP.lv) :: row b5 d5 1 (A.length + 1) (A.map KI.vv ++ [.slice vp m vc]) :: row a6 c6 1 B.length (B.map KP.vv) :: stars (A.map KI.a) :: stars (B.map KP.a) :: seg true b 0 [.slice (some ⟨hb,0,none⟩) n n, .slice (some ⟨vb,0,none⟩) n n] :: seg true hb 0 (held.map .bool) :: seg true vb 0 (tv.map fun x => Value.int .i64 x) :: seg true rb 0 [.slice (some ⟨rhb,0,none⟩) n n, .slice (some ⟨rvb,0,none⟩) n n] :: seg true rhb 0 (held.map .bool) :: seg true rvb 0 (rv.map fun x => Value.int .i64 x) :: L) := (Sat.sub (st5) (by with_reducible repeat first | exact Fr1 | exact Fr2 | (apply Fr3; focus ((repeat (first | exact Tk1 | apply Tk2)); done)) | apply Fr4))
  clear st5
  refine (walk_int held tv HG.out.1 HG.out.2.1 h0 hsm HM.out v sw).mono ?_
  rintro e w9 ⟨rfl, s9⟩
  clear sw g3 gz k1 k2 k3 kf1 kf2 kf3 kz
  obtain ⟨K, hK⟩ : ∃ K : KI, K = ⟨n, gi, m, c1x, c2x, hc, vc, p1, p2, hp, vp, held, tv, HG.out.1, HG.out.2.1, h0, hsm, HM.out⟩ := ⟨_, rfl⟩
  have sk : Sat W0 w9 (K.a :: stars (A.map KI.a) :: stars (B.map KP.a) :: seg true k 0 [.slice b1 (A.length + 1) d1, .slice a2 B.length c2, .slice b3 (A.length + 1) d3, .slice a4 B.length c4, .slice b5 (A.length + 1) d5, .slice a6 B.length c6] :: row b1 d1 1 (A.length + 1) (A.map KI.fv ++ [.func (.func 37) #[] #[.pointer (some ⟨gi, 0, none⟩)]]) :: row a2 c2 1 B.length (B.map KP.fv) :: row b3 d3 1 (A.length + 1) (A.map KI.lv ++ [.slice hp m hc]) :: row a4 c4 1 B.length (B.map KP.lv) :: row b5 d5 1 (A.length + 1) (A.map KI.vv ++ [.slice vp m vc]) :: row a6 c6 1 B.length (B.map KP.vv) :: seg true b 0 [.slice (some ⟨hb,0,none⟩) n n, .slice (some ⟨vb,0,none⟩) n n] :: seg true hb 0 (held.map .bool) :: seg true vb 0 (tv.map fun x => Value.int .i64 x) :: seg true rb 0 [.slice (some ⟨rhb,0,none⟩) n n, .slice (some ⟨rvb,0,none⟩) n n] :: seg true rhb 0 (held.map .bool) :: seg true rvb 0 (rv.map fun x => Value.int .i64 x) :: L) := by
    subst hK
    exact KI.shut ((Sat.sub (s9) (by with_reducible repeat first | exact Fr1 | exact Fr2 | (apply Fr3; focus ((repeat (first | exact Tk1 | apply Tk2)); done)) | apply Fr4)))
  have hrw : (A.map KI.fv ++ [.func (.func 37) #[] #[.pointer (some ⟨gi, 0, none⟩)]] = (A ++ [K]).map KI.fv) ∧ (A.map KI.lv ++ [.slice hp m hc] = (A ++ [K]).map KI.lv) ∧ (A.map KI.vv ++ [.slice vp m vc] = (A ++ [K]).map KI.vv) ∧ (A.map KI.a ++ [K.a] = (A ++ [K]).map KI.a) := by
    subst hK
    exact ⟨by simp [KI.fv], by simp [KI.lv], by simp [KI.vv], by simp⟩
  have sm := sk.starsSnoc
  rw [hrw.1, hrw.2.1, hrw.2.2.1, hrw.2.2.2] at sm
  have se : Sat W0 w9 (keptA k (A ++ [K]) B :: tI b hb vb rb rhb rvb n held tv rv L) := keptShut (nA := A.length + 1) (nB := B.length) (by simp) rfl ((Sat.sub (sm) (by with_reducible repeat first | exact Fr1 | exact Fr2 | (apply Fr3; focus ((repeat (first | exact Tk1 | apply Tk2)); done)) | apply Fr4)))
  have HS := Lib.hid se
  clear s9 sk sm se hrw hK
  go_wp2_with fail
  go_ret
  exact ⟨rfl, A ++ [K], held, tv, rv, by simp, HG.out, HS.out⟩
end Go.Proofs.Ytpiiklfnakkdiaa
