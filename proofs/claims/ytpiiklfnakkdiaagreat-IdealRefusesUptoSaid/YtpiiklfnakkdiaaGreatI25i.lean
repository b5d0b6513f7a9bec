
/- Layer 25's statements: a handle looked up in a row of holdings; is all but one handle as it was; under the conditions that each names. -/
import Derived.Test.YtpiiklfnakkdiaaGreatI25h
namespace Go.Proofs.YtpiiklfnakkdiaaGreat
open Go.RowKit Go.Sep Go.Bv Go.Kec Go.Aes Go.Sha
set_option linter.unusedVariables false
set_option linter.unusedSimpArgs false
abbrev Lk := Bool × Nat × Nat × List Byte × List Byte × List Byte
def lkO : Option Hold → Lk
 | some H => (true, H.alg, H.out, H.kb, H.cb, H.mb)
 | none => (false, 0, 0, [], [], [])
/-- What a row tells of a handle. -/
def lkc (l : List (Nat × Hold)) (h : Int) : Lk := lkO ((l.find? fun x => (x.1 : Int) == h).map Prod.snd)
theorem lkc_held : ∀ (S : Slots) (k h : Nat), k ≤ h → lkc (heldL k S) (h : Int) = lkO ((S[h - k]?).join)
 | [], k, h, _ => by simp [heldL, lkc]
 | none :: S, k, h, hk => by
  show lkc (heldL (k + 1) S) h = _
  by_cases e : h = k
  ·subst e
   have h1 : ∀ (S : Slots) (j : Nat), h < j → (heldL j S).find? (fun x => (x.1 : Int) == (h : Int)) = none := by
    intro S
    induction S with
    | nil => intro j _; rfl
    | cons x S ih =>
     intro j hj
     cases x with
     | none => exact ih (j + 1) (by omega)
     | some H =>
      show List.find? _ ((j, H) :: heldL (j + 1) S) = none
      rw [List.find?_cons_of_neg (by simp; omega)]
      exact ih (j + 1) (by omega)
   simp [lkc, h1 S (h + 1) (by omega)]
  ·rw [lkc_held S (k + 1) h (by omega), show h - k = (h - (k + 1)) + 1 by omega, List.getElem?_cons_succ]
 | some H :: S, k, h, hk => by
  show lkc ((k, H) :: heldL (k + 1) S) h = _
  by_cases e : h = k
  ·subst e
   simp [lkc]
  ·have h1 : lkc ((k, H) :: heldL (k + 1) S) (h : Int) = lkc (heldL (k + 1) S) h := by
    unfold lkc
    rw [List.find?_cons_of_neg (by simp; omega)]
   rw [h1, lkc_held S (k + 1) h (by omega), show h - k = (h - (k + 1)) + 1 by omega, List.getElem?_cons_succ]
theorem lkc_eq {S S' : Slots} {h : Nat} (e : S[h]? = S'[h]?) : lkc (heldL 0 S) (h : Int) = lkc (heldL 0 S') (h : Int) := by
 rw [lkc_held S 0 h (Nat.zero_le _), lkc_held S' 0 h (Nat.zero_le _), Nat.sub_zero, e]
def hold0 : List Value := [.int .i64 0, .int .u8 0, .int .i64 0, .slice none 0 0, .slice none 0 0, .slice none 0 0]
theorem zero_hold (w : World) : (zeroValue 49).run Tryz.prog w = .ok (.agg hold0.toArray) w := by kernel_rfl
theorem build_hold (w : World) : (Instr.build 49 #[]).run Tryz.prog w = .ok (.agg hold0.toArray) w := by kernel_rfl
theorem heldAtX {W0 w : World} {L : List Assn} {p : Option Addr} {c j : Nat} {l : List (Nat × Hold)} (X : List HRow) (hX : X.map nmH = l) (hok : okX X) {i : Nat} {H : Hold} {q : HQ} (hx : X[j]? = some (i, H, q)) (s1 : Sat W0 w (row p c 6 X.length (X.flatMap encH) :: partsA X :: L)) :
  ∃ R : Assn, q.ok H ∧ H.mb.length ≤ q.mc ∧ q.mc ≤ maxLen ∧ Sat W0 w (bytes true q.kp H.kb :: bytes true q.cp H.cb :: bytes true q.mp H.mb :: R :: L) ∧ ∀ w' L', Sat W0 w' (bytes true q.kp H.kb :: bytes true q.cp H.cb :: bytes true q.mp H.mb :: R :: L') → Sat W0 w' (heldsA p c l :: L') := by
 obtain ⟨RP, s3, back⟩ := partsAt hx (s1.pull 1 : Sat W0 w (partsA X :: row p c 6 X.length (X.flatMap encH) :: L))
 have s4 : Sat W0 w (bytes true q.kp H.kb :: bytes true q.cp H.cb :: row q.mp q.mc 1 H.mb.length (u8s H.mb) :: RP :: row p c 6 X.length (X.flatMap encH) :: L) := Sat.bigOpen (K := [bytes true q.kp H.kb, bytes true q.cp H.cb, row q.mp q.mc 1 H.mb.length (u8s H.mb)]) s3
 obtain ⟨_, hm1, hm2, RM, s5, back2⟩ := rowWand ((Sat.sub (s4) (by with_reducible repeat first | exact Fr1 | exact Fr2 | (apply Fr3; focus ((repeat (first | exact Tk1 | apply Tk2)); done)) | apply Fr4)) : Sat W0 w (row q.mp q.mc 1 H.mb.length (u8s H.mb) :: bytes true q.kp H.kb :: bytes true q.cp H.cb :: RP :: row p c 6 X.length (X.flatMap encH) :: L))
 refine ⟨sep (row p c 6 X.length (X.flatMap encH)) (sep RP RM), hok _ (List.mem_of_getElem? hx), hm1, hm2, ?_, fun w' L' s => ?_⟩
 ·have t1 : Sat W0 w (RP :: RM :: row p c 6 X.length (X.flatMap encH) :: bytes true q.kp H.kb :: bytes true q.cp H.cb :: bytes true q.mp H.mb :: L) := (Sat.sub (s5) (by with_reducible repeat first | exact Fr1 | exact Fr2 | (apply Fr3; focus ((repeat (first | exact Tk1 | apply Tk2)); done)) | apply Fr4))
  have t2 : Sat W0 w (row p c 6 X.length (X.flatMap encH) :: sep RP RM :: bytes true q.kp H.kb :: bytes true q.cp H.cb :: bytes true q.mp H.mb :: L) := (Sat.sepShut t1).pull 1
  have t3 := Sat.sepShut t2
  exact (Sat.sub (t3) (by with_reducible repeat first | exact Fr1 | exact Fr2 | (apply Fr3; focus ((repeat (first | exact Tk1 | apply Tk2)); done)) | apply Fr4))
 ·have t1 : Sat W0 w' (sep (row p c 6 X.length (X.flatMap encH)) (sep RP RM) :: bytes true q.kp H.kb :: bytes true q.cp H.cb :: bytes true q.mp H.mb :: L') := (Sat.sub (s) (by with_reducible repeat first | exact Fr1 | exact Fr2 | (apply Fr3; focus ((repeat (first | exact Tk1 | apply Tk2)); done)) | apply Fr4))
  have t2 : Sat W0 w' (sep RP RM :: row p c 6 X.length (X.flatMap encH) :: bytes true q.kp H.kb :: bytes true q.cp H.cb :: bytes true q.mp H.mb :: L') := (Sat.sepOpen t1).pull 1
  have t3 : Sat W0 w' (RP :: RM :: row p c 6 X.length (X.flatMap encH) :: bytes true q.kp H.kb :: bytes true q.cp H.cb :: bytes true q.mp H.mb :: L') := Sat.sepOpen t2
  have t4 := back2 _ _ ((Sat.sub (t3) (by with_reducible repeat first | exact Fr1 | exact Fr2 | (apply Fr3; focus ((repeat (first | exact Tk1 | apply Tk2)); done)) | apply Fr4)) : Sat W0 w' (bytes true q.mp H.mb :: RM :: RP :: row p c 6 X.length (X.flatMap encH) :: bytes true q.kp H.kb :: bytes true q.cp H.cb :: L'))
  have t5 : Sat W0 w' (bytes true q.kp H.kb :: bytes true q.cp H.cb :: row q.mp q.mc 1 H.mb.length (u8s H.mb) :: RP :: row p c 6 X.length (X.flatMap encH) :: L') := (Sat.sub (t4) (by with_reducible repeat first | exact Fr1 | exact Fr2 | (apply Fr3; focus ((repeat (first | exact Tk1 | apply Tk2)); done)) | apply Fr4))
  have t6 : Sat W0 w' (partA (i, H, q) :: RP :: row p c 6 X.length (X.flatMap encH) :: L') := Sat.bigShut (K := [bytes true q.kp H.kb, bytes true q.cp H.cb, row q.mp q.mc 1 H.mb.length (u8s H.mb)]) t5
  have t7 := back _ _ t6
  exact heldsShut X hX hok (t7.pull 1)
set_option maxRecDepth 100000 in
set_option maxHeartbeats 8000000 in
theorem find25 {W0 w : World} {L : List Assn} {p : Option Addr} {c n : Nat} (X : List HRow) (h : Int) (hn : X.length = n) (hs : Sat W0 w (row p c 6 n (X.flatMap encH) :: L)) :
  Calls Tryz.prog 40 #[.slice p n c, .int .i64 h] w fun e w' => ((∃ (j : Nat) (x : HRow), X[j]? = some x ∧ X.find? (fun x => (x.1 : Int) == h) = some x ∧ e = .returned (.tuple #[.agg (encH x).toArray, .bool true])) ∨ (X.find? (fun x => (x.1 : Int) == h) = none ∧ e = .returned (.tuple #[.agg hold0.toArray, .bool false]))) ∧ Sat W0 w' (row p c 6 n (X.flatMap encH) :: L) := by
 have HN := Lib.hid hn; clear hn
 go_enter Tryz.func40, Tryz.ntmps40
 go_wp2_with (refine wpl_alloc_agg rfl 49 rfl hs hold0 (zero_hold _) ?_; intro w1 gt s1 _; clear hs)
 go_loopw [6] (fun t6 wr => ∃ i : Nat, i ≤ n ∧ t6 = .int .i64 (i : Int) ∧ (∀ (j : Nat) (x : HRow), j < i → X[j]? = some x → ((x.1 : Int) == h) = false) ∧ Sat W0 wr (seg true gt 0 hold0 :: row p c 6 n (X.flatMap encH) :: L)) (fun t6 _ => n - (intOf t6).toNat)
 case atStart => exact ⟨0, Nat.zero_le _, rfl, fun j x hj => absurd hj (Nat.not_lt_zero j), s1⟩
 case round =>
  clear s1
  obtain ⟨i, hi, rfl, hb, s⟩ := hrel
  have hr : Sat W0 wr (row p c 6 n (X.flatMap encH) :: seg true gt 0 hold0 :: L) := s.pull 1
  obtain ⟨hrl, hro⟩ := hr.rowOpen
  by_cases hlt : i < n
  ·rcases hro with ⟨-, -, h0, -, -⟩ | ⟨g, rest, rfl, hcap, hmx, hcl, hg⟩
   ·omega
   have hix : i < X.length := by rw [HN.out]; exact hlt
   obtain ⟨x, hx⟩ : ∃ x, X[i]? = some x := ⟨X[i], List.getElem?_eq_getElem hix⟩
   obtain ⟨xi, xH, xq⟩ := x
   have hcell := fun (k : Nat) (u : Value) (hk : k < 6) (hu : (encH (xi, xH, xq))[k]? = some u) => hg.at (i * 6 + k) (v := u) (by rw [encH_at X rest hx hk]; exact hu)
   have h0 := hcell 0 (.int .i64 (xi : Int)) (by decide) rfl
   rw [Nat.add_zero] at h0
   have zg := hg.lt (by rw [hcl]; omega)
   have hlen : i * 6 + 6 ≤ (X.flatMap encH ++ rest).length := by rw [hcl]; omega
   have hdrop : ((X.flatMap encH ++ rest).drop (i * 6)).take 6 = encH (xi, xH, xq) := by
    apply List.ext_getElem?
    intro k
    by_cases hk : k < 6
    ·rw [List.getElem?_take_of_lt hk, List.getElem?_drop, encH_at X rest hx hk]
    ·rw [List.getElem?_eq_none (by rw [List.length_take]; omega), List.getElem?_eq_none (by rw [lenH]; omega)]
   have hin : (i : Int) < (n : Int) := by omega
   have hmx2 : c ≤ 9223372036854775807 := hmx
   have hnb : n ≤ 9223372036854775807 := Nat.le_trans hcap hmx
   obtain ⟨E, hE⟩ : ∃ E, E = encH (xi, xH, xq) := ⟨_, rfl⟩
   have hEl : E.length = 6 := by rw [hE]; rfl
   have hE1 : ∀ v ∈ E, v.oneCell' = true := by rw [hE]; exact holdC_one _ _ _
   rw [← hE] at hdrop
   by_cases hh : (xi : Int) = h
   ·have hbb : ((xi : Int) == h) = true := by rw [beq_iff_eq]; exact hh
    have hfd : X.find? (fun x => (x.1 : Int) == h) = some (xi, xH, xq) := by
     rw [List.find?_eq_some_iff_append]
     refine ⟨by exact hbb, X.take i, X.drop (i + 1), ?_, fun y hy => ?_⟩
     ·conv => lhs; rw [← List.take_append_drop i X]
      rw [List.drop_eq_getElem_cons hix]
      have := (List.getElem?_eq_some_iff.1 hx).2
      rw [this]
     ·obtain ⟨j, hj, rfl⟩ := List.getElem_of_mem hy
      rw [List.length_take] at hj
      have := hb j X[j] (by omega) (List.getElem?_eq_getElem (by omega))
      rw [List.getElem_take]
      simp [this]
    have HX := Lib.hid (And.intro hx (And.intro hfd (And.intro hrl (And.intro hcl (And.intro hdrop (And.intro hcap (And.intro hmx (And.intro hE (And.intro hEl hE1))))))))); clear hE hEl hE1 hx hfd hrl hcl hdrop hb hcap hmx hcell hh s hr
    have hgt : Sat W0 wr (seg true gt 0 hold0 :: seg true g 0 (X.flatMap encH ++ rest) :: L) := (Sat.sub (hg) (by with_reducible repeat first | exact Fr1 | exact Fr2 | (apply Fr3; focus ((repeat (first | exact Tk1 | apply Tk2)); done)) | apply Fr4))
    have hEl := HX.out.2.2.2.2.2.2.2.2.1
    have hE1 := HX.out.2.2.2.2.2.2.2.2.2
    have szE : (Tryz.prog.info? 49).map (·.size) = some E.length := by rw [hEl]; exact Tryz.size_hold
    have HE := Lib.hid (And.intro hEl (And.intro hE1 szE)); clear hEl hE1 szE
    go_wp2_with (first | (refine wpl_load_agg rfl 49 (.tmp 22) rfl Tryz.underlying49 rfl Tryz.size_hold hg (i * 6) (i * 6) rfl (by omega) hlen ?_; rw [HX.out.2.2.2.2.1]) | (refine wpl_store_agg rfl rfl 49 (.tmp 4) (.tmp 23) rfl (cs := E) hgt 0 0 HE.out.2.2 rfl rfl rfl (by rw [HE.out.1]; exact Nat.le_refl 6) HE.out.2.1 ?_; intro w2 s2; rw [setL_all _ _ (by rw [HE.out.1]; rfl)] at s2))
    have hr2 := run_loadVar_agg (P := Tryz.prog) (ty := 49) Tryz.underlying49 rfl Tryz.size_hold s2 0 0 rfl (by rw [HE.out.1]; exact Nat.le_refl 6)
    rw [List.drop_zero, List.take_of_length_le (by rw [HE.out.1]; exact Nat.le_refl 6)] at hr2
    have HS := Lib.hid s2.tail; clear s2 hg hgt
    refine bodyPost_ret (v := .tuple #[.agg E.toArray, .bool true]) (by simp [results, Tryz.results40, asAddr, hr2]) rfl ⟨.inl ⟨i, _, HX.out.1, HX.out.2.1, by rw [HX.out.2.2.2.2.2.2.2.1]⟩, ?_⟩
    exact HS.out.rowMade HX.out.2.2.1 HX.out.2.2.2.1 HX.out.2.2.2.2.2.1 HX.out.2.2.2.2.2.2.1
   ·have hbb : ((xi : Int) == h) = false := by rw [beq_eq_false_iff_ne]; exact hh
    have HX := Lib.hid (And.intro hx (And.intro hb s)); clear hE hEl hE1 hdrop hx hb s hr hrl hcl hcap hmx hcell hh hg
    go_wp2_with fail
    refine ⟨⟨i + 1, by omega, by go_num, fun j x hj hjx => ?_, HX.out.2.2⟩, by simp [intOf]; omega⟩
    rcases Nat.lt_succ_iff_lt_or_eq.1 hj with h1 | h1
    ·exact HX.out.2.1 j x h1 hjx
    ·subst h1
     rw [HX.out.1] at hjx
     cases hjx
     exact hbb
  ·obtain rfl : i = n := by omega
   have hfd : X.find? (fun x => (x.1 : Int) == h) = none := by
    rw [List.find?_eq_none]
    intro y hy
    obtain ⟨j, hj, rfl⟩ := List.getElem_of_mem hy
    have := hb j X[j] (by rw [← HN.out]; exact hj) (List.getElem?_eq_getElem hj)
    simp [this]
   have HX := Lib.hid hfd; clear hfd hb hr hro hrl
   have hbd := build_hold
   go_wp2_with (first | (refine wpl_build rfl 49 rfl (.agg hold0.toArray) (by simp only [List.map_toArray, List.map_nil]; exact build_hold _) ?_) | (refine wpl_store_agg rfl rfl 49 (.tmp 4) (.tmp 24) rfl (cs := hold0) s 0 0 Tryz.size_hold rfl rfl rfl (Nat.le_refl 6) (holdC_one 0 (.key []) ⟨none, 0, none, 0, none, 0⟩) ?_; intro w2 s2; rw [setL_all _ _ (by rfl)] at s2))
   have hr2 := run_loadVar_agg (P := Tryz.prog) (ty := 49) Tryz.underlying49 rfl Tryz.size_hold s2 0 0 rfl (Nat.le_refl 6)
   have hr3 : Sem.run Tryz.prog (loadVar 49 ⟨gt, 0, none⟩) w2 = Result.ok (.agg hold0.toArray) w2 := hr2
   have HS := Lib.hid s2.tail; clear s2 hr2 s
   refine bodyPost_ret (v := .tuple #[.agg hold0.toArray, .bool false]) (by simp [results, Tryz.results40, asAddr, hr3]) rfl ⟨.inr ⟨HX.out, rfl⟩, HS.out⟩
end Go.Proofs.YtpiiklfnakkdiaaGreat
