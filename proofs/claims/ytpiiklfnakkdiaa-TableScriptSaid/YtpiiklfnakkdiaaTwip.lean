
/- The iterators of a table: going over what is held, by any rounds: pairs; under the conditions that each names. -/
import Derived.Test.YtpiiklfnakkdiaaTalp
import Derived.Test.YtpiiklfnakkdiaaTwk
import Derived.Test.YtpiiklfnakkdiaaTh
import Derived.Test.YtpiiklfnakkdiaaRng
import Derived.RangeFuncNested
import Derived.RangeFuncBound
import Derived.Shelf.RegionOpen
import Derived.OwnWalkIn
import Derived.TacticsInMore
import Derived.LoopNIn
import Derived.LoopIn
namespace Go.Proofs.Ytpiiklfnakkdiaa
open Go.RowKit Go.Sep
set_option linter.unusedVariables false
set_option linter.unusedSimpArgs false
attribute [local go_sem] Oper.semAt_some
/-- What a number stands for, in two parts. -/
def pX (vals : List A2) (i : Nat) : Int := (vals.getD i (0, 0)).1
def pY (vals : List A2) (i : Nat) : Int := (vals.getD i (0, 0)).2
set_option maxRecDepth 100000 in
set_option maxHeartbeats 2000000 in
theorem allIterP {W0 W : World} {g h1 h2 n c1 c2 : Nat} (held : List Bool) (vals : List A2) (HB VB : List Value) (hH : ∀ i, i < n → HB[i]? = some (.bool (held.getD i false))) (hV : ∀ i, i < n → VB[i * 2]? = some (.int .i64 (pX vals i)) ∧ VB[i * 2 + 1]? = some (.int .i64 (pY vals i))) (hp : 0 < n) (hsm : n ≤ 64) (J : Nat → List Assn) (hJ : ∀ i, held.getD i false = false → J (i + 1) = J i) (E : World → Prop) (l m : Nat)
    (hY : ∀ i W1, i < n → held.getD i false = true → Sat W0 W1 (seg true g 0 [.slice (some ⟨h1,0,none⟩) n c1, .slice (some ⟨h2,0,none⟩) n c2] :: seg true h1 0 HB :: seg true h2 0 VB :: J i) → YieldAt Fence.wide m Try.prog l #[.int .i64 (i : Int), .agg #[.int .i64 (pX vals i), .int .i64 (pY vals i)]] W1 fun e W' =>
      (e = .returned (.bool true) ∧ Sat W0 W' (seg true g 0 [.slice (some ⟨h1,0,none⟩) n c1, .slice (some ⟨h2,0,none⟩) n c2] :: seg true h1 0 HB :: seg true h2 0 VB :: J (i + 1))) ∨ (e = .returned (.bool false) ∧ E W'))
    (hE : ∀ W', Sat W0 W' (seg true g 0 [.slice (some ⟨h1,0,none⟩) n c1, .slice (some ⟨h2,0,none⟩) n c2] :: seg true h1 0 HB :: seg true h2 0 VB :: J n) → E W')
    (hs : Sat W0 W (seg true g 0 [.slice (some ⟨h1,0,none⟩) n c1, .slice (some ⟨h2,0,none⟩) n c2] :: seg true h1 0 HB :: seg true h2 0 VB :: J 0)) :
    CallsIn Fence.wide (m + 1) Try.prog 40 #[.func (.yield l) #[] #[], .pointer (some ⟨g, 0, none⟩)] W fun e W' => (∃ v, e = .returned v) ∧ E W' := by
  have HY := Lib.hid (And.intro hY (And.intro hE hJ)); clear hY hE hJ
  have hCC : ∀ w' i, i < n → Sat W0 w' (seg true g 0 [.slice (some ⟨h1,0,none⟩) n c1, .slice (some ⟨h2,0,none⟩) n c2] :: seg true h1 0 HB :: seg true h2 0 VB :: []) → w'.cell? ⟨g, 0, none⟩ = some (.slice (some ⟨h1,0,none⟩) n c1) ∧ w'.cell? ⟨g, 1, none⟩ = some (.slice (some ⟨h2,0,none⟩) n c2) ∧ g < w'.heap.size ∧ w'.cell? ⟨h1, i, none⟩ = some (.bool (held.getD i false)) ∧ h1 < w'.heap.size ∧ w'.cell? ⟨h2, i * 2, none⟩ = some (.int .i64 (pX vals i)) ∧ w'.cell? ⟨h2, i * 2 + 1, none⟩ = some (.int .i64 (pY vals i)) ∧ h2 < w'.heap.size := fun w' i hi s => by
    have s2 := s.pull 1
    have s3 := s.pull 2
    have l1 := (List.getElem?_eq_some_iff.1 (hH i hi)).1
    have l2 := (List.getElem?_eq_some_iff.1 (hV i hi).1).1
    exact ⟨s.at 0 rfl, s.at 1 rfl, s.lt (by simp), Sat.at s2 i (hH i hi), Sat.lt s2 (by omega), Sat.at s3 (i * 2) (hV i hi).1, Sat.at s3 (i * 2 + 1) (hV i hi).2, Sat.lt s3 (by omega)⟩
  have HC := Lib.hid hCC; clear hCC hH hV
  refine callsIn_of_wp Try.func40 rfl trivial ?_ rfl
  simp only [Try.ntmps40, List.size_toArray, List.length_cons, List.length_nil, Nat.reduceAdd, Nat.reduceSub, Array.replicate_succ, Array.replicate_zero, List.push_toArray, List.append_toArray, List.nil_append, List.cons_append]
  obtain ⟨k0, k1, k2, k3, k4, k5, k5b, k6⟩ := HC.out _ 0 hp (Sat.sub (hs) (by with_reducible repeat first | exact Fr1 | exact Fr2 | (apply Fr3; focus ((repeat (first | exact Tk1 | apply Tk2)); done)) | apply Fr4))
  clear k3 k5 k5b
  gi_wp2
  clear k0 k1 k2 k4 k6
  gi_loopw [8] (fun t8 wr => ∃ i : Nat, i ≤ n ∧ t8 = .int .i64 (i : Int) ∧ Sat W0 wr (seg true g 0 [.slice (some ⟨h1,0,none⟩) n c1, .slice (some ⟨h2,0,none⟩) n c2] :: seg true h1 0 HB :: seg true h2 0 VB :: J i)) (fun t8 _ => n - (intOf t8).toNat)
  case atStart => exact ⟨0, Nat.zero_le _, rfl, hs⟩
  case round =>
    clear hs
    obtain ⟨i, hi, rfl, s⟩ := hrel
    by_cases hlt : i < n
    · obtain ⟨k0, k1, k2, k3, k4, k5, k5b, k6⟩ := HC.out _ i hlt (Sat.sub (s) (by with_reducible repeat first | exact Fr1 | exact Fr2 | (apply Fr3; focus ((repeat (first | exact Tk1 | apply Tk2)); done)) | apply Fr4))
      have hlt' : (i : Int) < (n : Int) := by omega
      cases hd : held.getD i false with
      | false =>
        rw [hd] at k3
        have e := HY.out.2.2 i hd
        have HS := Lib.hid (And.intro s e); clear s e hd
        gi_wp2
        refine ⟨fun f hf => (by cases hf), ?_⟩
        gi_wp2
        go_roundw
        case rel => exact ⟨i + 1, by omega, by go_num, by rw [HS.out.2]; exact HS.out.1⟩
        case measure => simp [intOf]; omega
      | true =>
        rw [hd] at k3
        obtain ⟨fn, tmps, assign, body, hy, hRd⟩ := HY.out.1 i wr hlt hd s
        have HS := Lib.hid (And.intro s hd); clear s hd
        gi_wp2
        refine hRd.mono ?_
        rintro e w6 (⟨rfl, s7⟩ | ⟨rfl, hE⟩)
        · gi_wp2
          go_roundw
          case rel => exact ⟨i + 1, by omega, by go_num, s7⟩
          case measure => simp [intOf]; omega
        · gi_wp2
          refine bodyPost_ret (results_none rfl _ _ _) rfl ?_
          exact ⟨⟨_, rfl⟩, hE⟩
    · obtain rfl : i = n := by omega
      have HS := Lib.hid s; clear s
      gi_wp2
      refine bodyPost_end (results_none rfl _ _ _) rfl ⟨⟨_, rfl⟩, HY.out.2.1 _ HS.out⟩
end Go.Proofs.Ytpiiklfnakkdiaa
