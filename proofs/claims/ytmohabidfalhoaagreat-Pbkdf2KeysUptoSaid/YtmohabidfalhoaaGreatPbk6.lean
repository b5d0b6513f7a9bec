
/- What layer 16's program refuses; under the conditions that each names. -/
import Derived.Test.YtmohabidfalhoaaGreatPbk5
namespace Go.Proofs.YtmohabidfalhoaaGreat
open Go.RowKit Go.Sep Go.Bv Go.Sha
set_option linter.unusedVariables false
set_option linter.unusedSimpArgs false
/-- What refuses an algorithm and a count. -/
def wrongCode (al cv : Int) : Int := if ¬ al = 1 ∧ ¬ al = 2 then 4 else if cv < 1 ∨ 1048576 < cv then 10 else 0
def keyCode (al cv nv : Int) : Int := if wrongCode al cv ≠ 0 then wrongCode al cv else if nv < 0 then 2 else if 16320 < nv then 9 else 0
def blockCode (al cv iv : Int) : Int := if wrongCode al cv ≠ 0 then wrongCode al cv else if iv < 1 ∨ 4294967295 < iv then 2 else 0
theorem wrongF (w : World) (al cv : Int) : Calls Tryz.prog 45 #[.int .u8 al, .int .i64 cv] w fun e w' => e = .returned (.int .i64 (wrongCode al cv)) ∧ w = w' := by
  by_cases h : ¬ al = 1 ∧ ¬ al = 2
  · have hw : wrongCode al cv = 4 := if_pos h
    have HW := Lib.hid hw; clear hw
    obtain ⟨h1, h2⟩ := h
    have e1 : (al != 1) = true := by simpa using h1
    have e2 : (al != 2) = true := by simpa using h2
    go_enter Tryz.func45, Tryz.ntmps45
    go_wp2
    go_ret
    exact ⟨by rw [HW.out]; rfl, rfl⟩
  · have ha : al = 1 ∨ al = 2 := by omega
    by_cases hc : cv < 1 ∨ 1048576 < cv
    · have hw : wrongCode al cv = 10 := by unfold wrongCode; rw [if_neg h, if_pos hc]
      have HW := Lib.hid hw; clear hw h
      by_cases c1 : cv < 1
      · clear hc
        rcases ha with rfl | rfl
        all_goals
          go_enter Tryz.func45, Tryz.ntmps45
          go_wp2
          go_ret
          exact ⟨by rw [HW.out]; rfl, rfl⟩
      · have c2 : 1048576 < cv := by omega
        clear hc
        rcases ha with rfl | rfl
        all_goals
          go_enter Tryz.func45, Tryz.ntmps45
          go_wp2
          go_ret
          exact ⟨by rw [HW.out]; rfl, rfl⟩
    · have hw : wrongCode al cv = 0 := by unfold wrongCode; rw [if_neg h, if_neg hc]
      have HW := Lib.hid hw; clear hw h
      have c1 : ¬ cv < 1 := by omega
      have c2 : ¬ 1048576 < cv := by omega
      clear hc
      rcases ha with rfl | rfl
      all_goals
        go_enter Tryz.func45, Tryz.ntmps45
        go_wp2
        go_ret
        exact ⟨by rw [HW.out]; rfl, rfl⟩
set_option maxHeartbeats 1000000 in
theorem keyBad {W0 w : World} {L : List Assn} (p : Option Nat) (pk sp : Option Addr) (nk ck ns cs : Nat) (al cv nv : Int) (h : keyCode al cv nv ≠ 0) (hs : Sat W0 w L) :
    Calls Tryz.prog 25 #[ptrO p, .int .u8 al, .slice pk nk ck, .slice sp ns cs, .int .i64 cv, .int .i64 nv] w fun e w' => e = .returned (.tuple #[.slice none 0 0, .int .i64 (keyCode al cv nv)]) ∧ Sat W0 w' L := by
  have hw := wrongF
  obtain ⟨z, hz⟩ : ∃ z, z = wrongCode al cv := ⟨_, rfl⟩
  have hk : keyCode al cv nv = if z ≠ 0 then z else if nv < 0 then 2 else if 16320 < nv then 9 else 0 := by rw [hz]; rfl
  rw [hk] at h ⊢
  have HZ := Lib.hid hz; clear hz hk
  by_cases h0 : z = 0
  · subst h0
    have hz0 : ((0 : Int) ≠ 0) = False := by simp
    simp only [hz0, if_false] at h ⊢
    by_cases h1 : nv < 0
    · simp only [if_pos h1]
      clear h
      go_enter Tryz.func25, Tryz.ntmps25
      go_wp2_with fail
      refine (hw _ _ _).mono ?_
      rintro e w' ⟨rfl, rfl⟩
      rw [← HZ.out]
      clear hw
      go_wp2
      go_ret2
      exact ⟨rfl, (by (repeat (first | with_reducible apply Sat.sub (hs) | with_reducible apply Sat.alloc' | with_reducible apply Sat.drew | with_reducible apply Sat.drewN)); (repeat (first | with_reducible exact Fr.done | with_reducible exact Fr.nil | (with_reducible apply Fr.cons; (focus ((repeat (first | with_reducible exact Take.here | with_reducible apply Take.there)); done))) | with_reducible apply Fr.skip)); done)⟩
    · simp only [if_neg h1] at h ⊢
      by_cases h2 : 16320 < nv
      · simp only [if_pos h2]
        clear h
        go_enter Tryz.func25, Tryz.ntmps25
        go_wp2_with fail
        refine (hw _ _ _).mono ?_
        rintro e w' ⟨rfl, rfl⟩
        rw [← HZ.out]
        clear hw
        go_wp2
        go_ret2
        exact ⟨rfl, (by (repeat (first | with_reducible apply Sat.sub (hs) | with_reducible apply Sat.alloc' | with_reducible apply Sat.drew | with_reducible apply Sat.drewN)); (repeat (first | with_reducible exact Fr.done | with_reducible exact Fr.nil | (with_reducible apply Fr.cons; (focus ((repeat (first | with_reducible exact Take.here | with_reducible apply Take.there)); done))) | with_reducible apply Fr.skip)); done)⟩
      · exact absurd (if_neg h2) h
  · simp only [ne_eq, h0, not_false_eq_true, if_true]
    have e0 : (z != 0) = true := by simpa using h0
    clear h
    go_enter Tryz.func25, Tryz.ntmps25
    go_wp2_with fail
    refine (hw _ _ _).mono ?_
    rintro e w' ⟨rfl, rfl⟩
    rw [← HZ.out]
    clear hw
    go_wp2
    go_ret2
    exact ⟨rfl, (by (repeat (first | with_reducible apply Sat.sub (hs) | with_reducible apply Sat.alloc' | with_reducible apply Sat.drew | with_reducible apply Sat.drewN)); (repeat (first | with_reducible exact Fr.done | with_reducible exact Fr.nil | (with_reducible apply Fr.cons; (focus ((repeat (first | with_reducible exact Take.here | with_reducible apply Take.there)); done))) | with_reducible apply Fr.skip)); done)⟩
set_option maxHeartbeats 1000000 in
theorem blockBad {W0 w : World} {L : List Assn} (p : Option Nat) (pk sp : Option Addr) (nk ck ns cs : Nat) (al cv nv : Int) (h : blockCode al cv nv ≠ 0) (hs : Sat W0 w L) :
    Calls Tryz.prog 22 #[ptrO p, .int .u8 al, .slice pk nk ck, .slice sp ns cs, .int .i64 cv, .int .i64 nv] w fun e w' => e = .returned (.tuple #[.slice none 0 0, .int .i64 (blockCode al cv nv)]) ∧ Sat W0 w' L := by
  have hw := wrongF
  obtain ⟨z, hz⟩ : ∃ z, z = wrongCode al cv := ⟨_, rfl⟩
  have hk : blockCode al cv nv = if z ≠ 0 then z else if nv < 1 ∨ 4294967295 < nv then 2 else 0 := by rw [hz]; rfl
  rw [hk] at h ⊢
  have HZ := Lib.hid hz; clear hz hk
  by_cases h0 : z = 0
  · subst h0
    have hz0 : ((0 : Int) ≠ 0) = False := by simp
    simp only [hz0, if_false] at h ⊢
    by_cases h1 : nv < 1
    · simp only [if_pos (show nv < 1 ∨ 4294967295 < nv from .inl h1)]
      clear h
      go_enter Tryz.func22, Tryz.ntmps22
      go_wp2_with fail
      refine (hw _ _ _).mono ?_
      rintro e w' ⟨rfl, rfl⟩
      rw [← HZ.out]
      clear hw
      go_wp2
      go_ret2
      exact ⟨rfl, (by (repeat (first | with_reducible apply Sat.sub (hs) | with_reducible apply Sat.alloc' | with_reducible apply Sat.drew | with_reducible apply Sat.drewN)); (repeat (first | with_reducible exact Fr.done | with_reducible exact Fr.nil | (with_reducible apply Fr.cons; (focus ((repeat (first | with_reducible exact Take.here | with_reducible apply Take.there)); done))) | with_reducible apply Fr.skip)); done)⟩
    · by_cases h2 : 4294967295 < nv
      · simp only [if_pos (show nv < 1 ∨ 4294967295 < nv from .inr h2)]
        clear h
        go_enter Tryz.func22, Tryz.ntmps22
        go_wp2_with fail
        refine (hw _ _ _).mono ?_
        rintro e w' ⟨rfl, rfl⟩
        rw [← HZ.out]
        clear hw
        go_wp2
        go_ret2
        exact ⟨rfl, (by (repeat (first | with_reducible apply Sat.sub (hs) | with_reducible apply Sat.alloc' | with_reducible apply Sat.drew | with_reducible apply Sat.drewN)); (repeat (first | with_reducible exact Fr.done | with_reducible exact Fr.nil | (with_reducible apply Fr.cons; (focus ((repeat (first | with_reducible exact Take.here | with_reducible apply Take.there)); done))) | with_reducible apply Fr.skip)); done)⟩
      · exact absurd (if_neg (by omega)) h
  · simp only [ne_eq, h0, not_false_eq_true, if_true]
    have e0 : (z != 0) = true := by simpa using h0
    clear h
    go_enter Tryz.func22, Tryz.ntmps22
    go_wp2_with fail
    refine (hw _ _ _).mono ?_
    rintro e w' ⟨rfl, rfl⟩
    rw [← HZ.out]
    clear hw
    go_wp2
    go_ret2
    exact ⟨rfl, (by (repeat (first | with_reducible apply Sat.sub (hs) | with_reducible apply Sat.alloc' | with_reducible apply Sat.drew | with_reducible apply Sat.drewN)); (repeat (first | with_reducible exact Fr.done | with_reducible exact Fr.nil | (with_reducible apply Fr.cons; (focus ((repeat (first | with_reducible exact Take.here | with_reducible apply Take.there)); done))) | with_reducible apply Fr.skip)); done)⟩
end Go.Proofs.YtmohabidfalhoaaGreat
