/- The walk of TableKnown: it returns true, and what was there stays. -/
import Derived.Test.YtgdjhegefemkaaaLawA
namespace Go.Proofs.Ytgdjhegefemkaaa
open Go.RowKit Go.Sep
set_option linter.unusedVariables false
set_option linter.unusedSimpArgs false
abbrev tabInt (b hb vb n : Nat) (held : List Bool) (vals : List Int) (L : List Assn) : List Assn := seg true b 0 [.slice (some ⟨hb,0,none⟩) n n, .slice (some ⟨vb,0,none⟩) n n] :: seg true hb 0 (held.map .bool) :: seg true vb 0 (vals.map fun x => Value.int .i64 x) :: L
def heldK (i : Nat) : List Bool := (List.range 64).map fun j => decide (j < i)
def valsK (i : Nat) : List Int := (List.range 64).map fun j => if j < i then (j : Int) * j else 0
theorem heldK_len (i : Nat) : (heldK i).length = 64 := by simp [heldK]
theorem valsK_len (i : Nat) : (valsK i).length = 64 := by simp [valsK]
theorem heldK_get (i j : Nat) (h : j < 64) : (heldK i).getD j false = decide (j < i) := by simp [heldK, h]
theorem heldK_set (i : Nat) : (heldK i).set i true = heldK (i + 1) := by
  apply List.ext_getElem
  · simp [heldK]
  · intro j h1 h2
    simp only [heldK, List.getElem_set, List.getElem_map, List.getElem_range]
    split <;> simp <;> omega
theorem valsK_set (i : Nat) : (valsK i).set i ((i : Int) * i) = valsK (i + 1) := by
  apply List.ext_getElem
  · simp [valsK]
  · intro j h1 h2
    simp only [valsK, List.getElem_set, List.getElem_map, List.getElem_range]
    by_cases e : i = j
    · subst e; simp
    · rw [if_neg e]
      by_cases h : j < i
      · rw [if_pos h, if_pos (by omega)]
      · rw [if_neg h, if_neg (by omega)]
theorem sq_bd (i : Nat) (h : i ≤ 64) : 0 ≤ (i : Int) * i ∧ (i : Int) * i ≤ 4096 := by
  have h1 : (i : Int) * i = ((i * i : Nat) : Int) := by simp
  have h2 : i * i ≤ 64 * 64 := Nat.mul_le_mul h h
  omega
set_option maxRecDepth 100000 in
set_option maxHeartbeats 2000000 in
theorem known_any {W0 w : World} {L : List Assn} (hs : Sat W0 w L) : Calls Try.prog 4 #[] w fun e w' => e = .returned (.bool true) ∧ Sat W0 w' L := by
  go_enter Try.func4, Try.ntmps4
  go_wp2_with fail
  refine (new_no_int 0 (.inl (by omega))).mono ?_
  rintro e w1 ⟨rfl, rfl⟩
  go_wp2_with fail
  refine (new_no_int 65 (.inr (by omega))).mono ?_
  rintro e w1 ⟨rfl, rfl⟩
  go_wp2_with fail
  refine (new_int 64 (by omega) (by omega) hs).mono ?_
  rintro e w1 ⟨b, hb, vb, rfl, s⟩
  have s : Sat W0 w1 (tabInt b hb vb 64 (heldK 0) (valsK 0) L) := s
  clear hs
  go_wp2_with fail
  go_loopw [7] (fun t7 wr => ∃ i : Nat, i ≤ 64 ∧ t7 = .int .i64 i ∧ Sat W0 wr (tabInt b hb vb 64 (heldK i) (valsK i) L)) (fun t7 _ => 64 - (intOf t7).toNat)
  case atStart => exact ⟨0, by omega, rfl, s⟩
  case round =>
    obtain ⟨i, hi, rfl, hs⟩ := hrel
    have hq := sq_bd i hi
    obtain ⟨q1, q2⟩ := hq
    by_cases hlt : i < 64
    · go_wp2_with fail
      refine (add_int (n := 64) (held := heldK i) (vals := valsK i) _ (heldK_len i) (valsK_len i) (by decide) (by decide) hs).mono ?_
      rintro e w2 (⟨k, hk, hall, hno, rfl, hs2⟩ | ⟨hall, -⟩)
      rotate_left
      · have := hall i hlt
        rw [heldK_get i i hlt] at this
        simp at this
      obtain rfl : k = i := by
        rcases Nat.lt_trichotomy k i with h | h | h
        · rw [heldK_get i k hk] at hno; simp at hno; omega
        · exact h
        · have := hall i h
          rw [heldK_get i i hlt] at this
          simp at this
      clear hall hno
      rw [heldK_set, valsK_set] at hs2
      go_wp2
      go_roundw
      case rel => exact ⟨k + 1, by omega, by go_num, hs2⟩
      case measure => simp [intOf]; omega
    · obtain rfl : i = 64 := by omega
      clear q1 q2
      go_wp2_with fail
      refine (add_int (n := 64) (held := heldK 64) (vals := valsK 64) _ (heldK_len 64) (valsK_len 64) (by decide) (by decide) hs).mono ?_
      rintro e w2 (⟨k, hk, hall, hno, -⟩ | ⟨hall, rfl, hs2⟩)
      · rw [heldK_get 64 k hk] at hno; simp at hno; omega
      clear hall hs
      go_wp2_with fail
      refine (get_yes_int (n := 64) (held := heldK 64) (vals := valsK 64) 63 rfl (x := 3969) rfl (heldK_len 64) (valsK_len 64) (by decide) (by decide) hs2).mono ?_
      rintro e w3 ⟨rfl, s⟩
      go_wp2_with fail
      refine (get_no_int (n := 64) (held := heldK 64) (vals := valsK 64) 64 rfl (heldK_len 64) (valsK_len 64) (by decide) (by decide) s).mono ?_
      rintro e w4 ⟨rfl, s⟩
      go_wp2_with fail
      refine (get_no_int (n := 64) (held := heldK 64) (vals := valsK 64) (-1) rfl (heldK_len 64) (valsK_len 64) (by decide) (by decide) s).mono ?_
      rintro e w5 ⟨rfl, s⟩
      go_wp2_with fail
      refine (awake_any s).mono ?_
      rintro e w6 ⟨rfl, s⟩
      go_wp2_with fail
      refine (set_no_int (n := 64) (held := heldK 64) (vals := valsK 64) 64 1 rfl (heldK_len 64) (valsK_len 64) (by decide) (by decide) s).mono ?_
      rintro e w7 ⟨rfl, s⟩
      go_wp2
      go_ret
      exact ⟨rfl, s.tail.tail.tail⟩
end Go.Proofs.Ytgdjhegefemkaaa
