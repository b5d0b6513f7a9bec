/- Pick gives a number below its bound; what the document's examples say of the table holds (awake). -/
import Derived.Test.YtgdjhegefemkaaaTab
namespace Go.Proofs.Ytgdjhegefemkaaa
open Go.RowKit Go.Sep
set_option linter.unusedVariables false
set_option linter.unusedSimpArgs false
theorem tmod_bd (i n : Int) (hn : 0 < n) : -n < i.tmod n ∧ i.tmod n < n :=
  ⟨by
    have h := Int.tmod_lt_of_pos (-i) hn
    rw [Int.neg_tmod] at h
    omega, Int.tmod_lt_of_pos i hn⟩
abbrev tabStr (b hb vb n : Nat) (held : List Bool) (vals : List ByteArray) (L : List Assn) : List Assn := seg true b 0 [.slice (some ⟨hb,0,none⟩) n n, .slice (some ⟨vb,0,none⟩) n n] :: seg true hb 0 (held.map .bool) :: seg true vb 0 (vals.map fun x => Value.string x) :: L
set_option maxHeartbeats 400000 in
theorem pick_any (w : World) (i n : Int) (hi : -9223372036854775808 ≤ i ∧ i ≤ 9223372036854775807) (hn : 0 < n ∧ n ≤ 1000) :
    Calls Try.prog 9 #[.int .i64 i, .int .i64 n] w fun e w' => (∃ k : Nat, (k : Int) < n ∧ e = .returned (.int .i64 k)) ∧ w = w' := by
  have h0 := tmod_bd i n hn.1
  obtain ⟨h1, h2⟩ := h0
  by_cases hs : i.tmod n < 0
  · go_enter Try.func9, Try.ntmps9
    go_wp2
    go_ret
    refine ⟨⟨(i.tmod n + n).toNat, by omega, ?_⟩, rfl⟩
    show Ending.returned (.int .i64 (i.tmod n + n)) = _
    rw [show (((i.tmod n + n).toNat : Nat) : Int) = i.tmod n + n from by omega]
  · go_enter Try.func9, Try.ntmps9
    go_wp2
    go_ret
    refine ⟨⟨(i.tmod n).toNat, by omega, ?_⟩, rfl⟩
    show Ending.returned (.int .i64 (i.tmod n)) = _
    rw [show (((i.tmod n).toNat : Nat) : Int) = i.tmod n from by omega]
set_option maxRecDepth 100000 in
set_option maxHeartbeats 1000000 in
theorem awake_any {W0 w : World} {L : List Assn} (hs : Sat W0 w L) : Calls Try.prog 7 #[] w fun e w' => e = .returned (.bool true) ∧ Sat W0 w' L := by
  go_enter Try.func7, Try.ntmps7
  go_wp2_with fail
  refine (new_str 2 (by omega) (by omega) hs).mono ?_
  rintro e w1 ⟨b, hb, vb, rfl, s⟩
  clear hs
  have s : Sat W0 w1 (tabStr b hb vb 2 [false, false] [ByteArray.empty, ByteArray.empty] L) := s
  go_wp2_with fail
  refine (add_str (n := 2) (held := [false, false]) (vals := [ByteArray.empty, ByteArray.empty]) _ rfl rfl (by decide) (by decide) s).mono ?_
  rintro e w2 (⟨i, hi, hall, hno, rfl, s⟩ | ⟨hall, -⟩)
  rotate_left
  · exact absurd (hall 0 (by decide)) (by decide)
  obtain rfl : i = 0 := by
    rcases Nat.lt_trichotomy i 0 with h | h | h
    · first | omega | exact absurd hno (by obtain rfl : i = 0 := (by omega); decide)
    · exact h
    · exact absurd (hall 0 h) (by decide)
  clear hi hall hno
  have s : Sat W0 w2 (tabStr b hb vb 2 [true, false] [⟨#[97]⟩, ByteArray.empty] L) := s
  go_wp2_with fail
  refine (add_str (n := 2) (held := [true, false]) (vals := [⟨#[97]⟩, ByteArray.empty]) _ rfl rfl (by decide) (by decide) s).mono ?_
  rintro e w3 (⟨i, hi, hall, hno, rfl, s⟩ | ⟨hall, -⟩)
  rotate_left
  · exact absurd (hall 1 (by decide)) (by decide)
  obtain rfl : i = 1 := by
    rcases Nat.lt_trichotomy i 1 with h | h | h
    · first | omega | exact absurd hno (by obtain rfl : i = 0 := (by omega); decide)
    · exact h
    · exact absurd (hall 1 h) (by decide)
  clear hi hall hno
  have s : Sat W0 w3 (tabStr b hb vb 2 [true, true] [⟨#[97]⟩, ⟨#[98]⟩] L) := s
  go_wp2_with fail
  refine (add_str (n := 2) (held := [true, true]) (vals := [⟨#[97]⟩, ⟨#[98]⟩]) _ rfl rfl (by decide) (by decide) s).mono ?_
  rintro e w4 (⟨i, hi, hall, hno, rfl, -⟩ | ⟨hall, rfl, s⟩)
  · have h : i = 0 ∨ i = 1 := by omega
    rcases h with rfl | rfl <;> exact absurd hno (by decide)
  clear hall
  go_wp2_with fail
  refine (drop_yes_str (n := 2) (held := [true, true]) (vals := [⟨#[97]⟩, ⟨#[98]⟩]) 0 rfl (x := ⟨#[97]⟩) rfl rfl rfl (by decide) (by decide) s).mono ?_
  rintro e w5 ⟨rfl, s⟩
  have s : Sat W0 w5 (tabStr b hb vb 2 [false, true] [ByteArray.empty, ⟨#[98]⟩] L) := s
  go_wp2_with fail
  refine (drop_no_str (n := 2) (held := [false, true]) (vals := [ByteArray.empty, ⟨#[98]⟩]) 0 rfl rfl rfl (by decide) (by decide) s).mono ?_
  rintro e w6 ⟨rfl, s⟩
  have s : Sat W0 w6 (tabStr b hb vb 2 [false, true] [ByteArray.empty, ⟨#[98]⟩] L) := s
  go_wp2_with fail
  refine (add_str (n := 2) (held := [false, true]) (vals := [ByteArray.empty, ⟨#[98]⟩]) _ rfl rfl (by decide) (by decide) s).mono ?_
  rintro e w7 (⟨i, hi, hall, hno, rfl, s⟩ | ⟨hall, -⟩)
  rotate_left
  · exact absurd (hall 0 (by decide)) (by decide)
  obtain rfl : i = 0 := by
    rcases Nat.lt_trichotomy i 0 with h | h | h
    · first | omega | exact absurd hno (by obtain rfl : i = 0 := (by omega); decide)
    · exact h
    · exact absurd (hall 0 h) (by decide)
  clear hi hall hno
  have s : Sat W0 w7 (tabStr b hb vb 2 [true, true] [⟨#[100]⟩, ⟨#[98]⟩] L) := s
  go_wp2_with fail
  refine (get_yes_str (n := 2) (held := [true, true]) (vals := [⟨#[100]⟩, ⟨#[98]⟩]) 0 rfl (x := ⟨#[100]⟩) rfl rfl rfl (by decide) (by decide) s).mono ?_
  rintro e w8 ⟨rfl, s⟩
  go_wp2_with fail
  refine (full_str (n := 2) (held := [true, true]) (vals := [⟨#[100]⟩, ⟨#[98]⟩]) rfl rfl (by decide) (by decide) s).mono ?_
  rintro e w9 ⟨rfl, k, rfl⟩
  have s := s.drewN k
  go_wp2_with fail
  refine (len_str (n := 2) (held := [true, true]) (vals := [⟨#[100]⟩, ⟨#[98]⟩]) rfl rfl (by decide) (by decide) s).mono ?_
  rintro e w9 ⟨rfl, rfl⟩
  go_wp2
  go_ret
  exact ⟨rfl, s.tail.tail.tail⟩
end Go.Proofs.Ytgdjhegefemkaaa
