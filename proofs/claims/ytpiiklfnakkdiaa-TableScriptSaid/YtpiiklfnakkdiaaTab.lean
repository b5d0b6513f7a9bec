/- The contracts of the table's methods, at the types of things that the statements use; each under the conditions that it names. -/
import Derived.Test.YtpiiklfnakkdiaaSep
import Derived.Test.YtpiiklfnakkdiaaRows
import Derived.WalkKit
import Derived.WalkSpells
import Derived.WalkLawsBesides
import Derived.RegionTactic
import Derived.ChangeAlike
import Derived.BigRegion
import Derived.Lib.Hide
import Derived.Deep.QuietTactic
import Derived.BigQuiet
namespace Go.Proofs.Ytpiiklfnakkdiaa
open Go.RowKit Go.Sep
set_option linter.unusedVariables false
set_option linter.unusedSimpArgs false
abbrev A2 := Int × Int
def enc2 (x : A2) : List Value := [.int .i64 x.1, .int .i64 x.2]
theorem len2 (x : A2) : (enc2 x).length = 2 := rfl
theorem bool_at (held : List Bool) (i : Nat) (h : i < held.length) : (held.map Value.bool)[i]? = some (.bool (held.getD i false)) := by
  simp [h]
theorem Try.infoBool : (Try.prog.info? 4).map (fun i => (i.zero, i.size, i.bytes)) = some (some (.bool false), 1, 1) := by kernel_rfl
theorem Try.info_int : (Try.prog.info? 3).map (fun i => (i.zero, i.size, i.bytes)) = some (some (.int .i64 0), 1, 8) := by kernel_rfl
set_option maxHeartbeats 1000000 in
theorem new_int {W0 w : World} {L : List Assn} (most : Int) (h1 : 1 ≤ most) (h2 : most ≤ 64) (hs : Sat W0 w L) :
    Calls Try.prog 4 #[.int .i64 most] w fun e w' => ∃ b hb vb, e = .returned (.tuple #[.pointer (some ⟨b,0,none⟩), .int .i64 0]) ∧ Sat W0 w' (seg true b 0 [.slice (some ⟨hb,0,none⟩) most.toNat most.toNat, .slice (some ⟨vb,0,none⟩) most.toNat most.toNat] :: seg true hb 0 ((List.replicate most.toNat false).map .bool) :: seg true vb 0 ((List.replicate most.toNat (0 : Int)).map fun x => Value.int .i64 x) :: L) := by
  obtain ⟨i4, hi4, hz4, hs4, hb4⟩ := info_parts Try.infoBool
  obtain ⟨i3, hi3, hz3, hs3, hb3⟩ := info_parts Try.info_int
  have hm1 := fun w => run_make (P := Try.prog) w 49 4 i4 (.bool false) Try.underlying49 hi4 hz4 .i64 .i64 most most (by omega) (by omega) (by rw [hb4]; omega) (by omega)
  have hm2 := fun w => run_make (P := Try.prog) w 50 3 i3 (.int .i64 0) Try.underlying50 hi3 hz3 .i64 .i64 most most (by omega) (by omega) (by rw [hb3]; omega) (by omega)
  rw [hs4] at hm1
  rw [hs3] at hm2
  clear hi4 hz4 hs4 hb4 hi3 hz3 hs3 hb3
  go_enter Try.func4, Try.ntmps4
  go_wp2
  go_region
  all_goals go_wp2
  all_goals go_ret2
  · exact ⟨w.heap.size + 1 + 1, w.heap.size, w.heap.size + 1, rfl, ((((hs.make _ _ _).make _ _ _).alloc _ _).drew.pick [0, 2, 1]).to (by simp [pick])⟩
  · exact ⟨w.heap.size + 1 + 1, w.heap.size + 1, w.heap.size, rfl, ((((hs.make _ _ _).make _ _ _).alloc _ _).drew.pick [0, 1, 2]).to (by simp [pick])⟩
theorem new_no_int {w : World} (most : Int) (h : most < 1 ∨ 64 < most) :
    Calls Try.prog 4 #[.int .i64 most] w fun e w' => e = .returned (.tuple #[.pointer none, .int .i64 2]) ∧ w = w' := by
  rcases h with h | h
  · go_enter Try.func4, Try.ntmps4
    go_wp2
    go_ret2
    exact ⟨rfl, rfl⟩
  · have h' : ¬ most < 1 := by omega
    go_enter Try.func4, Try.ntmps4
    go_wp2
    go_ret2
    exact ⟨rfl, rfl⟩
theorem made_int {W0 w : World} {L : List Assn} {b hb n : Nat} {v2 : Value} (hn : 0 < n) (hs : Sat W0 w (seg true b 0 [.slice (some ⟨hb,0,none⟩) n n, v2] :: L)) :
    Calls Try.prog 34 #[.pointer (some ⟨b,0,none⟩)] w fun e w' => e = .returned (.bool true) ∧ w = w' := by
  have c0 := hs.at 0 rfl
  go_enter Try.func34, Try.ntmps34
  go_wp2
  go_ret
  exact ⟨by simp, rfl⟩
theorem has_int {W0 w : World} {L : List Assn} {b hb n : Nat} {v2 : Value} {held : List Bool} (h : Int) (hn : held.length = n) (hsm : n ≤ 64) (hs : Sat W0 w (seg true b 0 [.slice (some ⟨hb,0,none⟩) n n, v2] :: seg true hb 0 (held.map .bool) :: L)) :
    Calls Try.prog 35 #[.pointer (some ⟨b,0,none⟩), .int .i64 h] w fun e w' => e = .returned (.bool (decide (0 ≤ h) && held.getD h.toNat false)) ∧ w = w' := by
  have c0 := hs.at 0 rfl
  subst hn
  by_cases hlt : 0 ≤ h
  · obtain ⟨k, rfl⟩ : ∃ k : Nat, h = k := ⟨h.toNat, by omega⟩
    by_cases hk : k < held.length
    · have c1 := (hs.pull 1).at k (v := .bool held[k]) (by simp [hk])
      have d1 : decide ((0 : Int) ≤ (k : Int)) = true := by simp
      go_enter Try.func35, Try.ntmps35
      go_wp2
      go_ret
      exact ⟨by simp [hk], rfl⟩
    · have d1 : decide ((0 : Int) ≤ (k : Int)) = true := by simp
      go_enter Try.func35, Try.ntmps35
      go_wp2
      go_ret
      exact ⟨by simp [hk], rfl⟩
  · go_enter Try.func35, Try.ntmps35
    go_wp2
    go_ret
    exact ⟨by simp; omega, rfl⟩
set_option maxHeartbeats 1000000 in
theorem add_int {W0 w : World} {L : List Assn} {b hb vb n : Nat} {held : List Bool} {vals : List Int} (v : Int) (hn : held.length = n) (hv : vals.length = n) (hp : 0 < n) (hsm : n ≤ 64) (hs : Sat W0 w (seg true b 0 [.slice (some ⟨hb,0,none⟩) n n, .slice (some ⟨vb,0,none⟩) n n] :: seg true hb 0 (held.map .bool) :: seg true vb 0 (vals.map fun x => Value.int .i64 x) :: L)) :
    Calls Try.prog 11 #[.pointer (some ⟨b,0,none⟩), (.int .i64 v)] w fun e w' =>
      (∃ i : Nat, i < n ∧ (∀ j, j < i → held.getD j false = true) ∧ held.getD i false = false ∧ e = .returned (.tuple #[.int .i64 i, .int .i64 0]) ∧
        Sat W0 w' (seg true b 0 [.slice (some ⟨hb,0,none⟩) n n, .slice (some ⟨vb,0,none⟩) n n] :: seg true hb 0 ((held.set i true).map .bool) :: seg true vb 0 ((vals.set i v).map fun x => Value.int .i64 x) :: L)) ∨
      ((∀ j, j < n → held.getD j false = true) ∧ e = .returned (.tuple #[.int .i64 0, .int .i64 8]) ∧ Sat W0 w' (seg true b 0 [.slice (some ⟨hb,0,none⟩) n n, .slice (some ⟨vb,0,none⟩) n n] :: seg true hb 0 (held.map .bool) :: seg true vb 0 (vals.map fun x => Value.int .i64 x) :: L)) := by
  have c0 := hs.at 0 rfl
  have c1 := hs.at 1 rfl
  have s1 : Sat W0 w (seg true hb 0 (held.map .bool) :: _) := hs.pull 1
  have s2 : Sat W0 w (seg true vb 0 (vals.map fun x => Value.int .i64 x) :: _) := hs.pull 2
  have lh : 0 < (held.map Value.bool).length := by simp; omega
  have lv : 0 < (vals.map fun x => Value.int .i64 x).length := by simp; omega
  have n1 : b ≠ hb := hs.ne' (by simp) lh
  have n2 : b ≠ vb := (hs.pick [0, 2] : Sat W0 w (seg true b 0 _ :: seg true vb 0 (vals.map fun x => Value.int .i64 x) :: _)).ne' (by simp) lv
  have n3 : hb ≠ vb := (hs.pick [1, 2] : Sat W0 w (seg true hb 0 (held.map .bool) :: seg true vb 0 (vals.map fun x => Value.int .i64 x) :: _)).ne' lh lv
  have z0 := hs.lt (by simp)
  have z1 := s1.lt lh
  have z2 := s2.lt lv
  clear lh lv
  have hm := made_int hp hs
  have H := Lib.hid (And.intro hn hv); clear hn hv

  go_enter Try.func11, Try.ntmps11
  go_wp2_with (go_at_call 34; refine hm.mono ?_; rintro e w' ⟨rfl, rfl⟩)
  go_loop [6, 7, 16] (fun t6 t7 t16 => ∃ i : Nat, i ≤ n ∧ t16 = .int .i64 i ∧ (∀ j, j < i → held.getD j false = true)) (fun _ _ t16 => n - (intOf t16).toNat)
  case atStart => exact ⟨0, Nat.zero_le _, rfl, by intro j h; omega⟩
  case round =>
    obtain ⟨i, hi, rfl, hall⟩ := hrel
    by_cases hlt : i < n
    · have e0 := s1.at i (bool_at held i (by rw [H.out.1]; exact hlt))
      have f0 := s1.fr i (by rw [List.length_map, H.out.1]; exact hlt)
      obtain ⟨y, hx⟩ : ∃ y, vals[i]? = some y := ⟨vals[i]'(by rw [H.out.2]; exact hlt), by simp⟩
      have e1 := s2.at i (v := .int .i64 y) (by simp [hx])
      have f1 := s2.fr i (by simp; have := (List.getElem?_eq_some_iff.1 hx).1; exact this)
      clear hx
      by_cases hd : held.getD i false = true
      · rw [hd] at e0
        have hd' := Lib.hid hd; clear hd
        go_wp2
        go_round
        case rel => exact ⟨i+1, by omega, by go_num, by intro j hj; rcases Nat.lt_succ_iff_lt_or_eq.1 hj with h | rfl; exact hall j h; exact hd'.out⟩
        case measure => simp [intOf]; omega
      · have hd2 : held.getD i false = false := by simpa using hd
        rw [hd2] at e0
        have hd' := Lib.hid hd2; clear hd hd2
        go_wp2
        go_region
        go_wp2
        go_ret2
        refine .inl ⟨i, hlt, hall, hd'.out, rfl, ?_⟩
        have s3 := (s1.store (i := i) (by rw [List.length_map, H.out.1]; exact hlt) (.bool true) (q := i) (by simp) : Sat W0 (w.setCell ⟨hb, i, none⟩ (.bool true)) _)
        have s4 : Sat W0 _ (seg true vb 0 (vals.map fun x => Value.int .i64 x) :: _) := s3.pull 2

        have s5 := (s4.store (i := i) (by rw [List.length_map, H.out.2]; exact hlt) (.int .i64 v) (q := i) (by simp)).drew.pick [2, 1, 0]
        exact s5.to (by simp [pick, List.map_set])
    · go_wp2
      go_ret2
      exact .inr ⟨fun j hj => hall j (by omega), rfl, hs⟩
set_option maxHeartbeats 1000000 in
theorem get_no_int {W0 w : World} {L : List Assn} {b hb vb n : Nat} {held : List Bool} {vals : List Int} (h : Int) (hno : (decide (0 ≤ h) && held.getD h.toNat false) = false) (hn : held.length = n) (hv : vals.length = n) (hp : 0 < n) (hsm : n ≤ 64) (hs : Sat W0 w (seg true b 0 [.slice (some ⟨hb,0,none⟩) n n, .slice (some ⟨vb,0,none⟩) n n] :: seg true hb 0 (held.map .bool) :: seg true vb 0 (vals.map fun x => Value.int .i64 x) :: L)) :
    Calls Try.prog 13 #[.pointer (some ⟨b,0,none⟩), .int .i64 h] w fun e w' =>
      e = .returned (.tuple #[.int .i64 0, .int .i64 5]) ∧ Sat W0 w' (seg true b 0 [.slice (some ⟨hb,0,none⟩) n n, .slice (some ⟨vb,0,none⟩) n n] :: seg true hb 0 (held.map .bool) :: seg true vb 0 (vals.map fun x => Value.int .i64 x) :: L) := by
  have z0 := hs.lt (by simp)
  have ms := hs
  have hm := made_int hp ms
  have hh := has_int h hn hsm ms
  rw [hno] at hh
  clear hno hn hv
  go_enter Try.func13, Try.ntmps13
  go_wp2_with (first | (go_at_call 34; refine hm.mono ?_; rintro e w' ⟨rfl, rfl⟩) | (go_at_call 35; refine hh.mono ?_; rintro e w' ⟨rfl, rfl⟩))

  go_ret2
  exact ⟨rfl, hs⟩
set_option maxHeartbeats 1000000 in
theorem get_yes_int {W0 w : World} {L : List Assn} {b hb vb n : Nat} {held : List Bool} {vals : List Int} (k : Nat) (hyes : held.getD k false = true) {x : Int} (hx : vals[k]? = some x) (hn : held.length = n) (hv : vals.length = n) (hp : 0 < n) (hsm : n ≤ 64) (hs : Sat W0 w (seg true b 0 [.slice (some ⟨hb,0,none⟩) n n, .slice (some ⟨vb,0,none⟩) n n] :: seg true hb 0 (held.map .bool) :: seg true vb 0 (vals.map fun x => Value.int .i64 x) :: L)) :
    Calls Try.prog 13 #[.pointer (some ⟨b,0,none⟩), .int .i64 k] w fun e w' =>
      e = .returned (.tuple #[(.int .i64 x), .int .i64 0]) ∧ Sat W0 w' (seg true b 0 [.slice (some ⟨hb,0,none⟩) n n, .slice (some ⟨vb,0,none⟩) n n] :: seg true hb 0 (held.map .bool) :: seg true vb 0 (vals.map fun x => Value.int .i64 x) :: L) := by
  have hkn : k < n := by rw [← hv]; exact (List.getElem?_eq_some_iff.1 hx).1
  have c0 := hs.at 0 rfl
  have c1 := hs.at 1 rfl
  have s1 : Sat W0 w (seg true hb 0 (held.map .bool) :: _) := hs.pull 1
  have s2 : Sat W0 w (seg true vb 0 (vals.map fun x => Value.int .i64 x) :: _) := hs.pull 2
  have lh : 0 < (held.map Value.bool).length := by simp; omega
  have lv : 0 < (vals.map fun x => Value.int .i64 x).length := by simp; omega
  have n1 : b ≠ hb := hs.ne' (by simp) lh
  have n2 : b ≠ vb := (hs.pick [0, 2] : Sat W0 w (seg true b 0 _ :: seg true vb 0 (vals.map fun x => Value.int .i64 x) :: _)).ne' (by simp) lv
  have n3 : hb ≠ vb := (hs.pick [1, 2] : Sat W0 w (seg true hb 0 (held.map .bool) :: seg true vb 0 (vals.map fun x => Value.int .i64 x) :: _)).ne' lh lv
  have z0 := hs.lt (by simp)
  have z1 := s1.lt lh
  have z2 := s2.lt lv
  clear lh lv
  have e1 := s2.at k (v := .int .i64 x) (by simp [hx])
  have hm := made_int hp hs
  have hh := has_int k hn hsm hs
  rw [Int.toNat_natCast, hyes, show decide (0 ≤ (k : Int)) = true by simp] at hh
  clear hx hn hv hyes
  go_enter Try.func13, Try.ntmps13
  go_wp2_with (first | (go_at_call 34; refine hm.mono ?_; rintro e w' ⟨rfl, rfl⟩) | (go_at_call 35; refine hh.mono ?_; rintro e w' ⟨rfl, rfl⟩))
  go_ret2
  exact ⟨rfl, hs⟩
set_option maxHeartbeats 1000000 in
theorem set_no_int {W0 w : World} {L : List Assn} {b hb vb n : Nat} {held : List Bool} {vals : List Int} (h : Int) (v : Int) (hno : (decide (0 ≤ h) && held.getD h.toNat false) = false) (hn : held.length = n) (hv : vals.length = n) (hp : 0 < n) (hsm : n ≤ 64) (hs : Sat W0 w (seg true b 0 [.slice (some ⟨hb,0,none⟩) n n, .slice (some ⟨vb,0,none⟩) n n] :: seg true hb 0 (held.map .bool) :: seg true vb 0 (vals.map fun x => Value.int .i64 x) :: L)) :
    Calls Try.prog 15 #[.pointer (some ⟨b,0,none⟩), .int .i64 h, (.int .i64 v)] w fun e w' =>
      e = .returned (.int .i64 5) ∧ Sat W0 w' (seg true b 0 [.slice (some ⟨hb,0,none⟩) n n, .slice (some ⟨vb,0,none⟩) n n] :: seg true hb 0 (held.map .bool) :: seg true vb 0 (vals.map fun x => Value.int .i64 x) :: L) := by
  have z0 := hs.lt (by simp)
  have ms := hs
  have hm := made_int hp ms
  have hh := has_int h hn hsm ms
  rw [hno] at hh
  clear hno hn hv

  go_enter Try.func15, Try.ntmps15
  go_wp2_with (first | (go_at_call 34; refine hm.mono ?_; rintro e w' ⟨rfl, rfl⟩) | (go_at_call 35; refine hh.mono ?_; rintro e w' ⟨rfl, rfl⟩))
  go_ret
  exact ⟨rfl, ms⟩
set_option maxHeartbeats 1000000 in
theorem set_yes_int {W0 w : World} {L : List Assn} {b hb vb n : Nat} {held : List Bool} {vals : List Int} (k : Nat) (v : Int) (hyes : held.getD k false = true) (hk : k < n) (hn : held.length = n) (hv : vals.length = n) (hp : 0 < n) (hsm : n ≤ 64) (hs : Sat W0 w (seg true b 0 [.slice (some ⟨hb,0,none⟩) n n, .slice (some ⟨vb,0,none⟩) n n] :: seg true hb 0 (held.map .bool) :: seg true vb 0 (vals.map fun x => Value.int .i64 x) :: L)) :
    Calls Try.prog 15 #[.pointer (some ⟨b,0,none⟩), .int .i64 k, (.int .i64 v)] w fun e w' =>
      e = .returned (.int .i64 0) ∧ Sat W0 w' (seg true b 0 [.slice (some ⟨hb,0,none⟩) n n, .slice (some ⟨vb,0,none⟩) n n] :: seg true hb 0 (held.map .bool) :: seg true vb 0 ((vals.set k v).map fun x => Value.int .i64 x) :: L) := by
  have c0 := hs.at 0 rfl
  have c1 := hs.at 1 rfl
  have s1 : Sat W0 w (seg true hb 0 (held.map .bool) :: _) := hs.pull 1
  have s2 : Sat W0 w (seg true vb 0 (vals.map fun x => Value.int .i64 x) :: _) := hs.pull 2
  have lh : 0 < (held.map Value.bool).length := by simp; omega
  have lv : 0 < (vals.map fun x => Value.int .i64 x).length := by simp; omega
  have n1 : b ≠ hb := hs.ne' (by simp) lh
  have n2 : b ≠ vb := (hs.pick [0, 2] : Sat W0 w (seg true b 0 _ :: seg true vb 0 (vals.map fun x => Value.int .i64 x) :: _)).ne' (by simp) lv
  have n3 : hb ≠ vb := (hs.pick [1, 2] : Sat W0 w (seg true hb 0 (held.map .bool) :: seg true vb 0 (vals.map fun x => Value.int .i64 x) :: _)).ne' lh lv
  have z0 := hs.lt (by simp)
  have z1 := s1.lt lh
  have z2 := s2.lt lv
  clear lh lv
  obtain ⟨y, hx⟩ : ∃ y, vals[k]? = some y := ⟨vals[k]'(by omega), by simp⟩
  have e1 := s2.at k (v := .int .i64 y) (by simp [hx])
  have f1 := s2.fr k (by simp; have := (List.getElem?_eq_some_iff.1 hx).1; exact this)
  have ms := hs
  have hm := made_int hp ms
  have hh := has_int k hn hsm ms
  rw [Int.toNat_natCast, hyes, show decide (0 ≤ (k : Int)) = true by simp] at hh
  have H := Lib.hid (And.intro hn hv); clear hn hv hx

  go_enter Try.func15, Try.ntmps15
  go_wp2_with (first | (go_at_call 34; refine hm.mono ?_; rintro e w' ⟨rfl, rfl⟩) | (go_at_call 35; refine hh.mono ?_; rintro e w' ⟨rfl, rfl⟩))

  go_wp2
  go_ret
  refine ⟨rfl, ?_⟩
  have s5 := (s2.store (i := k) (by rw [List.length_map, H.out.2]; exact hk) (.int .i64 v) (q := k) (by simp)).pick [1, 2, 0]
  exact s5.to (by simp [pick, List.map_set])
theorem count_take_int (held : List Bool) (i : Nat) (h : i < held.length) : (held.take (i+1)).count true = (held.take i).count true + if held.getD i false then 1 else 0 := by
  rw [List.take_succ_eq_append_getElem h, List.count_append]
  by_cases hb : held[i] = true <;> simp_all
theorem count_le_int (held : List Bool) (i : Nat) : (held.take i).count true ≤ held.length :=
  Nat.le_trans List.count_le_length (by simp; omega)
set_option maxHeartbeats 1000000 in
theorem len_int {W0 w : World} {L : List Assn} {b hb vb n : Nat} {held : List Bool} {vals : List Int} (hn : held.length = n) (hv : vals.length = n) (hp : 0 < n) (hsm : n ≤ 64) (hs : Sat W0 w (seg true b 0 [.slice (some ⟨hb,0,none⟩) n n, .slice (some ⟨vb,0,none⟩) n n] :: seg true hb 0 (held.map .bool) :: seg true vb 0 (vals.map fun x => Value.int .i64 x) :: L)) :
    Calls Try.prog 19 #[.pointer (some ⟨b,0,none⟩)] w fun e w' => e = .returned (.int .i64 (held.count true : Nat)) ∧ w = w' := by
  have c0 := hs.at 0 rfl
  have s1 : Sat W0 w (seg true hb 0 (held.map .bool) :: _) := hs.pull 1
  have hm := made_int hp hs
  have H := Lib.hid (And.intro hn hv); clear hn hv
  go_enter Try.func19, Try.ntmps19
  go_wp2_with (go_at_call 34; refine hm.mono ?_; rintro e w' ⟨rfl, rfl⟩)
  go_loop [3, 5, 13] (fun t3 t5 t13 => ∃ i : Nat, i ≤ n ∧ t13 = .int .i64 i ∧ t3 = .int .i64 ((held.take i).count true : Nat)) (fun _ _ t13 => n - (intOf t13).toNat)
  case atStart => exact ⟨0, Nat.zero_le _, rfl, rfl⟩
  case round =>
    obtain ⟨i, hi, rfl, rfl, rfl⟩ := hrel
    by_cases hlt : i < n
    · have e0 := s1.at i (bool_at held i (by rw [H.out.1]; exact hlt))
      have hct := count_take_int held i (by rw [H.out.1]; exact hlt)
      have hle := count_le_int held i
      rw [H.out.1] at hle
      by_cases hd : held.getD i false = true
      · rw [hd] at e0
        rw [hd, if_pos rfl] at hct
        have hct' := Lib.hid hct; clear hd hct
        go_wp2
        go_round
        case rel => exact ⟨i+1, by omega, by go_num, by rw [hct'.out]; go_num⟩
        case measure => simp [intOf]; omega
      · have hd2 : held.getD i false = false := by simpa using hd
        rw [hd2] at e0
        rw [hd2, if_neg (by simp)] at hct
        have hct' := Lib.hid hct; clear hd hd2 hct
        go_wp2
        go_round
        case rel => exact ⟨i+1, by omega, by go_num, by rw [hct'.out]; go_num⟩
        case measure => simp [intOf]; omega
    · go_wp2
      go_ret
      exact ⟨by rw [List.take_of_length_le (by rw [H.out.1]; omega)]; rfl, rfl⟩
set_option maxHeartbeats 1000000 in
theorem full_int {W0 w : World} {L : List Assn} {b hb vb n : Nat} {held : List Bool} {vals : List Int} (hn : held.length = n) (hv : vals.length = n) (hp : 0 < n) (hsm : n ≤ 64) (hs : Sat W0 w (seg true b 0 [.slice (some ⟨hb,0,none⟩) n n, .slice (some ⟨vb,0,none⟩) n n] :: seg true hb 0 (held.map .bool) :: seg true vb 0 (vals.map fun x => Value.int .i64 x) :: L)) :
    Calls Try.prog 21 #[.pointer (some ⟨b,0,none⟩)] w fun e w' => e = .returned (.bool (((held.count true : Nat) : Int) == (n : Int))) ∧ ∃ k, w' = w.drewN k := by
  have c0 := hs.at 0 rfl
  have H := Lib.hid (And.intro hn hv); clear hn hv
  go_enter Try.func21, Try.ntmps21
  go_wp2
  go_quiet ((first | (go_at_call 34; exact Calls.quiet_of_same ((made_int hp (hs.drewN _)).mono fun _ _ h => ⟨h.1, h.2.symm⟩)) | (go_at_call 19; exact Calls.quiet_of_same ((len_int H.out.1 H.out.2 hp hsm (hs.drewN _)).mono fun _ _ h => ⟨h.1, h.2.symm⟩))))
  go_wp2
  go_ret
  exact ⟨rfl, _, rfl⟩
set_option maxHeartbeats 1000000 in
theorem drop_no_int {W0 w : World} {L : List Assn} {b hb vb n : Nat} {held : List Bool} {vals : List Int} (h : Int) (hno : (decide (0 ≤ h) && held.getD h.toNat false) = false) (hn : held.length = n) (hv : vals.length = n) (hp : 0 < n) (hsm : n ≤ 64) (hs : Sat W0 w (seg true b 0 [.slice (some ⟨hb,0,none⟩) n n, .slice (some ⟨vb,0,none⟩) n n] :: seg true hb 0 (held.map .bool) :: seg true vb 0 (vals.map fun x => Value.int .i64 x) :: L)) :
    Calls Try.prog 17 #[.pointer (some ⟨b,0,none⟩), .int .i64 h] w fun e w' =>
      e = .returned (.tuple #[.int .i64 0, .int .i64 5]) ∧ Sat W0 w' (seg true b 0 [.slice (some ⟨hb,0,none⟩) n n, .slice (some ⟨vb,0,none⟩) n n] :: seg true hb 0 (held.map .bool) :: seg true vb 0 (vals.map fun x => Value.int .i64 x) :: L) := by
  have hg := get_no_int h hno hn hv hp hsm (hs)
  clear hno hn hv
  go_enter Try.func17, Try.ntmps17
  go_wp2_with fail
  refine hg.mono ?_
  rintro e w1 ⟨rfl, hs1⟩
  go_wp2
  go_ret2
  exact ⟨rfl, hs1⟩
set_option maxHeartbeats 1000000 in
theorem drop_yes_int {W0 w : World} {L : List Assn} {b hb vb n : Nat} {held : List Bool} {vals : List Int} (k : Nat) (hyes : held.getD k false = true) {x : Int} (hx : vals[k]? = some x) (hn : held.length = n) (hv : vals.length = n) (hp : 0 < n) (hsm : n ≤ 64) (hs : Sat W0 w (seg true b 0 [.slice (some ⟨hb,0,none⟩) n n, .slice (some ⟨vb,0,none⟩) n n] :: seg true hb 0 (held.map .bool) :: seg true vb 0 (vals.map fun x => Value.int .i64 x) :: L)) :
    Calls Try.prog 17 #[.pointer (some ⟨b,0,none⟩), .int .i64 k] w fun e w' =>
      e = .returned (.tuple #[(.int .i64 x), .int .i64 0]) ∧ Sat W0 w' (seg true b 0 [.slice (some ⟨hb,0,none⟩) n n, .slice (some ⟨vb,0,none⟩) n n] :: seg true hb 0 ((held.set k false).map .bool) :: seg true vb 0 ((vals.set k 0).map fun x => Value.int .i64 x) :: L) := by
  have hkn : k < n := by rw [← hv]; exact (List.getElem?_eq_some_iff.1 hx).1
  have hg := get_yes_int k hyes hx hn hv hp hsm hs
  go_enter Try.func17, Try.ntmps17
  go_wp2_with fail
  refine hg.mono ?_
  rintro e w1 ⟨rfl, hs1⟩
  clear hg hs
  have hs := hs1
  clear hs1
  have c0 := hs.at 0 rfl
  have c1 := hs.at 1 rfl
  have s1 : Sat W0 w1 (seg true hb 0 (held.map .bool) :: _) := hs.pull 1
  have s2 : Sat W0 w1 (seg true vb 0 (vals.map fun x => Value.int .i64 x) :: _) := hs.pull 2
  have lh : 0 < (held.map Value.bool).length := by simp; omega
  have lv : 0 < (vals.map fun x => Value.int .i64 x).length := by simp; omega
  have n1 : b ≠ hb := hs.ne' (by simp) lh
  have n2 : b ≠ vb := (hs.pick [0, 2] : Sat W0 w1 (seg true b 0 _ :: seg true vb 0 (vals.map fun x => Value.int .i64 x) :: _)).ne' (by simp) lv
  have n3 : hb ≠ vb := (hs.pick [1, 2] : Sat W0 w1 (seg true hb 0 (held.map .bool) :: seg true vb 0 (vals.map fun x => Value.int .i64 x) :: _)).ne' lh lv
  have z0 := hs.lt (by simp)
  have z1 := s1.lt lh
  have z2 := s2.lt lv
  clear lh lv
  have e0 := s1.at k (bool_at held k (by omega))
  have f0 := s1.fr k (by rw [List.length_map]; omega)
  have e1 := s2.at k (v := .int .i64 x) (by simp [hx])
  have f1 := s2.fr k (by simp; have := (List.getElem?_eq_some_iff.1 hx).1; exact this)
  have H := Lib.hid (And.intro hn hv); clear hn hv hx hyes
  go_wp2
  go_region
  go_wp2
  go_ret2
  refine ⟨rfl, ?_⟩
  have s3 := (s1.store (i := k) (by rw [List.length_map, H.out.1]; exact hkn) (.bool false) (q := k) (by simp) : Sat W0 (w1.setCell ⟨hb, k, none⟩ (.bool false)) _)
  have s4 : Sat W0 _ (seg true vb 0 (vals.map fun x => Value.int .i64 x) :: _) := s3.pull 2
  have s5 := (s4.store (i := k) (by rw [List.length_map, H.out.2]; exact hkn) (.int .i64 0) (q := k) (by simp)).drew.pick [2, 1, 0]
  exact s5.to (by simp [pick, List.map_set])
theorem Try.info_pr : (Try.prog.info? 31).map (fun i => (i.zero, i.size, i.bytes)) = some (some (.agg #[.int .i64 0, .int .i64 0]), 2, 16) := by kernel_rfl
theorem made_toList_pr (n : Nat) : (madeCells #[.int .i64 0, .int .i64 0] (n * 2)).toList = (List.replicate n ((0, 0) : A2)).flatMap enc2 := by
  apply List.ext_getElem?
  intro k
  by_cases hk : k < n * 2
  · obtain ⟨a, c, rfl, hc⟩ : ∃ a c, k = a * 2 + c ∧ c < 2 := ⟨k / 2, k % 2, by omega, by omega⟩
    rw [fm_get len2 _ a c (by simp; omega) hc]
    have hq : (madeCells #[.int .i64 0, .int .i64 0] (n * 2)).toList[a * 2 + c]? = some (#[.int .i64 0, .int .i64 0][c]!) := by
      simp only [madeCells, Array.toList_map, Array.toList_range, List.getElem?_map, List.getElem?_range hk, Option.map_some]
      rw [show (a * 2 + c) % (#[.int .i64 0, .int .i64 0] : Array Value).size = c from by show (a * 2 + c) % 2 = c; omega]
    rw [hq, List.getElem_replicate]
    have : c = 0 ∨ c = 1 := by omega
    rcases this with rfl | rfl <;> rfl
  · rw [List.getElem?_eq_none (by simp [madeCells]; omega), List.getElem?_eq_none (by rw [fm_len len2]; simp; omega)]

set_option maxHeartbeats 1000000 in
theorem new_pr {W0 w : World} {L : List Assn} (most : Int) (h1 : 1 ≤ most) (h2 : most ≤ 64) (hs : Sat W0 w L) :
    Calls Try.prog 5 #[.int .i64 most] w fun e w' => ∃ b hb vb, e = .returned (.tuple #[.pointer (some ⟨b,0,none⟩), .int .i64 0]) ∧ Sat W0 w' (seg true b 0 [.slice (some ⟨hb,0,none⟩) most.toNat most.toNat, .slice (some ⟨vb,0,none⟩) most.toNat most.toNat] :: seg true hb 0 ((List.replicate most.toNat false).map .bool) :: seg true vb 0 ((List.replicate most.toNat ((0, 0) : A2)).flatMap enc2) :: L) := by
  obtain ⟨i4, hi4, hz4, hs4, hb4⟩ := info_parts Try.infoBool
  obtain ⟨i3, hi3, hz3, hs3, hb3⟩ := info_parts Try.info_pr
  have hm1 := fun w => run_make (P := Try.prog) w 49 4 i4 (.bool false) Try.underlying49 hi4 hz4 .i64 .i64 most most (by omega) (by omega) (by rw [hb4]; omega) (by omega)
  have hm2 := fun w => run_make (P := Try.prog) w 53 31 i3 (.agg #[.int .i64 0, .int .i64 0]) Try.underlying53 hi3 hz3 .i64 .i64 most most (by omega) (by omega) (by rw [hb3]; omega) (by omega)
  rw [hs4] at hm1
  rw [hs3] at hm2
  clear hi4 hz4 hs4 hb4 hi3 hz3 hs3 hb3
  go_enter Try.func5, Try.ntmps5
  go_wp2
  go_region
  all_goals go_wp2
  all_goals go_ret2
  · exact ⟨w.heap.size + 1 + 1, w.heap.size, w.heap.size + 1, rfl, ((((hs.make _ _ _).alloc _ _).alloc _ _).drew.pick [0, 2, 1]).to (by simp [pick, made_toList_pr])⟩
  · exact ⟨w.heap.size + 1 + 1, w.heap.size + 1, w.heap.size, rfl, ((((hs.alloc _ _).make _ _ _).alloc _ _).drew.pick [0, 1, 2]).to (by simp [pick, made_toList_pr])⟩
theorem new_no_pr {w : World} (most : Int) (h : most < 1 ∨ 64 < most) :
    Calls Try.prog 5 #[.int .i64 most] w fun e w' => e = .returned (.tuple #[.pointer none, .int .i64 2]) ∧ w = w' := by
  rcases h with h | h
  · go_enter Try.func5, Try.ntmps5
    go_wp2
    go_ret2
    exact ⟨rfl, rfl⟩
  · have h' : ¬ most < 1 := by omega
    go_enter Try.func5, Try.ntmps5
    go_wp2
    go_ret2
    exact ⟨rfl, rfl⟩
theorem made_pr {W0 w : World} {L : List Assn} {b hb n : Nat} {v2 : Value} (hn : 0 < n) (hs : Sat W0 w (seg true b 0 [.slice (some ⟨hb,0,none⟩) n n, v2] :: L)) :
    Calls Try.prog 38 #[.pointer (some ⟨b,0,none⟩)] w fun e w' => e = .returned (.bool true) ∧ w = w' := by
  have c0 := hs.at 0 rfl
  go_enter Try.func38, Try.ntmps38
  go_wp2
  go_ret
  exact ⟨by simp, rfl⟩
theorem has_pr {W0 w : World} {L : List Assn} {b hb n : Nat} {v2 : Value} {held : List Bool} (h : Int) (hn : held.length = n) (hsm : n ≤ 64) (hs : Sat W0 w (seg true b 0 [.slice (some ⟨hb,0,none⟩) n n, v2] :: seg true hb 0 (held.map .bool) :: L)) :
    Calls Try.prog 39 #[.pointer (some ⟨b,0,none⟩), .int .i64 h] w fun e w' => e = .returned (.bool (decide (0 ≤ h) && held.getD h.toNat false)) ∧ w = w' := by
  have c0 := hs.at 0 rfl
  subst hn
  by_cases hlt : 0 ≤ h
  · obtain ⟨k, rfl⟩ : ∃ k : Nat, h = k := ⟨h.toNat, by omega⟩
    by_cases hk : k < held.length
    · have c1 := (hs.pull 1).at k (v := .bool held[k]) (by simp [hk])
      have d1 : decide ((0 : Int) ≤ (k : Int)) = true := by simp
      go_enter Try.func39, Try.ntmps39
      go_wp2
      go_ret
      exact ⟨by simp [hk], rfl⟩
    · have d1 : decide ((0 : Int) ≤ (k : Int)) = true := by simp
      go_enter Try.func39, Try.ntmps39
      go_wp2
      go_ret
      exact ⟨by simp [hk], rfl⟩
  · go_enter Try.func39, Try.ntmps39
    go_wp2
    go_ret
    exact ⟨by simp; omega, rfl⟩
set_option maxHeartbeats 1000000 in
theorem add_pr {W0 w : World} {L : List Assn} {b hb vb n : Nat} {held : List Bool} {vals : List A2} (v : A2) (hn : held.length = n) (hv : vals.length = n) (hp : 0 < n) (hsm : n ≤ 64) (hs : Sat W0 w (seg true b 0 [.slice (some ⟨hb,0,none⟩) n n, .slice (some ⟨vb,0,none⟩) n n] :: seg true hb 0 (held.map .bool) :: seg true vb 0 (vals.flatMap enc2) :: L)) :
    Calls Try.prog 25 #[.pointer (some ⟨b,0,none⟩), (.agg #[.int .i64 v.1, .int .i64 v.2])] w fun e w' =>
      (∃ i : Nat, i < n ∧ (∀ j, j < i → held.getD j false = true) ∧ held.getD i false = false ∧ e = .returned (.tuple #[.int .i64 i, .int .i64 0]) ∧
        Sat W0 w' (seg true b 0 [.slice (some ⟨hb,0,none⟩) n n, .slice (some ⟨vb,0,none⟩) n n] :: seg true hb 0 ((held.set i true).map .bool) :: seg true vb 0 ((vals.set i v).flatMap enc2) :: L)) ∨
      ((∀ j, j < n → held.getD j false = true) ∧ e = .returned (.tuple #[.int .i64 0, .int .i64 8]) ∧ Sat W0 w' (seg true b 0 [.slice (some ⟨hb,0,none⟩) n n, .slice (some ⟨vb,0,none⟩) n n] :: seg true hb 0 (held.map .bool) :: seg true vb 0 (vals.flatMap enc2) :: L)) := by
  obtain ⟨x0, x1⟩ := v
  have c0 := hs.at 0 rfl
  have c1 := hs.at 1 rfl
  have s1 : Sat W0 w (seg true hb 0 (held.map .bool) :: _) := hs.pull 1
  have s2 : Sat W0 w (seg true vb 0 (vals.flatMap enc2) :: _) := hs.pull 2
  have lh : 0 < (held.map Value.bool).length := by simp; omega
  have lv : 0 < (vals.flatMap enc2).length := by rw [fm_len len2]; omega
  have n1 : b ≠ hb := hs.ne' (by simp) lh
  have n2 : b ≠ vb := (hs.pick [0, 2] : Sat W0 w (seg true b 0 _ :: seg true vb 0 (vals.flatMap enc2) :: _)).ne' (by simp) lv
  have n3 : hb ≠ vb := (hs.pick [1, 2] : Sat W0 w (seg true hb 0 (held.map .bool) :: seg true vb 0 (vals.flatMap enc2) :: _)).ne' lh lv
  have z0 := hs.lt (by simp)
  have z1 := s1.lt lh
  have z2 := s2.lt lv
  clear lh lv
  have hm := made_pr hp ((hs.alloc #[.int .i64 x0, .int .i64 x1] 31).pull 1)
  have H := Lib.hid (And.intro hn hv); clear hn hv
  simp only [enc2]
  go_enter Try.func25, Try.ntmps25
  go_wp2_with (go_at_call 38; refine hm.mono ?_; rintro e w' ⟨rfl, rfl⟩)
  go_loop [6, 7, 16] (fun t6 t7 t16 => ∃ i : Nat, i ≤ n ∧ t16 = .int .i64 i ∧ (∀ j, j < i → held.getD j false = true)) (fun _ _ t16 => n - (intOf t16).toNat)
  case atStart => exact ⟨0, Nat.zero_le _, rfl, by intro j h; omega⟩
  case round =>
    obtain ⟨i, hi, rfl, hall⟩ := hrel
    by_cases hlt : i < n
    · have e0 := s1.at i (bool_at held i (by rw [H.out.1]; exact hlt))
      have f0 := s1.fr i (by rw [List.length_map, H.out.1]; exact hlt)
      obtain ⟨y, hx⟩ : ∃ y, vals[i]? = some y := ⟨vals[i]'(by rw [H.out.2]; exact hlt), by simp⟩
      have hx1 := (List.getElem?_eq_some_iff.1 hx).1
      have hx2 : vals[i] = y := (List.getElem?_eq_some_iff.1 hx).2
      have hl : i * 2 + 2 ≤ (vals.flatMap enc2).length := by rw [fm_len len2, ← Nat.succ_mul]; exact Nat.mul_le_mul_right _ hx1
      have e1 := s2.at (i * 2) (v := (enc2 y).getD 0 undef) (by rw [show i * 2 = i * 2 + 0 from rfl]; rw [fm_get len2 vals i 0 hx1 (by omega), hx2]; rfl)
      have f1 := s2.fr (i * 2) (by omega)
      have e2 := s2.at (i * 2 + 1) (v := (enc2 y).getD 1 undef) (by rw [fm_get len2 vals i 1 hx1 (by omega), hx2]; rfl)
      have f2 := s2.fr (i * 2 + 1) (by omega)
      simp only [enc2, List.getD_cons_zero, List.getD_cons_succ] at e1 e2
      clear hl hx2
      clear hx
      by_cases hd : held.getD i false = true
      · rw [hd] at e0
        have hd' := Lib.hid hd; clear hd
        go_wp2
        go_round
        case rel => exact ⟨i+1, by omega, by go_num, by intro j hj; rcases Nat.lt_succ_iff_lt_or_eq.1 hj with h | rfl; exact hall j h; exact hd'.out⟩
        case measure => simp [intOf]; omega
      · have hd2 : held.getD i false = false := by simpa using hd
        rw [hd2] at e0
        have hd' := Lib.hid hd2; clear hd hd2
        go_wp2
        go_region
        go_wp2
        go_ret2
        refine .inl ⟨i, hlt, hall, hd'.out, rfl, ?_⟩
        have s3 := (s1.store (i := i) (by rw [List.length_map, H.out.1]; exact hlt) (.bool true) (q := i) (by simp) : Sat W0 (w.setCell ⟨hb, i, none⟩ (.bool true)) _)
        have s4 : Sat W0 _ (seg true vb 0 (vals.flatMap enc2) :: _) := s3.pull 2

        have hl : i * 2 + 2 ≤ (vals.flatMap enc2).length := by rw [fm_len len2, ← Nat.succ_mul, H.out.2]; exact Nat.mul_le_mul_right _ hlt
        have q0 := s4.store (i := i * 2) (by omega) (.int .i64 x0) (q := i * 2) (by simp)
        have q1 := q0.store (i := i * 2 + 1) (by simp only [List.length_set]; omega) (.int .i64 x1) (q := i * 2 + 1) (by simp)
        have s5 := (q1.alloc #[.int .i64 x0, .int .i64 x1] 31).drew.pick [3, 2, 1, 0]
        have hst := fm_set len2 vals i (by rw [H.out.2]; exact hlt) (x0, x1)
        simp only [setL, enc2] at hst
        refine (s5.drop 3).to ?_
        simp [pick, List.map_set, ← hst, enc2]
    · go_wp2
      go_ret2
      exact .inr ⟨fun j hj => hall j (by omega), rfl, (hs.alloc _ _).tail⟩
set_option maxHeartbeats 1000000 in
theorem get_no_pr {W0 w : World} {L : List Assn} {b hb vb n : Nat} {held : List Bool} {vals : List A2} (h : Int) (hno : (decide (0 ≤ h) && held.getD h.toNat false) = false) (hn : held.length = n) (hv : vals.length = n) (hp : 0 < n) (hsm : n ≤ 64) (hs : Sat W0 w (seg true b 0 [.slice (some ⟨hb,0,none⟩) n n, .slice (some ⟨vb,0,none⟩) n n] :: seg true hb 0 (held.map .bool) :: seg true vb 0 (vals.flatMap enc2) :: L)) :
    Calls Try.prog 27 #[.pointer (some ⟨b,0,none⟩), .int .i64 h] w fun e w' =>
      e = .returned (.tuple #[.agg #[.int .i64 0, .int .i64 0], .int .i64 5]) ∧ Sat W0 w' (seg true b 0 [.slice (some ⟨hb,0,none⟩) n n, .slice (some ⟨vb,0,none⟩) n n] :: seg true hb 0 (held.map .bool) :: seg true vb 0 (vals.flatMap enc2) :: L) := by
  have z0 := hs.lt (by simp)
  have ms := ((hs.alloc #[.int .i64 0, .int .i64 0] 31).tail.alloc #[.int .i64 0, .int .i64 0] 31).tail
  have hm := made_pr hp ms
  have hh := has_pr h hn hsm ms
  rw [hno] at hh
  clear hno hn hv
  go_enter Try.func27, Try.ntmps27
  go_wp2_with (first | (go_at_call 38; refine hm.mono ?_; rintro e w' ⟨rfl, rfl⟩) | (go_at_call 39; refine hh.mono ?_; rintro e w' ⟨rfl, rfl⟩))

  refine bodyPost_ret (v := .tuple #[.agg #[.int .i64 0, .int .i64 0], .int .i64 5]) (by simp [results, Try.results27, go_sem]) rfl ⟨rfl, ?_⟩
  exact ((hs.alloc _ _).alloc _ _).tail.tail
set_option maxHeartbeats 1000000 in
theorem get_yes_pr {W0 w : World} {L : List Assn} {b hb vb n : Nat} {held : List Bool} {vals : List A2} (k : Nat) (hyes : held.getD k false = true) {x : A2} (hx : vals[k]? = some x) (hn : held.length = n) (hv : vals.length = n) (hp : 0 < n) (hsm : n ≤ 64) (hs : Sat W0 w (seg true b 0 [.slice (some ⟨hb,0,none⟩) n n, .slice (some ⟨vb,0,none⟩) n n] :: seg true hb 0 (held.map .bool) :: seg true vb 0 (vals.flatMap enc2) :: L)) :
    Calls Try.prog 27 #[.pointer (some ⟨b,0,none⟩), .int .i64 k] w fun e w' =>
      e = .returned (.tuple #[(.agg #[.int .i64 x.1, .int .i64 x.2]), .int .i64 0]) ∧ Sat W0 w' (seg true b 0 [.slice (some ⟨hb,0,none⟩) n n, .slice (some ⟨vb,0,none⟩) n n] :: seg true hb 0 (held.map .bool) :: seg true vb 0 (vals.flatMap enc2) :: L) := by
  have hkn : k < n := by rw [← hv]; exact (List.getElem?_eq_some_iff.1 hx).1
  have c0 := hs.at 0 rfl
  have c1 := hs.at 1 rfl
  have s1 : Sat W0 w (seg true hb 0 (held.map .bool) :: _) := hs.pull 1
  have s2 : Sat W0 w (seg true vb 0 (vals.flatMap enc2) :: _) := hs.pull 2
  have lh : 0 < (held.map Value.bool).length := by simp; omega
  have lv : 0 < (vals.flatMap enc2).length := by rw [fm_len len2]; omega
  have n1 : b ≠ hb := hs.ne' (by simp) lh
  have n2 : b ≠ vb := (hs.pick [0, 2] : Sat W0 w (seg true b 0 _ :: seg true vb 0 (vals.flatMap enc2) :: _)).ne' (by simp) lv
  have n3 : hb ≠ vb := (hs.pick [1, 2] : Sat W0 w (seg true hb 0 (held.map .bool) :: seg true vb 0 (vals.flatMap enc2) :: _)).ne' lh lv
  have z0 := hs.lt (by simp)
  have z1 := s1.lt lh
  have z2 := s2.lt lv
  clear lh lv
  have hx1 := (List.getElem?_eq_some_iff.1 hx).1
  have hx2 : vals[k] = x := (List.getElem?_eq_some_iff.1 hx).2
  have hl : k * 2 + 2 ≤ (vals.flatMap enc2).length := by rw [fm_len len2, ← Nat.succ_mul]; exact Nat.mul_le_mul_right _ hx1
  have e1 := s2.at (k * 2) (v := (enc2 x).getD 0 undef) (by rw [show k * 2 = k * 2 + 0 from rfl]; rw [fm_get len2 vals k 0 hx1 (by omega), hx2]; rfl)
  have e2 := s2.at (k * 2 + 1) (v := (enc2 x).getD 1 undef) (by rw [fm_get len2 vals k 1 hx1 (by omega), hx2]; rfl)
  simp only [enc2, List.getD_cons_zero, List.getD_cons_succ] at e1 e2
  clear hl hx2
  have ms := ((hs.alloc #[.int .i64 0, .int .i64 0] 31).tail.alloc #[.int .i64 0, .int .i64 0] 31).tail
  have hm := made_pr hp ms
  have hh := has_pr k hn hsm ms
  rw [Int.toNat_natCast, hyes, show decide (0 ≤ (k : Int)) = true by simp] at hh
  clear hx hn hv hyes
  go_enter Try.func27, Try.ntmps27
  go_wp2_with (first | (go_at_call 38; refine hm.mono ?_; rintro e w' ⟨rfl, rfl⟩) | (go_at_call 39; refine hh.mono ?_; rintro e w' ⟨rfl, rfl⟩))
  refine bodyPost_ret (v := .tuple #[(.agg #[.int .i64 x.1, .int .i64 x.2]), .int .i64 0]) (by simp [results, Try.results27, go_sem, enc2]) rfl ⟨rfl, ?_⟩
  exact ((hs.alloc _ _).alloc _ _).tail.tail
set_option maxHeartbeats 1000000 in
theorem set_no_pr {W0 w : World} {L : List Assn} {b hb vb n : Nat} {held : List Bool} {vals : List A2} (h : Int) (v : A2) (hno : (decide (0 ≤ h) && held.getD h.toNat false) = false) (hn : held.length = n) (hv : vals.length = n) (hp : 0 < n) (hsm : n ≤ 64) (hs : Sat W0 w (seg true b 0 [.slice (some ⟨hb,0,none⟩) n n, .slice (some ⟨vb,0,none⟩) n n] :: seg true hb 0 (held.map .bool) :: seg true vb 0 (vals.flatMap enc2) :: L)) :
    Calls Try.prog 28 #[.pointer (some ⟨b,0,none⟩), .int .i64 h, (.agg #[.int .i64 v.1, .int .i64 v.2])] w fun e w' =>
      e = .returned (.int .i64 5) ∧ Sat W0 w' (seg true b 0 [.slice (some ⟨hb,0,none⟩) n n, .slice (some ⟨vb,0,none⟩) n n] :: seg true hb 0 (held.map .bool) :: seg true vb 0 (vals.flatMap enc2) :: L) := by
  obtain ⟨x0, x1⟩ := v
  have z0 := hs.lt (by simp)
  have ms := (hs.alloc #[.int .i64 x0, .int .i64 x1] 31).tail
  have hm := made_pr hp ms
  have hh := has_pr h hn hsm ms
  rw [hno] at hh
  clear hno hn hv
  simp only [enc2]
  go_enter Try.func28, Try.ntmps28
  go_wp2_with (first | (go_at_call 38; refine hm.mono ?_; rintro e w' ⟨rfl, rfl⟩) | (go_at_call 39; refine hh.mono ?_; rintro e w' ⟨rfl, rfl⟩))
  go_ret
  exact ⟨rfl, ms⟩
set_option maxHeartbeats 1000000 in
theorem set_yes_pr {W0 w : World} {L : List Assn} {b hb vb n : Nat} {held : List Bool} {vals : List A2} (k : Nat) (v : A2) (hyes : held.getD k false = true) (hk : k < n) (hn : held.length = n) (hv : vals.length = n) (hp : 0 < n) (hsm : n ≤ 64) (hs : Sat W0 w (seg true b 0 [.slice (some ⟨hb,0,none⟩) n n, .slice (some ⟨vb,0,none⟩) n n] :: seg true hb 0 (held.map .bool) :: seg true vb 0 (vals.flatMap enc2) :: L)) :
    Calls Try.prog 28 #[.pointer (some ⟨b,0,none⟩), .int .i64 k, (.agg #[.int .i64 v.1, .int .i64 v.2])] w fun e w' =>
      e = .returned (.int .i64 0) ∧ Sat W0 w' (seg true b 0 [.slice (some ⟨hb,0,none⟩) n n, .slice (some ⟨vb,0,none⟩) n n] :: seg true hb 0 (held.map .bool) :: seg true vb 0 ((vals.set k v).flatMap enc2) :: L) := by
  obtain ⟨x0, x1⟩ := v
  have c0 := hs.at 0 rfl
  have c1 := hs.at 1 rfl
  have s1 : Sat W0 w (seg true hb 0 (held.map .bool) :: _) := hs.pull 1
  have s2 : Sat W0 w (seg true vb 0 (vals.flatMap enc2) :: _) := hs.pull 2
  have lh : 0 < (held.map Value.bool).length := by simp; omega
  have lv : 0 < (vals.flatMap enc2).length := by rw [fm_len len2]; omega
  have n1 : b ≠ hb := hs.ne' (by simp) lh
  have n2 : b ≠ vb := (hs.pick [0, 2] : Sat W0 w (seg true b 0 _ :: seg true vb 0 (vals.flatMap enc2) :: _)).ne' (by simp) lv
  have n3 : hb ≠ vb := (hs.pick [1, 2] : Sat W0 w (seg true hb 0 (held.map .bool) :: seg true vb 0 (vals.flatMap enc2) :: _)).ne' lh lv
  have z0 := hs.lt (by simp)
  have z1 := s1.lt lh
  have z2 := s2.lt lv
  clear lh lv
  obtain ⟨y, hx⟩ : ∃ y, vals[k]? = some y := ⟨vals[k]'(by omega), by simp⟩
  have hx1 := (List.getElem?_eq_some_iff.1 hx).1
  have hx2 : vals[k] = y := (List.getElem?_eq_some_iff.1 hx).2
  have hl : k * 2 + 2 ≤ (vals.flatMap enc2).length := by rw [fm_len len2, ← Nat.succ_mul]; exact Nat.mul_le_mul_right _ hx1
  have e1 := s2.at (k * 2) (v := (enc2 y).getD 0 undef) (by rw [show k * 2 = k * 2 + 0 from rfl]; rw [fm_get len2 vals k 0 hx1 (by omega), hx2]; rfl)
  have f1 := s2.fr (k * 2) (by omega)
  have e2 := s2.at (k * 2 + 1) (v := (enc2 y).getD 1 undef) (by rw [fm_get len2 vals k 1 hx1 (by omega), hx2]; rfl)
  have f2 := s2.fr (k * 2 + 1) (by omega)
  simp only [enc2, List.getD_cons_zero, List.getD_cons_succ] at e1 e2
  clear hl hx2
  have ms := (hs.alloc #[.int .i64 x0, .int .i64 x1] 31).tail
  have hm := made_pr hp ms
  have hh := has_pr k hn hsm ms
  rw [Int.toNat_natCast, hyes, show decide (0 ≤ (k : Int)) = true by simp] at hh
  have H := Lib.hid (And.intro hn hv); clear hn hv hx
  simp only [enc2]
  go_enter Try.func28, Try.ntmps28
  go_wp2_with (first | (go_at_call 38; refine hm.mono ?_; rintro e w' ⟨rfl, rfl⟩) | (go_at_call 39; refine hh.mono ?_; rintro e w' ⟨rfl, rfl⟩))
  go_region
  go_wp2
  go_ret
  refine ⟨rfl, ?_⟩
  have hl : k * 2 + 2 ≤ (vals.flatMap enc2).length := by rw [fm_len len2, ← Nat.succ_mul, H.out.2]; exact Nat.mul_le_mul_right _ hk
  have q0 := s2.store (i := k * 2) (by omega) (.int .i64 x0) (q := k * 2) (by simp)
  have q1 := q0.store (i := k * 2 + 1) (by simp only [List.length_set]; omega) (.int .i64 x1) (q := k * 2 + 1) (by simp)
  have s5 := ((q1.alloc #[.int .i64 x0, .int .i64 x1] 31).tail).drew.pick [1, 2, 0]
  have hst := fm_set len2 vals k (by rw [H.out.2]; exact hk) (x0, x1)
  simp only [setL, enc2] at hst
  refine s5.to ?_
  simp [pick, List.map_set, ← hst, enc2]
theorem count_take_pr (held : List Bool) (i : Nat) (h : i < held.length) : (held.take (i+1)).count true = (held.take i).count true + if held.getD i false then 1 else 0 := by
  rw [List.take_succ_eq_append_getElem h, List.count_append]
  by_cases hb : held[i] = true <;> simp_all
theorem count_le_pr (held : List Bool) (i : Nat) : (held.take i).count true ≤ held.length :=
  Nat.le_trans List.count_le_length (by simp; omega)
set_option maxHeartbeats 1000000 in
theorem len_pr {W0 w : World} {L : List Assn} {b hb vb n : Nat} {held : List Bool} {vals : List A2} (hn : held.length = n) (hv : vals.length = n) (hp : 0 < n) (hsm : n ≤ 64) (hs : Sat W0 w (seg true b 0 [.slice (some ⟨hb,0,none⟩) n n, .slice (some ⟨vb,0,none⟩) n n] :: seg true hb 0 (held.map .bool) :: seg true vb 0 (vals.flatMap enc2) :: L)) :
    Calls Try.prog 30 #[.pointer (some ⟨b,0,none⟩)] w fun e w' => e = .returned (.int .i64 (held.count true : Nat)) ∧ w = w' := by
  have c0 := hs.at 0 rfl
  have s1 : Sat W0 w (seg true hb 0 (held.map .bool) :: _) := hs.pull 1
  have hm := made_pr hp hs
  have H := Lib.hid (And.intro hn hv); clear hn hv
  go_enter Try.func30, Try.ntmps30
  go_wp2_with (go_at_call 38; refine hm.mono ?_; rintro e w' ⟨rfl, rfl⟩)
  go_loop [3, 5, 13] (fun t3 t5 t13 => ∃ i : Nat, i ≤ n ∧ t13 = .int .i64 i ∧ t3 = .int .i64 ((held.take i).count true : Nat)) (fun _ _ t13 => n - (intOf t13).toNat)
  case atStart => exact ⟨0, Nat.zero_le _, rfl, rfl⟩
  case round =>
    obtain ⟨i, hi, rfl, rfl, rfl⟩ := hrel
    by_cases hlt : i < n
    · have e0 := s1.at i (bool_at held i (by rw [H.out.1]; exact hlt))
      have hct := count_take_pr held i (by rw [H.out.1]; exact hlt)
      have hle := count_le_pr held i
      rw [H.out.1] at hle
      by_cases hd : held.getD i false = true
      · rw [hd] at e0
        rw [hd, if_pos rfl] at hct
        have hct' := Lib.hid hct; clear hd hct
        go_wp2
        go_round
        case rel => exact ⟨i+1, by omega, by go_num, by rw [hct'.out]; go_num⟩
        case measure => simp [intOf]; omega
      · have hd2 : held.getD i false = false := by simpa using hd
        rw [hd2] at e0
        rw [hd2, if_neg (by simp)] at hct
        have hct' := Lib.hid hct; clear hd hd2 hct
        go_wp2
        go_round
        case rel => exact ⟨i+1, by omega, by go_num, by rw [hct'.out]; go_num⟩
        case measure => simp [intOf]; omega
    · go_wp2
      go_ret
      exact ⟨by rw [List.take_of_length_le (by rw [H.out.1]; omega)]; rfl, rfl⟩
set_option maxHeartbeats 1000000 in
theorem full_pr {W0 w : World} {L : List Assn} {b hb vb n : Nat} {held : List Bool} {vals : List A2} (hn : held.length = n) (hv : vals.length = n) (hp : 0 < n) (hsm : n ≤ 64) (hs : Sat W0 w (seg true b 0 [.slice (some ⟨hb,0,none⟩) n n, .slice (some ⟨vb,0,none⟩) n n] :: seg true hb 0 (held.map .bool) :: seg true vb 0 (vals.flatMap enc2) :: L)) :
    Calls Try.prog 31 #[.pointer (some ⟨b,0,none⟩)] w fun e w' => e = .returned (.bool (((held.count true : Nat) : Int) == (n : Int))) ∧ ∃ k, w' = w.drewN k := by
  have c0 := hs.at 0 rfl
  have H := Lib.hid (And.intro hn hv); clear hn hv
  go_enter Try.func31, Try.ntmps31
  go_wp2
  go_quiet ((first | (go_at_call 38; exact Calls.quiet_of_same ((made_pr hp (hs.drewN _)).mono fun _ _ h => ⟨h.1, h.2.symm⟩)) | (go_at_call 30; exact Calls.quiet_of_same ((len_pr H.out.1 H.out.2 hp hsm (hs.drewN _)).mono fun _ _ h => ⟨h.1, h.2.symm⟩))))
  go_wp2
  go_ret
  exact ⟨rfl, _, rfl⟩
set_option maxHeartbeats 1000000 in
theorem drop_no_pr {W0 w : World} {L : List Assn} {b hb vb n : Nat} {held : List Bool} {vals : List A2} (h : Int) (hno : (decide (0 ≤ h) && held.getD h.toNat false) = false) (hn : held.length = n) (hv : vals.length = n) (hp : 0 < n) (hsm : n ≤ 64) (hs : Sat W0 w (seg true b 0 [.slice (some ⟨hb,0,none⟩) n n, .slice (some ⟨vb,0,none⟩) n n] :: seg true hb 0 (held.map .bool) :: seg true vb 0 (vals.flatMap enc2) :: L)) :
    Calls Try.prog 29 #[.pointer (some ⟨b,0,none⟩), .int .i64 h] w fun e w' =>
      e = .returned (.tuple #[.agg #[.int .i64 0, .int .i64 0], .int .i64 5]) ∧ Sat W0 w' (seg true b 0 [.slice (some ⟨hb,0,none⟩) n n, .slice (some ⟨vb,0,none⟩) n n] :: seg true hb 0 (held.map .bool) :: seg true vb 0 (vals.flatMap enc2) :: L) := by
  have hg := get_no_pr h hno hn hv hp hsm ((hs.alloc #[.int .i64 0, .int .i64 0] 31).pick [1, 2, 3])
  clear hno hn hv
  go_enter Try.func29, Try.ntmps29
  go_wp2_with fail
  refine hg.mono ?_
  rintro e w1 ⟨rfl, hs1⟩
  have hr : Sat W0 w1 (seg true w.heap.size 0 #[.int .i64 0, .int .i64 0].toList :: _) := hs1.pull 3
  have hz := hr.lt (by simp)
  have g0 := hr.at 0 rfl
  have k0 := hr.fr 0 (by simp)
  have g1 := hr.at 1 rfl
  have k1 := hr.fr 1 (by simp)
  go_wp2
  refine bodyPost_ret (v := .tuple #[.agg #[.int .i64 0, .int .i64 0], .int .i64 5]) (by simp [results, Try.results29, go_sem, hz, g0, g1]) rfl ⟨rfl, ?_⟩
  exact (((((hr.store (i := 0) (by simp) (.int .i64 0) (q := 0) (by simp)).store (i := 1) (by simp) (.int .i64 0) (q := 1) (by simp)).alloc _ _).tail).tail).to (by simp [pick])
set_option maxHeartbeats 2000000 in
theorem drop_yes_pr {W0 w : World} {L : List Assn} {b hb vb n : Nat} {held : List Bool} {vals : List A2} (k : Nat) (hyes : held.getD k false = true) {x : A2} (hx : vals[k]? = some x) (hn : held.length = n) (hv : vals.length = n) (hp : 0 < n) (hsm : n ≤ 64) (hs : Sat W0 w (seg true b 0 [.slice (some ⟨hb,0,none⟩) n n, .slice (some ⟨vb,0,none⟩) n n] :: seg true hb 0 (held.map .bool) :: seg true vb 0 (vals.flatMap enc2) :: L)) :
    Calls Try.prog 29 #[.pointer (some ⟨b,0,none⟩), .int .i64 k] w fun e w' =>
      e = .returned (.tuple #[(.agg #[.int .i64 x.1, .int .i64 x.2]), .int .i64 0]) ∧ Sat W0 w' (seg true b 0 [.slice (some ⟨hb,0,none⟩) n n, .slice (some ⟨vb,0,none⟩) n n] :: seg true hb 0 ((held.set k false).map .bool) :: seg true vb 0 ((vals.set k (0, 0)).flatMap enc2) :: L) := by
  have hkn : k < n := by rw [← hv]; exact (List.getElem?_eq_some_iff.1 hx).1
  have hg := get_yes_pr k hyes hx hn hv hp hsm (((hs.alloc #[.int .i64 0, .int .i64 0] 31).pick [1, 2, 3]))
  go_enter Try.func29, Try.ntmps29
  go_wp2_with fail
  refine hg.mono ?_
  rintro e w1 ⟨rfl, hs1⟩
  have hr : Sat W0 w1 (seg true w.heap.size 0 #[.int .i64 0, .int .i64 0].toList :: _) := hs1.pull 3
  have hz := hr.lt (by simp)
  have g0 := hr.at 0 rfl
  have k0 := hr.fr 0 (by simp)
  have g1 := hr.at 1 rfl
  have k1 := hr.fr 1 (by simp)
  clear hg hs
  have hs := hs1
  clear hs1
  have c0 := hs.at 0 rfl
  have c1 := hs.at 1 rfl
  have s1 : Sat W0 w1 (seg true hb 0 (held.map .bool) :: _) := hs.pull 1
  have s2 : Sat W0 w1 (seg true vb 0 (vals.flatMap enc2) :: _) := hs.pull 2
  have lh : 0 < (held.map Value.bool).length := by simp; omega
  have lv : 0 < (vals.flatMap enc2).length := by rw [fm_len len2]; omega
  have n1 : b ≠ hb := hs.ne' (by simp) lh
  have n2 : b ≠ vb := (hs.pick [0, 2] : Sat W0 w1 (seg true b 0 _ :: seg true vb 0 (vals.flatMap enc2) :: _)).ne' (by simp) lv
  have n3 : hb ≠ vb := (hs.pick [1, 2] : Sat W0 w1 (seg true hb 0 (held.map .bool) :: seg true vb 0 (vals.flatMap enc2) :: _)).ne' lh lv
  have z0 := hs.lt (by simp)
  have z1 := s1.lt lh
  have z2 := s2.lt lv
  clear lh lv
  have n4 : w.heap.size ≠ b := (hs.pick [3, 0] : Sat W0 w1 (seg true w.heap.size 0 #[.int .i64 0, .int .i64 0].toList :: seg true b 0 _ :: _)).ne' (by simp) (by simp)
  have n5 : w.heap.size ≠ hb := (hs.pick [3, 1] : Sat W0 w1 (seg true w.heap.size 0 #[.int .i64 0, .int .i64 0].toList :: seg true hb 0 (held.map .bool) :: _)).ne' (by simp) (by simp; omega)
  have n6 : w.heap.size ≠ vb := (hs.pick [3, 2] : Sat W0 w1 (seg true w.heap.size 0 #[.int .i64 0, .int .i64 0].toList :: seg true vb 0 _ :: _)).ne' (by simp) (by rw [fm_len len2]; omega)
  have e0 := s1.at k (bool_at held k (by omega))
  have f0 := s1.fr k (by rw [List.length_map]; omega)
  have hx1 := (List.getElem?_eq_some_iff.1 hx).1
  have hx2 : vals[k] = x := (List.getElem?_eq_some_iff.1 hx).2
  have hl : k * 2 + 2 ≤ (vals.flatMap enc2).length := by rw [fm_len len2, ← Nat.succ_mul]; exact Nat.mul_le_mul_right _ hx1
  have e1 := s2.at (k * 2) (v := (enc2 x).getD 0 undef) (by rw [show k * 2 = k * 2 + 0 from rfl]; rw [fm_get len2 vals k 0 hx1 (by omega), hx2]; rfl)
  have f1 := s2.fr (k * 2) (by omega)
  have e2 := s2.at (k * 2 + 1) (v := (enc2 x).getD 1 undef) (by rw [fm_get len2 vals k 1 hx1 (by omega), hx2]; rfl)
  have f2 := s2.fr (k * 2 + 1) (by omega)
  simp only [enc2, List.getD_cons_zero, List.getD_cons_succ] at e1 e2
  clear hl hx2
  obtain ⟨y0, y1⟩ := x
  have H := Lib.hid (And.intro hn hv); clear hn hv hx hyes
  go_wp2
  go_region
  go_wp2
  refine bodyPost_ret (v := .tuple #[.agg #[.int .i64 y0, .int .i64 y1], .int .i64 0]) (by simp [results, Try.results29, go_sem, hz, g0, g1]) rfl ⟨rfl, ?_⟩
  have s3 := (s1.store (i := k) (by rw [List.length_map, H.out.1]; exact hkn) (.bool false) (q := k) (by simp) : Sat W0 (w1.setCell ⟨hb, k, none⟩ (.bool false)) _)
  have s4 : Sat W0 _ (seg true vb 0 (vals.flatMap enc2) :: _) := s3.pull 2
  have hl : k * 2 + 2 ≤ (vals.flatMap enc2).length := by rw [fm_len len2, ← Nat.succ_mul, H.out.2]; exact Nat.mul_le_mul_right _ hkn
  have q0 := s4.store (i := k * 2) (by omega) (.int .i64 0) (q := k * 2) (by simp)
  have q1 := q0.store (i := k * 2 + 1) (by simp only [List.length_set]; omega) (.int .i64 0) (q := k * 2 + 1) (by simp)
  have hst := fm_set len2 vals k (by rw [H.out.2]; exact hkn) (0, 0)
  simp only [setL, enc2] at hst
  have r : Sat W0 _ (seg true w.heap.size 0 [.int .i64 0, .int .i64 0] :: _) := q1.pull 3
  have r3 := (r.store (i := 0) (by simp) (.int .i64 y0) (q := 0) (by simp)).store (i := 1) (by simp) (.int .i64 y1) (q := 1) (by simp)
  exact (((((r3.alloc _ _).tail.alloc _ _).tail.drew).tail).pick [2, 1, 0]).to (by simp [pick, List.map_set, ← hst, enc2])
end Go.Proofs.Ytpiiklfnakkdiaa
