/- The contracts of the document's table; each under the conditions that it names. -/
import Derived.Test.YtpiiklfnakkdiaaTab
namespace Go.Proofs.Ytpiiklfnakkdiaa
open Go.RowKit Go.Sep
set_option linter.unusedVariables false
set_option linter.unusedSimpArgs false
set_option maxHeartbeats 1000000 in
theorem new_ref {W0 w : World} {L : List Assn} (most : Int) (h1 : 1 ≤ most) (h2 : most ≤ 64) (hs : Sat W0 w L) :
    Calls Try.prog 6 #[.int .i64 most] w fun e w' => ∃ b hb vb, e = .returned (.tuple #[.pointer (some ⟨b,0,none⟩), .int .i64 0]) ∧ Sat W0 w' (seg true b 0 [.slice (some ⟨hb,0,none⟩) most.toNat most.toNat, .slice (some ⟨vb,0,none⟩) most.toNat most.toNat] :: seg true hb 0 ((List.replicate most.toNat false).map .bool) :: seg true vb 0 ((List.replicate most.toNat (0 : Int)).map fun x => Value.int .i64 x) :: L) := by
  obtain ⟨i4, hi4, hz4, hs4, hb4⟩ := info_parts Try.infoBool
  obtain ⟨i3, hi3, hz3, hs3, hb3⟩ := info_parts Try.info_int
  have hm1 := fun w => run_make (P := Try.prog) w 49 4 i4 (.bool false) Try.underlying49 hi4 hz4 .i64 .i64 most most (by omega) (by omega) (by rw [hb4]; omega) (by omega)
  have hm2 := fun w => run_make (P := Try.prog) w 50 3 i3 (.int .i64 0) Try.underlying50 hi3 hz3 .i64 .i64 most most (by omega) (by omega) (by rw [hb3]; omega) (by omega)
  rw [hs4] at hm1
  rw [hs3] at hm2
  clear hi4 hz4 hs4 hb4 hi3 hz3 hs3 hb3
  go_enter Try.func6, Try.ntmps6
  go_wp2
  go_region
  all_goals go_wp2
  all_goals go_ret2
  · exact ⟨w.heap.size + 1 + 1, w.heap.size, w.heap.size + 1, rfl, ((((hs.make _ _ _).make _ _ _).alloc _ _).drew.pick [0, 2, 1]).to (by simp [pick])⟩
  · exact ⟨w.heap.size + 1 + 1, w.heap.size + 1, w.heap.size, rfl, ((((hs.make _ _ _).make _ _ _).alloc _ _).drew.pick [0, 1, 2]).to (by simp [pick])⟩
set_option maxHeartbeats 1000000 in
theorem new_no_ref {w : World} (most : Int) (h : most < 1 ∨ 64 < most) :
    Calls Try.prog 6 #[.int .i64 most] w fun e w' => e = .returned (.tuple #[.pointer none, .int .i64 2]) ∧ w = w' := by
  rcases h with h | h
  · go_enter Try.func6, Try.ntmps6
    go_wp2
    go_ret2
    exact ⟨rfl, rfl⟩
  · have h' : ¬ most < 1 := by omega
    go_enter Try.func6, Try.ntmps6
    go_wp2
    go_ret2
    exact ⟨rfl, rfl⟩
set_option maxHeartbeats 1000000 in
theorem has_ref {W0 w : World} {L : List Assn} {b hb n : Nat} {v2 : Value} {held : List Bool} (h : Int) (hn : held.length = n) (hsm : n ≤ 64) (hs : Sat W0 w (seg true b 0 [.slice (some ⟨hb,0,none⟩) n n, v2] :: seg true hb 0 (held.map .bool) :: L)) :
    Calls Try.prog 36 #[.pointer (some ⟨b,0,none⟩), .int .i64 h] w fun e w' => e = .returned (.bool (decide (0 ≤ h) && held.getD h.toNat false)) ∧ w = w' := by
  have c0 := hs.at 0 rfl
  subst hn
  by_cases hlt : 0 ≤ h
  · obtain ⟨k, rfl⟩ : ∃ k : Nat, h = k := ⟨h.toNat, by omega⟩
    by_cases hk : k < held.length
    · have c1 := (hs.pull 1).at k (v := .bool held[k]) (by simp [hk])
      have d1 : decide ((0 : Int) ≤ (k : Int)) = true := by simp
      go_enter Try.func36, Try.ntmps36
      go_wp2
      go_ret
      exact ⟨by simp [hk], rfl⟩
    · have d1 : decide ((0 : Int) ≤ (k : Int)) = true := by simp
      go_enter Try.func36, Try.ntmps36
      go_wp2
      go_ret
      exact ⟨by simp [hk], rfl⟩
  · go_enter Try.func36, Try.ntmps36
    go_wp2
    go_ret
    exact ⟨by simp; omega, rfl⟩
set_option maxHeartbeats 1000000 in
theorem get_no_ref {W0 w : World} {L : List Assn} {b hb vb n : Nat} {held : List Bool} {vals : List Int} (h : Int) (hno : (decide (0 ≤ h) && held.getD h.toNat false) = false) (hn : held.length = n) (hv : vals.length = n) (hp : 0 < n) (hsm : n ≤ 64) (hs : Sat W0 w (seg true b 0 [.slice (some ⟨hb,0,none⟩) n n, .slice (some ⟨vb,0,none⟩) n n] :: seg true hb 0 (held.map .bool) :: seg true vb 0 (vals.map fun x => Value.int .i64 x) :: L)) :
    Calls Try.prog 14 #[.pointer (some ⟨b,0,none⟩), .int .i64 h] w fun e w' =>
      e = .returned (.tuple #[.int .i64 0, .int .i64 5]) ∧ Sat W0 w' (seg true b 0 [.slice (some ⟨hb,0,none⟩) n n, .slice (some ⟨vb,0,none⟩) n n] :: seg true hb 0 (held.map .bool) :: seg true vb 0 (vals.map fun x => Value.int .i64 x) :: L) := by
  have z0 := hs.lt (by simp)
  have ms := hs
  have hh := has_ref h hn hsm ms
  rw [hno] at hh
  clear hno hn hv
  go_enter Try.func14, Try.ntmps14
  go_wp2_with (first | (go_at_call 36; refine hh.mono ?_; rintro e w' ⟨rfl, rfl⟩))

  go_ret2
  exact ⟨rfl, hs⟩
set_option maxHeartbeats 1000000 in
theorem get_yes_ref {W0 w : World} {L : List Assn} {b hb vb n : Nat} {held : List Bool} {vals : List Int} (k : Nat) (hyes : held.getD k false = true) {x : Int} (hx : vals[k]? = some x) (hn : held.length = n) (hv : vals.length = n) (hp : 0 < n) (hsm : n ≤ 64) (hs : Sat W0 w (seg true b 0 [.slice (some ⟨hb,0,none⟩) n n, .slice (some ⟨vb,0,none⟩) n n] :: seg true hb 0 (held.map .bool) :: seg true vb 0 (vals.map fun x => Value.int .i64 x) :: L)) :
    Calls Try.prog 14 #[.pointer (some ⟨b,0,none⟩), .int .i64 k] w fun e w' =>
      e = .returned (.tuple #[(.int .i64 x), .int .i64 0]) ∧ Sat W0 w' (seg true b 0 [.slice (some ⟨hb,0,none⟩) n n, .slice (some ⟨vb,0,none⟩) n n] :: seg true hb 0 (held.map .bool) :: seg true vb 0 (vals.map fun x => Value.int .i64 x) :: L) := by
  have hkn : k < n := by rw [← hv]; exact (List.getElem?_eq_some_iff.1 hx).1
  have c0 := hs.at 0 rfl
  have c1 := hs.at 1 rfl
  have s1 : Sat W0 w (seg true hb 0 (held.map .bool) :: _) := hs.pull 1
  have s2 : Sat W0 w (seg true vb 0 (vals.map fun x => Value.int .i64 x) :: _) := hs.pull 2
  have lh : 0 < (held.map Value.bool).length := by simp; omega
  have lv : 0 < (vals.map fun x => Value.int .i64 x).length := by simp; omega
  have n1 : b ≠ hb := hs.ne' (by simp) lh
  have n2 : b ≠ vb := (hs.pick [0, 2] : Sat W0 w (seg true b 0 _ :: seg true vb 0 (vals.map fun x => Value.int .i64 x) :: _)).ne' (by simp) lv
  have n3 : hb ≠ vb := (hs.pick [1, 2] : Sat W0 w (seg true hb 0 (held.map .bool) :: seg true vb 0 (vals.map fun x => Value.int .i64 x) :: _)).ne' lh lv
  have z0 := hs.lt (by simp)
  have z1 := s1.lt lh
  have z2 := s2.lt lv
  clear lh lv
  have e1 := s2.at k (v := .int .i64 x) (by simp [hx])
  have hh := has_ref k hn hsm hs
  rw [Int.toNat_natCast, hyes, show decide (0 ≤ (k : Int)) = true by simp] at hh
  clear hx hn hv hyes
  go_enter Try.func14, Try.ntmps14
  go_wp2_with (first | (go_at_call 36; refine hh.mono ?_; rintro e w' ⟨rfl, rfl⟩))
  go_ret2
  exact ⟨rfl, hs⟩
set_option maxHeartbeats 1000000 in
theorem set_no_ref {W0 w : World} {L : List Assn} {b hb vb n : Nat} {held : List Bool} {vals : List Int} (h : Int) (v : Int) (hno : (decide (0 ≤ h) && held.getD h.toNat false) = false) (hn : held.length = n) (hv : vals.length = n) (hp : 0 < n) (hsm : n ≤ 64) (hs : Sat W0 w (seg true b 0 [.slice (some ⟨hb,0,none⟩) n n, .slice (some ⟨vb,0,none⟩) n n] :: seg true hb 0 (held.map .bool) :: seg true vb 0 (vals.map fun x => Value.int .i64 x) :: L)) :
    Calls Try.prog 16 #[.pointer (some ⟨b,0,none⟩), .int .i64 h, (.int .i64 v)] w fun e w' =>
      e = .returned (.int .i64 5) ∧ Sat W0 w' (seg true b 0 [.slice (some ⟨hb,0,none⟩) n n, .slice (some ⟨vb,0,none⟩) n n] :: seg true hb 0 (held.map .bool) :: seg true vb 0 (vals.map fun x => Value.int .i64 x) :: L) := by
  have z0 := hs.lt (by simp)
  have ms := hs
  have hh := has_ref h hn hsm ms
  rw [hno] at hh
  clear hno hn hv

  go_enter Try.func16, Try.ntmps16
  go_wp2_with (first | (go_at_call 36; refine hh.mono ?_; rintro e w' ⟨rfl, rfl⟩))
  go_ret
  exact ⟨rfl, ms⟩
set_option maxHeartbeats 1000000 in
theorem set_yes_ref {W0 w : World} {L : List Assn} {b hb vb n : Nat} {held : List Bool} {vals : List Int} (k : Nat) (v : Int) (hyes : held.getD k false = true) (hk : k < n) (hn : held.length = n) (hv : vals.length = n) (hp : 0 < n) (hsm : n ≤ 64) (hs : Sat W0 w (seg true b 0 [.slice (some ⟨hb,0,none⟩) n n, .slice (some ⟨vb,0,none⟩) n n] :: seg true hb 0 (held.map .bool) :: seg true vb 0 (vals.map fun x => Value.int .i64 x) :: L)) :
    Calls Try.prog 16 #[.pointer (some ⟨b,0,none⟩), .int .i64 k, (.int .i64 v)] w fun e w' =>
      e = .returned (.int .i64 0) ∧ Sat W0 w' (seg true b 0 [.slice (some ⟨hb,0,none⟩) n n, .slice (some ⟨vb,0,none⟩) n n] :: seg true hb 0 (held.map .bool) :: seg true vb 0 ((vals.set k v).map fun x => Value.int .i64 x) :: L) := by
  have c0 := hs.at 0 rfl
  have c1 := hs.at 1 rfl
  have s1 : Sat W0 w (seg true hb 0 (held.map .bool) :: _) := hs.pull 1
  have s2 : Sat W0 w (seg true vb 0 (vals.map fun x => Value.int .i64 x) :: _) := hs.pull 2
  have lh : 0 < (held.map Value.bool).length := by simp; omega
  have lv : 0 < (vals.map fun x => Value.int .i64 x).length := by simp; omega
  have n1 : b ≠ hb := hs.ne' (by simp) lh
  have n2 : b ≠ vb := (hs.pick [0, 2] : Sat W0 w (seg true b 0 _ :: seg true vb 0 (vals.map fun x => Value.int .i64 x) :: _)).ne' (by simp) lv
  have n3 : hb ≠ vb := (hs.pick [1, 2] : Sat W0 w (seg true hb 0 (held.map .bool) :: seg true vb 0 (vals.map fun x => Value.int .i64 x) :: _)).ne' lh lv
  have z0 := hs.lt (by simp)
  have z1 := s1.lt lh
  have z2 := s2.lt lv
  clear lh lv
  obtain ⟨y, hx⟩ : ∃ y, vals[k]? = some y := ⟨vals[k]'(by omega), by simp⟩
  have e1 := s2.at k (v := .int .i64 y) (by simp [hx])
  have f1 := s2.fr k (by simp; have := (List.getElem?_eq_some_iff.1 hx).1; exact this)
  have ms := hs
  have hh := has_ref k hn hsm ms
  rw [Int.toNat_natCast, hyes, show decide (0 ≤ (k : Int)) = true by simp] at hh
  have H := Lib.hid (And.intro hn hv); clear hn hv hx

  go_enter Try.func16, Try.ntmps16
  go_wp2_with (first | (go_at_call 36; refine hh.mono ?_; rintro e w' ⟨rfl, rfl⟩))

  go_wp2
  go_ret
  refine ⟨rfl, ?_⟩
  have s5 := (s2.store (i := k) (by rw [List.length_map, H.out.2]; exact hk) (.int .i64 v) (q := k) (by simp)).pick [1, 2, 0]
  exact s5.to (by simp [pick, List.map_set])
set_option maxHeartbeats 1000000 in
theorem add_ref {W0 w : World} {L : List Assn} {b hb vb n : Nat} {held : List Bool} {vals : List Int} (v : Int) (hn : held.length = n) (hv : vals.length = n) (hp : 0 < n) (hsm : n ≤ 64) (hs : Sat W0 w (seg true b 0 [.slice (some ⟨hb,0,none⟩) n n, .slice (some ⟨vb,0,none⟩) n n] :: seg true hb 0 (held.map .bool) :: seg true vb 0 (vals.map fun x => Value.int .i64 x) :: L)) :
    Calls Try.prog 12 #[.pointer (some ⟨b,0,none⟩), (.int .i64 v)] w fun e w' =>
      (∃ i : Nat, i < n ∧ (∀ j, j < i → held.getD j false = true) ∧ held.getD i false = false ∧ e = .returned (.tuple #[.int .i64 i, .int .i64 0]) ∧
        Sat W0 w' (seg true b 0 [.slice (some ⟨hb,0,none⟩) n n, .slice (some ⟨vb,0,none⟩) n n] :: seg true hb 0 ((held.set i true).map .bool) :: seg true vb 0 ((vals.set i v).map fun x => Value.int .i64 x) :: L)) ∨
      ((∀ j, j < n → held.getD j false = true) ∧ e = .returned (.tuple #[.int .i64 0, .int .i64 8]) ∧ Sat W0 w' (seg true b 0 [.slice (some ⟨hb,0,none⟩) n n, .slice (some ⟨vb,0,none⟩) n n] :: seg true hb 0 (held.map .bool) :: seg true vb 0 (vals.map fun x => Value.int .i64 x) :: L)) := by
  have c0 := hs.at 0 rfl
  have c1 := hs.at 1 rfl
  have s1 : Sat W0 w (seg true hb 0 (held.map .bool) :: _) := hs.pull 1
  have s2 : Sat W0 w (seg true vb 0 (vals.map fun x => Value.int .i64 x) :: _) := hs.pull 2
  have lh : 0 < (held.map Value.bool).length := by simp; omega
  have lv : 0 < (vals.map fun x => Value.int .i64 x).length := by simp; omega
  have n1 : b ≠ hb := hs.ne' (by simp) lh
  have n2 : b ≠ vb := (hs.pick [0, 2] : Sat W0 w (seg true b 0 _ :: seg true vb 0 (vals.map fun x => Value.int .i64 x) :: _)).ne' (by simp) lv
  have n3 : hb ≠ vb := (hs.pick [1, 2] : Sat W0 w (seg true hb 0 (held.map .bool) :: seg true vb 0 (vals.map fun x => Value.int .i64 x) :: _)).ne' lh lv
  have z0 := hs.lt (by simp)
  have z1 := s1.lt lh
  have z2 := s2.lt lv
  clear lh lv
  have H := Lib.hid (And.intro hn hv); clear hn hv

  go_enter Try.func12, Try.ntmps12
  go_wp2
  go_loop [6] (fun t6 => ∃ i : Nat, i ≤ n ∧ t6 = .int .i64 i ∧ (∀ j, j < i → held.getD j false = true)) (fun t6 => n - (intOf t6).toNat)
  case atStart => exact ⟨0, Nat.zero_le _, rfl, by intro j h; omega⟩
  case round =>
    obtain ⟨i, hi, rfl, hall⟩ := hrel
    by_cases hlt : i < n
    · have e0 := s1.at i (bool_at held i (by rw [H.out.1]; exact hlt))
      have f0 := s1.fr i (by rw [List.length_map, H.out.1]; exact hlt)
      obtain ⟨y, hx⟩ : ∃ y, vals[i]? = some y := ⟨vals[i]'(by rw [H.out.2]; exact hlt), by simp⟩
      have e1 := s2.at i (v := .int .i64 y) (by simp [hx])
      have f1 := s2.fr i (by simp; have := (List.getElem?_eq_some_iff.1 hx).1; exact this)
      clear hx
      by_cases hd : held.getD i false = true
      · rw [hd] at e0
        have hd' := Lib.hid hd; clear hd
        go_wp2
        go_round
        case rel => exact ⟨i+1, by omega, by go_num, by intro j hj; rcases Nat.lt_succ_iff_lt_or_eq.1 hj with h | rfl; exact hall j h; exact hd'.out⟩
        case measure => simp [intOf]; omega
      · have hd2 : held.getD i false = false := by simpa using hd
        rw [hd2] at e0
        have hd' := Lib.hid hd2; clear hd hd2
        go_wp2
        go_ret2
        refine .inl ⟨i, hlt, hall, hd'.out, rfl, ?_⟩
        have s3 := (s1.store (i := i) (by rw [List.length_map, H.out.1]; exact hlt) (.bool true) (q := i) (by simp) : Sat W0 (w.setCell ⟨hb, i, none⟩ (.bool true)) _)
        have s4 : Sat W0 _ (seg true vb 0 (vals.map fun x => Value.int .i64 x) :: _) := s3.pull 2

        have s5 := (s4.store (i := i) (by rw [List.length_map, H.out.2]; exact hlt) (.int .i64 v) (q := i) (by simp)).pick [2, 1, 0]
        exact s5.to (by simp [pick, List.map_set])
    · go_wp2
      go_ret2
      exact .inr ⟨fun j hj => hall j (by omega), rfl, hs⟩
set_option maxHeartbeats 1000000 in
theorem drop_no_ref {W0 w : World} {L : List Assn} {b hb vb n : Nat} {held : List Bool} {vals : List Int} (h : Int) (hno : (decide (0 ≤ h) && held.getD h.toNat false) = false) (hn : held.length = n) (hv : vals.length = n) (hp : 0 < n) (hsm : n ≤ 64) (hs : Sat W0 w (seg true b 0 [.slice (some ⟨hb,0,none⟩) n n, .slice (some ⟨vb,0,none⟩) n n] :: seg true hb 0 (held.map .bool) :: seg true vb 0 (vals.map fun x => Value.int .i64 x) :: L)) :
    Calls Try.prog 18 #[.pointer (some ⟨b,0,none⟩), .int .i64 h] w fun e w' =>
      e = .returned (.tuple #[.int .i64 0, .int .i64 5]) ∧ Sat W0 w' (seg true b 0 [.slice (some ⟨hb,0,none⟩) n n, .slice (some ⟨vb,0,none⟩) n n] :: seg true hb 0 (held.map .bool) :: seg true vb 0 (vals.map fun x => Value.int .i64 x) :: L) := by
  have z0 := hs.lt (by simp)
  have ms := hs
  have hh := has_ref h hn hsm ms
  rw [hno] at hh
  clear hno hn hv
  go_enter Try.func18, Try.ntmps18
  go_wp2_with (first | (go_at_call 36; refine hh.mono ?_; rintro e w' ⟨rfl, rfl⟩))

  go_ret2
  exact ⟨rfl, hs⟩
set_option maxHeartbeats 1000000 in
theorem drop_yes_ref {W0 w : World} {L : List Assn} {b hb vb n : Nat} {held : List Bool} {vals : List Int} (k : Nat) (hyes : held.getD k false = true) {x : Int} (hx : vals[k]? = some x) (hn : held.length = n) (hv : vals.length = n) (hp : 0 < n) (hsm : n ≤ 64) (hs : Sat W0 w (seg true b 0 [.slice (some ⟨hb,0,none⟩) n n, .slice (some ⟨vb,0,none⟩) n n] :: seg true hb 0 (held.map .bool) :: seg true vb 0 (vals.map fun x => Value.int .i64 x) :: L)) :
    Calls Try.prog 18 #[.pointer (some ⟨b,0,none⟩), .int .i64 k] w fun e w' =>
      e = .returned (.tuple #[(.int .i64 x), .int .i64 0]) ∧ Sat W0 w' (seg true b 0 [.slice (some ⟨hb,0,none⟩) n n, .slice (some ⟨vb,0,none⟩) n n] :: seg true hb 0 ((held.set k false).map .bool) :: seg true vb 0 (vals.map fun x => Value.int .i64 x) :: L) := by
  have hkn : k < n := by rw [← hv]; exact (List.getElem?_eq_some_iff.1 hx).1
  have c0 := hs.at 0 rfl
  have c1 := hs.at 1 rfl
  have s1 : Sat W0 w (seg true hb 0 (held.map .bool) :: _) := hs.pull 1
  have s2 : Sat W0 w (seg true vb 0 (vals.map fun x => Value.int .i64 x) :: _) := hs.pull 2
  have lh : 0 < (held.map Value.bool).length := by simp; omega
  have lv : 0 < (vals.map fun x => Value.int .i64 x).length := by simp; omega
  have n1 : b ≠ hb := hs.ne' (by simp) lh
  have n2 : b ≠ vb := (hs.pick [0, 2] : Sat W0 w (seg true b 0 _ :: seg true vb 0 (vals.map fun x => Value.int .i64 x) :: _)).ne' (by simp) lv
  have n3 : hb ≠ vb := (hs.pick [1, 2] : Sat W0 w (seg true hb 0 (held.map .bool) :: seg true vb 0 (vals.map fun x => Value.int .i64 x) :: _)).ne' lh lv
  have z0 := hs.lt (by simp)
  have z1 := s1.lt lh
  have z2 := s2.lt lv
  clear lh lv
  have e1 := s2.at k (v := .int .i64 x) (by simp [hx])
  have e0 := s1.at k (bool_at held k (by omega))
  have f0 := s1.fr k (by rw [List.length_map]; omega)
  have H := Lib.hid hn
  have hh := has_ref k hn hsm hs
  rw [Int.toNat_natCast, hyes, show decide (0 ≤ (k : Int)) = true by simp] at hh
  clear hx hn hv hyes
  go_enter Try.func18, Try.ntmps18
  go_wp2_with (first | (go_at_call 36; refine hh.mono ?_; rintro e w' ⟨rfl, rfl⟩))
  try go_wp2
  go_ret2
  refine ⟨rfl, ?_⟩
  have s3 := (s1.store (i := k) (by rw [List.length_map, H.out]; exact hkn) (.bool false) (q := k) (by simp)).pick [1, 0, 2]
  exact s3.to (by simp [pick, List.map_set])
end Go.Proofs.Ytpiiklfnakkdiaa
