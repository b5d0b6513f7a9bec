
/- The contracts of the table's methods, at what a vault keeps; each under the conditions that it names. -/
import Derived.Test.YtbefjaodpbgpcaaGreatGA
import Derived.Test.YtbefjaodpbgpcaaGreatRows
import Derived.WalkKit
import Derived.WalkSpells
import Derived.WalkLawsBesides
import Derived.RegionTactic
import Derived.ChangeAlike
import Derived.BigRegion
import Derived.Lib.Hide
import Derived.Deep.QuietTactic
import Derived.BigQuiet
set_option linter.unusedVariables false
set_option linter.unusedSimpArgs false
set_option maxRecDepth 100000
set_option maxHeartbeats 16000000
namespace Go.Proofs.YtbefjaodpbgpcaaGreat
open Go.RowKit Go.Sep
theorem bool_at (held : List Bool) (i : Nat) (h : i < held.length) : (held.map Value.bool)[i]? = some (.bool (held.getD i false)) := by
 simp [h]
theorem Tryz.infoBool : (Tryz.prog.info? 4).map (fun i => (i.zero, i.size, i.bytes)) = some (some (.bool false), 1, 1) := by kernel_rfl
theorem Tryz.info_th : (Tryz.prog.info? 79).map (fun i => (i.zero, i.size, i.bytes)) = some (some (.nilIface), 1, 16) := by kernel_rfl
theorem new_th {W0 w : World} {L : List Assn} (most : Int) (h1 : 1 ≤ most) (h2 : most ≤ 64) (hs : Sat W0 w L) :
  Calls Tryz.prog 29 #[.int .i64 most] w fun e w' => ∃ b hb vb, e = .returned (.tuple #[.pointer (some ⟨b,0,none⟩), .int .i64 0]) ∧ Sat W0 w' (seg true b 0 [.slice (some ⟨hb,0,none⟩) most.toNat most.toNat, .slice (some ⟨vb,0,none⟩) most.toNat most.toNat] :: seg true hb 0 ((List.replicate most.toNat false).map .bool) :: seg true vb 0 (List.replicate most.toNat (.nilIface : Value)) :: L) := by
 obtain ⟨i4, hi4, hz4, hs4, hb4⟩ := info_parts Tryz.infoBool
 obtain ⟨i3, hi3, hz3, hs3, hb3⟩ := info_parts Tryz.info_th
 have hm1 := fun w => run_make (P := Tryz.prog) w 104 4 i4 (.bool false) Tryz.underlying104 hi4 hz4 .i64 .i64 most most (by omega) (by omega) (by rw [hb4]; omega) (by omega)
 have hm2 := fun w => run_make (P := Tryz.prog) w 105 79 i3 (.nilIface) Tryz.underlying105 hi3 hz3 .i64 .i64 most most (by omega) (by omega) (by rw [hb3]; omega) (by omega)
 rw [hs4] at hm1
 rw [hs3] at hm2
 clear hi4 hz4 hs4 hb4 hi3 hz3 hs3 hb3
 go_enter Tryz.func29, Tryz.ntmps29
 go_wp2
 go_region
 all_goals go_wp2
 all_goals go_ret2
 ·exact ⟨w.heap.size + 1 + 1, w.heap.size, w.heap.size + 1, rfl, ((((hs.make _ _ _).make _ _ _).alloc _ _).drew.pick [0, 2, 1]).to (by simp [pick])⟩
 ·exact ⟨w.heap.size + 1 + 1, w.heap.size + 1, w.heap.size, rfl, ((((hs.make _ _ _).make _ _ _).alloc _ _).drew.pick [0, 1, 2]).to (by simp [pick])⟩
theorem made_th {W0 w : World} {L : List Assn} {b hb n : Nat} {v2 : Value} (hn : 0 < n) (hs : Sat W0 w (seg true b 0 [.slice (some ⟨hb,0,none⟩) n n, v2] :: L)) :
  Calls Tryz.prog 59 #[.pointer (some ⟨b,0,none⟩)] w fun e w' => e = .returned (.bool true) ∧ w = w' := by
 have c0 := hs.at 0 rfl
 go_enter Tryz.func59, Tryz.ntmps59
 go_wp2
 go_ret
 exact ⟨by simp, rfl⟩
theorem has_th {W0 w : World} {L : List Assn} {b hb n : Nat} {v2 : Value} {held : List Bool} (h : Int) (hn : held.length = n) (hsm : n ≤ 64) (hs : Sat W0 w (seg true b 0 [.slice (some ⟨hb,0,none⟩) n n, v2] :: seg true hb 0 (held.map .bool) :: L)) :
  Calls Tryz.prog 98 #[.pointer (some ⟨b,0,none⟩), .int .i64 h] w fun e w' => e = .returned (.bool (decide (0 ≤ h) && held.getD h.toNat false)) ∧ w = w' := by
 have c0 := hs.at 0 rfl
 subst hn
 by_cases hlt : 0 ≤ h
 ·obtain ⟨k, rfl⟩ : ∃ k : Nat, h = k := ⟨h.toNat, by omega⟩
  by_cases hk : k < held.length
  ·have c1 := (hs.pull 1).at k (v := .bool held[k]) (by simp [hk])
   have d1 : decide ((0 : Int) ≤ (k : Int)) = true := by simp
   go_enter Tryz.func98, Tryz.ntmps98
   go_wp2
   go_ret
   exact ⟨by simp [hk], rfl⟩
  ·have d1 : decide ((0 : Int) ≤ (k : Int)) = true := by simp
   go_enter Tryz.func98, Tryz.ntmps98
   go_wp2
   go_ret
   exact ⟨by simp [hk], rfl⟩
 ·go_enter Tryz.func98, Tryz.ntmps98
  go_wp2
  go_ret
  exact ⟨by simp; omega, rfl⟩
theorem add_th {W0 w : World} {L : List Assn} {b hb vb n : Nat} {held : List Bool} {vals : List Value} (vt : TypeId) (vv : Value) (hn : held.length = n) (hv : vals.length = n) (hp : 0 < n) (hsm : n ≤ 64) (hs : Sat W0 w (seg true b 0 [.slice (some ⟨hb,0,none⟩) n n, .slice (some ⟨vb,0,none⟩) n n] :: seg true hb 0 (held.map .bool) :: seg true vb 0 vals :: L)) :
  Calls Tryz.prog 88 #[.pointer (some ⟨b,0,none⟩), (.iface vt vv)] w fun e w' =>
   (∃ i : Nat, i < n ∧ (∀ j, j < i → held.getD j false = true) ∧ held.getD i false = false ∧ e = .returned (.tuple #[.int .i64 i, .int .i64 0]) ∧
    Sat W0 w' (seg true b 0 [.slice (some ⟨hb,0,none⟩) n n, .slice (some ⟨vb,0,none⟩) n n] :: seg true hb 0 ((held.set i true).map .bool) :: seg true vb 0 (vals.set i (.iface vt vv)) :: L)) ∨
   ((∀ j, j < n → held.getD j false = true) ∧ e = .returned (.tuple #[.int .i64 0, .int .i64 8]) ∧ Sat W0 w' (seg true b 0 [.slice (some ⟨hb,0,none⟩) n n, .slice (some ⟨vb,0,none⟩) n n] :: seg true hb 0 (held.map .bool) :: seg true vb 0 vals :: L)) := by
 have c0 := hs.at 0 rfl
 have c1 := hs.at 1 rfl
 have s1 : Sat W0 w (seg true hb 0 (held.map .bool) :: _) := hs.pull 1
 have s2 : Sat W0 w (seg true vb 0 vals :: _) := hs.pull 2
 have lh : 0 < (held.map Value.bool).length := by simp; omega
 have lv : 0 < vals.length := by omega
 have n1 : b ≠ hb := hs.ne' (by simp) lh
 have n2 : b ≠ vb := (hs.pick [0, 2] : Sat W0 w (seg true b 0 _ :: seg true vb 0 vals :: _)).ne' (by simp) lv
 have n3 : hb ≠ vb := (hs.pick [1, 2] : Sat W0 w (seg true hb 0 (held.map .bool) :: seg true vb 0 vals :: _)).ne' lh lv
 have z0 := hs.lt (by simp)
 have z1 := s1.lt lh
 have z2 := s2.lt lv
 clear lh lv
 have hm := made_th hp hs
 have H := Lib.hid (And.intro hn hv); clear hn hv

 go_enter Tryz.func88, Tryz.ntmps88
 go_wp2_with (go_at_call 59; refine hm.mono ?_; rintro e w' ⟨rfl, rfl⟩)
 go_loop [6, 7, 16] (fun t6 t7 t16 => ∃ i : Nat, i ≤ n ∧ t16 = .int .i64 i ∧ (∀ j, j < i → held.getD j false = true)) (fun _ _ t16 => n - (intOf t16).toNat)
 case atStart => exact ⟨0, Nat.zero_le _, rfl, by intro j h; omega⟩
 case round =>
  obtain ⟨i, hi, rfl, hall⟩ := hrel
  by_cases hlt : i < n
  ·have e0 := s1.at i (bool_at held i (by rw [H.out.1]; exact hlt))
   have f0 := s1.fr i (by rw [List.length_map, H.out.1]; exact hlt)
   obtain ⟨y, hx⟩ : ∃ y, vals[i]? = some y := ⟨vals[i]'(by rw [H.out.2]; exact hlt), by simp⟩
   have e1 := s2.at i (v := y) hx
   have f1 := s2.fr i (List.getElem?_eq_some_iff.1 hx).1
   clear hx
   by_cases hd : held.getD i false = true
   ·rw [hd] at e0
    have hd' := Lib.hid hd; clear hd
    go_wp2
    go_round
    case rel => exact ⟨i+1, by omega, by go_num, by intro j hj; rcases Nat.lt_succ_iff_lt_or_eq.1 hj with h | rfl; exact hall j h; exact hd'.out⟩
    case measure => simp [intOf]; omega
   ·have hd2 : held.getD i false = false := by simpa using hd
    rw [hd2] at e0
    have hd' := Lib.hid hd2; clear hd hd2
    go_wp2
    go_region
    go_wp2
    go_ret2
    refine .inl ⟨i, hlt, hall, hd'.out, rfl, ?_⟩
    have s3 := (s1.store (i := i) (by rw [List.length_map, H.out.1]; exact hlt) (.bool true) (q := i) (by simp) : Sat W0 (w.setCell ⟨hb, i, none⟩ (.bool true)) _)
    have s4 : Sat W0 _ (seg true vb 0 vals :: _) := s3.pull 2

    have s5 := (s4.store (i := i) (by rw [H.out.2]; exact hlt) (.iface vt vv) (q := i) (by simp)).drew.pick [2, 1, 0]
    exact s5.to (by simp [pick, List.map_set])
  ·go_wp2
   go_ret2
   exact .inr ⟨fun j hj => hall j (by omega), rfl, hs⟩
theorem get_no_th {W0 w : World} {L : List Assn} {b hb vb n : Nat} {held : List Bool} {vals : List Value} (h : Int) (hno : (decide (0 ≤ h) && held.getD h.toNat false) = false) (hn : held.length = n) (hv : vals.length = n) (hp : 0 < n) (hsm : n ≤ 64) (hs : Sat W0 w (seg true b 0 [.slice (some ⟨hb,0,none⟩) n n, .slice (some ⟨vb,0,none⟩) n n] :: seg true hb 0 (held.map .bool) :: seg true vb 0 vals :: L)) :
  Calls Tryz.prog 82 #[.pointer (some ⟨b,0,none⟩), .int .i64 h] w fun e w' =>
   e = .returned (.tuple #[.nilIface, .int .i64 5]) ∧ Sat W0 w' (seg true b 0 [.slice (some ⟨hb,0,none⟩) n n, .slice (some ⟨vb,0,none⟩) n n] :: seg true hb 0 (held.map .bool) :: seg true vb 0 vals :: L) := by
 have z0 := hs.lt (by simp)
 have ms := hs
 have hm := made_th hp ms
 have hh := has_th h hn hsm ms
 rw [hno] at hh
 clear hno hn hv
 go_enter Tryz.func82, Tryz.ntmps82
 go_wp2_with (first | (go_at_call 59; refine hm.mono ?_; rintro e w' ⟨rfl, rfl⟩) | (go_at_call 98; refine hh.mono ?_; rintro e w' ⟨rfl, rfl⟩))

 go_ret2
 exact ⟨rfl, hs⟩
theorem get_yes_th {W0 w : World} {L : List Assn} {b hb vb n : Nat} {held : List Bool} {vals : List Value} (k : Nat) (hyes : held.getD k false = true) {x : Value} (hx : vals[k]? = some x) (hn : held.length = n) (hv : vals.length = n) (hp : 0 < n) (hsm : n ≤ 64) (hs : Sat W0 w (seg true b 0 [.slice (some ⟨hb,0,none⟩) n n, .slice (some ⟨vb,0,none⟩) n n] :: seg true hb 0 (held.map .bool) :: seg true vb 0 vals :: L)) :
  Calls Tryz.prog 82 #[.pointer (some ⟨b,0,none⟩), .int .i64 k] w fun e w' =>
   e = .returned (.tuple #[x, .int .i64 0]) ∧ Sat W0 w' (seg true b 0 [.slice (some ⟨hb,0,none⟩) n n, .slice (some ⟨vb,0,none⟩) n n] :: seg true hb 0 (held.map .bool) :: seg true vb 0 vals :: L) := by
 have hkn : k < n := by rw [← hv]; exact (List.getElem?_eq_some_iff.1 hx).1
 have c0 := hs.at 0 rfl
 have c1 := hs.at 1 rfl
 have s1 : Sat W0 w (seg true hb 0 (held.map .bool) :: _) := hs.pull 1
 have s2 : Sat W0 w (seg true vb 0 vals :: _) := hs.pull 2
 have lh : 0 < (held.map Value.bool).length := by simp; omega
 have lv : 0 < vals.length := by omega
 have n1 : b ≠ hb := hs.ne' (by simp) lh
 have n2 : b ≠ vb := (hs.pick [0, 2] : Sat W0 w (seg true b 0 _ :: seg true vb 0 vals :: _)).ne' (by simp) lv
 have n3 : hb ≠ vb := (hs.pick [1, 2] : Sat W0 w (seg true hb 0 (held.map .bool) :: seg true vb 0 vals :: _)).ne' lh lv
 have z0 := hs.lt (by simp)
 have z1 := s1.lt lh
 have z2 := s2.lt lv
 clear lh lv
 have e1 := s2.at k (v := x) hx
 have hm := made_th hp hs
 have hh := has_th k hn hsm hs
 rw [Int.toNat_natCast, hyes, show decide (0 ≤ (k : Int)) = true by simp] at hh
 clear hx hn hv hyes
 go_enter Tryz.func82, Tryz.ntmps82
 go_wp2_with (first | (go_at_call 59; refine hm.mono ?_; rintro e w' ⟨rfl, rfl⟩) | (go_at_call 98; refine hh.mono ?_; rintro e w' ⟨rfl, rfl⟩))
 go_ret2
 exact ⟨rfl, hs⟩
theorem count_take_th (held : List Bool) (i : Nat) (h : i < held.length) : (held.take (i+1)).count true = (held.take i).count true + if held.getD i false then 1 else 0 := by
 rw [List.take_succ_eq_append_getElem h, List.count_append]
 by_cases hb : held[i] = true <;> simp_all
theorem count_le_th (held : List Bool) (i : Nat) : (held.take i).count true ≤ held.length :=
 Nat.le_trans List.count_le_length (by simp; omega)
theorem len_th {W0 w : World} {L : List Assn} {b hb vb n : Nat} {held : List Bool} {vals : List Value} (hn : held.length = n) (hv : vals.length = n) (hp : 0 < n) (hsm : n ≤ 64) (hs : Sat W0 w (seg true b 0 [.slice (some ⟨hb,0,none⟩) n n, .slice (some ⟨vb,0,none⟩) n n] :: seg true hb 0 (held.map .bool) :: seg true vb 0 vals :: L)) :
  Calls Tryz.prog 46 #[.pointer (some ⟨b,0,none⟩)] w fun e w' => e = .returned (.int .i64 (held.count true : Nat)) ∧ w = w' := by
 have c0 := hs.at 0 rfl
 have s1 : Sat W0 w (seg true hb 0 (held.map .bool) :: _) := hs.pull 1
 have hm := made_th hp hs
 have H := Lib.hid (And.intro hn hv); clear hn hv
 go_enter Tryz.func46, Tryz.ntmps46
 go_wp2_with (go_at_call 59; refine hm.mono ?_; rintro e w' ⟨rfl, rfl⟩)
 go_loop [3, 5, 13] (fun t3 t5 t13 => ∃ i : Nat, i ≤ n ∧ t13 = .int .i64 i ∧ t3 = .int .i64 ((held.take i).count true : Nat)) (fun _ _ t13 => n - (intOf t13).toNat)
 case atStart => exact ⟨0, Nat.zero_le _, rfl, rfl⟩
 case round =>
  obtain ⟨i, hi, rfl, rfl, rfl⟩ := hrel
  by_cases hlt : i < n
  ·have e0 := s1.at i (bool_at held i (by rw [H.out.1]; exact hlt))
   have hct := count_take_th held i (by rw [H.out.1]; exact hlt)
   have hle := count_le_th held i
   rw [H.out.1] at hle
   by_cases hd : held.getD i false = true
   ·rw [hd] at e0
    rw [hd, if_pos rfl] at hct
    have hct' := Lib.hid hct; clear hd hct
    go_wp2
    go_round
    case rel => exact ⟨i+1, by omega, by go_num, by rw [hct'.out]; go_num⟩
    case measure => simp [intOf]; omega
   ·have hd2 : held.getD i false = false := by simpa using hd
    rw [hd2] at e0
    rw [hd2, if_neg (by simp)] at hct
    have hct' := Lib.hid hct; clear hd hd2 hct
    go_wp2
    go_round
    case rel => exact ⟨i+1, by omega, by go_num, by rw [hct'.out]; go_num⟩
    case measure => simp [intOf]; omega
  ·go_wp2
   go_ret
   exact ⟨by rw [List.take_of_length_le (by rw [H.out.1]; omega)]; rfl, rfl⟩
theorem full_th {W0 w : World} {L : List Assn} {b hb vb n : Nat} {held : List Bool} {vals : List Value} (hn : held.length = n) (hv : vals.length = n) (hp : 0 < n) (hsm : n ≤ 64) (hs : Sat W0 w (seg true b 0 [.slice (some ⟨hb,0,none⟩) n n, .slice (some ⟨vb,0,none⟩) n n] :: seg true hb 0 (held.map .bool) :: seg true vb 0 vals :: L)) :
  Calls Tryz.prog 72 #[.pointer (some ⟨b,0,none⟩)] w fun e w' => e = .returned (.bool (((held.count true : Nat) : Int) == (n : Int))) ∧ ∃ k, w' = w.drewN k := by
 have c0 := hs.at 0 rfl
 have H := Lib.hid (And.intro hn hv); clear hn hv
 go_enter Tryz.func72, Tryz.ntmps72
 go_wp2
 go_quiet ((first | (go_at_call 59; exact Calls.quiet_of_same ((made_th hp (hs.drewN _)).mono fun _ _ h => ⟨h.1, h.2.symm⟩)) | (go_at_call 46; exact Calls.quiet_of_same ((len_th H.out.1 H.out.2 hp hsm (hs.drewN _)).mono fun _ _ h => ⟨h.1, h.2.symm⟩))))
 go_wp2
 go_ret
 exact ⟨rfl, _, rfl⟩
theorem drop_yes_th {W0 w : World} {L : List Assn} {b hb vb n : Nat} {held : List Bool} {vals : List Value} (k : Nat) (hyes : held.getD k false = true) {x : Value} (hx : vals[k]? = some x) (hn : held.length = n) (hv : vals.length = n) (hp : 0 < n) (hsm : n ≤ 64) (hs : Sat W0 w (seg true b 0 [.slice (some ⟨hb,0,none⟩) n n, .slice (some ⟨vb,0,none⟩) n n] :: seg true hb 0 (held.map .bool) :: seg true vb 0 vals :: L)) :
  Calls Tryz.prog 95 #[.pointer (some ⟨b,0,none⟩), .int .i64 k] w fun e w' =>
   e = .returned (.tuple #[x, .int .i64 0]) ∧ Sat W0 w' (seg true b 0 [.slice (some ⟨hb,0,none⟩) n n, .slice (some ⟨vb,0,none⟩) n n] :: seg true hb 0 ((held.set k false).map .bool) :: seg true vb 0 (vals.set k .nilIface) :: L) := by
 have hkn : k < n := by rw [← hv]; exact (List.getElem?_eq_some_iff.1 hx).1
 have hg := get_yes_th k hyes hx hn hv hp hsm hs
 go_enter Tryz.func95, Tryz.ntmps95
 go_wp2_with fail
 refine hg.mono ?_
 rintro e w1 ⟨rfl, hs1⟩
 clear hg hs
 have hs := hs1
 clear hs1
 have c0 := hs.at 0 rfl
 have c1 := hs.at 1 rfl
 have s1 : Sat W0 w1 (seg true hb 0 (held.map .bool) :: _) := hs.pull 1
 have s2 : Sat W0 w1 (seg true vb 0 vals :: _) := hs.pull 2
 have lh : 0 < (held.map Value.bool).length := by simp; omega
 have lv : 0 < vals.length := by omega
 have n1 : b ≠ hb := hs.ne' (by simp) lh
 have n2 : b ≠ vb := (hs.pick [0, 2] : Sat W0 w1 (seg true b 0 _ :: seg true vb 0 vals :: _)).ne' (by simp) lv
 have n3 : hb ≠ vb := (hs.pick [1, 2] : Sat W0 w1 (seg true hb 0 (held.map .bool) :: seg true vb 0 vals :: _)).ne' lh lv
 have z0 := hs.lt (by simp)
 have z1 := s1.lt lh
 have z2 := s2.lt lv
 clear lh lv
 have e0 := s1.at k (bool_at held k (by omega))
 have f0 := s1.fr k (by rw [List.length_map]; omega)
 have e1 := s2.at k (v := x) hx
 have f1 := s2.fr k (List.getElem?_eq_some_iff.1 hx).1
 have H := Lib.hid (And.intro hn hv); clear hn hv hx hyes
 go_wp2
 go_region
 go_wp2
 go_ret2
 refine ⟨rfl, ?_⟩
 have s3 := (s1.store (i := k) (by rw [List.length_map, H.out.1]; exact hkn) (.bool false) (q := k) (by simp) : Sat W0 (w1.setCell ⟨hb, k, none⟩ (.bool false)) _)
 have s4 : Sat W0 _ (seg true vb 0 vals :: _) := s3.pull 2
 have s5 := (s4.store (i := k) (by rw [H.out.2]; exact hkn) .nilIface (q := k) (by simp)).drew.pick [2, 1, 0]
 exact s5.to (by simp [pick, List.map_set])
end Go.Proofs.YtbefjaodpbgpcaaGreat
