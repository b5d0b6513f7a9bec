/- The walk of TableLeast: for any bound and any calls it returns true, and what was there stays. -/
import Derived.Test.YtgdjhegefemkaaaLawA
namespace Go.Proofs.Ytgdjhegefemkaaa
open Go.RowKit Go.Sep
set_option linter.unusedVariables false
set_option linter.unusedSimpArgs false
abbrev tabAct (b hb vb n : Nat) (held : List Bool) (vals : List A4) (L : List Assn) : List Assn := seg true b 0 [.slice (some ⟨hb,0,none⟩) n n, .slice (some ⟨vb,0,none⟩) n n] :: seg true hb 0 (held.map .bool) :: seg true vb 0 (vals.flatMap enc4) :: L
/-- Calls that came in: a slice of them, each four numbers. -/
def IsActs (W : World) (a : Option Addr) (len : Nat) (acts : List A4) : Prop :=
  acts.length = len ∧ len ≤ 9223372036854775807 ∧ ∀ i x, acts[i]? = some x → ∃ b o, a = some ⟨b, o, none⟩ ∧
    W.cell? ⟨b, o + i * 4, none⟩ = some (.int .i64 x.1) ∧ W.cell? ⟨b, o + i * 4 + 1, none⟩ = some (.int .i64 x.2.1) ∧
    W.cell? ⟨b, o + i * 4 + 2, none⟩ = some (.int .i64 x.2.2.1) ∧ W.cell? ⟨b, o + i * 4 + 3, none⟩ = some (.int .i64 x.2.2.2) ∧
    (-9223372036854775808 ≤ x.2.1 ∧ x.2.1 ≤ 9223372036854775807) ∧ (-9223372036854775808 ≤ x.2.2.1 ∧ x.2.2.1 ≤ 9223372036854775807)
/-- What the table holds, and what is remembered of it, agree. -/
def Agree (held : List Bool) (vals vals2 : List A4) : Prop := ∀ i, held.getD i false = true → vals2[i]? = vals[i]?
theorem count_set_true (held : List Bool) (i : Nat) (hi : i < held.length) (h : held.getD i false = false) : (held.set i true).count true = held.count true + 1 := by
  have h' : held[i] = false := by simpa [hi] using h
  rw [List.count_set hi]
  simp [h']
theorem count_set_false (held : List Bool) (i : Nat) (hi : i < held.length) (h : held.getD i false = true) : (held.set i false).count true + 1 = held.count true := by
  have h' : held[i] = true := by simpa [hi] using h
  rw [List.count_set hi]
  simp [h']
  have : 0 < held.count true := List.count_pos_iff.2 (h' ▸ List.getElem_mem hi)
  omega
theorem getD_set (held : List Bool) (i j : Nat) (v : Bool) (hi : i < held.length) : (held.set i v).getD j false = if i = j then v else held.getD j false := by
  by_cases e : i = j
  · subst e; simp [hi]
  · simp [e, List.getElem?_set_ne e]
theorem Agree.add {held : List Bool} {vals vals2 : List A4} (h : Agree held vals vals2) (i : Nat) (v : A4) (hi : i < held.length) (h1 : vals.length = held.length) (h2 : vals2.length = held.length) : Agree (held.set i true) (vals.set i v) (vals2.set i v) := by
  intro j hj
  rw [getD_set held i j true hi] at hj
  by_cases e : i = j
  · subst e; simp [List.getElem?_set_self, h1, h2, hi]
  · rw [if_neg e] at hj
    rw [List.getElem?_set_ne e, List.getElem?_set_ne e]
    exact h j hj
theorem Agree.set {held : List Bool} {vals vals2 : List A4} (h : Agree held vals vals2) (i : Nat) (v : A4) (hi : i < held.length) (h1 : vals.length = held.length) (h2 : vals2.length = held.length) : Agree held (vals.set i v) (vals2.set i v) := by
  intro j hj
  by_cases e : i = j
  · subst e; simp [List.getElem?_set_self, h1, h2, hi]
  · rw [List.getElem?_set_ne e, List.getElem?_set_ne e]
    exact h j hj
theorem Agree.drop {held : List Bool} {vals vals2 : List A4} (h : Agree held vals vals2) (i : Nat) (v : A4) (hi : i < held.length) : Agree (held.set i false) (vals.set i v) vals2 := by
  intro j hj
  rw [getD_set held i j false hi] at hj
  by_cases e : i = j
  · rw [if_pos e] at hj; simp at hj
  · rw [if_neg e] at hj
    rw [List.getElem?_set_ne e]
    exact h j hj
theorem row4 {W0 w : World} {L : List Assn} {b k : Nat} {vals : List A4} {y : A4} (s : Sat W0 w (seg true b 0 (vals.flatMap enc4) :: L)) (hy : vals[k]? = some y) :
    (w.cell? ⟨b, k * 4, none⟩ = some (.int .i64 y.1) ∧ w.cell? ⟨b, k * 4 + 1, none⟩ = some (.int .i64 y.2.1) ∧ w.cell? ⟨b, k * 4 + 2, none⟩ = some (.int .i64 y.2.2.1) ∧ w.cell? ⟨b, k * 4 + 3, none⟩ = some (.int .i64 y.2.2.2)) ∧
    w.frozen? ⟨b, k * 4, none⟩ = false ∧ w.frozen? ⟨b, k * 4 + 1, none⟩ = false ∧ w.frozen? ⟨b, k * 4 + 2, none⟩ = false ∧ w.frozen? ⟨b, k * 4 + 3, none⟩ = false := by
  have hk := (List.getElem?_eq_some_iff.1 hy).1
  have hyk : vals[k] = y := (List.getElem?_eq_some_iff.1 hy).2
  have hl : k * 4 + 4 ≤ (vals.flatMap enc4).length := by rw [fm_len len4, ← Nat.succ_mul]; exact Nat.mul_le_mul_right _ hk
  have g : ∀ j, j < 4 → (vals.flatMap enc4)[k * 4 + j]? = (enc4 y)[j]? := fun j hj => by rw [fm_get len4 vals k j hk hj, hyk]
  exact ⟨⟨s.at _ (g 0 (by omega)), s.at _ (g 1 (by omega)), s.at _ (g 2 (by omega)), s.at _ (g 3 (by omega))⟩, s.fr _ (by omega), s.fr _ (by omega), s.fr _ (by omega), s.fr _ (by omega)⟩
theorem store4 {W0 w : World} {L : List Assn} {b k : Nat} {vals : List A4} (s : Sat W0 w (seg true b 0 (vals.flatMap enc4) :: L)) (hk : k < vals.length) (x : A4) :
    Sat W0 ((((w.setCell ⟨b, k * 4, none⟩ (.int .i64 x.1)).setCell ⟨b, k * 4 + 1, none⟩ (.int .i64 x.2.1)).setCell ⟨b, k * 4 + 2, none⟩ (.int .i64 x.2.2.1)).setCell ⟨b, k * 4 + 3, none⟩ (.int .i64 x.2.2.2)) (seg true b 0 ((vals.set k x).flatMap enc4) :: L) := by
  have hl : k * 4 + 4 ≤ (vals.flatMap enc4).length := by rw [fm_len len4, ← Nat.succ_mul]; exact Nat.mul_le_mul_right _ hk
  have q0 := s.store (i := k * 4) (by omega) (.int .i64 x.1) (q := k * 4) (by simp)
  have q1 := q0.store (i := k * 4 + 1) (by simp only [List.length_set]; omega) (.int .i64 x.2.1) (q := k * 4 + 1) (by simp)
  have q2 := q1.store (i := k * 4 + 2) (by simp only [List.length_set]; omega) (.int .i64 x.2.2.1) (q := k * 4 + 2) (by simp)
  have q3 := q2.store (i := k * 4 + 3) (by simp only [List.length_set]; omega) (.int .i64 x.2.2.2) (q := k * 4 + 3) (by simp)
  have hst := fm_set len4 vals k hk x
  rw [← hst]
  exact q3
/-- What holds at the head of every round. -/
def Inv (W0 : World) (b hb vb hB vB n : Nat) (c : Value) (wr : World) : Prop :=
  ∃ held vals vals2, held.length = n ∧ vals.length = n ∧ vals2.length = n ∧ Agree held vals vals2 ∧ c = .int .i64 (held.count true : Nat) ∧
    Sat W0 wr (tabAct b hb vb n held vals [seg true hB 0 (held.map .bool), seg true vB 0 (vals2.flatMap enc4)])
set_option maxRecDepth 100000 in
set_option maxHeartbeats 8000000 in
theorem least_walk (W0 : World) (most : Int) (a : Option Addr) (len cap : Nat) (acts : List A4) (h1 : 1 ≤ most) (h2 : most ≤ 64) (ha : IsActs W0 a len acts) :
    Calls Try.prog 3 #[.int .i64 most, .slice a len cap] W0 fun e w' => e = .returned (.bool true) ∧ Below W0.heap.size W0 w' := by
  obtain ⟨hal, hamx, hac⟩ := ha
  have Hal := Lib.hid hal; clear hal
  obtain ⟨n, hn⟩ : ∃ n : Nat, most = n := ⟨most.toNat, by omega⟩
  subst hn
  have h3 : 0 < n := by omega
  have h4 : n ≤ 64 := by omega
  obtain ⟨i4, hi4, hz4, hs4, hb4⟩ := info_parts Try.infoBool
  obtain ⟨i3, hi3, hz3, hs3, hb3⟩ := info_parts Try.info_act
  have hm1 := fun w => run_make (P := Try.prog) w 30 4 i4 (.bool false) Try.underlying30 hi4 hz4 .i64 .i64 n n (by omega) (by omega) (by rw [hb4]; omega) (by omega)
  have hm2 := fun w => run_make (P := Try.prog) w 22 29 i3 _ Try.underlying22 hi3 hz3 .i64 .i64 n n (by omega) (by omega) (by rw [hb3]; omega) (by omega)
  rw [hs4] at hm1
  rw [hs3] at hm2
  simp only [Int.toNat_natCast] at hm1 hm2
  clear hi4 hz4 hs4 hb4 hi3 hz3 hs3 hb3
  go_enter Try.func3, Try.ntmps3
  go_wp2_with fail
  refine (awake_any (Sat.nil W0)).mono ?_
  rintro e w1 ⟨rfl, s⟩
  go_wp2_with fail
  refine (new_act n h1 h2 s).mono ?_
  rintro e w2 ⟨b, hb, vb, rfl, s2⟩
  simp only [Int.toNat_natCast] at s2
  clear s
  go_wp2_with fail
  have s3 := ((s2.make (.bool false) n 4).alloc (madeCells #[.int .i64 0, .int .i64 0, .int .i64 0, .int .i64 0] (n * 4)) 29).pick [2, 3, 4, 1, 0]
  go_loopw [10, 11] (fun t10 t11 wr => ∃ i : Nat, i ≤ len ∧ t11 = .int .i64 i ∧ Inv W0 b hb vb w2.heap.size (w2.heap.size + 1) n t10 wr) (fun _ t11 _ => len - (intOf t11).toNat)
  case atStart =>
    refine ⟨0, Nat.zero_le _, rfl, List.replicate n false, List.replicate n (0, 0, 0, 0), List.replicate n (0, 0, 0, 0), by simp, by simp, by simp, ?_, by simp [List.count_replicate], s3.to (by simp [pick, made_toList_act])⟩
    intro i hi
    exact absurd hi (by simp [List.getElem?_replicate]; split <;> simp)
  case round =>
    obtain ⟨i, hi, rfl, held, vals, vals2, hl1, hl2, hl3, hag, rfl, hs⟩ := hrel
    by_cases hlt : i < len
    · obtain ⟨⟨x0, x1, x2, x3⟩, hx⟩ : ∃ x, acts[i]? = some x := ⟨acts[i]'(by rw [Hal.out]; exact hlt), by simp⟩
      obtain ⟨ab, ao, rfl, e0, e1, e2, e3, bd1, bd2⟩ := hac i _ hx
      have e0 := hs.old e0
      have e1 := hs.old e1
      have e2 := hs.old e2
      have e3 := hs.old e3
      dsimp only at e0 e1 e2 e3 bd1 bd2
      have H := Lib.hid (And.intro hl1 (And.intro hl2 hl3)); clear hl1 hl2 hl3 hx
      go_wp2_with fail
      refine (pick_any _ _ _ bd2 ⟨by omega, by omega⟩).mono ?_
      rintro e w3 ⟨⟨k, hk, rfl⟩, rfl⟩
      go_wp2_with fail
      refine (pick_any _ _ _ bd1 ⟨by omega, by omega⟩).mono ?_
      rintro e w3 ⟨⟨kd, hkd, rfl⟩, rfl⟩
      have hkd : kd = 0 ∨ kd = 1 ∨ kd = 2 := by omega
      have ss : Sat W0 _ (tabAct b hb vb n held vals (seg true wr.heap.size 0 [.int .i64 x0, .int .i64 x1, .int .i64 x2, .int .i64 x3] :: [seg true w2.heap.size 0 (held.map .bool), seg true (w2.heap.size + 1) 0 (vals2.flatMap enc4)])) := (hs.alloc #[.int .i64 x0, .int .i64 x1, .int .i64 x2, .int .i64 x3] 29).pick [1, 2, 3]
      have kk : k < n := by omega
      rcases hkd with rfl | rfl | rfl
      · go_wp2_with fail
        have sB : Sat W0 _ (seg true w2.heap.size 0 (held.map .bool) :: _) := ss.pull 4
        go_loop [14] (fun t14 => ∃ l : Nat, l ≤ n ∧ t14 = .int .i64 l ∧ ∀ j, j < l → held.getD j false = true) (fun t14 => n - (intOf t14).toNat)
        case atStart => exact ⟨0, Nat.zero_le _, rfl, by intro j h; omega⟩
        case round =>
          obtain ⟨l, hll, rfl, hall⟩ := hrel
          by_cases hln : l < n
          · have g0 := sB.at l (bool_at held l (by rw [H.out.1]; exact hln))
            by_cases hd : held.getD l false = true
            · rw [hd] at g0
              have hd' := Lib.hid hd; clear hd
              go_wp2
              go_round
              case rel => exact ⟨l+1, by omega, by go_num, by intro j hj; rcases Nat.lt_succ_iff_lt_or_eq.1 hj with h | rfl; exact hall j h; exact hd'.out⟩
              case measure => simp [intOf]; omega
            · have hd2 : held.getD l false = false := by simpa using hd
              rw [hd2] at g0
              have hd' := Lib.hid hd2; clear hd hd2
              go_wp2_with fail
              refine (add_act (n := n) (held := held) (vals := vals) (x0, x1, x2, x3) H.out.1 H.out.2.1 h3 h4 ss).mono ?_
              rintro e w4 (⟨q, hq, hall2, hno2, rfl, s4⟩ | ⟨hall2, -⟩)
              rotate_left
              · exact absurd (hall2 l hln) (by rw [hd'.out]; simp)
              obtain rfl : q = l := by
                rcases Nat.lt_trichotomy q l with h | h | h
                · exact absurd (hall q h) (by rw [hno2]; simp)
                · exact h
                · exact absurd (hall2 l h) (by rw [hd'.out]; simp)
              clear hall2 hno2 hall g0 sB
              have sH : Sat W0 w4 (seg true w2.heap.size 0 (held.map .bool) :: _) := s4.pull 4
              have sV : Sat W0 w4 (seg true (w2.heap.size + 1) 0 (vals2.flatMap enc4) :: _) := s4.pull 5
              have sA : Sat W0 w4 (seg true wr.heap.size 0 [.int .i64 x0, .int .i64 x1, .int .i64 x2, .int .i64 x3] :: _) := s4.pull 3
              have a0 := sA.at 0 rfl
              have a1 := sA.at 1 rfl
              have a2 := sA.at 2 rfl
              have a3 := sA.at 3 rfl
              have nA : wr.heap.size ≠ w2.heap.size := (s4.pick [3, 4] : Sat W0 w4 (seg true wr.heap.size 0 [.int .i64 x0, .int .i64 x1, .int .i64 x2, .int .i64 x3] :: seg true w2.heap.size 0 (held.map .bool) :: _)).ne' (by simp) (by simp; rw [H.out.1]; exact h3)
              have g0 := sH.at q (bool_at held q (by rw [H.out.1]; exact hln))
              have g1 := sH.fr q (by rw [List.length_map, H.out.1]; exact hln)
              obtain ⟨y, hy⟩ : ∃ y, vals2[q]? = some y := ⟨vals2[q]'(by rw [H.out.2.2]; exact hln), by simp⟩
              obtain ⟨⟨v0, v1, v2, v3⟩, r0, r1, r2, r3⟩ := row4 sV hy
              clear hy
              have hcb : held.count true ≤ n := by rw [← H.out.1]; exact List.count_le_length
              go_wp2
              go_roundw
              case rel =>
                have t1 := (sH.store (i := q) (by rw [List.length_map, H.out.1]; exact hln) (.bool true) (q := q) (by simp) : Sat W0 (w4.setCell ⟨w2.heap.size, q, none⟩ (.bool true)) _)
                have t2 : Sat W0 _ (seg true (w2.heap.size + 1) 0 (vals2.flatMap enc4) :: _) := t1.pull 5
                have t3 := store4 t2 (k := q) (by rw [H.out.2.2]; exact hln) (x0, x1, x2, x3)
                refine ⟨i + 1, by omega, by go_num, held.set q true, vals.set q (x0, x1, x2, x3), vals2.set q (x0, x1, x2, x3), by simp [H.out.1], by simp [H.out.2.1], by simp [H.out.2.2], hag.add q _ (by rw [H.out.1]; exact hln) (by rw [H.out.1, H.out.2.1]) (by rw [H.out.1, H.out.2.2]), ?_, ?_⟩
                · rw [count_set_true held q (by rw [H.out.1]; exact hln) hd'.out]; go_num
                · exact ((t3.pick [2, 3, 4, 5, 1, 0]).drop 3).to (by simp [pick, List.map_set])
              case measure => simp [intOf]; omega
          · obtain rfl : l = n := by omega
            go_wp2_with fail
            refine (add_act (n := l) (held := held) (vals := vals) (x0, x1, x2, x3) H.out.1 H.out.2.1 h3 h4 ss).mono ?_
            rintro e w4 (⟨q, hq, hall2, hno2, -⟩ | ⟨hall2, rfl, s4⟩)
            · exact absurd (hall q hq) (by rw [hno2]; simp)
            clear hall hall2 sB
            go_wp2
            go_roundw
            case rel => exact ⟨i + 1, by omega, by go_num, held, vals, vals2, H.out.1, H.out.2.1, H.out.2.2, hag, rfl, (s4.drop 3).to (by simp)⟩
            case measure => simp [intOf]; omega
      · by_cases hd : held.getD k false = true
        · obtain ⟨⟨y0, y1, y2, y3⟩, hy⟩ : ∃ y, vals[k]? = some y := ⟨vals[k]'(by rw [H.out.2.1]; exact kk), by simp⟩
          have hy2 := (hag k hd).trans hy
          have hd' := Lib.hid hd; clear hd
          go_wp2_with fail
          refine (drop_yes_act (n := n) (held := held) (vals := vals) k hd'.out hy H.out.1 H.out.2.1 h3 h4 ss).mono ?_
          rintro e w4 ⟨rfl, s4⟩
          have sH : Sat W0 w4 (seg true w2.heap.size 0 (held.map .bool) :: _) := s4.pull 4
          have sV : Sat W0 w4 (seg true (w2.heap.size + 1) 0 (vals2.flatMap enc4) :: _) := s4.pull 5
          have g0 := sH.at k (bool_at held k (by rw [H.out.1]; exact kk))
          have g1 := sH.fr k (by rw [List.length_map, H.out.1]; exact kk)
          rw [hd'.out] at g0
          obtain ⟨⟨v0, v1, v2, v3⟩, -⟩ := row4 sV hy2
          have zH := sH.lt (by simp; rw [H.out.1]; exact h3)
          have zV := sV.lt (by rw [fm_len len4, H.out.2.2]; omega)
          have hcb : held.count true ≤ n := by rw [← H.out.1]; exact List.count_le_length
          have hct := count_set_false held k (by rw [H.out.1]; exact kk) hd'.out
          have hcp : 1 ≤ held.count true := by omega
          have Hct := Lib.hid hct; clear hct hy hy2 ss
          go_wp2_with fail
          go_quiet (fail)
          go_wp2
          go_roundw
          case rel =>
            refine ⟨i + 1, by omega, by go_num, held.set k false, vals.set k (0, 0, 0, 0), vals2, by simp [H.out.1], by simp [H.out.2.1], H.out.2.2, hag.drop k _ (by rw [H.out.1]; exact kk), ?_, ?_⟩
            · have := Hct.out
              rw [show ((held.count true : Nat) : Int) - 1 = (((held.set k false).count true : Nat) : Int) by omega]
            · exact ((((((s4.alloc _ _).tail.drewN _).pull 4 : Sat W0 _ (seg true w2.heap.size 0 (held.map .bool) :: _)).store (i := k) (by rw [List.length_map, H.out.1]; exact kk) (.bool false) (q := k) (by simp)).pick [1, 2, 3, 0, 5]).drop 5).to (by simp [pick, List.map_set])
          case measure => simp [intOf]; omega
        · have hd2 : held.getD k false = false := by simpa using hd
          have hno : (decide (0 ≤ (k : Int)) && held.getD (k : Int).toNat false) = false := by rw [Int.toNat_natCast, hd2]; simp
          have hd' := Lib.hid hd2; clear hd hd2
          go_wp2_with fail
          refine (drop_no_act (n := n) (held := held) (vals := vals) k hno H.out.1 H.out.2.1 h3 h4 ss).mono ?_
          rintro e w4 ⟨rfl, s4⟩
          have sH : Sat W0 w4 (seg true w2.heap.size 0 (held.map .bool) :: _) := s4.pull 4
          have g0 := sH.at k (bool_at held k (by rw [H.out.1]; exact kk))
          rw [hd'.out] at g0
          have zH := sH.lt (by simp; rw [H.out.1]; exact h3)
          clear ss hno
          go_wp2_with fail
          go_quiet (fail)
          go_wp2
          go_roundw
          case rel => exact ⟨i + 1, by omega, by go_num, held, vals, vals2, H.out.1, H.out.2.1, H.out.2.2, hag, rfl, ((s4.alloc _ _).tail.drewN _).drop 3⟩
          case measure => simp [intOf]; omega
      · by_cases hd : held.getD k false = true
        · have hd' := Lib.hid hd; clear hd
          have sA0 : Sat W0 _ (seg true wr.heap.size 0 [.int .i64 x0, .int .i64 x1, .int .i64 x2, .int .i64 x3] :: _) := ss.pull 3
          go_wp2_with fail
          refine (set_yes_act (n := n) (held := held) (vals := vals) k (x0, x1, x2, x3) hd'.out kk H.out.1 H.out.2.1 h3 h4 ss).mono ?_
          rintro e w4 ⟨rfl, s4⟩
          have sH : Sat W0 w4 (seg true w2.heap.size 0 (held.map .bool) :: _) := s4.pull 4
          have sV : Sat W0 w4 (seg true (w2.heap.size + 1) 0 (vals2.flatMap enc4) :: _) := s4.pull 5
          have sA : Sat W0 w4 (seg true wr.heap.size 0 [.int .i64 x0, .int .i64 x1, .int .i64 x2, .int .i64 x3] :: _) := s4.pull 3
          have a0 := sA.at 0 rfl
          have a1 := sA.at 1 rfl
          have a2 := sA.at 2 rfl
          have a3 := sA.at 3 rfl
          have g0 := sH.at k (bool_at held k (by rw [H.out.1]; exact kk))
          rw [hd'.out] at g0
          obtain ⟨y, hy⟩ : ∃ y, vals2[k]? = some y := ⟨vals2[k]'(by rw [H.out.2.2]; exact kk), by simp⟩
          obtain ⟨⟨v0, v1, v2, v3⟩, r0, r1, r2, r3⟩ := row4 sV hy
          clear hy ss sA0
          go_wp2
          go_roundw
          case rel => exact ⟨i + 1, by omega, by go_num, held, vals.set k (x0, x1, x2, x3), vals2.set k (x0, x1, x2, x3), H.out.1, by simp [H.out.2.1], by simp [H.out.2.2], hag.set k _ (by rw [H.out.1]; exact kk) (by rw [H.out.1, H.out.2.1]) (by rw [H.out.1, H.out.2.2]), rfl,
              ((store4 sV (k := k) (by rw [H.out.2.2]; exact kk) (x0, x1, x2, x3)).pick [1, 2, 3, 5, 0] |>.drop 5).to (by simp [pick])⟩
          case measure => simp [intOf]; omega
        · have hd2 : held.getD k false = false := by simpa using hd
          have hno : (decide (0 ≤ (k : Int)) && held.getD (k : Int).toNat false) = false := by rw [Int.toNat_natCast, hd2]; simp
          have hd' := Lib.hid hd2; clear hd hd2
          go_wp2_with fail
          refine (set_no_act (n := n) (held := held) (vals := vals) k (x0, x1, x2, x3) hno H.out.1 H.out.2.1 h3 h4 ss).mono ?_
          rintro e w4 ⟨rfl, s4⟩
          have sH : Sat W0 w4 (seg true w2.heap.size 0 (held.map .bool) :: _) := s4.pull 4
          have g0 := sH.at k (bool_at held k (by rw [H.out.1]; exact kk))
          rw [hd'.out] at g0
          clear ss hno
          go_wp2
          go_roundw
          case rel => exact ⟨i + 1, by omega, by go_num, held, vals, vals2, H.out.1, H.out.2.1, H.out.2.2, hag, rfl, s4.drop 3⟩
          case measure => simp [intOf]; omega
    · have H := Lib.hid (And.intro hl1 (And.intro hl2 hl3)); clear hl1 hl2 hl3
      have hcb : held.count true ≤ n := by rw [← H.out.1]; exact List.count_le_length
      go_wp2_with fail
      go_loopw [20] (fun t20 wq => ∃ k : Nat, k ≤ n ∧ t20 = .int .i64 k ∧ Sat W0 wq (tabAct b hb vb n held vals [seg true w2.heap.size 0 (held.map .bool), seg true (w2.heap.size + 1) 0 (vals2.flatMap enc4)])) (fun t20 _ => n - (intOf t20).toNat)
      case atStart => exact ⟨0, Nat.zero_le _, rfl, hs⟩
      case round =>
        obtain ⟨k, hk, rfl, ss⟩ := hrel
        by_cases hkn : k < n
        · by_cases hd : held.getD k false = true
          · obtain ⟨⟨y0, y1, y2, y3⟩, hy⟩ : ∃ y, vals[k]? = some y := ⟨vals[k]'(by rw [H.out.2.1]; exact hkn), by simp⟩
            have hy2 := (hag k hd).trans hy
            have hd' := Lib.hid hd; clear hd
            go_wp2_with fail
            refine (get_yes_act (n := n) (held := held) (vals := vals) k hd'.out hy H.out.1 H.out.2.1 h3 h4 ss).mono ?_
            rintro e w4 ⟨rfl, s4⟩
            have sH : Sat W0 w4 (seg true w2.heap.size 0 (held.map .bool) :: _) := s4.pull 3
            have sV : Sat W0 w4 (seg true (w2.heap.size + 1) 0 (vals2.flatMap enc4) :: _) := s4.pull 4
            have g0 := sH.at k (bool_at held k (by rw [H.out.1]; exact hkn))
            rw [hd'.out] at g0
            obtain ⟨⟨v0, v1, v2, v3⟩, -⟩ := row4 sV hy2
            have zH := sH.lt (by simp; rw [H.out.1]; exact h3)
            have zV := sV.lt (by rw [fm_len len4, H.out.2.2]; omega)
            clear ss hy hy2
            go_wp2_with fail
            go_quiet (fail)
            go_wp2
            go_roundw
            case rel => exact ⟨k + 1, by omega, by go_num, (s4.alloc _ _).tail.drewN _⟩
            case measure => simp [intOf]; omega
          · have hd2 : held.getD k false = false := by simpa using hd
            have hno : (decide (0 ≤ (k : Int)) && held.getD (k : Int).toNat false) = false := by rw [Int.toNat_natCast, hd2]; simp
            have hd' := Lib.hid hd2; clear hd hd2
            go_wp2_with fail
            refine (get_no_act (n := n) (held := held) (vals := vals) k hno H.out.1 H.out.2.1 h3 h4 ss).mono ?_
            rintro e w4 ⟨rfl, s4⟩
            have sH : Sat W0 w4 (seg true w2.heap.size 0 (held.map .bool) :: _) := s4.pull 3
            have g0 := sH.at k (bool_at held k (by rw [H.out.1]; exact hkn))
            rw [hd'.out] at g0
            have zH := sH.lt (by simp; rw [H.out.1]; exact h3)
            clear ss hno
            go_wp2_with fail
            go_quiet (fail)
            go_wp2
            go_roundw
            case rel => exact ⟨k + 1, by omega, by go_num, (s4.alloc _ _).tail.drewN _⟩
            case measure => simp [intOf]; omega
        · obtain rfl : k = n := by omega
          go_wp2_with fail
          refine (len_act (n := k) (held := held) (vals := vals) H.out.1 H.out.2.1 h3 h4 ss).mono ?_
          rintro e w4 ⟨rfl, rfl⟩
          go_wp2_with fail
          refine (full_act (n := k) (held := held) (vals := vals) H.out.1 H.out.2.1 h3 h4 ss).mono ?_
          rintro e w4 ⟨rfl, nq, rfl⟩
          go_wp2
          go_ret
          exact ⟨by simp, (ss.drewN nq).below⟩
end Go.Proofs.Ytgdjhegefemkaaa
