
/- The contracts of the ledger: what Note, NoteTimes, New, Len, Runs do; each under the conditions that it names. -/
import Derived.Test.YtlmababpmmhhoaaGreatWpl
import Derived.Test.YtlmababpmmhhoaaGreatBv
import Derived.Test.YtlmababpmmhhoaaGreatRows
import Derived.WalkKit
import Derived.WalkSpells
import Derived.WalkLawsBesides
import Derived.RegionTactic
import Derived.ChangeAlike
import Derived.BigRegion
import Derived.Deep.QuietTactic
import Derived.BigQuiet
import Derived.StillTailTactics
import Derived.Deep.RegionLaw
namespace Go.Proofs.YtlmababpmmhhoaaGreat
open Go.RowKit Go.Sep Go.Bv
set_option linter.unusedVariables false
set_option linter.unusedSimpArgs false
/-- A run: an event's kind and size, and how many. -/
abbrev Run3 := Int × Int × Nat
def enc3 (r : Run3) : List Value := [.int .u8 r.1, .int .i64 r.2.1, .int .i64 (r.2.2 : Int)]
theorem len3 (r : Run3) : (enc3 r).length = 3 := rfl
def tot : List Run3 → Nat
  | [] => 0
  | r :: rs => r.2.2 + tot rs
theorem tot_append (a b : List Run3) : tot (a ++ b) = tot a + tot b := by
  induction a with
  | nil => simp [tot]
  | cons r rs ih => simp [tot, ih, Nat.add_assoc]
def note (rs : List Run3) (k s : Int) (n : Nat) : List Run3 :=
  match rs.getLast? with
  | some r => if r.1 = k ∧ r.2.1 = s then rs.dropLast ++ [(k, s, r.2.2 + n)] else rs ++ [(k, s, n)]
  | none => [(k, s, n)]
theorem tot_note (rs : List Run3) (k s : Int) (n : Nat) : tot (note rs k s n) = tot rs + n := by
  unfold note
  rcases List.eq_nil_or_concat rs with rfl | ⟨l, r, rfl⟩
  · simp [tot]
  · by_cases h : r.1 = k ∧ r.2.1 = s <;> simp [h, tot_append, tot, Nat.add_assoc]
theorem note_len (rs : List Run3) (k s : Int) (n : Nat) : (note rs k s n).length ≤ rs.length + 1 := by
  unfold note
  split
  · split <;> simp
  · simp
def led (l : Nat) (rs : List Run3) : Assn := fun x => ∃ q : Option Addr × Nat, sep (seg true l 0 [.slice q.1 rs.length q.2, .int .i64 (tot rs : Int)]) (row q.1 q.2 3 rs.length (rs.flatMap enc3)) x
/-- The ledger that a pointer leads to: none, or one. -/
def ledO (p : Option Nat) (rs : List Run3) : Assn := match p with | none => emp | some l => led l rs
abbrev ptrO (p : Option Nat) : Value := .pointer (p.map fun l => ⟨l, 0, none⟩)
theorem ledOpen {W0 w : World} {L : List Assn} {l : Nat} {rs : List Run3} (h : Sat W0 w (led l rs :: L)) : ∃ p c, Sat W0 w (seg true l 0 [.slice p rs.length c, .int .i64 (tot rs : Int)] :: row p c 3 rs.length (rs.flatMap enc3) :: L) := by
  obtain ⟨q, h⟩ := h.exOpen
  exact ⟨q.1, q.2, h.sepOpen⟩
theorem ledShut {W0 w : World} {L : List Assn} {l : Nat} {rs : List Run3} {p : Option Addr} {c : Nat} (h : Sat W0 w (seg true l 0 [.slice p rs.length c, .int .i64 (tot rs : Int)] :: row p c 3 rs.length (rs.flatMap enc3) :: L)) : Sat W0 w (led l rs :: L) :=
  Sat.exShut (A := fun q : Option Addr × Nat => sep (seg true l 0 [.slice q.1 rs.length q.2, .int .i64 (tot rs : Int)]) (row q.1 q.2 3 rs.length (rs.flatMap enc3))) (p, c) h.sepShut
theorem Tryz.info_run : (Tryz.prog.info? 82).map (fun i => (i.zero, i.size, i.bytes)) = some (some (.agg #[.int .u8 0, .int .i64 0, .int .i64 0]), 3, 24) := by kernel_rfl
set_option maxHeartbeats 1000000 in
theorem noteTimes_nil (w : World) (k s : Int) (n : Int) : Calls Tryz.prog 93 #[.pointer none, .agg #[.int .u8 k, .int .i64 s], .int .i64 n] w fun e w' => e = .returned (.tuple #[]) ∧ w.alloc (.cells #[.int .u8 k, .int .i64 s] 59) = w' := by
  go_enter Tryz.func93, Tryz.ntmps93
  go_wp2
  exact bodyPost_ret (v := .tuple #[]) (by simp [results, Tryz.results93, go_sem]) rfl ⟨rfl, rfl⟩
theorem row3 {W0 w : World} {L : List Assn} {m : Bool} {b k : Nat} {rs : List Run3} {rest : List Value} {y : Run3} (s : Sat W0 w (seg m b 0 (rs.flatMap enc3 ++ rest) :: L)) (hy : rs[k]? = some y) :
    w.cell? ⟨b, k * 3, none⟩ = some (.int .u8 y.1) ∧ w.cell? ⟨b, k * 3 + 1, none⟩ = some (.int .i64 y.2.1) ∧ w.cell? ⟨b, k * 3 + 2, none⟩ = some (.int .i64 (y.2.2 : Int)) := by
  have hk := (List.getElem?_eq_some_iff.1 hy).1
  have hyk : rs[k] = y := (List.getElem?_eq_some_iff.1 hy).2
  have hl : k * 3 + 3 ≤ (rs.flatMap enc3).length := by rw [fm_len len3, ← Nat.succ_mul]; exact Nat.mul_le_mul_right _ hk
  have g : ∀ j, j < 3 → (rs.flatMap enc3 ++ rest)[k * 3 + j]? = (enc3 y)[j]? := fun j hj => by
    rw [List.getElem?_append_left (by omega), fm_get len3 rs k j hk hj, hyk]
  exact ⟨s.at _ (g 0 (by omega)), s.at _ (g 1 (by omega)), s.at _ (g 2 (by omega))⟩
set_option maxRecDepth 100000 in
set_option maxHeartbeats 2000000 in
theorem noteTimes_new {W0 w : World} {L : List Assn} {l : Nat} (rs : List Run3) (k s : Int) (n : Nat) (hs : Sat W0 w (led l rs :: L)) (hn : 1 ≤ n) (hb : tot rs + n ≤ 4611686018427387904) (hl : rs.length ≤ 4294967296) (hne : ∀ r, rs.getLast? = some r → (r.1 == k && r.2.1 == s) = false) :
    Calls Tryz.prog 93 #[.pointer (some ⟨l, 0, none⟩), .agg #[.int .u8 k, .int .i64 s], .int .i64 (n : Int)] w fun e w' => e = .returned (.tuple #[]) ∧ Sat W0 w' (led l (rs ++ [(k, s, n)]) :: L) := by
  obtain ⟨p, c, s1⟩ := ledOpen hs
  have hr : Sat W0 w (row p c 3 rs.length (rs.flatMap enc3) :: seg true l 0 [.slice p rs.length c, .int .i64 (tot rs : Int)] :: L) := s1.pull 1
  obtain ⟨hrl, hro⟩ := hr.rowOpen
  have c0 := s1.at 0 rfl
  have c1 := s1.at 1 rfl
  have f0 := s1.fr 0 (by simp)
  have f1 := s1.fr 1 (by simp)
  have z1 := s1.lt (by simp)
  obtain ⟨i3, hi3, hz3, hs3, hb3⟩ := info_parts Tryz.info_run
  rcases List.eq_nil_or_concat rs with rfl | ⟨rs0, r, hrs⟩
  · go_enter Tryz.func93, Tryz.ntmps93
    go_wp2_with fail
    go_quiet (fail)
    go_wp2
    go_region_law (refine step_append (by rfl) (.tmp 58) (.tmp 62) 47 (by rfl) Tryz.underlying47 hi3 hz3 hs3 hb3 rfl (by decide) (p := p) (cp := c) (xs := ([] : List Run3).flatMap enc3) (n := ([] : List Run3).length) (L := seg true l 0 [.slice p ([] : List Run3).length c, .int .i64 (tot ([] : List Run3) + n)] :: L) (by exact ((((s1.store (i := 1) (by simp) (.int .i64 (tot ([] : List Run3) + n)) (q := 1) (by simp)).alloc #[.int .u8 k, .int .i64 s] 59).tail.drewN _).drew.alloc' _).pull 1) (by rfl) (some _) 1 1 (by rfl) (enc3 (k, s, n)) rfl (by exact ((((s1.store (i := 1) (by simp) (.int .i64 (tot ([] : List Run3) + n)) (q := 1) (by simp)).alloc #[.int .u8 k, .int .i64 s] 59).tail.drewN _).drew.allocAt #[.int .u8 k, .int .i64 s, .int .i64 n] 82 (by simp)).news) (fun h => by cases h) (by simp [enc3, Value.oneCell']) (by unfold maxLen; simp only [List.length_nil]; omega) (by simp only [List.length_nil]; omega) ?_; intro p' c' w' hs' _ _; have sl : Sat W0 w' (seg true l 0 [.slice p ([] : List Run3).length c, .int .i64 (tot ([] : List Run3) + n)] :: _) := hs'.pull 1; have k0 := sl.at 0 rfl; have k1 := sl.fr 0 (by simp))
    all_goals
      refine bodyPost_end (by simp [results, Tryz.results93, go_sem]) rfl ⟨rfl, ?_⟩
      have sl : Sat W0 w' (seg true l 0 [.slice p ([] : List Run3).length c, .int .i64 (tot ([] : List Run3) + n)] :: _) := hs'.pull 1
      refine ledShut (p := p') (c := c') ?_
      have st := sl.store (i := 0) (by simp) (.slice p' (([] : List Run3).length + 1) c') (q := 0) (by simp)
      refine st.to ?_
      simp [tot_append, tot, enc3]
  · obtain ⟨r0, r1, r2⟩ := r
    have hlast := hne (r0, r1, r2) (by rw [hrs]; simp)
    have hcase : (¬ r0 = k) ∨ (k = r0 ∧ ¬ r1 = s) := by
      by_cases h : r0 = k
      · exact .inr ⟨h.symm, by simpa [h] using hlast⟩
      · exact .inl h
    clear hlast
    have hlen : rs.length = rs0.length + 1 := by rw [hrs]; simp
    rcases hro with ⟨-, -, h0, -, -⟩ | ⟨g, rest, rfl, hcap, hmx, hcl, hg⟩
    · omega
    obtain ⟨y0, y1, y2⟩ := row3 hg (k := rs0.length) (y := (r0, r1, r2)) (by rw [hrs]; simp)
    have hgl : g ≠ l := (hg.pull 0 : Sat W0 w (seg true g 0 _ :: seg true l 0 _ :: _)).ne' (by rw [hcl]; omega) (by simp)
    have hgl' := hgl.symm
    have zg := hg.lt (by rw [hcl]; omega)
    have Hrs := Lib.hid hrs; clear hrs
    have e1 : (rs.length : Int) - 1 = (rs0.length : Int) := by omega
    have e2 : IntKind.i64.wrap (rs0.length : Int) = (rs0.length : Int) := by rw [IntKind.wrap_i64]; omega
    have d1 : decide (0 < rs.length) = true := by simp; omega
    have hlt : rs0.length < rs.length := by omega
    clear hlen
    rcases hcase with hk | ⟨rfl, hk⟩
    all_goals
      go_enter Tryz.func93, Tryz.ntmps93
      go_wp2_with fail
      go_quiet (fail)
      go_wp2
      go_region_law (refine step_append (by rfl) (.tmp 58) (.tmp 62) 47 (by rfl) Tryz.underlying47 hi3 hz3 hs3 hb3 rfl (by decide) (p := (some ⟨g, 0, none⟩)) (cp := c) (xs := rs.flatMap enc3) (n := rs.length) (L := seg true l 0 [.slice (some ⟨g, 0, none⟩) rs.length c, .int .i64 (tot rs + n)] :: L) (by exact ((((s1.store (i := 1) (by simp) (.int .i64 (tot rs + n)) (q := 1) (by simp)).alloc #[.int .u8 k, .int .i64 s] 59).tail.drewN _).drew.alloc' _).pull 1) (by rfl) (some _) 1 1 (by rfl) (enc3 (k, s, n)) rfl (by exact ((((s1.store (i := 1) (by simp) (.int .i64 (tot rs + n)) (q := 1) (by simp)).alloc #[.int .u8 k, .int .i64 s] 59).tail.drewN _).drew.allocAt #[.int .u8 k, .int .i64 s, .int .i64 n] 82 (by simp)).news) (fun h => by cases h) (by simp [enc3, Value.oneCell']) (by unfold maxLen; omega) (by omega) ?_; intro p' c' w' hs' _ _; have sl : Sat W0 w' (seg true l 0 [.slice (some ⟨g, 0, none⟩) rs.length c, .int .i64 (tot rs + n)] :: _) := hs'.pull 1; have k0 := sl.at 0 rfl; have k1 := sl.fr 0 (by simp))
      all_goals
        refine bodyPost_end (by simp [results, Tryz.results93, go_sem]) rfl ⟨rfl, ?_⟩
        have sl : Sat W0 w' (seg true l 0 [.slice (some ⟨g, 0, none⟩) rs.length c, .int .i64 (tot rs + n)] :: _) := hs'.pull 1
        refine ledShut (p := p') (c := c') ?_
        have st := sl.store (i := 0) (by simp) (.slice p' (rs.length + 1) c') (q := 0) (by simp)
        refine st.to ?_
        simp [tot_append, tot, enc3]
theorem set_last3 (rs : List Run3) (k s : Int) (c c' : Nat) (rest : List Value) : (((rs ++ [(k, s, c)]).flatMap enc3) ++ rest).set (rs.length * 3 + 2) (.int .i64 (c' : Int)) = (rs ++ [(k, s, c')]).flatMap enc3 ++ rest := by
  rw [List.flatMap_append, List.flatMap_append, List.append_assoc, List.append_assoc, List.set_append_right _ _ (by rw [fm_len len3]; omega), fm_len len3, Nat.add_sub_cancel_left]
  simp [enc3]
set_option maxRecDepth 100000 in
set_option maxHeartbeats 2000000 in
theorem noteTimes_same {W0 w : World} {L : List Assn} {l : Nat} (rs : List Run3) (k s : Int) (c n : Nat) (hs : Sat W0 w (led l (rs ++ [(k, s, c)]) :: L)) (hn : 1 ≤ n) (hb : tot (rs ++ [(k, s, c)]) + n ≤ 4611686018427387904) (hl : rs.length ≤ 4294967296) :
    Calls Tryz.prog 93 #[.pointer (some ⟨l, 0, none⟩), .agg #[.int .u8 k, .int .i64 s], .int .i64 (n : Int)] w fun e w' => e = .returned (.tuple #[]) ∧ Sat W0 w' (led l (rs ++ [(k, s, c + n)]) :: L) := by
  obtain ⟨p, cp, s1⟩ := ledOpen hs
  have hlen : (rs ++ [(k, s, c)]).length = rs.length + 1 := by simp
  have htc : c ≤ tot (rs ++ [(k, s, c)]) := by rw [tot_append]; simp [tot]
  have ht2 : tot (rs ++ [(k, s, c)]) + n = tot (rs ++ [(k, s, c + n)]) := by simp [tot_append, tot]; omega
  rw [hlen] at s1
  have hr : Sat W0 w (row p cp 3 (rs.length + 1) ((rs ++ [(k, s, c)]).flatMap enc3) :: seg true l 0 [.slice p (rs.length + 1) cp, .int .i64 (tot (rs ++ [(k, s, c)]) : Int)] :: L) := s1.pull 1
  obtain ⟨hrl, hro⟩ := hr.rowOpen
  rcases hro with ⟨-, -, h0, -, -⟩ | ⟨g, rest, rfl, hcap, hmx, hcl, hg⟩
  · omega
  have c0 := s1.at 0 rfl
  have c1 := s1.at 1 rfl
  have f0 := s1.fr 0 (by simp)
  have f1 := s1.fr 1 (by simp)
  have z1 := s1.lt (by simp)
  have hcc : rs.length * 3 + 2 < ((rs ++ [(k, s, c)]).flatMap enc3 ++ rest).length := by rw [hcl]; omega
  obtain ⟨y0, y1, y2⟩ := row3 hg (k := rs.length) (y := (k, s, c)) (by simp)
  have y3 := hg.fr (rs.length * 3 + 2) hcc
  have hgl : g ≠ l := (hg.pull 0 : Sat W0 w (seg true g 0 _ :: seg true l 0 _ :: _)).ne' (by rw [hcl]; omega) (by simp)
  have hgl' := hgl.symm
  have zg := hg.lt (by rw [hcl]; omega)
  have e1 : ((rs.length : Int) + 1) - 1 = (rs.length : Int) := by omega
  have e2 : IntKind.i64.wrap (rs.length : Int) = (rs.length : Int) := by rw [IntKind.wrap_i64]; omega
  generalize hT : tot (rs ++ [(k, s, c)]) = T at *
  have HT := Lib.hid hT; have Ht2 := Lib.hid ht2; clear hT ht2 hlen
  have d1 : decide (0 < rs.length + 1) = true := by simp
  go_enter Tryz.func93, Tryz.ntmps93
  go_wp2_with fail
  go_quiet (fail)
  go_wp2
  refine bodyPost_ret (v := .tuple #[]) (by simp [results, Tryz.results93, go_sem]) rfl ⟨rfl, ?_⟩
  have t1 : Sat W0 w (seg true l 0 [.slice (some ⟨g, 0, none⟩) (rs.length + 1) cp, .int .i64 (T : Int)] :: seg true g 0 ((rs ++ [(k, s, c)]).flatMap enc3 ++ rest) :: L) := hg.pull 1
  have t3 : Sat W0 _ (seg true g 0 ((rs ++ [(k, s, c)]).flatMap enc3 ++ rest) :: _) := ((((t1.store (i := 1) (by simp) (.int .i64 ((T : Int) + n)) (q := 1) (by simp)).alloc #[.int .u8 k, .int .i64 s] 59).tail.drewN nq).pull 1)
  have t4 := t3.store (i := rs.length * 3 + 2) hcc (.int .i64 ((c + n : Nat) : Int)) (q := rs.length * 3 + 2) (by simp)
  rw [set_last3] at t4
  refine ledShut (p := some ⟨g, 0, none⟩) (c := cp) ?_
  have t5 := (t4.rowMade (sz := 3) (n := rs.length + 1) (by rw [fm_len len3]; simp) (by rw [← hcl]; simp [fm_len len3, len3]) hcap hmx).pull 1
  refine t5.to ?_
  simp [← Ht2.out]
theorem noteTimes {W0 w : World} {L : List Assn} (p : Option Nat) (rs : List Run3) (k s : Int) (n : Nat) (hs : Sat W0 w (ledO p rs :: L)) (hn : 1 ≤ n) (hb : tot rs + n ≤ 4611686018427387904) (hl : rs.length ≤ 4294967296) :
    Calls Tryz.prog 93 #[ptrO p, .agg #[.int .u8 k, .int .i64 s], .int .i64 (n : Int)] w fun e w' => e = .returned (.tuple #[]) ∧ Sat W0 w' (ledO p (note rs k s n) :: L) := by
  cases p with
  | none =>
    refine (noteTimes_nil w k s n).mono ?_
    rintro e w' ⟨rfl, rfl⟩
    exact ⟨rfl, (hs.alloc _ _).tail⟩
  | some l =>
    rcases List.eq_nil_or_concat rs with rfl | ⟨rs0, ⟨r0, r1, r2⟩, hcc⟩
    · exact noteTimes_new [] k s n hs hn hb hl (by simp)
    · rw [List.concat_eq_append] at hcc
      subst hcc
      by_cases h : r0 = k ∧ r1 = s
      · obtain ⟨rfl, rfl⟩ := h
        have e : note (rs0 ++ [(r0, r1, r2)]) r0 r1 n = rs0 ++ [(r0, r1, r2 + n)] := by simp [note]
        rw [e]
        exact noteTimes_same rs0 r0 r1 r2 n hs hn hb (by simp at hl; omega)
      · have e : note (rs0 ++ [(r0, r1, r2)]) k s n = (rs0 ++ [(r0, r1, r2)]) ++ [(k, s, n)] := by simp [note, h]
        rw [e]
        refine noteTimes_new (rs0 ++ [(r0, r1, r2)]) k s n hs hn hb hl ?_
        intro r hr
        simp at hr
        subst hr
        simpa using h
set_option maxHeartbeats 1000000 in
theorem noteOne {W0 w : World} {L : List Assn} (p : Option Nat) (rs : List Run3) (k s : Int) (hs : Sat W0 w (ledO p rs :: L)) (hb : tot rs + 1 ≤ 4611686018427387904) (hl : rs.length ≤ 4294967296) :
    Calls Tryz.prog 80 #[ptrO p, .agg #[.int .u8 k, .int .i64 s]] w fun e w' => e = .returned (.tuple #[]) ∧ Sat W0 w' (ledO p (note rs k s 1) :: L) := by
  have hc := noteTimes p rs k s 1 ((hs.alloc #[.int .u8 k, .int .i64 s] 59).tail) (by omega) hb hl
  clear hb
  go_enter Tryz.func80, Tryz.ntmps80
  go_wp2_with fail
  refine hc.mono ?_
  rintro e w1 ⟨rfl, s1⟩
  go_wp2
  go_end0
  exact ⟨rfl, s1⟩
set_option maxHeartbeats 1000000 in
theorem ledNew {W0 w : World} {L : List Assn} (hs : Sat W0 w L) : Calls Tryz.prog 6 #[] w fun e w' => ∃ l, e = .returned (.pointer (some ⟨l, 0, none⟩)) ∧ Sat W0 w' (led l [] :: L) := by
  go_enter Tryz.func6, Tryz.ntmps6
  go_wp2
  go_ret
  exact ⟨_, rfl, ledShut (p := none) (c := 0) (((hs.rowNil 3).alloc _ _).to (by simp [tot]))⟩
set_option maxHeartbeats 1000000 in
theorem ledLen {W0 w : World} {L : List Assn} {l : Nat} {rs : List Run3} (hs : Sat W0 w (led l rs :: L)) : Calls Tryz.prog 10 #[.pointer (some ⟨l, 0, none⟩)] w fun e w' => e = .returned (.int .i64 (tot rs : Int)) ∧ w = w' := by
  obtain ⟨p, c, s1⟩ := ledOpen hs
  have c1 := s1.at 1 rfl
  go_enter Tryz.func10, Tryz.ntmps10
  go_wp2
  go_ret
  exact ⟨rfl, rfl⟩
end Go.Proofs.YtlmababpmmhhoaaGreat
