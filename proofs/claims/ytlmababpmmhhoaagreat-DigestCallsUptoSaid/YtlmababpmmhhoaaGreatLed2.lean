
/- More of the ledger: Runs, Reset, the list of runs held against another; under the conditions that each names. -/
import Derived.Test.YtlmababpmmhhoaaGreatApp
namespace Go.Proofs.YtlmababpmmhhoaaGreat
open Go.RowKit Go.Sep Go.Bv Go.Sha
set_option linter.unusedVariables false
set_option linter.unusedSimpArgs false
/-- Runs that lie behind a pointer. -/
def runsA (m : Bool) (p : Option Addr) (rs : List Run3) : Assn := fun h => rs = [] ∨ ∃ b o, p = some ⟨b, o, none⟩ ∧ seg m b o (rs.flatMap enc3) h
theorem runsOf {W0 w : World} {L : List Assn} {m : Bool} {b o : Nat} {rs : List Run3} (h : Sat W0 w (seg m b o (rs.flatMap enc3) :: L)) : Sat W0 w (runsA m (some ⟨b, o, none⟩) rs :: L) :=
  h.imp fun _ hx => .inr ⟨b, o, rfl, hx⟩
theorem runsCell {W0 w : World} {L : List Assn} {m : Bool} {p : Option Addr} {rs : List Run3} (h : Sat W0 w (runsA m p rs :: L)) (hne : rs ≠ []) : ∃ b o, p = some ⟨b, o, none⟩ ∧ Sat W0 w (seg m b o (rs.flatMap enc3) :: L) := by
  obtain ⟨h0, hs, hf⟩ := h
  obtain ⟨x, t, rfl, hA, ok, hd, hf'⟩ := hf.head
  rcases hA with hA | ⟨b, o, rfl, hx⟩
  · exact absurd hA hne
  · exact ⟨b, o, rfl, h0, x :: t, .cons hx ok hd hf'⟩
theorem rowRuns {W0 w : World} {L : List Assn} {p : Option Addr} {c n : Nat} {rs : List Run3} (h : Sat W0 w (row p c 3 n (rs.flatMap enc3) :: L)) : Sat W0 w (runsA true p rs :: L) := by
  obtain ⟨hl, ⟨rfl, rfl, rfl, hx, h1⟩ | ⟨g, rest, rfl, h1, h2, h3, h4⟩⟩ := h.rowOpen
  · have : rs = [] := by
      cases rs with
      | nil => rfl
      | cons r rs => simp [enc3] at hx
    subst this
    exact h1.emp.imp fun _ _ => .inl rfl
  · exact (runsOf (h4.part (q := 0 + (rs.flatMap enc3).length) rfl)).drop 1
theorem runsNews {W0 w : World} {L : List Assn} {m : Bool} {p : Option Addr} {rs : List Run3} (h : Sat W0 w (runsA m p rs :: L)) : ∀ j v, (rs.flatMap enc3)[j]? = some v → ∃ ad, p = some ad ∧ w.cell? (ad.add j) = some v := by
  intro j v hv
  by_cases h0 : rs = []
  · subst h0; simp at hv
  · obtain ⟨b, o, rfl, h1⟩ := runsCell h h0
    exact ⟨_, rfl, by rw [add_lit']; exact h1.cell hv⟩
theorem enc3_one (rs : List Run3) : ∀ u ∈ rs.flatMap enc3, u.oneCell' = true := by
  intro u hu
  obtain ⟨r, _, hr⟩ := List.mem_flatMap.1 hu
  simp only [enc3, List.mem_cons, List.not_mem_nil, or_false] at hr
  rcases hr with rfl | rfl | rfl <;> rfl
set_option maxHeartbeats 2000000 in
/-- Runs: a list of its own. -/
theorem ledRuns {W0 w : World} {L : List Assn} {l : Nat} {rs : List Run3} (hl : rs.length ≤ 1000000000) (hs : Sat W0 w (led l rs :: L)) :
    Calls Tryz.prog 14 #[.pointer (some ⟨l, 0, none⟩)] w fun e w' => ∃ q c, e = .returned (.slice q rs.length c) ∧ Sat W0 w' (runsA true q rs :: led l rs :: L) := by
  obtain ⟨p, c, s1⟩ := ledOpen hs
  have c0 := s1.at 0 rfl
  have z1 := s1.lt (by simp)
  obtain ⟨i3, hi3, hz3, hs3, hb3⟩ := info_parts Tryz.info_run
  have t1 := s1.alloc #[] 82
  have t2 : Sat W0 _ (row (some ⟨w.heap.size, 0, none⟩) 0 3 0 (([] : List Run3).flatMap enc3) :: seg true l 0 [.slice p rs.length c, .int .i64 (tot rs : Int)] :: row p c 3 rs.length (rs.flatMap enc3) :: L) := t1.rowMade (rest := []) (sz := 3) (n := 0) (cap := 0) rfl rfl (Nat.le_refl _) (Nat.zero_le _)
  have r2 : Sat W0 _ (row p c 3 rs.length (rs.flatMap enc3) :: _) := t2.pull 2
  obtain ⟨hrl, hro⟩ := r2.rowOpen
  have hn2 : ∀ j u, (rs.flatMap enc3)[j]? = some u → ∃ ad, p = some ad ∧ (w.alloc (.cells #[] 82)).cell? (ad.add j) = some u := by
    intro j u hu
    rcases hro with ⟨-, -, -, h0, -⟩ | ⟨g, rest, rfl, h1, h2, h3, h4⟩
    · rw [h0] at hu; simp at hu
    · exact ⟨_, rfl, by rw [add_lit']; exact h4.cell (by rw [List.getElem?_append_left (List.getElem?_eq_some_iff.1 hu).1]; exact hu)⟩
  have hnil : p = none → rs.length = 0 := by
    intro hp
    rcases hro with ⟨-, -, h0, -, -⟩ | ⟨g, rest, rfl, h1, h2, h3, h4⟩
    · exact h0
    · cases hp
  have HB := Lib.hid (And.intro hrl (And.intro hnil hn2)); clear hrl hnil hn2 hro r2 hs t1 s1
  go_enter Tryz.func14, Tryz.ntmps14
  go_wp2_with (refine wpl_append rfl (.tmp 5) (.tmp 9) 47 rfl Tryz.underlying47 hi3 hz3 hs3 hb3 rfl (by decide) t2 rfl p rs.length c rfl (rs.flatMap enc3) HB.out.1 HB.out.2.2 HB.out.2.1 (enc3_one rs) (by unfold maxLen; omega) (by omega) ?_; intro p2 c2 w2 s2 _ _)
  go_ret
  simp only [Nat.zero_add, List.flatMap_nil, List.nil_append] at s2
  refine ⟨p2, c2, rfl, ?_⟩
  have s3 := rowRuns s2
  exact (ledShut (s3.pick [1, 2])).pull 1
set_option maxRecDepth 100000 in
set_option maxHeartbeats 2000000 in
/-- Two lists of the same runs. -/
theorem sameRuns {W0 w : World} {L : List Assn} {ca cb n k : Nat} {m1 m2 : Bool} {pa pb : Option Addr} (xs : List Run3) (hx : xs.length = n) (hy : xs.length = k) (hn : n ≤ 1000000000) (hs : Sat W0 w (runsA m1 pa xs :: runsA m2 pb xs :: L)) :
    Calls Tryz.prog 13 #[.slice pa n ca, .slice pb k cb] w fun e w' => e = .returned (.bool true) ∧ Sat W0 w' (runsA m1 pa xs :: runsA m2 pb xs :: L) := by
  obtain rfl : n = k := hx.symm.trans hy
  have h0 : n ≠ 0 → ∃ ba oa bb ob, pa = some ⟨ba, oa, none⟩ ∧ pb = some ⟨bb, ob, none⟩ ∧ (∀ i v, (xs.flatMap enc3)[i]? = some v → w.cell? ⟨ba, oa + i, none⟩ = some v) ∧ (∀ i v, (xs.flatMap enc3)[i]? = some v → w.cell? ⟨bb, ob + i, none⟩ = some v) := by
    intro hne
    have hx0 : xs ≠ [] := by rintro rfl; exact hne (by rw [← hx]; rfl)
    obtain ⟨ba, oa, rfl, h1⟩ := runsCell hs hx0
    obtain ⟨bb, ob, rfl, h2⟩ := runsCell (hs.pull 1 : Sat W0 w (runsA m2 pb xs :: _)) hx0
    exact ⟨ba, oa, bb, ob, rfl, rfl, fun i v hv => h1.cell hv, fun i v hv => h2.cell hv⟩
  have HN := Lib.hid (And.intro hx h0); clear hx hy h0
  have HS := Lib.hid hs; clear hs
  go_enter Tryz.func13, Tryz.ntmps13
  go_wp2
  go_loopw [5] (fun t5 wr => ∃ i k : Nat, i ≤ n ∧ t5 = .int .i64 (i : Int) ∧ wr = w.drewN k) (fun t5 _ => n - (intOf t5).toNat)
  case atStart => exact ⟨0, 0, Nat.zero_le _, rfl, rfl⟩
  case round =>
    obtain ⟨i, k, hi, rfl, rfl⟩ := hrel
    by_cases hlt : i < n
    · obtain ⟨ba, oa, bb, ob, rfl, rfl, h1, h2⟩ := HN.out.2 (by omega)
      have hix : i < xs.length := by rw [HN.out.1]; exact hlt
      have g : ∀ j, j < 3 → (xs.flatMap enc3)[i * 3 + j]? = (enc3 xs[i])[j]? := fun j hj => fm_get len3 xs i j hix hj
      obtain ⟨⟨x0, x1, x2⟩, hxx⟩ : ∃ x, x = xs[i] := ⟨_, rfl⟩
      rw [← hxx] at g
      have a0 := h1 _ _ (g 0 (by omega))
      have a1 := h1 _ _ (g 1 (by omega))
      have a2 := h1 _ _ (g 2 (by omega))
      have b0 := h2 _ _ (g 0 (by omega))
      have b1 := h2 _ _ (g 1 (by omega))
      have b2 := h2 _ _ (g 2 (by omega))
      simp only [Nat.add_zero, ← Nat.add_assoc] at a0 a1 a2 b0 b1 b2
      clear g h1 h2 hxx hix
      go_wp2_with fail
      go_quiet (fail)
      go_wp2
      go_roundw
      case rel => exact ⟨i + 1, _, by omega, by go_num, rfl⟩
      case measure => simp [intOf]; omega
    · obtain rfl : i = n := by omega
      go_wp2
      go_ret
      exact ⟨rfl, HS.out.drewN _⟩
theorem ledNewF {W0 w : World} {L : List Assn} (hs : Sat W0 w L) : Calls Tryz.prog 6 #[] w fun e w' => ∃ l, e = .returned (.pointer (some ⟨l, 0, none⟩)) ∧ Sat W0 w' (ledO (some l) [] :: L) := ledNew hs
theorem ledLenF {W0 w : World} {L : List Assn} {l : Nat} {rs : List Run3} (hs : Sat W0 w (ledO (some l) rs :: L)) : Calls Tryz.prog 10 #[.pointer (some ⟨l, 0, none⟩)] w fun e w' => e = .returned (.int .i64 (tot rs : Int)) ∧ w = w' := ledLen hs
theorem ledRunsF {W0 w : World} {L : List Assn} {l : Nat} {rs : List Run3} (hl : rs.length ≤ 1000000000) (hs : Sat W0 w (ledO (some l) rs :: L)) :
    Calls Tryz.prog 14 #[.pointer (some ⟨l, 0, none⟩)] w fun e w' => ∃ q c, e = .returned (.slice q rs.length c) ∧ Sat W0 w' (runsA true q rs :: ledO (some l) rs :: L) := ledRuns hl hs
/-- A list of one run, just built. -/
theorem runOne {W0 w : World} {L : List Assn} {k s : Int} {n : Nat} {T : TypeId} (h : Sat W0 w L) : Sat W0 (w.alloc (.cells #[.int .u8 k, .int .i64 s, .int .i64 (n : Int)] T)) (runsA true (some ⟨w.heap.size, 0, none⟩) [(k, s, n)] :: L) :=
  runsOf (rs := [(k, s, n)]) (h.alloc #[.int .u8 k, .int .i64 s, .int .i64 (n : Int)] T)
end Go.Proofs.YtlmababpmmhhoaaGreat
