
/- Two tables that agree: the program's and the document's; under the conditions that each names. -/
import Derived.Test.YtpiiklfnakkdiaaTkp
import Derived.Test.YtpiiklfnakkdiaaTpr
namespace Go.Sep
open Go.RowKit
set_option linter.unusedSimpArgs false
/-- A whole array or struct comes into a variable of its own. -/
theorem wpl_box {P : Program} {W0 w : World} {L : List Assn} {ops : Array Oper} {Q : Exit → Act → World → Prop} {o : Oper} {rest : List Oper} {a : Act} (hgd : o.guard = none) (ty : TypeId) (x : Operand) (ho : o.op = .box ty x) (cs : List Value) (hx : a.eval x = .agg cs.toArray) (hs : Sat W0 w L)
    (h : ∀ w' g, Sat W0 w' (seg true g 0 cs :: L) → g < w'.heap.size → wpList P ops Q rest (a.put o.dst (.pointer (some ⟨g, 0, none⟩))) w') : wpList P ops Q (o :: rest) a w := by
  refine wpList_plain hgd fun _ hK => ?_
  unfold Oper.wp execOp
  have := h (w.alloc (.cells cs.toArray ty)) w.heap.size (by have := hs.alloc cs.toArray ty; simpa using this) (by simp)
  simp [ho, hx, Instr.box, newVar, newRow, Value.cells, Sem.run_bind]
  exact hK _ _ this
end Go.Sep
namespace Go.Proofs.Ytpiiklfnakkdiaa
open Go.RowKit Go.Sep
set_option linter.unusedVariables false
set_option linter.unusedSimpArgs false
/-- The same numbers are held, and what they stand for is the same. -/
def agG {α : Type} (d : α) (φ : Int → α) (n : Nat) (held : List Bool) (tv : List α) (rv : List Int) : Prop := held.length = n ∧ tv.length = n ∧ rv.length = n ∧ ∀ i, held.getD i false = true → tv.getD i d = φ (rv.getD i 0)
theorem getD_set {α : Type} (l : List α) (d v : α) (i j : Nat) (hi : i < l.length) : (l.set i v).getD j d = if i = j then v else l.getD j d := by
  rw [List.getD_eq_getElem?_getD, List.getElem?_set]
  by_cases h : i = j
  · subst h; simp [hi]
  · simp [h]
theorem agG.put {α : Type} {d : α} {φ : Int → α} {n : Nat} {held : List Bool} {tv : List α} {rv : List Int} (h : agG d φ n held tv rv) (i : Nat) (hi : i < n) (v : Int) : agG d φ n (held.set i true) (tv.set i (φ v)) (rv.set i v) := by
  obtain ⟨h1, h2, h3, h4⟩ := h
  refine ⟨by simpa using h1, by simpa using h2, by simpa using h3, fun j hj => ?_⟩
  rw [getD_set _ _ _ _ _ (by omega), getD_set _ _ _ _ _ (by omega)]
  rw [getD_set _ _ _ _ _ (by omega)] at hj
  by_cases e : i = j
  · rw [if_pos e, if_pos e]
  · rw [if_neg e, if_neg e]
    rw [if_neg e] at hj
    exact h4 j hj
theorem agG.set {α : Type} {d : α} {φ : Int → α} {n : Nat} {held : List Bool} {tv : List α} {rv : List Int} (h : agG d φ n held tv rv) (i : Nat) (hi : i < n) (v : Int) : agG d φ n held (tv.set i (φ v)) (rv.set i v) := by
  obtain ⟨h1, h2, h3, h4⟩ := h
  refine ⟨h1, by simpa using h2, by simpa using h3, fun j hj => ?_⟩
  rw [getD_set _ _ _ _ _ (by omega), getD_set _ _ _ _ _ (by omega)]
  by_cases e : i = j
  · rw [if_pos e, if_pos e]
  · rw [if_neg e, if_neg e]
    exact h4 j hj
theorem agG.drop {α : Type} {d : α} {φ : Int → α} {n : Nat} {held : List Bool} {tv : List α} {rv : List Int} (h : agG d φ n held tv rv) (i : Nat) (hi : i < n) (x : α) : agG d φ n (held.set i false) (tv.set i x) rv := by
  obtain ⟨h1, h2, h3, h4⟩ := h
  refine ⟨by simpa using h1, by simpa using h2, h3, fun j hj => ?_⟩
  rw [getD_set _ _ _ _ _ (by omega)] at hj
  rw [getD_set _ _ _ _ _ (by omega)]
  by_cases e : i = j
  · rw [if_pos e] at hj; cases hj
  · rw [if_neg e] at hj
    rw [if_neg e]
    exact h4 j hj
theorem agG.init {α : Type} (d : α) (φ : Int → α) (n : Nat) : agG d φ n (List.replicate n false) (List.replicate n d) (List.replicate n 0) := by
  refine ⟨by simp, by simp, by simp, fun j hj => ?_⟩
  rw [List.getD_eq_getElem?_getD, List.getElem?_replicate] at hj
  split at hj <;> simp at hj
/-- A number that is held, as a natural one. -/
theorem there_nat {held : List Bool} {n : Nat} {h : Int} (hn : held.length = n) (hy : (decide (0 ≤ h) && held.getD h.toNat false) = true) : ∃ k : Nat, h = (k : Int) ∧ k < n ∧ held.getD k false = true := by
  rw [Bool.and_eq_true, decide_eq_true_eq] at hy
  refine ⟨h.toNat, by omega, ?_, hy.2⟩
  apply Classical.byContradiction
  intro hc
  rw [List.getD_eq_getElem?_getD, List.getElem?_eq_none (by omega)] at hy
  simp at hy
theorem getD_some {α : Type} {l : List α} {k : Nat} (d : α) (h : k < l.length) : l[k]? = some (l.getD k d) := by
  rw [List.getD_eq_getElem?_getD, List.getElem?_eq_getElem h]; rfl
theorem least_uniq {held : List Bool} {i j : Nat} (h1 : ∀ x, x < i → held.getD x false = true) (h2 : held.getD i false = false) (h3 : ∀ x, x < j → held.getD x false = true) (h4 : held.getD j false = false) : i = j := by
  apply Classical.byContradiction
  intro hc
  rcases Nat.lt_or_gt_of_ne hc with h | h
  · rw [h3 i h] at h2; cases h2
  · rw [h1 j h] at h4; cases h4
theorem idxT_count (held : List Bool) : ∀ n, n ≤ held.length → (idxT held n).length = (held.take n).count true
  | 0, _ => rfl
  | n + 1, h => by
    rw [idxT_succ, List.length_append, idxT_count held n (by omega), count_take_int held n (by omega)]
    cases held.getD n false <;> rfl
theorem idxT_all {held : List Bool} {n : Nat} (hn : held.length = n) : ((idxT held n).length : Int) = ((held.count true : Nat) : Int) := by
  rw [idxT_count held n (by omega), List.take_of_length_le (by omega)]
theorem valsT_ag {n : Nat} {held : List Bool} {tv rv : List Int} (h : agG 0 id n held tv rv) : valsT rv (idxT held n) = valsT tv (idxT held n) := by
  unfold valsT
  apply List.map_congr_left
  intro j hj
  unfold idxT at hj
  rw [List.mem_filter] at hj
  rw [h.2.2.2 j hj.2]
  rfl
abbrev tI (b hb vb rb rhb rvb n : Nat) (held : List Bool) (tv rv : List Int) (T : List Assn) : List Assn :=
  seg true b 0 [.slice (some ⟨hb,0,none⟩) n n, .slice (some ⟨vb,0,none⟩) n n] :: seg true hb 0 (held.map .bool) :: seg true vb 0 (tv.map fun x => Value.int .i64 x) :: seg true rb 0 [.slice (some ⟨rhb,0,none⟩) n n, .slice (some ⟨rvb,0,none⟩) n n] :: seg true rhb 0 (held.map .bool) :: seg true rvb 0 (rv.map fun x => Value.int .i64 x) :: T
abbrev tP (b hb vb rb rhb rvb n : Nat) (held : List Bool) (tv : List A2) (rv : List Int) (T : List Assn) : List Assn :=
  seg true b 0 [.slice (some ⟨hb,0,none⟩) n n, .slice (some ⟨vb,0,none⟩) n n] :: seg true hb 0 (held.map .bool) :: seg true vb 0 (tv.flatMap enc2) :: seg true rb 0 [.slice (some ⟨rhb,0,none⟩) n n, .slice (some ⟨rvb,0,none⟩) n n] :: seg true rhb 0 (held.map .bool) :: seg true rvb 0 (rv.map fun x => Value.int .i64 x) :: T
/-- A number as a pair. -/
def prT (z : Int) : A2 := (z, bits .xor .i64 z 5)
end Go.Proofs.Ytpiiklfnakkdiaa
