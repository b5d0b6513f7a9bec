
/- A small separation logic over the model's cells: 'Sat W0 w L' says that the world w, which keeps all that W0 has, holds the listed assertions in disjoint parts of its memory. No condition. -/
import Derived.WalkKit
import Derived.Below
import Derived.Lib.Hide
import Derived.Deep.Draws
import Derived.RangeFuncOwn
namespace Go.Sep
open Go.RowKit

/-- A part of memory: block, offset: may it be written, and what it holds. What may be written is one's own. Beside it: blocks that hold no cells, and what they are. -/
structure Hp where
  c : Nat → Nat → Option (Bool × Value)
  q : Nat → Option Obj
instance : CoeFun Hp (fun _ => Nat → Nat → Option (Bool × Value)) := ⟨Hp.c⟩
/-- A part of cells alone. -/
abbrev Hp.of (c : Nat → Nat → Option (Bool × Value)) : Hp := ⟨c, fun _ => none⟩
abbrev Hp.zero : Hp := ⟨fun _ _ => none, fun _ => none⟩
def Hp.ok (W0 w : World) (h : Hp) : Prop :=
  (∀ b o m v, h b o = some (m, v) → w.cell? ⟨b, o, none⟩ = some v ∧ (m = true → w.frozen? ⟨b, o, none⟩ = false ∧ W0.heap.size ≤ b)) ∧
  (∀ l x, h.q l = some x → w.heap[l]? = some x ∧ x.isCells = false ∧ W0.heap.size ≤ l)
def Hp.dis (h k : Hp) : Prop := (∀ b o x y, h b o = some x → k b o = some y → x = y ∧ x.1 = false) ∧ (∀ l x y, h.q l = some x → k.q l = some y → False)
def Hp.le (h k : Hp) : Prop := (∀ b o x, h b o = some x → k b o = some x) ∧ (∀ l x, h.q l = some x → k.q l = some x)
theorem Hp.zero_ok (W0 w : World) : Hp.zero.ok W0 w := ⟨fun _ _ _ _ h => (by cases h), fun _ _ h => (by cases h)⟩
theorem Hp.zero_dis (k : Hp) : Hp.zero.dis k := ⟨fun _ _ _ _ h => (by cases h), fun _ _ _ h => (by cases h)⟩
theorem Hp.of_ok {W0 w : World} {c : Nat → Nat → Option (Bool × Value)} (h : ∀ b o m v, c b o = some (m, v) → w.cell? ⟨b, o, none⟩ = some v ∧ (m = true → w.frozen? ⟨b, o, none⟩ = false ∧ W0.heap.size ≤ b)) : (Hp.of c).ok W0 w := ⟨h, fun _ _ h => by cases h⟩
theorem Hp.of_dis {c : Nat → Nat → Option (Bool × Value)} {k : Hp} (h : ∀ b o x y, c b o = some x → k b o = some y → x = y ∧ x.1 = false) : (Hp.of c).dis k := ⟨h, fun _ _ _ h => by cases h⟩
abbrev Assn := Hp → Prop
def emp : Assn := fun _ => True
/-- 'hs' are parts for the assertions, no two of which share a cell that may be written. -/
inductive Fit (W0 w : World) : List Assn → List Hp → Prop
  | nil : Fit W0 w [] []
  | cons {A : Assn} {h : Hp} {L : List Assn} {hs : List Hp} (hA : A h) (ok : h.ok W0 w) (hd : ∀ k ∈ hs, h.dis k) (t : Fit W0 w L hs) : Fit W0 w (A :: L) (h :: hs)
def Sat (W0 w : World) (L : List Assn) : Prop := Below W0.heap.size W0 w ∧ ∃ hs, Fit W0 w L hs

theorem Hp.dis.symm {h k : Hp} (d : h.dis k) : k.dis h := ⟨fun b o x y hx hy => by
  obtain ⟨e, f⟩ := d.1 b o y x hy hx
  exact ⟨e.symm, e ▸ f⟩, fun l x y hx hy => d.2 l y x hy hx⟩
theorem Sat.below {W0 w : World} {L : List Assn} (h : Sat W0 w L) : Below W0.heap.size W0 w := h.1
theorem Sat.size {W0 w : World} {L : List Assn} (h : Sat W0 w L) : W0.heap.size ≤ w.heap.size := h.1.size
theorem Sat.nil (W0 : World) : Sat W0 W0 [] := ⟨Below.refl _ _, [], .nil⟩

/-- The part at a place of the list is brought to its head. -/
theorem Fit.pull {W0 w : World} : ∀ {L : List Assn} {hs : List Hp} (i : Nat), Fit W0 w L hs → i < L.length → ∃ h hs', Fit W0 w (L.getD i emp :: L.eraseIdx i) (h :: hs') ∧ (∀ x, x ∈ (h :: hs') ↔ x ∈ hs)
  | _, _, _, .nil, hi => absurd hi (by simp)
  | _, _, 0, .cons hA ok hd t, _ => ⟨_, _, .cons hA ok hd t, fun _ => Iff.rfl⟩
  | _, _, i + 1, .cons (h := h0) (hs := hs0) hA ok hd t, hi => by
    obtain ⟨h, hs', hf, hm⟩ := Fit.pull i t (by simpa using hi)
    cases hf with
    | cons hA' ok' hd' t' =>
      refine ⟨h, h0 :: hs', ?_, ?_⟩
      · refine .cons hA' ok' ?_ (.cons hA ok ?_ t')
        · intro k hk
          rcases List.mem_cons.1 hk with rfl | hk
          · exact (hd h ((hm h).1 (by simp))).symm
          · exact hd' k hk
        · intro k hk
          exact hd k ((hm k).1 (by simp [hk]))
      · intro x
        have := hm x
        simp only [List.mem_cons] at this ⊢
        constructor
        · rintro (rfl | rfl | hx)
          · exact .inr (this.1 (.inl rfl))
          · exact .inl rfl
          · exact .inr (this.1 (.inr hx))
        · rintro (rfl | hx)
          · exact .inr (.inl rfl)
          · rcases this.2 hx with rfl | h'
            · exact .inl rfl
            · exact .inr (.inr h')
theorem Sat.pull {W0 w : World} {L : List Assn} (h : Sat W0 w L) (i : Nat) : Sat W0 w (L.getD i emp :: L.eraseIdx i) := by
  obtain ⟨hb, hs, hf⟩ := h
  refine ⟨hb, ?_⟩
  by_cases hi : i < L.length
  · obtain ⟨h, hs', hf', _⟩ := hf.pull i hi
    exact ⟨_, hf'⟩
  · rw [List.eraseIdx_of_length_le (by omega), List.getD_eq_getElem?_getD, List.getElem?_eq_none (by omega)]
    exact ⟨Hp.zero :: hs, .cons trivial (Hp.zero_ok _ _) (fun _ _ => Hp.zero_dis _) hf⟩
/-- Several are brought to the head, in this order; each number is a place in the list as it stands. -/
def pick : List Nat → List Assn → List Assn
  | [], L => L
  | i :: is, L => let K := pick is L; let j := i + is.countP (fun q => decide (i < q)); K.getD j emp :: K.eraseIdx j
theorem Sat.pick {W0 w : World} {L : List Assn} (h : Sat W0 w L) : (is : List Nat) → Sat W0 w (pick is L)
  | [] => h
  | _ :: is => (h.pick is).pull _
theorem Sat.to {W0 w : World} {K K' : List Assn} (h : Sat W0 w K) (e : K = K') : Sat W0 w K' := e ▸ h
theorem Sat.tail {W0 w : World} {A : Assn} {L : List Assn} (h : Sat W0 w (A :: L)) : Sat W0 w L := by
  obtain ⟨hb, hs, hf⟩ := h
  cases hf with
  | cons _ _ _ t => exact ⟨hb, _, t⟩

/-- The last but the tail: the assertion in fourth place is let go. -/
theorem Sat.drop {W0 w : World} {L : List Assn} (h : Sat W0 w L) (i : Nat) : Sat W0 w (L.eraseIdx i) := (h.pull i).tail
theorem Fit.head {W0 w : World} {A : Assn} {L : List Assn} {hs : List Hp} (h : Fit W0 w (A :: L) hs) : ∃ x t, hs = x :: t ∧ A x ∧ x.ok W0 w ∧ (∀ k ∈ t, x.dis k) ∧ Fit W0 w L t := by
  cases h with
  | cons hA ok hd t => exact ⟨_, _, rfl, hA, ok, hd, t⟩
theorem Fit.okAll {W0 w : World} {L : List Assn} {hs : List Hp} (h : Fit W0 w L hs) : ∀ k ∈ hs, k.ok W0 w := by
  induction h with
  | nil => intro k hk; cases hk
  | cons hA ok hd t ih =>
    intro k hk
    rcases List.mem_cons.1 hk with rfl | hk
    · exact ok
    · exact ih k hk
/-- The same parts in another world in which each part holds. -/
theorem Fit.move {W0 w w' : World} {L : List Assn} {hs : List Hp} (h : Fit W0 w L hs) (ok : ∀ k ∈ hs, k.ok W0 w') : Fit W0 w' L hs := by
  induction h with
  | nil => exact .nil
  | cons hA _ hd t ih => exact .cons hA (ok _ (by simp)) hd (ih fun k hk => ok k (by simp [hk]))
theorem Hp.ok.lt {W0 w : World} {h : Hp} (ok : h.ok W0 w) {b o : Nat} {x : Bool × Value} (hx : h b o = some x) : b < w.heap.size :=
  World.block_lt_of_cell? w ⟨b, o, none⟩ (ok.1 b o x.1 x.2 hx).1
/-- The world has turned nowhere but in blocks that are new. -/
theorem Hp.ok.later {W0 w w' : World} {h : Hp} (ok : h.ok W0 w) (hb : ∀ k, k < w.heap.size → w'.heap[k]? = w.heap[k]?) : h.ok W0 w' := by
  refine ⟨fun b o m v hx => ?_, fun l x hx => ?_⟩
  · have hl := ok.lt hx
    obtain ⟨h1, h2⟩ := ok.1 b o m v hx
    refine ⟨?_, fun hm => ⟨?_, (h2 hm).2⟩⟩
    · rw [← h1]; exact World.cell?_of_block (hb b hl)
    · rw [← (h2 hm).1]; exact World.frozen?_of_block (hb b hl)
  · obtain ⟨h1, h2⟩ := ok.2 l x hx
    exact ⟨(hb l (Array.getElem?_eq_some_iff.1 h1).1).trans h1, h2⟩
theorem Sat.later {W0 w w' : World} {L : List Assn} (h : Sat W0 w L) (hb : Below w.heap.size w w') : Sat W0 w' L := by
  obtain ⟨h0, hs, hf⟩ := h
  exact ⟨h0.trans (hb.mono h0.size), hs, hf.move fun k hk => (hf.okAll k hk).later hb.block⟩
theorem Sat.drew {W0 w : World} {L : List Assn} (h : Sat W0 w L) : Sat W0 w.drew L := h.later (Below.refl _ _).drew
theorem Sat.drewN {W0 w : World} {L : List Assn} (h : Sat W0 w L) (n : Nat) : Sat W0 (w.drewN n) L := h.later ⟨rfl, rfl, rfl, Nat.le_refl _, fun _ _ => rfl⟩
theorem Sat.alloc' {W0 w : World} {L : List Assn} (h : Sat W0 w L) (o : Obj) : Sat W0 (w.alloc o) L := h.later ((Below.refl _ _).alloc (Nat.le_refl _) o)

/-- 'vs' lie in block b from cell o on; m: they are one's own. -/
def seg (m : Bool) (b o : Nat) (vs : List Value) : Assn := fun h => ∀ i v, vs[i]? = some v → h b (o + i) = some (m, v)
theorem Sat.cell {W0 w : World} {L : List Assn} {m : Bool} {b o : Nat} {vs : List Value} (h : Sat W0 w (seg m b o vs :: L)) {i : Nat} {v : Value} (hv : vs[i]? = some v) : w.cell? ⟨b, o + i, none⟩ = some v := by
  obtain ⟨_, hs, hf⟩ := h
  obtain ⟨x, t, rfl, hA, ok, _, _⟩ := hf.head
  exact (ok.1 _ _ _ _ (hA i v hv)).1
theorem Sat.free {W0 w : World} {L : List Assn} {b o : Nat} {vs : List Value} (h : Sat W0 w (seg true b o vs :: L)) {i : Nat} (hi : i < vs.length) : w.frozen? ⟨b, o + i, none⟩ = false ∧ W0.heap.size ≤ b := by
  obtain ⟨_, hs, hf⟩ := h
  obtain ⟨x, t, rfl, hA, ok, _, _⟩ := hf.head
  exact (ok.1 _ _ _ _ (hA i vs[i] (by simp [hi]))).2 rfl
theorem Sat.at {W0 w : World} {L : List Assn} {m : Bool} {b : Nat} {vs : List Value} (h : Sat W0 w (seg m b 0 vs :: L)) (i : Nat) {v : Value} (hv : vs[i]? = some v) : w.cell? ⟨b, i, none⟩ = some v := by
  have := h.cell hv
  simpa using this
theorem Sat.fr {W0 w : World} {L : List Assn} {b : Nat} {vs : List Value} (h : Sat W0 w (seg true b 0 vs :: L)) (i : Nat) (hi : i < vs.length) : w.frozen? ⟨b, i, none⟩ = false := by
  have := (h.free hi).1
  simpa using this
/-- Two parts, one of which is one's own, lie apart. -/
theorem Sat.apart {W0 w : World} {L : List Assn} {m : Bool} {b o b' o' : Nat} {vs us : List Value} (h : Sat W0 w (seg true b o vs :: seg m b' o' us :: L)) {i j : Nat} (hi : i < vs.length) (hj : j < us.length) (e : b = b') : o + i ≠ o' + j := by
  intro e2
  obtain ⟨_, hs, hf⟩ := h
  obtain ⟨x, t, rfl, hA, _, hd, hf'⟩ := hf.head
  obtain ⟨y, t', rfl, hB, _, _, _⟩ := hf'.head
  have h1 := hA i vs[i] (by simp [hi])
  have h2 := hB j us[j] (by simp [hj])
  rw [← e, ← e2] at h2
  have := ((hd y (by simp)).1 b (o + i) _ _ h1 h2).2
  simp at this
theorem Sat.ne {W0 w : World} {L : List Assn} {m : Bool} {b b' : Nat} {v u : Value} {vs us : List Value} (h : Sat W0 w (seg true b 0 (v :: vs) :: seg m b' 0 (u :: us) :: L)) : b ≠ b' := fun e => by
  have := h.apart (i := 0) (j := 0) (by simp) (by simp) e
  simp at this
/-- A store into a cell of one's own. -/
theorem Sat.store {W0 w : World} {L : List Assn} {b o : Nat} {vs : List Value} (h : Sat W0 w (seg true b o vs :: L)) {i : Nat} (hi : i < vs.length) (v : Value) {q : Nat} (hq : q = o + i) : Sat W0 (w.setCell ⟨b, q, none⟩ v) (seg true b o (vs.set i v) :: L) := by
  subst hq
  have hfree := h.free hi
  obtain ⟨h0, hs, hf⟩ := h
  obtain ⟨x, t, rfl, hA, ok, hd, hf'⟩ := hf.head
  have hat := hA i vs[i] (by simp [hi])
  have hcell := (ok.1 _ _ _ _ hat).1
  refine ⟨h0.setCell (by exact hfree.2) v, ⟨fun b' o' => if b' = b ∧ o' = o + i then some (true, v) else x b' o', x.q⟩ :: t, .cons ?_ ⟨?_, fun l y hy => ⟨(KeepsOthers.setCell w _ v).same l y (ok.2 l y hy).1 (ok.2 l y hy).2.1, (ok.2 l y hy).2⟩⟩ (fun k hk => ⟨?_, (hd k hk).2⟩) (hf'.move fun k hk => ⟨?_, fun l y hy => ⟨(KeepsOthers.setCell w _ v).same l y ((hf'.okAll k hk).2 l y hy).1 ((hf'.okAll k hk).2 l y hy).2.1, ((hf'.okAll k hk).2 l y hy).2⟩⟩)⟩
  · intro j u hj
    by_cases e : j = i
    · subst e
      have : u = v := by simpa [List.getElem?_set, hi] using hj.symm
      simp [this]
    · have hj' : vs[j]? = some u := by rw [List.getElem?_set_ne (by omega)] at hj; exact hj
      have e' : ¬ (b = b ∧ o + j = o + i) := by omega
      show (if _ then _ else _) = _
      rw [if_neg e']
      exact hA j u hj'
  · intro b' o' m u hx
    by_cases e : b' = b ∧ o' = o + i
    · obtain ⟨rfl, rfl⟩ := e
      simp only [and_self, if_true, Option.some.injEq, Prod.mk.injEq] at hx
      obtain ⟨rfl, rfl⟩ := hx
      exact ⟨World.cell?_setCell_same w _ _ hcell, fun _ => ⟨by rw [World.frozen?_setCell]; exact hfree.1, hfree.2⟩⟩
    · simp only [if_neg e] at hx
      obtain ⟨h1, h2⟩ := ok.1 b' o' m u hx
      refine ⟨?_, fun hm => ⟨by rw [World.frozen?_setCell]; exact (h2 hm).1, (h2 hm).2⟩⟩
      rw [World.cell?_setCell_other (h := by intro hh; apply e; cases hh; exact ⟨rfl, rfl⟩)]
      exact h1
  · intro b' o' p q hp hq
    by_cases e : b' = b ∧ o' = o + i
    · obtain ⟨rfl, rfl⟩ := e
      have := ((hd k hk).1 b' (o + i) _ _ hat hq).2
      simp at this
    · simp only [if_neg e] at hp
      exact (hd k hk).1 b' o' p q hp hq
  · intro b' o' m u hx
    obtain ⟨h1, h2⟩ := (hf'.okAll k hk).1 b' o' m u hx
    refine ⟨?_, fun hm => ⟨by rw [World.frozen?_setCell]; exact (h2 hm).1, (h2 hm).2⟩⟩
    by_cases e : b' = b ∧ o' = o + i
    · obtain ⟨rfl, rfl⟩ := e
      have := ((hd k hk).1 b' (o + i) _ _ hat hx).2
      simp at this
    · rw [World.cell?_setCell_other (h := by intro hh; apply e; cases hh; exact ⟨rfl, rfl⟩)]
      exact h1
/-- A new block is one's own. -/
theorem Sat.alloc {W0 w : World} {L : List Assn} (h : Sat W0 w L) (cs : Array Value) (T : TypeId) : Sat W0 (w.alloc (.cells cs T)) (seg true w.heap.size 0 cs.toList :: L) := by
  have h' := h.alloc' (.cells cs T)
  obtain ⟨hb, hs, hf⟩ := h
  have hok := hf.okAll
  obtain ⟨hb', _⟩ := h'
  refine ⟨hb', Hp.of (fun b o => if b = w.heap.size then (cs[o]?).map (true, ·) else none) :: hs, .cons ?_ (Hp.of_ok ?_) (fun k hk => Hp.of_dis ?_) (hf.move fun k hk => (hok k hk).later fun j hj => Below.heap_alloc w _ j hj)⟩
  · intro i v hv
    have : cs[i]? = some v := by simpa using hv
    simp [this]
  · intro b o m v hx
    by_cases e : b = w.heap.size
    · subst e
      simp only [if_true, Option.map_eq_some_iff, Prod.mk.injEq] at hx
      obtain ⟨u, hu, rfl, rfl⟩ := hx
      exact ⟨by rw [World.cell?_alloc_at (hn := rfl)]; exact hu, fun _ => ⟨World.frozen?_alloc_at _ _ _ _ rfl, hb.size⟩⟩
    · simp [e] at hx
  · intro b o x y hx hy
    by_cases e : b = w.heap.size
    · subst e
      exact absurd ((hok k hk).lt hy) (by omega)
    · simp [e] at hx
theorem toList_made1 (v : Value) (n : Nat) : (madeCells #[v] n).toList = List.replicate n v := by
  apply List.ext_getElem
  · simp [madeCells]
  · intro i h1 h2
    simp [madeCells, Nat.mod_one]
theorem Sat.make {W0 w : World} {L : List Assn} (h : Sat W0 w L) (v : Value) (n : Nat) (T : TypeId) : Sat W0 (w.alloc (.cells (madeCells #[v] n) T)) (seg true w.heap.size 0 (List.replicate n v) :: L) := by
  rw [← toList_made1]
  exact h.alloc _ _
theorem Sat.ne' {W0 w : World} {L : List Assn} {m : Bool} {b b' : Nat} {vs us : List Value} (h : Sat W0 w (seg true b 0 vs :: seg m b' 0 us :: L)) (hv : 0 < vs.length) (hu : 0 < us.length) : b ≠ b' := fun e => by
  have := h.apart (i := 0) (j := 0) hv hu e
  simp at this
/-- One part as two, side by side. -/
theorem Sat.part {W0 w : World} {L : List Assn} {m : Bool} {b o : Nat} {xs ys : List Value} (h : Sat W0 w (seg m b o (xs ++ ys) :: L)) {q : Nat} (hq : q = o + xs.length) : Sat W0 w (seg m b o xs :: seg m b q ys :: L) := by
  subst hq
  obtain ⟨h0, hs, hf⟩ := h
  obtain ⟨x, t, rfl, hA, ok, hd, hf'⟩ := hf.head
  refine ⟨h0, Hp.of (fun b' o' => if o' < o + xs.length then x b' o' else none) :: Hp.of (fun b' o' => if o' < o + xs.length then none else x b' o') :: t, .cons ?_ (Hp.of_ok ?_) (fun k hk => Hp.of_dis ?_) (.cons ?_ (Hp.of_ok ?_) (fun k hk => Hp.of_dis ?_) hf')⟩
  · intro i v hv
    have hi : i < xs.length := (List.getElem?_eq_some_iff.1 hv).1
    show (if _ then _ else _) = _
    rw [if_pos (by omega)]
    exact hA i v (by rw [List.getElem?_append_left hi]; exact hv)
  · intro b' o' m' v hx
    split at hx
    · exact ok.1 _ _ _ _ hx
    · cases hx
  · intro b' o' p q hp hq
    rcases List.mem_cons.1 hk with rfl | hk
    · split at hp
      · have hq : (if o' < o + xs.length then none else x b' o') = some q := hq
        rw [if_pos (by assumption)] at hq; cases hq
      · cases hp
    · split at hp
      · exact (hd k hk).1 _ _ _ _ hp hq
      · cases hp
  · intro i v hv
    show (if _ then _ else _) = _
    rw [if_neg (by omega), Nat.add_assoc]
    exact hA (xs.length + i) v (by rw [List.getElem?_append_right (by omega)]; simpa using hv)
  · intro b' o' m' v hx
    split at hx
    · cases hx
    · exact ok.1 _ _ _ _ hx
  · intro b' o' p q hp hq
    split at hp
    · cases hp
    · exact (hd k hk).1 _ _ _ _ hp hq
/-- Two parts side by side as one. -/
theorem Sat.join {W0 w : World} {L : List Assn} {m : Bool} {b o q : Nat} {xs ys : List Value} (h : Sat W0 w (seg m b o xs :: seg m b q ys :: L)) (hq : q = o + xs.length) : Sat W0 w (seg m b o (xs ++ ys) :: L) := by
  subst hq
  obtain ⟨h0, hs, hf⟩ := h
  obtain ⟨x, t, rfl, hA, ok, hd, hf'⟩ := hf.head
  obtain ⟨y, t', rfl, hB, ok', hd', hf''⟩ := hf'.head
  refine ⟨h0, Hp.of (fun b' o' => match x b' o' with | some v => some v | none => y b' o') :: t', .cons ?_ (Hp.of_ok ?_) (fun k hk => Hp.of_dis ?_) hf''⟩
  · intro i v hv
    by_cases hi : i < xs.length
    · rw [List.getElem?_append_left hi] at hv
      simp [hA i v hv]
    · rw [List.getElem?_append_right (by omega)] at hv
      have hy := hB _ v hv
      rw [show o + xs.length + (i - xs.length) = o + i by omega] at hy
      cases hx : x b (o + i) with
      | none => simp [hx, hy]
      | some u =>
        have := ((hd y (by simp)).1 b (o + i) _ _ hx hy).1
        simp [hx, this]
  · intro b' o' m' v hx
    cases hx' : x b' o' with
    | none => simp only [hx'] at hx; exact ok'.1 _ _ _ _ hx
    | some u => simp only [hx', Option.some.injEq] at hx; subst hx; exact ok.1 _ _ _ _ hx'
  · intro b' o' p q hp hq
    cases hx' : x b' o' with
    | none => simp only [hx'] at hp; exact (hd' k hk).1 _ _ _ _ hp hq
    | some u => simp only [hx', Option.some.injEq] at hp; subst hp; exact (hd k (by simp [hk])).1 _ _ _ _ hx' hq
/-- Cells laid one behind the other over a list from a place on. -/
def setL : List Value → Nat → List Value → List Value
  | L, _, [] => L
  | L, q, v :: vs => setL (L.set q v) (q + 1) vs
theorem length_setL : ∀ (vs L : List Value) (q : Nat), (setL L q vs).length = L.length
  | [], _, _ => rfl
  | v :: vs, L, q => by simp [setL, length_setL vs]
theorem getElem?_setL : ∀ (vs L : List Value) (q k : Nat), q + vs.length ≤ L.length → (setL L q vs)[k]? = if q ≤ k ∧ k < q + vs.length then vs[k - q]? else L[k]?
  | [], L, q, k, _ => by simp [setL]; omega
  | v :: vs, L, q, k, h => by
    simp only [List.length_cons] at h
    rw [setL, getElem?_setL vs (L.set q v) (q + 1) k (by simp; omega)]
    by_cases h1 : k = q
    · subst h1
      rw [if_neg (by omega), if_pos (by simp), List.getElem?_set_self (by omega)]
      simp
    · by_cases h2 : q + 1 ≤ k ∧ k < q + 1 + vs.length
      · rw [if_pos h2, if_pos (by simp; omega), show k - q = (k - (q + 1)) + 1 by omega]
        simp
      · rw [if_neg h2, if_neg (by simp; omega), List.getElem?_set_ne (by omega)]
section
variable {α : Type} {enc : α → List Value} {m : Nat}
theorem fm_len (hm : ∀ a, (enc a).length = m) : ∀ vals : List α, (vals.flatMap enc).length = vals.length * m
  | [] => by simp
  | a :: l => by simp [hm, fm_len hm l, Nat.succ_mul]; omega
theorem fm_get (hm : ∀ a, (enc a).length = m) : ∀ (vals : List α) (i j : Nat) (hi : i < vals.length), j < m → (vals.flatMap enc)[i * m + j]? = (enc vals[i])[j]?
  | [], _, _, hi, _ => absurd hi (by simp)
  | a :: l, 0, j, _, hj => by simp [List.getElem?_append_left (show j < (enc a).length by rw [hm]; exact hj)]
  | a :: l, i + 1, j, hi, hj => by
    have := fm_get hm l i j (by simpa using hi) hj
    simp only [List.flatMap_cons, List.getElem_cons_succ]
    rw [List.getElem?_append_right (by rw [hm, Nat.succ_mul]; omega), hm, ← this]
    congr 1
    rw [Nat.succ_mul]; omega
theorem fm_set (hm : ∀ a, (enc a).length = m) (vals : List α) (i : Nat) (hi : i < vals.length) (x : α) : setL (vals.flatMap enc) (i * m) (enc x) = (vals.set i x).flatMap enc := by
  have hl : i * m + (enc x).length ≤ (vals.flatMap enc).length := by
    rw [fm_len hm, hm, ← Nat.succ_mul]; exact Nat.mul_le_mul_right _ hi
  apply List.ext_getElem?
  intro k
  rw [getElem?_setL _ _ _ _ hl]
  rcases Nat.eq_zero_or_pos m with h0 | h0
  · subst h0
    have e1 : vals.flatMap enc = [] := List.eq_nil_of_length_eq_zero (by rw [fm_len hm]; simp)
    have e2 : (vals.set i x).flatMap enc = [] := List.eq_nil_of_length_eq_zero (by rw [fm_len hm]; simp)
    have e3 : enc x = [] := List.eq_nil_of_length_eq_zero (hm x)
    simp [e1, e2, e3]
  by_cases hk : k < vals.length * m
  · obtain ⟨a, c, rfl, hc⟩ : ∃ a c, k = a * m + c ∧ c < m := ⟨k / m, k % m, by rw [Nat.mul_comm]; exact (Nat.div_add_mod k m).symm, Nat.mod_lt _ h0⟩
    have ha : a < vals.length := by
      apply Nat.lt_of_mul_lt_mul_right (a := m); omega
    rw [fm_get hm (vals.set i x) a c (by simpa using ha) hc, fm_get hm vals a c ha hc, hm]
    by_cases e : i = a
    · subst e
      rw [if_pos (by omega)]
      simp
    · rw [if_neg]
      · simp [List.getElem_set_ne e]
      · intro ⟨h1, h2⟩
        rcases Nat.lt_or_gt_of_ne e with h | h
        · have := Nat.mul_le_mul_right m (show i + 1 ≤ a from h)
          rw [Nat.succ_mul] at this; omega
        · have := Nat.mul_le_mul_right m (show a + 1 ≤ i from h)
          rw [Nat.succ_mul] at this; omega
  · rw [if_neg, List.getElem?_eq_none (by rw [fm_len hm]; omega), List.getElem?_eq_none (by rw [fm_len hm]; simp; omega)]
    intro ⟨_, h2⟩
    rw [fm_len hm, hm] at hl
    rw [hm] at h2
    omega
end
theorem Sat.lt {W0 w : World} {L : List Assn} {m : Bool} {b : Nat} {vs : List Value} (h : Sat W0 w (seg m b 0 vs :: L)) (hl : 0 < vs.length) : b < w.heap.size := World.block_lt_of_cell? w _ (h.at 0 (v := vs[0]) (by simp [hl]))
/-- An assertion of whose parts another holds. -/
theorem Sat.imp {W0 w : World} {L : List Assn} {A B : Assn} (h : Sat W0 w (A :: L)) (hAB : ∀ x, A x → B x) : Sat W0 w (B :: L) := by
  obtain ⟨h0, hs, hf⟩ := h
  obtain ⟨x, t, rfl, hA, ok, hd, hf'⟩ := hf.head
  exact ⟨h0, x :: t, .cons (hAB x hA) ok hd hf'⟩
/-- What an assertion says besides. -/
theorem Sat.fact {W0 w : World} {L : List Assn} {A : Assn} (h : Sat W0 w (A :: L)) {p : Prop} (hp : ∀ x, A x → p) : p := by
  obtain ⟨_, hs, hf⟩ := h
  obtain ⟨x, t, rfl, hA, _⟩ := hf.head
  exact hp x hA
/-- Two assertions as one. -/
def sep (A B : Assn) : Assn := fun x => ∃ h k, h.le x ∧ k.le x ∧ h.dis k ∧ A h ∧ B k
theorem Sat.sepOpen {W0 w : World} {L : List Assn} {A B : Assn} (h : Sat W0 w (sep A B :: L)) : Sat W0 w (A :: B :: L) := by
  obtain ⟨h0, hs, hf⟩ := h
  obtain ⟨x, t, rfl, ⟨p, q, hp, hq, hd0, hA, hB⟩, ok, hd, hf'⟩ := hf.head
  refine ⟨h0, p :: q :: t, .cons hA ⟨fun b o m v e => ok.1 b o m v (hp.1 _ _ _ e), fun l y e => ok.2 l y (hp.2 _ _ e)⟩ ?_ (.cons hB ⟨fun b o m v e => ok.1 b o m v (hq.1 _ _ _ e), fun l y e => ok.2 l y (hq.2 _ _ e)⟩ (fun k hk => ⟨fun b o u v e f => (hd k hk).1 b o u v (hq.1 _ _ _ e) f, fun l u v e f => (hd k hk).2 l u v (hq.2 _ _ e) f⟩) hf')⟩
  intro k hk
  rcases List.mem_cons.1 hk with rfl | hk
  · exact hd0
  · exact ⟨fun b o u v e f => (hd k hk).1 b o u v (hp.1 _ _ _ e) f, fun l u v e f => (hd k hk).2 l u v (hp.2 _ _ e) f⟩
/-- Two parts as one. -/
def Hp.cup (x y : Hp) : Hp := ⟨fun b o => match x b o with | some v => some v | none => y b o, fun l => match x.q l with | some v => some v | none => y.q l⟩
theorem Hp.le_cup (x y : Hp) : x.le (x.cup y) := ⟨fun b o v e => by show (match x.c b o with | some v => some v | none => y.c b o) = _; rw [e], fun l v e => by show (match x.q l with | some v => some v | none => y.q l) = _; rw [e]⟩
theorem Hp.cup_le {x y : Hp} (d : x.dis y) : y.le (x.cup y) := by
  refine ⟨fun b o v e => ?_, fun l v e => ?_⟩
  · show (match x.c b o with | some v => some v | none => y.c b o) = _
    cases hx : x.c b o with
    | none => exact e
    | some u => rw [← (d.1 b o _ _ hx e).1]
  · show (match x.q l with | some v => some v | none => y.q l) = _
    cases hx : x.q l with
    | none => exact e
    | some u => exact (d.2 l _ _ hx e).elim
theorem Hp.ok.cup {W0 w : World} {x y : Hp} (ok : x.ok W0 w) (ok' : y.ok W0 w) : (x.cup y).ok W0 w := by
  refine ⟨fun b o m v hx => ?_, fun l v hx => ?_⟩
  · have hx : (match x.c b o with | some v => some v | none => y.c b o) = some (m, v) := hx
    cases hx' : x.c b o with
    | none => rw [hx'] at hx; exact ok'.1 _ _ _ _ hx
    | some u => rw [hx'] at hx; cases hx; exact ok.1 _ _ _ _ hx'
  · have hx : (match x.q l with | some v => some v | none => y.q l) = some v := hx
    cases hx' : x.q l with
    | none => rw [hx'] at hx; exact ok'.2 _ _ hx
    | some u => rw [hx'] at hx; cases hx; exact ok.2 _ _ hx'
theorem Hp.dis.cup {x y k : Hp} (d : x.dis k) (d' : y.dis k) : (x.cup y).dis k := by
  refine ⟨fun b o p q hp hq => ?_, fun l p q hp hq => ?_⟩
  · have hp : (match x.c b o with | some v => some v | none => y.c b o) = some p := hp
    cases hx' : x.c b o with
    | none => rw [hx'] at hp; exact d'.1 _ _ _ _ hp hq
    | some u => rw [hx'] at hp; cases hp; exact d.1 _ _ _ _ hx' hq
  · have hp : (match x.q l with | some v => some v | none => y.q l) = some p := hp
    cases hx' : x.q l with
    | none => rw [hx'] at hp; exact d'.2 _ _ _ hp hq
    | some u => rw [hx'] at hp; cases hp; exact d.2 _ _ _ hx' hq
theorem Sat.sepShut {W0 w : World} {L : List Assn} {A B : Assn} (h : Sat W0 w (A :: B :: L)) : Sat W0 w (sep A B :: L) := by
  obtain ⟨h0, hs, hf⟩ := h
  obtain ⟨x, t, rfl, hA, ok, hd, hf'⟩ := hf.head
  obtain ⟨y, t', rfl, hB, ok', hd', hf''⟩ := hf'.head
  refine ⟨h0, Hp.cup x y :: t', .cons ⟨x, y, Hp.le_cup x y, Hp.cup_le (hd y (by simp)), hd y (by simp), hA, hB⟩ (ok.cup ok') (fun k hk => (hd k (by simp [hk])).cup (hd' k hk)) hf''⟩
theorem Sat.exOpen {W0 w : World} {L : List Assn} {α : Type} {A : α → Assn} (h : Sat W0 w ((fun x => ∃ a, A a x) :: L)) : ∃ a, Sat W0 w (A a :: L) := by
  obtain ⟨h0, hs, hf⟩ := h
  obtain ⟨x, t, rfl, ⟨a, hA⟩, ok, hd, hf'⟩ := hf.head
  exact ⟨a, h0, x :: t, .cons hA ok hd hf'⟩
theorem Sat.exShut {W0 w : World} {L : List Assn} {α : Type} {A : α → Assn} (a : α) (h : Sat W0 w (A a :: L)) : Sat W0 w ((fun x => ∃ a, A a x) :: L) :=
  h.imp fun _ hx => ⟨a, hx⟩
theorem Sat.addEmp {W0 w : World} {L : List Assn} (h : Sat W0 w L) : Sat W0 w (emp :: L) := by
  obtain ⟨h0, hs, hf⟩ := h
  exact ⟨h0, Hp.zero :: hs, .cons trivial (Hp.zero_ok _ _) (fun _ _ => Hp.zero_dis _) hf⟩
/-- What was there is there still. -/
theorem Sat.old {W0 w : World} {L : List Assn} (h : Sat W0 w L) {p : Addr} {v : Value} (hv : W0.cell? p = some v) : w.cell? p = some v :=
  (h.below.cell (World.block_lt_of_cell? W0 p hv)).trans hv
/-- One assertion is taken out of a list. -/
inductive Take (A : Assn) : List Assn → List Assn → Prop
  | here {L : List Assn} : Take A (A :: L) L
  | there {B : Assn} {L R : List Assn} (h : Take A L R) : Take A (B :: L) (B :: R)
/-- A list out of another: in another order, some let go. -/
inductive Fr : List Assn → List Assn → Prop
  | done {K : List Assn} : Fr K K
  | nil {K : List Assn} : Fr [] K
  | cons {A : Assn} {T K R : List Assn} (h : Take A K R) (t : Fr T R) : Fr (A :: T) K
  | skip {B : Assn} {T K : List Assn} (t : Fr T K) : Fr T (B :: K)
theorem Fr1 {K : List Assn} : Fr K K := .done
theorem Fr2 {K : List Assn} : Fr [] K := .nil
theorem Fr3 {A : Assn} {T K R : List Assn} (h : Take A K R) (t : Fr T R) : Fr (A :: T) K := .cons h t
theorem Fr4 {B : Assn} {T K : List Assn} (t : Fr T K) : Fr T (B :: K) := .skip t
theorem Tk1 {A : Assn} {L : List Assn} : Take A (A :: L) L := .here
theorem Tk2 {A B : Assn} {L R : List Assn} (h : Take A L R) : Take A (B :: L) (B :: R) := .there h
theorem Fit.take {W0 w : World} {A : Assn} {K R : List Assn} (f : Take A K R) : ∀ {hs : List Hp}, Fit W0 w K hs → ∃ x t, Fit W0 w (A :: R) (x :: t) ∧ ∀ y ∈ x :: t, y ∈ hs := by
  induction f with
  | here => intro hs h; obtain ⟨x, t, rfl, _⟩ := h.head; exact ⟨x, t, h, fun y hy => hy⟩
  | there _ ih =>
    intro hs h
    obtain ⟨b, t0, rfl, hB, okb, hdb, ht⟩ := h.head
    obtain ⟨x, t, hf, hm⟩ := ih ht
    obtain ⟨x', t', e, hA, okx, hdx, hR⟩ := hf.head
    cases e
    refine ⟨x, b :: t, .cons hA okx ?_ (.cons hB okb ?_ hR), ?_⟩
    · intro k hk
      rcases List.mem_cons.1 hk with rfl | hk
      · exact (hdb x (hm x (by simp))).symm
      · exact hdx k hk
    · exact fun k hk => hdb k (hm k (by simp [hk]))
    · intro y hy
      rcases List.mem_cons.1 hy with rfl | hy
      · exact List.mem_cons_of_mem _ (hm y (by simp))
      · rcases List.mem_cons.1 hy with rfl | hy
        · simp
        · exact List.mem_cons_of_mem _ (hm y (by simp [hy]))
theorem Fit.fr {W0 w : World} {T K : List Assn} (f : Fr T K) : ∀ {hs : List Hp}, Fit W0 w K hs → ∃ hs', Fit W0 w T hs' ∧ ∀ x ∈ hs', x ∈ hs := by
  induction f with
  | done => intro hs h; exact ⟨hs, h, fun x hx => hx⟩
  | nil => intro hs h; exact ⟨[], .nil, fun x hx => by cases hx⟩
  | cons ht _ ih =>
    intro hs h
    obtain ⟨x, t, hf, hm⟩ := h.take ht
    obtain ⟨x', t', e, hA, okx, hdx, hR⟩ := hf.head
    cases e
    obtain ⟨hs', hf', hm'⟩ := ih hR
    refine ⟨x :: hs', .cons hA okx (fun k hk => hdx k (hm' k hk)) hf', ?_⟩
    intro y hy
    rcases List.mem_cons.1 hy with rfl | hy
    · exact hm y (by simp)
    · exact hm y (List.mem_cons_of_mem _ (hm' y hy))
  | skip _ ih =>
    intro hs h
    obtain ⟨b, t0, rfl, hB, okb, hdb, ht⟩ := h.head
    obtain ⟨hs', hf', hm'⟩ := ih ht
    exact ⟨hs', hf', fun x hx => List.mem_cons_of_mem _ (hm' x hx)⟩
/-- What is asked for is found among what there is. -/
theorem Sat.sub {W0 w : World} {T K : List Assn} (h : Sat W0 w K) (f : Fr T K) : Sat W0 w T := by
  obtain ⟨hb, hs, hf⟩ := h
  obtain ⟨hs', hf', _⟩ := hf.fr f
  exact ⟨hb, hs', hf'⟩
/-- Block l holds this, which is no cells. -/
def obj (l : Nat) (o : Obj) : Assn := fun x => x.q l = some o
theorem Sat.obj {W0 w : World} {L : List Assn} {l : Nat} {o : Obj} (h : Sat W0 w (obj l o :: L)) : w.heap[l]? = some o ∧ o.isCells = false ∧ W0.heap.size ≤ l := by
  obtain ⟨_, hs, hf⟩ := h
  obtain ⟨x, t, rfl, hA, ok, _, _⟩ := hf.head
  exact ok.2 l o hA
/-- A new block that holds no cells. -/
theorem Sat.allocObj {W0 w : World} {L : List Assn} (h : Sat W0 w L) (o : Obj) (ho : o.isCells = false) {q : Nat} (hq : q = w.heap.size) : Sat W0 (w.alloc o) (Sep.obj q o :: L) := by
  subst hq
  have h' := h.alloc' o
  obtain ⟨hb, hs, hf⟩ := h
  have hok := hf.okAll
  obtain ⟨hb', _⟩ := h'
  refine ⟨hb', ⟨fun _ _ => none, fun l => if l = w.heap.size then some o else none⟩ :: hs, .cons (by simp [Sep.obj]) ⟨fun _ _ _ _ e => (by cases e), fun l x hx => ?_⟩ (fun k hk => ⟨fun _ _ _ _ e => (by cases e), fun l x y hx hy => ?_⟩) (hf.move fun k hk => (hok k hk).later fun j hj => Below.heap_alloc w _ j hj)⟩
  · by_cases e : l = w.heap.size
    · subst e
      simp only [if_true, Option.some.injEq] at hx
      subst hx
      exact ⟨by show (w.heap.push _)[w.heap.size]? = _; simp, ho, hb.size⟩
    · simp [e] at hx
  · by_cases e : l = w.heap.size
    · subst e
      exact absurd (Array.getElem?_eq_some_iff.1 ((hok k hk).2 _ _ hy).1).1 (by omega)
    · simp [e] at hx
/-- Such a block turns. -/
theorem Sat.putObj {W0 w : World} {L : List Assn} {l : Nat} {o : Obj} (h : Sat W0 w (Sep.obj l o :: L)) (o' : Obj) (ho' : o'.isCells = false) : Sat W0 (w.putObj l o') (Sep.obj l o' :: L) := by
  obtain ⟨hl, ho, hl0⟩ := h.obj
  obtain ⟨hb, hs, hf⟩ := h
  obtain ⟨x, t, rfl, hA, ok, hd, hf'⟩ := hf.head
  have hlt : l < w.heap.size := (Array.getElem?_eq_some_iff.1 hl).1
  have hne : ∀ (k : Nat) (y : Obj), w.heap[k]? = some y → y.isCells = true → (w.putObj l o').heap[k]? = w.heap[k]? := fun k y hk hy =>
    World.putObj_heap_other (fun e => by subst e; rw [hl] at hk; cases hk; rw [ho] at hy; cases hy)
  have hcell : ∀ (b p : Nat) (v : Value), w.cell? ⟨b, p, none⟩ = some v → (w.putObj l o').cell? ⟨b, p, none⟩ = some v ∧ (w.putObj l o').frozen? ⟨b, p, none⟩ = w.frozen? ⟨b, p, none⟩ := fun b p v hv => by
    obtain ⟨y, hy1, hy2⟩ := cells_of_cell hv
    exact ⟨(World.cell?_of_block (hne b y hy1 hy2)).trans hv, World.frozen?_of_block (hne b y hy1 hy2)⟩
  refine ⟨hb.grown (grownBy_putObj' w l o') hb.size (fun k e => by cases e; exact hl0), ⟨x.c, fun k => if k = l then some o' else x.q k⟩ :: t, .cons (by simp [Sep.obj]) ⟨fun b p m v hx => ?_, fun k y hx => ?_⟩ (fun k hk => ⟨(hd k hk).1, fun j y z hy hz => ?_⟩) (hf'.move fun k hk => ⟨fun b p m v hx => ?_, fun j y hy => ?_⟩)⟩
  · obtain ⟨h1, h2⟩ := ok.1 b p m v hx
    obtain ⟨h3, h4⟩ := hcell b p v h1
    exact ⟨h3, fun hm => ⟨h4.trans (h2 hm).1, (h2 hm).2⟩⟩
  · by_cases e : k = l
    · subst e
      simp only [if_true, Option.some.injEq] at hx
      subst hx
      exact ⟨World.putObj_heap_same hlt, ho', hl0⟩
    · simp only [if_neg e] at hx
      obtain ⟨h1, h2⟩ := ok.2 k y hx
      exact ⟨(World.putObj_heap_other e).trans h1, h2⟩
  · by_cases e : j = l
    · subst e
      exact (hd k hk).2 j o z hA hz
    · simp only [if_neg e] at hy
      exact (hd k hk).2 j y z hy hz
  · obtain ⟨h1, h2⟩ := (hf'.okAll k hk).1 b p m v hx
    obtain ⟨h3, h4⟩ := hcell b p v h1
    exact ⟨h3, fun hm => ⟨h4.trans (h2 hm).1, (h2 hm).2⟩⟩
  · obtain ⟨h1, h2⟩ := (hf'.okAll k hk).2 j y hy
    have e : j ≠ l := fun e => by subst e; exact (hd k hk).2 j o y hA hy
    exact ⟨(World.putObj_heap_other e).trans h1, h2⟩
end Go.Sep
