/- Sep, Bv, Wpl, QTail, Led, Word, ShaM: texts that lie apart elsewhere, as one; each under the conditions that it names. -/
import Derived.WalkKit
import Derived.Below
import Derived.Lib.Hide
import Derived.Deep.Draws
import Derived.RangeFuncOwn
import Derived.Laws.AppendOwn
import Derived.Laws.CopyRow
import Derived.Laws.IdiomCopy
import Derived.Deep.Quiet
import Derived.StillTail
import Derived.Deep.QuietTactic
import Derived.BigQuiet
import Derived.Test.YtbefjaodpbgpcaaGreatRows
import Derived.WalkSpells
import Derived.WalkLawsBesides
import Derived.RegionTactic
import Derived.ChangeAlike
import Derived.BigRegion
import Derived.StillTailTactics
import Derived.Deep.RegionLaw
set_option linter.unusedVariables false
set_option linter.unusedSimpArgs false
set_option maxRecDepth 100000
set_option maxHeartbeats 16000000

/- A small separation logic over the model's cells: 'Sat W0 w L' says that the world w, which keeps all that W0 has, holds the listed assertions in disjoint parts of its memory. No condition. -/
namespace Go.Sep
open Go.RowKit

structure Hp where
 c : Nat → Nat → Option (Bool × Value)
 q : Nat → Option Obj
instance : CoeFun Hp (fun _ => Nat → Nat → Option (Bool × Value)) := ⟨Hp.c⟩
abbrev Hp.of (c : Nat → Nat → Option (Bool × Value)) : Hp := ⟨c, fun _ => none⟩
abbrev Hp.zero : Hp := ⟨fun _ _ => none, fun _ => none⟩
def Hp.ok (W0 w : World) (h : Hp) : Prop :=
 (∀ b o m v, h b o = some (m, v) → w.cell? ⟨b, o, none⟩ = some v ∧ (m = true → w.frozen? ⟨b, o, none⟩ = false ∧ W0.heap.size ≤ b)) ∧
 (∀ l x, h.q l = some x → w.heap[l]? = some x ∧ x.isCells = false ∧ W0.heap.size ≤ l)
def Hp.dis (h k : Hp) : Prop := (∀ b o x y, h b o = some x → k b o = some y → x = y ∧ x.1 = false) ∧ (∀ l x y, h.q l = some x → k.q l = some y → False)
def Hp.le (h k : Hp) : Prop := (∀ b o x, h b o = some x → k b o = some x) ∧ (∀ l x, h.q l = some x → k.q l = some x)
theorem Hp.zero_ok (W0 w : World) : Hp.zero.ok W0 w := ⟨fun _ _ _ _ h => (by cases h), fun _ _ h => (by cases h)⟩
theorem Hp.zero_dis (k : Hp) : Hp.zero.dis k := ⟨fun _ _ _ _ h => (by cases h), fun _ _ _ h => (by cases h)⟩
theorem Hp.of_ok {W0 w : World} {c : Nat → Nat → Option (Bool × Value)} (h : ∀ b o m v, c b o = some (m, v) → w.cell? ⟨b, o, none⟩ = some v ∧ (m = true → w.frozen? ⟨b, o, none⟩ = false ∧ W0.heap.size ≤ b)) : (Hp.of c).ok W0 w := ⟨h, fun _ _ h => by cases h⟩
theorem Hp.of_dis {c : Nat → Nat → Option (Bool × Value)} {k : Hp} (h : ∀ b o x y, c b o = some x → k b o = some y → x = y ∧ x.1 = false) : (Hp.of c).dis k := ⟨h, fun _ _ _ h => by cases h⟩
abbrev Assn := Hp → Prop
def emp : Assn := fun _ => True
inductive Fit (W0 w : World) : List Assn → List Hp → Prop
 | nil : Fit W0 w [] []
 | cons {A : Assn} {h : Hp} {L : List Assn} {hs : List Hp} (hA : A h) (ok : h.ok W0 w) (hd : ∀ k ∈ hs, h.dis k) (t : Fit W0 w L hs) : Fit W0 w (A :: L) (h :: hs)
def Sat (W0 w : World) (L : List Assn) : Prop := Below W0.heap.size W0 w ∧ ∃ hs, Fit W0 w L hs

theorem Hp.dis.symm {h k : Hp} (d : h.dis k) : k.dis h := ⟨fun b o x y hx hy => by
 obtain ⟨e, f⟩ := d.1 b o y x hy hx
 exact ⟨e.symm, e ▸ f⟩, fun l x y hx hy => d.2 l y x hy hx⟩
theorem Sat.below {W0 w : World} {L : List Assn} (h : Sat W0 w L) : Below W0.heap.size W0 w := h.1
theorem Sat.size {W0 w : World} {L : List Assn} (h : Sat W0 w L) : W0.heap.size ≤ w.heap.size := h.1.size
theorem Sat.nil (W0 : World) : Sat W0 W0 [] := ⟨Below.refl _ _, [], .nil⟩

theorem Fit.pull {W0 w : World} : ∀ {L : List Assn} {hs : List Hp} (i : Nat), Fit W0 w L hs → i < L.length → ∃ h hs', Fit W0 w (L.getD i emp :: L.eraseIdx i) (h :: hs') ∧ (∀ x, x ∈ (h :: hs') ↔ x ∈ hs)
 | _, _, _, .nil, hi => absurd hi (by simp)
 | _, _, 0, .cons hA ok hd t, _ => ⟨_, _, .cons hA ok hd t, fun _ => Iff.rfl⟩
 | _, _, i + 1, .cons (h := h0) (hs := hs0) hA ok hd t, hi => by
  obtain ⟨h, hs', hf, hm⟩ := Fit.pull i t (by simpa using hi)
  cases hf with
  | cons hA' ok' hd' t' =>
   refine ⟨h, h0 :: hs', ?_, ?_⟩
   ·refine .cons hA' ok' ?_ (.cons hA ok ?_ t')
    ·intro k hk
     rcases List.mem_cons.1 hk with rfl | hk
     ·exact (hd h ((hm h).1 (by simp))).symm
     ·exact hd' k hk
    ·intro k hk
     exact hd k ((hm k).1 (by simp [hk]))
   ·intro x
    have := hm x
    simp only [List.mem_cons] at this ⊢
    constructor
    ·rintro (rfl | rfl | hx)
     ·exact .inr (this.1 (.inl rfl))
     ·exact .inl rfl
     ·exact .inr (this.1 (.inr hx))
    ·rintro (rfl | hx)
     ·exact .inr (.inl rfl)
     ·rcases this.2 hx with rfl | h'
      ·exact .inl rfl
      ·exact .inr (.inr h')
theorem Sat.pull {W0 w : World} {L : List Assn} (h : Sat W0 w L) (i : Nat) : Sat W0 w (L.getD i emp :: L.eraseIdx i) := by
 obtain ⟨hb, hs, hf⟩ := h
 refine ⟨hb, ?_⟩
 by_cases hi : i < L.length
 ·obtain ⟨h, hs', hf', _⟩ := hf.pull i hi
  exact ⟨_, hf'⟩
 ·rw [List.eraseIdx_of_length_le (by omega), List.getD_eq_getElem?_getD, List.getElem?_eq_none (by omega)]
  exact ⟨Hp.zero :: hs, .cons trivial (Hp.zero_ok _ _) (fun _ _ => Hp.zero_dis _) hf⟩
def pick : List Nat → List Assn → List Assn
 | [], L => L
 | i :: is, L => let K := pick is L; let j := i + is.countP (fun q => decide (i < q)); K.getD j emp :: K.eraseIdx j
theorem Sat.pick {W0 w : World} {L : List Assn} (h : Sat W0 w L) : (is : List Nat) → Sat W0 w (pick is L)
 | [] => h
 | _ :: is => (h.pick is).pull _
theorem Sat.to {W0 w : World} {K K' : List Assn} (h : Sat W0 w K) (e : K = K') : Sat W0 w K' := e ▸ h
theorem Sat.tail {W0 w : World} {A : Assn} {L : List Assn} (h : Sat W0 w (A :: L)) : Sat W0 w L := by
 obtain ⟨hb, hs, hf⟩ := h
 cases hf with
 | cons _ _ _ t => exact ⟨hb, _, t⟩

theorem Sat.drop {W0 w : World} {L : List Assn} (h : Sat W0 w L) (i : Nat) : Sat W0 w (L.eraseIdx i) := (h.pull i).tail
theorem Fit.head {W0 w : World} {A : Assn} {L : List Assn} {hs : List Hp} (h : Fit W0 w (A :: L) hs) : ∃ x t, hs = x :: t ∧ A x ∧ x.ok W0 w ∧ (∀ k ∈ t, x.dis k) ∧ Fit W0 w L t := by
 cases h with
 | cons hA ok hd t => exact ⟨_, _, rfl, hA, ok, hd, t⟩
theorem Fit.okAll {W0 w : World} {L : List Assn} {hs : List Hp} (h : Fit W0 w L hs) : ∀ k ∈ hs, k.ok W0 w := by
 induction h with
 | nil => intro k hk; cases hk
 | cons hA ok hd t ih =>
  intro k hk
  rcases List.mem_cons.1 hk with rfl | hk
  ·exact ok
  ·exact ih k hk
theorem Fit.move {W0 w w' : World} {L : List Assn} {hs : List Hp} (h : Fit W0 w L hs) (ok : ∀ k ∈ hs, k.ok W0 w') : Fit W0 w' L hs := by
 induction h with
 | nil => exact .nil
 | cons hA _ hd t ih => exact .cons hA (ok _ (by simp)) hd (ih fun k hk => ok k (by simp [hk]))
theorem Hp.ok.lt {W0 w : World} {h : Hp} (ok : h.ok W0 w) {b o : Nat} {x : Bool × Value} (hx : h b o = some x) : b < w.heap.size :=
 World.block_lt_of_cell? w ⟨b, o, none⟩ (ok.1 b o x.1 x.2 hx).1
theorem Hp.ok.later {W0 w w' : World} {h : Hp} (ok : h.ok W0 w) (hb : ∀ k, k < w.heap.size → w'.heap[k]? = w.heap[k]?) : h.ok W0 w' := by
 refine ⟨fun b o m v hx => ?_, fun l x hx => ?_⟩
 ·have hl := ok.lt hx
  obtain ⟨h1, h2⟩ := ok.1 b o m v hx
  refine ⟨?_, fun hm => ⟨?_, (h2 hm).2⟩⟩
  ·rw [← h1]; exact World.cell?_of_block (hb b hl)
  ·rw [← (h2 hm).1]; exact World.frozen?_of_block (hb b hl)
 ·obtain ⟨h1, h2⟩ := ok.2 l x hx
  exact ⟨(hb l (Array.getElem?_eq_some_iff.1 h1).1).trans h1, h2⟩
theorem Sat.later {W0 w w' : World} {L : List Assn} (h : Sat W0 w L) (hb : Below w.heap.size w w') : Sat W0 w' L := by
 obtain ⟨h0, hs, hf⟩ := h
 exact ⟨h0.trans (hb.mono h0.size), hs, hf.move fun k hk => (hf.okAll k hk).later hb.block⟩
theorem Sat.drew {W0 w : World} {L : List Assn} (h : Sat W0 w L) : Sat W0 w.drew L := h.later (Below.refl _ _).drew
theorem Sat.drewN {W0 w : World} {L : List Assn} (h : Sat W0 w L) (n : Nat) : Sat W0 (w.drewN n) L := h.later ⟨rfl, rfl, rfl, Nat.le_refl _, fun _ _ => rfl⟩
theorem Sat.alloc' {W0 w : World} {L : List Assn} (h : Sat W0 w L) (o : Obj) : Sat W0 (w.alloc o) L := h.later ((Below.refl _ _).alloc (Nat.le_refl _) o)

def seg (m : Bool) (b o : Nat) (vs : List Value) : Assn := fun h => ∀ i v, vs[i]? = some v → h b (o + i) = some (m, v)
theorem Sat.cell {W0 w : World} {L : List Assn} {m : Bool} {b o : Nat} {vs : List Value} (h : Sat W0 w (seg m b o vs :: L)) {i : Nat} {v : Value} (hv : vs[i]? = some v) : w.cell? ⟨b, o + i, none⟩ = some v := by
 obtain ⟨_, hs, hf⟩ := h
 obtain ⟨x, t, rfl, hA, ok, _, _⟩ := hf.head
 exact (ok.1 _ _ _ _ (hA i v hv)).1
theorem Sat.free {W0 w : World} {L : List Assn} {b o : Nat} {vs : List Value} (h : Sat W0 w (seg true b o vs :: L)) {i : Nat} (hi : i < vs.length) : w.frozen? ⟨b, o + i, none⟩ = false ∧ W0.heap.size ≤ b := by
 obtain ⟨_, hs, hf⟩ := h
 obtain ⟨x, t, rfl, hA, ok, _, _⟩ := hf.head
 exact (ok.1 _ _ _ _ (hA i vs[i] (by simp [hi]))).2 rfl
theorem Sat.at {W0 w : World} {L : List Assn} {m : Bool} {b : Nat} {vs : List Value} (h : Sat W0 w (seg m b 0 vs :: L)) (i : Nat) {v : Value} (hv : vs[i]? = some v) : w.cell? ⟨b, i, none⟩ = some v := by
 have := h.cell hv
 simpa using this
theorem Sat.fr {W0 w : World} {L : List Assn} {b : Nat} {vs : List Value} (h : Sat W0 w (seg true b 0 vs :: L)) (i : Nat) (hi : i < vs.length) : w.frozen? ⟨b, i, none⟩ = false := by
 have := (h.free hi).1
 simpa using this
theorem Sat.apart {W0 w : World} {L : List Assn} {m : Bool} {b o b' o' : Nat} {vs us : List Value} (h : Sat W0 w (seg true b o vs :: seg m b' o' us :: L)) {i j : Nat} (hi : i < vs.length) (hj : j < us.length) (e : b = b') : o + i ≠ o' + j := by
 intro e2
 obtain ⟨_, hs, hf⟩ := h
 obtain ⟨x, t, rfl, hA, _, hd, hf'⟩ := hf.head
 obtain ⟨y, t', rfl, hB, _, _, _⟩ := hf'.head
 have h1 := hA i vs[i] (by simp [hi])
 have h2 := hB j us[j] (by simp [hj])
 rw [← e, ← e2] at h2
 have := ((hd y (by simp)).1 b (o + i) _ _ h1 h2).2
 simp at this
theorem Sat.store {W0 w : World} {L : List Assn} {b o : Nat} {vs : List Value} (h : Sat W0 w (seg true b o vs :: L)) {i : Nat} (hi : i < vs.length) (v : Value) {q : Nat} (hq : q = o + i) : Sat W0 (w.setCell ⟨b, q, none⟩ v) (seg true b o (vs.set i v) :: L) := by
 subst hq
 have hfree := h.free hi
 obtain ⟨h0, hs, hf⟩ := h
 obtain ⟨x, t, rfl, hA, ok, hd, hf'⟩ := hf.head
 have hat := hA i vs[i] (by simp [hi])
 have hcell := (ok.1 _ _ _ _ hat).1
 refine ⟨h0.setCell (by exact hfree.2) v, ⟨fun b' o' => if b' = b ∧ o' = o + i then some (true, v) else x b' o', x.q⟩ :: t, .cons ?_ ⟨?_, fun l y hy => ⟨(KeepsOthers.setCell w _ v).same l y (ok.2 l y hy).1 (ok.2 l y hy).2.1, (ok.2 l y hy).2⟩⟩ (fun k hk => ⟨?_, (hd k hk).2⟩) (hf'.move fun k hk => ⟨?_, fun l y hy => ⟨(KeepsOthers.setCell w _ v).same l y ((hf'.okAll k hk).2 l y hy).1 ((hf'.okAll k hk).2 l y hy).2.1, ((hf'.okAll k hk).2 l y hy).2⟩⟩)⟩
 ·intro j u hj
  by_cases e : j = i
  ·subst e
   have : u = v := by simpa [List.getElem?_set, hi] using hj.symm
   simp [this]
  ·have hj' : vs[j]? = some u := by rw [List.getElem?_set_ne (by omega)] at hj; exact hj
   have e' : ¬ (b = b ∧ o + j = o + i) := by omega
   show (if _ then _ else _) = _
   rw [if_neg e']
   exact hA j u hj'
 ·intro b' o' m u hx
  by_cases e : b' = b ∧ o' = o + i
  ·obtain ⟨rfl, rfl⟩ := e
   simp only [and_self, if_true, Option.some.injEq, Prod.mk.injEq] at hx
   obtain ⟨rfl, rfl⟩ := hx
   exact ⟨World.cell?_setCell_same w _ _ hcell, fun _ => ⟨by rw [World.frozen?_setCell]; exact hfree.1, hfree.2⟩⟩
  ·simp only [if_neg e] at hx
   obtain ⟨h1, h2⟩ := ok.1 b' o' m u hx
   refine ⟨?_, fun hm => ⟨by rw [World.frozen?_setCell]; exact (h2 hm).1, (h2 hm).2⟩⟩
   rw [World.cell?_setCell_other (h := by intro hh; apply e; cases hh; exact ⟨rfl, rfl⟩)]
   exact h1
 ·intro b' o' p q hp hq
  by_cases e : b' = b ∧ o' = o + i
  ·obtain ⟨rfl, rfl⟩ := e
   have := ((hd k hk).1 b' (o + i) _ _ hat hq).2
   simp at this
  ·simp only [if_neg e] at hp
   exact (hd k hk).1 b' o' p q hp hq
 ·intro b' o' m u hx
  obtain ⟨h1, h2⟩ := (hf'.okAll k hk).1 b' o' m u hx
  refine ⟨?_, fun hm => ⟨by rw [World.frozen?_setCell]; exact (h2 hm).1, (h2 hm).2⟩⟩
  by_cases e : b' = b ∧ o' = o + i
  ·obtain ⟨rfl, rfl⟩ := e
   have := ((hd k hk).1 b' (o + i) _ _ hat hx).2
   simp at this
  ·rw [World.cell?_setCell_other (h := by intro hh; apply e; cases hh; exact ⟨rfl, rfl⟩)]
   exact h1
theorem Sat.alloc {W0 w : World} {L : List Assn} (h : Sat W0 w L) (cs : Array Value) (T : TypeId) : Sat W0 (w.alloc (.cells cs T)) (seg true w.heap.size 0 cs.toList :: L) := by
 have h' := h.alloc' (.cells cs T)
 obtain ⟨hb, hs, hf⟩ := h
 have hok := hf.okAll
 obtain ⟨hb', _⟩ := h'
 refine ⟨hb', Hp.of (fun b o => if b = w.heap.size then (cs[o]?).map (true, ·) else none) :: hs, .cons ?_ (Hp.of_ok ?_) (fun k hk => Hp.of_dis ?_) (hf.move fun k hk => (hok k hk).later fun j hj => Below.heap_alloc w _ j hj)⟩
 ·intro i v hv
  have : cs[i]? = some v := by simpa using hv
  simp [this]
 ·intro b o m v hx
  by_cases e : b = w.heap.size
  ·subst e
   simp only [if_true, Option.map_eq_some_iff, Prod.mk.injEq] at hx
   obtain ⟨u, hu, rfl, rfl⟩ := hx
   exact ⟨by rw [World.cell?_alloc_at (hn := rfl)]; exact hu, fun _ => ⟨World.frozen?_alloc_at _ _ _ _ rfl, hb.size⟩⟩
  ·simp [e] at hx
 ·intro b o x y hx hy
  by_cases e : b = w.heap.size
  ·subst e
   exact absurd ((hok k hk).lt hy) (by omega)
  ·simp [e] at hx
theorem toList_made1 (v : Value) (n : Nat) : (madeCells #[v] n).toList = List.replicate n v := by
 apply List.ext_getElem
 ·simp [madeCells]
 ·intro i h1 h2
  simp [madeCells, Nat.mod_one]
theorem Sat.make {W0 w : World} {L : List Assn} (h : Sat W0 w L) (v : Value) (n : Nat) (T : TypeId) : Sat W0 (w.alloc (.cells (madeCells #[v] n) T)) (seg true w.heap.size 0 (List.replicate n v) :: L) := by
 rw [← toList_made1]
 exact h.alloc _ _
theorem Sat.ne' {W0 w : World} {L : List Assn} {m : Bool} {b b' : Nat} {vs us : List Value} (h : Sat W0 w (seg true b 0 vs :: seg m b' 0 us :: L)) (hv : 0 < vs.length) (hu : 0 < us.length) : b ≠ b' := fun e => by
 have := h.apart (i := 0) (j := 0) hv hu e
 simp at this
theorem Sat.part {W0 w : World} {L : List Assn} {m : Bool} {b o : Nat} {xs ys : List Value} (h : Sat W0 w (seg m b o (xs ++ ys) :: L)) {q : Nat} (hq : q = o + xs.length) : Sat W0 w (seg m b o xs :: seg m b q ys :: L) := by
 subst hq
 obtain ⟨h0, hs, hf⟩ := h
 obtain ⟨x, t, rfl, hA, ok, hd, hf'⟩ := hf.head
 refine ⟨h0, Hp.of (fun b' o' => if o' < o + xs.length then x b' o' else none) :: Hp.of (fun b' o' => if o' < o + xs.length then none else x b' o') :: t, .cons ?_ (Hp.of_ok ?_) (fun k hk => Hp.of_dis ?_) (.cons ?_ (Hp.of_ok ?_) (fun k hk => Hp.of_dis ?_) hf')⟩
 ·intro i v hv
  have hi : i < xs.length := (List.getElem?_eq_some_iff.1 hv).1
  show (if _ then _ else _) = _
  rw [if_pos (by omega)]
  exact hA i v (by rw [List.getElem?_append_left hi]; exact hv)
 ·intro b' o' m' v hx
  split at hx
  ·exact ok.1 _ _ _ _ hx
  ·cases hx
 ·intro b' o' p q hp hq
  rcases List.mem_cons.1 hk with rfl | hk
  ·split at hp
   ·have hq : (if o' < o + xs.length then none else x b' o') = some q := hq
    rw [if_pos (by assumption)] at hq; cases hq
   ·cases hp
  ·split at hp
   ·exact (hd k hk).1 _ _ _ _ hp hq
   ·cases hp
 ·intro i v hv
  show (if _ then _ else _) = _
  rw [if_neg (by omega), Nat.add_assoc]
  exact hA (xs.length + i) v (by rw [List.getElem?_append_right (by omega)]; simpa using hv)
 ·intro b' o' m' v hx
  split at hx
  ·cases hx
  ·exact ok.1 _ _ _ _ hx
 ·intro b' o' p q hp hq
  split at hp
  ·cases hp
  ·exact (hd k hk).1 _ _ _ _ hp hq
theorem Sat.join {W0 w : World} {L : List Assn} {m : Bool} {b o q : Nat} {xs ys : List Value} (h : Sat W0 w (seg m b o xs :: seg m b q ys :: L)) (hq : q = o + xs.length) : Sat W0 w (seg m b o (xs ++ ys) :: L) := by
 subst hq
 obtain ⟨h0, hs, hf⟩ := h
 obtain ⟨x, t, rfl, hA, ok, hd, hf'⟩ := hf.head
 obtain ⟨y, t', rfl, hB, ok', hd', hf''⟩ := hf'.head
 refine ⟨h0, Hp.of (fun b' o' => match x b' o' with | some v => some v | none => y b' o') :: t', .cons ?_ (Hp.of_ok ?_) (fun k hk => Hp.of_dis ?_) hf''⟩
 ·intro i v hv
  by_cases hi : i < xs.length
  ·rw [List.getElem?_append_left hi] at hv
   simp [hA i v hv]
  ·rw [List.getElem?_append_right (by omega)] at hv
   have hy := hB _ v hv
   rw [show o + xs.length + (i - xs.length) = o + i by omega] at hy
   cases hx : x b (o + i) with
   | none => simp [hx, hy]
   | some u =>
    have := ((hd y (by simp)).1 b (o + i) _ _ hx hy).1
    simp [hx, this]
 ·intro b' o' m' v hx
  cases hx' : x b' o' with
  | none => simp only [hx'] at hx; exact ok'.1 _ _ _ _ hx
  | some u => simp only [hx', Option.some.injEq] at hx; subst hx; exact ok.1 _ _ _ _ hx'
 ·intro b' o' p q hp hq
  cases hx' : x b' o' with
  | none => simp only [hx'] at hp; exact (hd' k hk).1 _ _ _ _ hp hq
  | some u => simp only [hx', Option.some.injEq] at hp; subst hp; exact (hd k (by simp [hk])).1 _ _ _ _ hx' hq
def setL : List Value → Nat → List Value → List Value
 | L, _, [] => L
 | L, q, v :: vs => setL (L.set q v) (q + 1) vs
theorem length_setL : ∀ (vs L : List Value) (q : Nat), (setL L q vs).length = L.length
 | [], _, _ => rfl
 | v :: vs, L, q => by simp [setL, length_setL vs]
theorem getElem?_setL : ∀ (vs L : List Value) (q k : Nat), q + vs.length ≤ L.length → (setL L q vs)[k]? = if q ≤ k ∧ k < q + vs.length then vs[k - q]? else L[k]?
 | [], L, q, k, _ => by simp [setL]; omega
 | v :: vs, L, q, k, h => by
  simp only [List.length_cons] at h
  rw [setL, getElem?_setL vs (L.set q v) (q + 1) k (by simp; omega)]
  by_cases h1 : k = q
  ·subst h1
   rw [if_neg (by omega), if_pos (by simp), List.getElem?_set_self (by omega)]
   simp
  ·by_cases h2 : q + 1 ≤ k ∧ k < q + 1 + vs.length
   ·rw [if_pos h2, if_pos (by simp; omega), show k - q = (k - (q + 1)) + 1 by omega]
    simp
   ·rw [if_neg h2, if_neg (by simp; omega), List.getElem?_set_ne (by omega)]
section
variable {α : Type} {enc : α → List Value} {m : Nat}
theorem fm_len (hm : ∀ a, (enc a).length = m) : ∀ vals : List α, (vals.flatMap enc).length = vals.length * m
 | [] => by simp
 | a :: l => by simp [hm, fm_len hm l, Nat.succ_mul]; omega
theorem fm_get (hm : ∀ a, (enc a).length = m) : ∀ (vals : List α) (i j : Nat) (hi : i < vals.length), j < m → (vals.flatMap enc)[i * m + j]? = (enc vals[i])[j]?
 | [], _, _, hi, _ => absurd hi (by simp)
 | a :: l, 0, j, _, hj => by simp [List.getElem?_append_left (show j < (enc a).length by rw [hm]; exact hj)]
 | a :: l, i + 1, j, hi, hj => by
  have := fm_get hm l i j (by simpa using hi) hj
  simp only [List.flatMap_cons, List.getElem_cons_succ]
  rw [List.getElem?_append_right (by rw [hm, Nat.succ_mul]; omega), hm, ← this]
  congr 1
  rw [Nat.succ_mul]; omega
end
theorem Sat.lt {W0 w : World} {L : List Assn} {m : Bool} {b : Nat} {vs : List Value} (h : Sat W0 w (seg m b 0 vs :: L)) (hl : 0 < vs.length) : b < w.heap.size := World.block_lt_of_cell? w _ (h.at 0 (v := vs[0]) (by simp [hl]))
theorem Sat.imp {W0 w : World} {L : List Assn} {A B : Assn} (h : Sat W0 w (A :: L)) (hAB : ∀ x, A x → B x) : Sat W0 w (B :: L) := by
 obtain ⟨h0, hs, hf⟩ := h
 obtain ⟨x, t, rfl, hA, ok, hd, hf'⟩ := hf.head
 exact ⟨h0, x :: t, .cons (hAB x hA) ok hd hf'⟩
theorem Sat.fact {W0 w : World} {L : List Assn} {A : Assn} (h : Sat W0 w (A :: L)) {p : Prop} (hp : ∀ x, A x → p) : p := by
 obtain ⟨_, hs, hf⟩ := h
 obtain ⟨x, t, rfl, hA, _⟩ := hf.head
 exact hp x hA
def sep (A B : Assn) : Assn := fun x => ∃ h k, h.le x ∧ k.le x ∧ h.dis k ∧ A h ∧ B k
theorem Sat.sepOpen {W0 w : World} {L : List Assn} {A B : Assn} (h : Sat W0 w (sep A B :: L)) : Sat W0 w (A :: B :: L) := by
 obtain ⟨h0, hs, hf⟩ := h
 obtain ⟨x, t, rfl, ⟨p, q, hp, hq, hd0, hA, hB⟩, ok, hd, hf'⟩ := hf.head
 refine ⟨h0, p :: q :: t, .cons hA ⟨fun b o m v e => ok.1 b o m v (hp.1 _ _ _ e), fun l y e => ok.2 l y (hp.2 _ _ e)⟩ ?_ (.cons hB ⟨fun b o m v e => ok.1 b o m v (hq.1 _ _ _ e), fun l y e => ok.2 l y (hq.2 _ _ e)⟩ (fun k hk => ⟨fun b o u v e f => (hd k hk).1 b o u v (hq.1 _ _ _ e) f, fun l u v e f => (hd k hk).2 l u v (hq.2 _ _ e) f⟩) hf')⟩
 intro k hk
 rcases List.mem_cons.1 hk with rfl | hk
 ·exact hd0
 ·exact ⟨fun b o u v e f => (hd k hk).1 b o u v (hp.1 _ _ _ e) f, fun l u v e f => (hd k hk).2 l u v (hp.2 _ _ e) f⟩
def Hp.cup (x y : Hp) : Hp := ⟨fun b o => match x b o with | some v => some v | none => y b o, fun l => match x.q l with | some v => some v | none => y.q l⟩
theorem Hp.le_cup (x y : Hp) : x.le (x.cup y) := ⟨fun b o v e => by show (match x.c b o with | some v => some v | none => y.c b o) = _; rw [e], fun l v e => by show (match x.q l with | some v => some v | none => y.q l) = _; rw [e]⟩
theorem Hp.cup_le {x y : Hp} (d : x.dis y) : y.le (x.cup y) := by
 refine ⟨fun b o v e => ?_, fun l v e => ?_⟩
 ·show (match x.c b o with | some v => some v | none => y.c b o) = _
  cases hx : x.c b o with
  | none => exact e
  | some u => rw [← (d.1 b o _ _ hx e).1]
 ·show (match x.q l with | some v => some v | none => y.q l) = _
  cases hx : x.q l with
  | none => exact e
  | some u => exact (d.2 l _ _ hx e).elim
theorem Hp.ok.cup {W0 w : World} {x y : Hp} (ok : x.ok W0 w) (ok' : y.ok W0 w) : (x.cup y).ok W0 w := by
 refine ⟨fun b o m v hx => ?_, fun l v hx => ?_⟩
 ·have hx : (match x.c b o with | some v => some v | none => y.c b o) = some (m, v) := hx
  cases hx' : x.c b o with
  | none => rw [hx'] at hx; exact ok'.1 _ _ _ _ hx
  | some u => rw [hx'] at hx; cases hx; exact ok.1 _ _ _ _ hx'
 ·have hx : (match x.q l with | some v => some v | none => y.q l) = some v := hx
  cases hx' : x.q l with
  | none => rw [hx'] at hx; exact ok'.2 _ _ hx
  | some u => rw [hx'] at hx; cases hx; exact ok.2 _ _ hx'
theorem Hp.dis.cup {x y k : Hp} (d : x.dis k) (d' : y.dis k) : (x.cup y).dis k := by
 refine ⟨fun b o p q hp hq => ?_, fun l p q hp hq => ?_⟩
 ·have hp : (match x.c b o with | some v => some v | none => y.c b o) = some p := hp
  cases hx' : x.c b o with
  | none => rw [hx'] at hp; exact d'.1 _ _ _ _ hp hq
  | some u => rw [hx'] at hp; cases hp; exact d.1 _ _ _ _ hx' hq
 ·have hp : (match x.q l with | some v => some v | none => y.q l) = some p := hp
  cases hx' : x.q l with
  | none => rw [hx'] at hp; exact d'.2 _ _ _ hp hq
  | some u => rw [hx'] at hp; cases hp; exact d.2 _ _ _ hx' hq
theorem Sat.sepShut {W0 w : World} {L : List Assn} {A B : Assn} (h : Sat W0 w (A :: B :: L)) : Sat W0 w (sep A B :: L) := by
 obtain ⟨h0, hs, hf⟩ := h
 obtain ⟨x, t, rfl, hA, ok, hd, hf'⟩ := hf.head
 obtain ⟨y, t', rfl, hB, ok', hd', hf''⟩ := hf'.head
 refine ⟨h0, Hp.cup x y :: t', .cons ⟨x, y, Hp.le_cup x y, Hp.cup_le (hd y (by simp)), hd y (by simp), hA, hB⟩ (ok.cup ok') (fun k hk => (hd k (by simp [hk])).cup (hd' k hk)) hf''⟩
theorem Sat.exOpen {W0 w : World} {L : List Assn} {α : Type} {A : α → Assn} (h : Sat W0 w ((fun x => ∃ a, A a x) :: L)) : ∃ a, Sat W0 w (A a :: L) := by
 obtain ⟨h0, hs, hf⟩ := h
 obtain ⟨x, t, rfl, ⟨a, hA⟩, ok, hd, hf'⟩ := hf.head
 exact ⟨a, h0, x :: t, .cons hA ok hd hf'⟩
theorem Sat.exShut {W0 w : World} {L : List Assn} {α : Type} {A : α → Assn} (a : α) (h : Sat W0 w (A a :: L)) : Sat W0 w ((fun x => ∃ a, A a x) :: L) :=
 h.imp fun _ hx => ⟨a, hx⟩
theorem Sat.addEmp {W0 w : World} {L : List Assn} (h : Sat W0 w L) : Sat W0 w (emp :: L) := by
 obtain ⟨h0, hs, hf⟩ := h
 exact ⟨h0, Hp.zero :: hs, .cons trivial (Hp.zero_ok _ _) (fun _ _ => Hp.zero_dis _) hf⟩
theorem Sat.old {W0 w : World} {L : List Assn} (h : Sat W0 w L) {p : Addr} {v : Value} (hv : W0.cell? p = some v) : w.cell? p = some v :=
 (h.below.cell (World.block_lt_of_cell? W0 p hv)).trans hv
inductive Take (A : Assn) : List Assn → List Assn → Prop
 | here {L : List Assn} : Take A (A :: L) L
 | there {B : Assn} {L R : List Assn} (h : Take A L R) : Take A (B :: L) (B :: R)
inductive Fr : List Assn → List Assn → Prop
 | done {K : List Assn} : Fr K K
 | nil {K : List Assn} : Fr [] K
 | cons {A : Assn} {T K R : List Assn} (h : Take A K R) (t : Fr T R) : Fr (A :: T) K
 | skip {B : Assn} {T K : List Assn} (t : Fr T K) : Fr T (B :: K)
theorem Fr1 {K : List Assn} : Fr K K := .done
theorem Fr2 {K : List Assn} : Fr [] K := .nil
theorem Fr3 {A : Assn} {T K R : List Assn} (h : Take A K R) (t : Fr T R) : Fr (A :: T) K := .cons h t
theorem Fr4 {B : Assn} {T K : List Assn} (t : Fr T K) : Fr T (B :: K) := .skip t
theorem Tk1 {A : Assn} {L : List Assn} : Take A (A :: L) L := .here
theorem Tk2 {A B : Assn} {L R : List Assn} (h : Take A L R) : Take A (B :: L) (B :: R) := .there h
theorem Fit.take {W0 w : World} {A : Assn} {K R : List Assn} (f : Take A K R) : ∀ {hs : List Hp}, Fit W0 w K hs → ∃ x t, Fit W0 w (A :: R) (x :: t) ∧ ∀ y ∈ x :: t, y ∈ hs := by
 induction f with
 | here => intro hs h; obtain ⟨x, t, rfl, _⟩ := h.head; exact ⟨x, t, h, fun y hy => hy⟩
 | there _ ih =>
  intro hs h
  obtain ⟨b, t0, rfl, hB, okb, hdb, ht⟩ := h.head
  obtain ⟨x, t, hf, hm⟩ := ih ht
  obtain ⟨x', t', e, hA, okx, hdx, hR⟩ := hf.head
  cases e
  refine ⟨x, b :: t, .cons hA okx ?_ (.cons hB okb ?_ hR), ?_⟩
  ·intro k hk
   rcases List.mem_cons.1 hk with rfl | hk
   ·exact (hdb x (hm x (by simp))).symm
   ·exact hdx k hk
  ·exact fun k hk => hdb k (hm k (by simp [hk]))
  ·intro y hy
   rcases List.mem_cons.1 hy with rfl | hy
   ·exact List.mem_cons_of_mem _ (hm y (by simp))
   ·rcases List.mem_cons.1 hy with rfl | hy
    ·simp
    ·exact List.mem_cons_of_mem _ (hm y (by simp [hy]))
theorem Fit.fr {W0 w : World} {T K : List Assn} (f : Fr T K) : ∀ {hs : List Hp}, Fit W0 w K hs → ∃ hs', Fit W0 w T hs' ∧ ∀ x ∈ hs', x ∈ hs := by
 induction f with
 | done => intro hs h; exact ⟨hs, h, fun x hx => hx⟩
 | nil => intro hs h; exact ⟨[], .nil, fun x hx => by cases hx⟩
 | cons ht _ ih =>
  intro hs h
  obtain ⟨x, t, hf, hm⟩ := h.take ht
  obtain ⟨x', t', e, hA, okx, hdx, hR⟩ := hf.head
  cases e
  obtain ⟨hs', hf', hm'⟩ := ih hR
  refine ⟨x :: hs', .cons hA okx (fun k hk => hdx k (hm' k hk)) hf', ?_⟩
  intro y hy
  rcases List.mem_cons.1 hy with rfl | hy
  ·exact hm y (by simp)
  ·exact hm y (List.mem_cons_of_mem _ (hm' y hy))
 | skip _ ih =>
  intro hs h
  obtain ⟨b, t0, rfl, hB, okb, hdb, ht⟩ := h.head
  obtain ⟨hs', hf', hm'⟩ := ih ht
  exact ⟨hs', hf', fun x hx => List.mem_cons_of_mem _ (hm' x hx)⟩
theorem Sat.sub {W0 w : World} {T K : List Assn} (h : Sat W0 w K) (f : Fr T K) : Sat W0 w T := by
 obtain ⟨hb, hs, hf⟩ := h
 obtain ⟨hs', hf', _⟩ := hf.fr f
 exact ⟨hb, hs', hf'⟩
theorem Sat.f {W0 w : World} {T K : List Assn} (h : Sat W0 w K) (q : Fr T K := by with_reducible repeat first | exact Fr1 | exact Fr2 | (apply Fr3; focus ((repeat (first | exact Tk1 | apply Tk2)); done)) | apply Fr4) : Sat W0 w T := h.sub q
theorem Sat.g {W0 w w' : World} {T K : List Assn} (h : Sat W0 w K) (q : Sat W0 w K → Sat W0 w' T := by intro h; (repeat (first | with_reducible apply Sat.sub h | with_reducible apply Sat.alloc' | with_reducible apply Sat.drew | with_reducible apply Sat.drewN)); (repeat (first | with_reducible exact Fr1 | with_reducible exact Fr2 | (with_reducible apply Fr3; (focus ((repeat (first | with_reducible exact Tk1 | with_reducible apply Tk2)); done))) | with_reducible apply Fr4)); done) : Sat W0 w' T := q h
def obj (l : Nat) (o : Obj) : Assn := fun x => x.q l = some o
theorem Sat.obj {W0 w : World} {L : List Assn} {l : Nat} {o : Obj} (h : Sat W0 w (obj l o :: L)) : w.heap[l]? = some o ∧ o.isCells = false ∧ W0.heap.size ≤ l := by
 obtain ⟨_, hs, hf⟩ := h
 obtain ⟨x, t, rfl, hA, ok, _, _⟩ := hf.head
 exact ok.2 l o hA
theorem Sat.allocObj {W0 w : World} {L : List Assn} (h : Sat W0 w L) (o : Obj) (ho : o.isCells = false) {q : Nat} (hq : q = w.heap.size) : Sat W0 (w.alloc o) (Sep.obj q o :: L) := by
 subst hq
 have h' := h.alloc' o
 obtain ⟨hb, hs, hf⟩ := h
 have hok := hf.okAll
 obtain ⟨hb', _⟩ := h'
 refine ⟨hb', ⟨fun _ _ => none, fun l => if l = w.heap.size then some o else none⟩ :: hs, .cons (by simp [Sep.obj]) ⟨fun _ _ _ _ e => (by cases e), fun l x hx => ?_⟩ (fun k hk => ⟨fun _ _ _ _ e => (by cases e), fun l x y hx hy => ?_⟩) (hf.move fun k hk => (hok k hk).later fun j hj => Below.heap_alloc w _ j hj)⟩
 ·by_cases e : l = w.heap.size
  ·subst e
   simp only [if_true, Option.some.injEq] at hx
   subst hx
   exact ⟨by show (w.heap.push _)[w.heap.size]? = _; simp, ho, hb.size⟩
  ·simp [e] at hx
 ·by_cases e : l = w.heap.size
  ·subst e
   exact absurd (Array.getElem?_eq_some_iff.1 ((hok k hk).2 _ _ hy).1).1 (by omega)
  ·simp [e] at hx
theorem Sat.putObj {W0 w : World} {L : List Assn} {l : Nat} {o : Obj} (h : Sat W0 w (Sep.obj l o :: L)) (o' : Obj) (ho' : o'.isCells = false) : Sat W0 (w.putObj l o') (Sep.obj l o' :: L) := by
 obtain ⟨hl, ho, hl0⟩ := h.obj
 obtain ⟨hb, hs, hf⟩ := h
 obtain ⟨x, t, rfl, hA, ok, hd, hf'⟩ := hf.head
 have hlt : l < w.heap.size := (Array.getElem?_eq_some_iff.1 hl).1
 have hne : ∀ (k : Nat) (y : Obj), w.heap[k]? = some y → y.isCells = true → (w.putObj l o').heap[k]? = w.heap[k]? := fun k y hk hy =>
  World.putObj_heap_other (fun e => by subst e; rw [hl] at hk; cases hk; rw [ho] at hy; cases hy)
 have hcell : ∀ (b p : Nat) (v : Value), w.cell? ⟨b, p, none⟩ = some v → (w.putObj l o').cell? ⟨b, p, none⟩ = some v ∧ (w.putObj l o').frozen? ⟨b, p, none⟩ = w.frozen? ⟨b, p, none⟩ := fun b p v hv => by
  obtain ⟨y, hy1, hy2⟩ := cells_of_cell hv
  exact ⟨(World.cell?_of_block (hne b y hy1 hy2)).trans hv, World.frozen?_of_block (hne b y hy1 hy2)⟩
 refine ⟨hb.grown (grownBy_putObj' w l o') hb.size (fun k e => by cases e; exact hl0), ⟨x.c, fun k => if k = l then some o' else x.q k⟩ :: t, .cons (by simp [Sep.obj]) ⟨fun b p m v hx => ?_, fun k y hx => ?_⟩ (fun k hk => ⟨(hd k hk).1, fun j y z hy hz => ?_⟩) (hf'.move fun k hk => ⟨fun b p m v hx => ?_, fun j y hy => ?_⟩)⟩
 ·obtain ⟨h1, h2⟩ := ok.1 b p m v hx
  obtain ⟨h3, h4⟩ := hcell b p v h1
  exact ⟨h3, fun hm => ⟨h4.trans (h2 hm).1, (h2 hm).2⟩⟩
 ·by_cases e : k = l
  ·subst e
   simp only [if_true, Option.some.injEq] at hx
   subst hx
   exact ⟨World.putObj_heap_same hlt, ho', hl0⟩
  ·simp only [if_neg e] at hx
   obtain ⟨h1, h2⟩ := ok.2 k y hx
   exact ⟨(World.putObj_heap_other e).trans h1, h2⟩
 ·by_cases e : j = l
  ·subst e
   exact (hd k hk).2 j o z hA hz
  ·simp only [if_neg e] at hy
   exact (hd k hk).2 j y z hy hz
 ·obtain ⟨h1, h2⟩ := (hf'.okAll k hk).1 b p m v hx
  obtain ⟨h3, h4⟩ := hcell b p v h1
  exact ⟨h3, fun hm => ⟨h4.trans (h2 hm).1, (h2 hm).2⟩⟩
 ·obtain ⟨h1, h2⟩ := (hf'.okAll k hk).2 j y hy
  have e : j ≠ l := fun e => by subst e; exact (hd k hk).2 j o y hA hy
  exact ⟨(World.putObj_heap_other e).trans h1, h2⟩
end Go.Sep

/- How the model's unsigned numbers compute, said of bit vectors; bytes and words; each under the conditions that it names. -/
namespace Go.Bv
theorem ofInt_toNat {w : Nat} (z : BitVec w) : BitVec.ofInt w (z.toNat : Int) = z := by
 apply BitVec.eq_of_toNat_eq
 rw [BitVec.toNat_ofInt, ← Int.natCast_emod, Nat.mod_eq_of_lt z.isLt]
 simp
theorem wrap_nat8 (n : Nat) : IntKind.u8.wrap (n : Int) = ((n % 2 ^ 8 : Nat) : Int) := by rw [IntKind.wrap_u8]; omega
theorem wrap_nat32 (n : Nat) : IntKind.u32.wrap (n : Int) = ((n % 2 ^ 32 : Nat) : Int) := by rw [IntKind.wrap_u32]; omega
theorem wrap_nat64 (n : Nat) : IntKind.u64.wrap (n : Int) = ((n % 2 ^ 64 : Nat) : Int) := by rw [IntKind.wrap_u64]; omega
section
variable (x y : BitVec 8)
theorem and8 : bits .and .u8 (x.toNat : Int) (y.toNat : Int) = ((x &&& y).toNat : Int) := by
 show IntKind.u8.wrap ((BitVec.ofInt 8 (x.toNat : Int) &&& BitVec.ofInt 8 (y.toNat : Int)).toNat : Int) = _
 rw [ofInt_toNat, ofInt_toNat, wrap_nat8, Nat.mod_eq_of_lt (BitVec.isLt _)]
theorem or8 : bits .or .u8 (x.toNat : Int) (y.toNat : Int) = ((x ||| y).toNat : Int) := by
 show IntKind.u8.wrap ((BitVec.ofInt 8 (x.toNat : Int) ||| BitVec.ofInt 8 (y.toNat : Int)).toNat : Int) = _
 rw [ofInt_toNat, ofInt_toNat, wrap_nat8, Nat.mod_eq_of_lt (BitVec.isLt _)]
theorem xor8 : bits .xor .u8 (x.toNat : Int) (y.toNat : Int) = ((x ^^^ y).toNat : Int) := by
 show IntKind.u8.wrap ((BitVec.ofInt 8 (x.toNat : Int) ^^^ BitVec.ofInt 8 (y.toNat : Int)).toNat : Int) = _
 rw [ofInt_toNat, ofInt_toNat, wrap_nat8, Nat.mod_eq_of_lt (BitVec.isLt _)]
end
section
variable (x y : BitVec 32)
theorem and32 : bits .and .u32 (x.toNat : Int) (y.toNat : Int) = ((x &&& y).toNat : Int) := by
 show IntKind.u32.wrap ((BitVec.ofInt 32 (x.toNat : Int) &&& BitVec.ofInt 32 (y.toNat : Int)).toNat : Int) = _
 rw [ofInt_toNat, ofInt_toNat, wrap_nat32, Nat.mod_eq_of_lt (BitVec.isLt _)]
theorem or32 : bits .or .u32 (x.toNat : Int) (y.toNat : Int) = ((x ||| y).toNat : Int) := by
 show IntKind.u32.wrap ((BitVec.ofInt 32 (x.toNat : Int) ||| BitVec.ofInt 32 (y.toNat : Int)).toNat : Int) = _
 rw [ofInt_toNat, ofInt_toNat, wrap_nat32, Nat.mod_eq_of_lt (BitVec.isLt _)]
theorem xor32 : bits .xor .u32 (x.toNat : Int) (y.toNat : Int) = ((x ^^^ y).toNat : Int) := by
 show IntKind.u32.wrap ((BitVec.ofInt 32 (x.toNat : Int) ^^^ BitVec.ofInt 32 (y.toNat : Int)).toNat : Int) = _
 rw [ofInt_toNat, ofInt_toNat, wrap_nat32, Nat.mod_eq_of_lt (BitVec.isLt _)]
theorem add32 : ((x.toNat : Int) + (y.toNat : Int)) % 4294967296 = ((x + y).toNat : Int) := by
 rw [BitVec.toNat_add]; omega
theorem shl32 (n : Nat) : ((x.toNat : Int) * 2 ^ n) % 4294967296 = ((x <<< n).toNat : Int) := by
 rw [BitVec.toNat_shiftLeft, Nat.shiftLeft_eq]; simp
end
section
variable (x y : BitVec 64)
theorem and64 : bits .and .u64 (x.toNat : Int) (y.toNat : Int) = ((x &&& y).toNat : Int) := by
 show IntKind.u64.wrap ((BitVec.ofInt 64 (x.toNat : Int) &&& BitVec.ofInt 64 (y.toNat : Int)).toNat : Int) = _
 rw [ofInt_toNat, ofInt_toNat, wrap_nat64, Nat.mod_eq_of_lt (BitVec.isLt _)]
theorem or64 : bits .or .u64 (x.toNat : Int) (y.toNat : Int) = ((x ||| y).toNat : Int) := by
 show IntKind.u64.wrap ((BitVec.ofInt 64 (x.toNat : Int) ||| BitVec.ofInt 64 (y.toNat : Int)).toNat : Int) = _
 rw [ofInt_toNat, ofInt_toNat, wrap_nat64, Nat.mod_eq_of_lt (BitVec.isLt _)]
theorem xor64 : bits .xor .u64 (x.toNat : Int) (y.toNat : Int) = ((x ^^^ y).toNat : Int) := by
 show IntKind.u64.wrap ((BitVec.ofInt 64 (x.toNat : Int) ^^^ BitVec.ofInt 64 (y.toNat : Int)).toNat : Int) = _
 rw [ofInt_toNat, ofInt_toNat, wrap_nat64, Nat.mod_eq_of_lt (BitVec.isLt _)]
theorem add64 : ((x.toNat : Int) + (y.toNat : Int)) % 18446744073709551616 = ((x + y).toNat : Int) := by
 rw [BitVec.toNat_add]; omega
theorem shl64 (n : Nat) : ((x.toNat : Int) * 2 ^ n) % 18446744073709551616 = ((x <<< n).toNat : Int) := by
 rw [BitVec.toNat_shiftLeft, Nat.shiftLeft_eq]; simp
end
theorem shr {w : Nat} (x : BitVec w) (n : Nat) : (x.toNat : Int) / 2 ^ n = ((x >>> n).toNat : Int) := by
 rw [BitVec.toNat_ushiftRight, Nat.shiftRight_eq_div_pow]; simp
theorem wide32 (b : BitVec 8) : (b.toNat : Int) = ((b.setWidth 32).toNat : Int) := by
 rw [BitVec.toNat_setWidth, Nat.mod_eq_of_lt (by have := b.isLt; omega)]
theorem wide64 (b : BitVec 8) : (b.toNat : Int) = ((b.setWidth 64).toNat : Int) := by
 rw [BitVec.toNat_setWidth, Nat.mod_eq_of_lt (by have := b.isLt; omega)]
theorem low8 {w : Nat} (x : BitVec w) : (x.toNat : Int) % 256 = ((x.setWidth 8).toNat : Int) := by
 rw [BitVec.toNat_setWidth]; simp
def v8 (x : BitVec 8) : Int := x.toNat
def v32 (x : BitVec 32) : Int := x.toNat
def v64 (x : BitVec 64) : Int := x.toNat
theorem v8_bd (x : BitVec 8) : 0 ≤ v8 x ∧ v8 x < 256 := by have := x.isLt; unfold v8; omega
theorem v8_inj {x y : BitVec 8} (h : v8 x = v8 y) : x = y := by unfold v8 at h; exact BitVec.eq_of_toNat_eq (by omega)
theorem vxor8 (x y : BitVec 8) : bits .xor .u8 (v8 x) (v8 y) = v8 (x ^^^ y) := xor8 x y
theorem vor8 (x y : BitVec 8) : bits .or .u8 (v8 x) (v8 y) = v8 (x ||| y) := or8 x y
theorem vand8 (x y : BitVec 8) : bits .and .u8 (v8 x) (v8 y) = v8 (x &&& y) := and8 x y
theorem vxor32 (x y : BitVec 32) : bits .xor .u32 (v32 x) (v32 y) = v32 (x ^^^ y) := xor32 x y
theorem vor32 (x y : BitVec 32) : bits .or .u32 (v32 x) (v32 y) = v32 (x ||| y) := or32 x y
theorem vand32 (x y : BitVec 32) : bits .and .u32 (v32 x) (v32 y) = v32 (x &&& y) := and32 x y
theorem vadd32 (x y : BitVec 32) : (v32 x + v32 y) % 4294967296 = v32 (x + y) := add32 x y
theorem vshl32 (x : BitVec 32) (n : Nat) : (v32 x * 2 ^ n) % 4294967296 = v32 (x <<< n) := shl32 x n
theorem vshl32_8 (x : BitVec 32) : (v32 x * 256) % 4294967296 = v32 (x <<< 8) := shl32 x 8
theorem vshl32_8w (x : BitVec 32) : IntKind.u32.wrap (v32 x * 256) = v32 (x <<< 8) := by rw [IntKind.wrap_u32]; exact vshl32_8 x
theorem vshr32 (x : BitVec 32) (n : Nat) : v32 x / 2 ^ n = v32 (x >>> n) := shr x n
theorem vwide32m (b : BitVec 8) : v8 b % 4294967296 = v32 (b.setWidth 32) := by rw [Int.emod_eq_of_lt (v8_bd b).1 (by have := (v8_bd b).2; omega)]; exact wide32 b
theorem vwide32w (b : BitVec 8) : IntKind.u32.wrap (v8 b) = v32 (b.setWidth 32) := by rw [IntKind.wrap_u32, vwide32m]
theorem vlow32 (x : BitVec 32) : v32 x % 256 = v8 (x.setWidth 8) := low8 x
theorem vxor64 (x y : BitVec 64) : bits .xor .u64 (v64 x) (v64 y) = v64 (x ^^^ y) := xor64 x y
theorem vor64 (x y : BitVec 64) : bits .or .u64 (v64 x) (v64 y) = v64 (x ||| y) := or64 x y
theorem vand64 (x y : BitVec 64) : bits .and .u64 (v64 x) (v64 y) = v64 (x &&& y) := and64 x y
theorem vadd64 (x y : BitVec 64) : (v64 x + v64 y) % 18446744073709551616 = v64 (x + y) := add64 x y
theorem vadd64w (x y : BitVec 64) : IntKind.u64.wrap (v64 x + v64 y) = v64 (x + y) := by rw [IntKind.wrap_u64, vadd64]
theorem vshl64 (x : BitVec 64) (n : Nat) : (v64 x * 2 ^ n) % 18446744073709551616 = v64 (x <<< n) := shl64 x n
theorem vshl64w (x : BitVec 64) (n : Nat) : IntKind.u64.wrap (v64 x * 2 ^ n) = v64 (x <<< n) := by rw [IntKind.wrap_u64, vshl64]
theorem vshl64_8 (x : BitVec 64) : (v64 x * 256) % 18446744073709551616 = v64 (x <<< 8) := shl64 x 8
theorem vshl64_8w (x : BitVec 64) : IntKind.u64.wrap (v64 x * 256) = v64 (x <<< 8) := by rw [IntKind.wrap_u64]; exact vshl64_8 x
theorem vshr64 (x : BitVec 64) (n : Nat) : v64 x / 2 ^ n = v64 (x >>> n) := shr x n
theorem vwide64m (b : BitVec 8) : v8 b % 18446744073709551616 = v64 (b.setWidth 64) := by rw [Int.emod_eq_of_lt (v8_bd b).1 (by have := (v8_bd b).2; omega)]; exact wide64 b
theorem vwide64w (b : BitVec 8) : IntKind.u64.wrap (v8 b) = v64 (b.setWidth 64) := by rw [IntKind.wrap_u64, vwide64m]
theorem vlow64 (x : BitVec 64) : v64 x % 256 = v8 (x.setWidth 8) := low8 x
abbrev Byte := BitVec 8
def u8s (bs : List Byte) : List Value := bs.map fun b => Value.int .u8 (v8 b)
def u32s (xs : List (BitVec 32)) : List Value := xs.map fun x => Value.int .u32 (v32 x)
def u64s (xs : List (BitVec 64)) : List Value := xs.map fun x => Value.int .u64 (v64 x)
theorem u8s_len (bs : List Byte) : (u8s bs).length = bs.length := by simp [u8s]
theorem u32s_len (bs : List (BitVec 32)) : (u32s bs).length = bs.length := by simp [u32s]
theorem u64s_len (bs : List (BitVec 64)) : (u64s bs).length = bs.length := by simp [u64s]
theorem u8s_at {bs : List Byte} {i : Nat} {b : Byte} (h : bs[i]? = some b) : (u8s bs)[i]? = some (.int .u8 (v8 b)) := by simp [u8s, h]
theorem u32s_at {bs : List (BitVec 32)} {i : Nat} {b : BitVec 32} (h : bs[i]? = some b) : (u32s bs)[i]? = some (.int .u32 (v32 b)) := by simp [u32s, h]
theorem u64s_at {bs : List (BitVec 64)} {i : Nat} {b : BitVec 64} (h : bs[i]? = some b) : (u64s bs)[i]? = some (.int .u64 (v64 b)) := by simp [u64s, h]
theorem u8s_get (bs : List Byte) (i : Nat) (h : i < bs.length) : (u8s bs)[i]? = some (.int .u8 (v8 (bs.getD i 0))) := u8s_at (by simp [h])
theorem u32s_get (bs : List (BitVec 32)) (i : Nat) (h : i < bs.length) : (u32s bs)[i]? = some (.int .u32 (v32 (bs.getD i 0))) := u32s_at (by simp [h])
theorem u64s_get (bs : List (BitVec 64)) (i : Nat) (h : i < bs.length) : (u64s bs)[i]? = some (.int .u64 (v64 (bs.getD i 0))) := u64s_at (by simp [h])
theorem u8s_set (bs : List Byte) (i : Nat) (b : Byte) : (u8s bs).set i (.int .u8 (v8 b)) = u8s (bs.set i b) := by simp [u8s, List.map_set]
theorem u32s_set (bs : List (BitVec 32)) (i : Nat) (b : BitVec 32) : (u32s bs).set i (.int .u32 (v32 b)) = u32s (bs.set i b) := by simp [u32s, List.map_set]
theorem u64s_set (bs : List (BitVec 64)) (i : Nat) (b : BitVec 64) : (u64s bs).set i (.int .u64 (v64 b)) = u64s (bs.set i b) := by simp [u64s, List.map_set]
theorem u8s_append (a b : List Byte) : u8s (a ++ b) = u8s a ++ u8s b := by simp [u8s]
theorem u8s_zero (n : Nat) : List.replicate n (Value.int .u8 0) = u8s (List.replicate n 0) := by simp [u8s, v8]
theorem u8s_one (bs : List Byte) : ∀ u ∈ u8s bs, u.oneCell' = true := by
 intro u hu
 simp only [u8s, List.mem_map] at hu
 obtain ⟨b, _, rfl⟩ := hu
 rfl
def takeBE (w : Nat) (l : List Byte) : BitVec w := l.foldl (fun x b => x <<< 8 ||| b.setWidth w) 0
def layBE {w : Nat} (n : Nat) (x : BitVec w) : List Byte := (List.range n).map fun i => (x >>> (8 * (n - 1 - i))).setWidth 8
theorem layBE_len {w : Nat} (n : Nat) (x : BitVec w) : (layBE n x).length = n := by simp [layBE]
theorem takeBE_snoc (w : Nat) (l : List Byte) (b : Byte) : takeBE w (l ++ [b]) = takeBE w l <<< 8 ||| b.setWidth w := by simp [takeBE]
def rotl {w : Nat} (x : BitVec w) (k : Nat) : BitVec w := x <<< k ||| x >>> (w - k)
def rotr {w : Nat} (x : BitVec w) (k : Nat) : BitVec w := x >>> k ||| x <<< (w - k)
theorem rotl_rotr {w : Nat} (x : BitVec w) (k : Nat) (h : k ≤ w) : rotl x (w - k) = rotr x k := by
 unfold rotl rotr
 rw [BitVec.or_comm, show w - (w - k) = k by omega]
end Go.Bv

/- Rules for the walk, said in the separation logic of Sep: whole arrays and structs loaded and stored, copy, append; each under the conditions that it names. -/
namespace Go.Sep
open Go.RowKit
variable {P : Program} {W0 w : World} {L : List Assn}
theorem add_lit' (b o n : Nat) : (⟨b, o, none⟩ : Addr).add n = ⟨b, o + n, none⟩ := by unfold Addr.add; split <;> simp_all
theorem Sat.run_storeCells {b o : Nat} (q k : Nat) : ∀ (cs : List Value) (i : Nat) (vs : List Value) (w : World), Sat W0 w (seg true b o vs :: L) → q = o + k → k + i + cs.length ≤ vs.length → (∀ v ∈ cs, v.oneCell' = true) →
  ∃ w', (storeCells ⟨b, q, none⟩ cs i).run P w = .ok () w' ∧ Sat W0 w' (seg true b o (setL vs (k + i) cs) :: L)
 | [], i, vs, w, h, _, _, _ => ⟨w, rfl, h⟩
 | v :: rest, i, vs, w, h, hq, hl, h1 => by
  simp only [List.length_cons] at hl
  have hi : k + i < vs.length := by omega
  have hcell := h.cell (i := k + i) (v := vs[k + i]) (by simp [hi])
  have hfree := (h.free hi).1
  have hadd : (⟨b, q, none⟩ : Addr).add i = ⟨b, o + (k + i), none⟩ := by rw [add_lit', hq, Nat.add_assoc]
  have hst := h.store hi v (q := o + (k + i)) rfl
  obtain ⟨w', hr, hs⟩ := Sat.run_storeCells q k rest (i + 1) _ _ hst hq (by simp; omega) (fun x hx => h1 x (by simp [hx]))
  refine ⟨w', ?_, ?_⟩
  ·simp only [storeCells]
   rw [Sem.run_bind, hadd, run_store P w _ v _ (h1 v (by simp)), hcell]
   simp [hfree, hr]
  ·rw [setL, Nat.add_assoc]; exact hs
theorem Sat.allocAt (h : Sat W0 w L) (cs : Array Value) (T : TypeId) {q : Nat} (hq : q = w.heap.size) : Sat W0 (w.alloc (.cells cs T)) (seg true q 0 cs.toList :: L) := by
 subst hq; exact h.alloc cs T
theorem Sat.news {m : Bool} {b o : Nat} {vs : List Value} (h : Sat W0 w (seg m b o vs :: L)) : ∀ j u, vs[j]? = some u → ∃ ad, (some ⟨b, o, none⟩ : Option Addr) = some ad ∧ w.cell? (ad.add j) = some u :=
 fun j u hu => ⟨_, rfl, by rw [add_lit']; exact h.cell hu⟩
theorem setL_all : ∀ (cs vs : List Value), cs.length = vs.length → setL vs 0 cs = cs := by
 intro cs vs h
 apply List.ext_getElem?
 intro k
 rw [getElem?_setL _ _ _ _ (by omega)]
 by_cases hk : k < cs.length
 ·rw [if_pos ⟨Nat.zero_le _, by omega⟩]; simp
 ·rw [if_neg (by omega), List.getElem?_eq_none (by omega), List.getElem?_eq_none (by omega)]
theorem setL_mid (A B C cs : List Value) (h : cs.length = B.length) : setL (A ++ B ++ C) A.length cs = A ++ cs ++ C := by
 apply List.ext_getElem?
 intro k
 rw [getElem?_setL _ _ _ _ (by simp; omega)]
 by_cases h1 : A.length ≤ k ∧ k < A.length + cs.length
 ·rw [if_pos h1, List.getElem?_append_left (by simp; omega), List.getElem?_append_right (by omega)]
 ·rw [if_neg h1]
  by_cases h2 : k < A.length
  ·rw [List.append_assoc, List.append_assoc, List.getElem?_append_left h2, List.getElem?_append_left h2]
  ·rw [List.getElem?_append_right (by simp; omega), List.getElem?_append_right (by simp; omega)]
   simp [h]
theorem Sat.run_loadCells {m : Bool} {b o : Nat} {vs : List Value} (h : Sat W0 w (seg m b o vs :: L)) (k n q : Nat) (hq : q = o + k) (hn : k + n ≤ vs.length) :
  (loadCells ⟨b, q, none⟩ n).run P w = .ok ((vs.drop k).take n).toArray w := by
 have hl : ((vs.drop k).take n).length = n := by simp; omega
 have := run_loadCells_list (P := P) w ⟨b, q, none⟩ ((vs.drop k).take n) (fun j v hv => by
  rw [add_lit', hq, Nat.add_assoc]
  refine h.cell ?_
  rw [List.getElem?_take] at hv
  split at hv
  ·rw [List.getElem?_drop] at hv; exact hv
  ·cases hv)
 rw [hl] at this
 exact this
section
variable {ops : Array Oper} {rest : List Oper} {o : Oper} {a : Act} {Q : Exit → Act → World → Prop}
theorem run_isAgg {ty : TypeId} {d : TypeDesc} (hu : P.underlying ty = some d) (hd : (match d with | .struct _ | .array _ _ => true | _ => false) = true) (w : World) : (isAgg ty).run P w = .ok true w := by
 unfold isAgg
 rw [Sem.run_bind, run_underlying hu w]
 cases d <;> simp_all
theorem run_loadVar_agg {ty : TypeId} {d : TypeDesc} (hu : P.underlying ty = some d) (hd : (match d with | .struct _ | .array _ _ => true | _ => false) = true) {n : Nat} (hi : (P.info? ty).map (·.size) = some n)
  {m : Bool} {b off : Nat} {vs : List Value} (h : Sat W0 w (seg m b off vs :: L)) (k q : Nat) (hq : q = off + k) (hn : k + n ≤ vs.length) :
  (loadVar ty ⟨b, q, none⟩).run P w = .ok (.agg ((vs.drop k).take n).toArray) w := by
 have hl := h.run_loadCells (P := P) k n q hq hn
 cases hq' : P.info? ty with
 | none => simp [hq'] at hi
 | some i =>
  have hs : i.size = n := by simpa [hq'] using hi
  simp [loadVar, Sem.run_bind, run_isAgg hu hd w, sizeOf, typeInfo, hq', hs, hl]
theorem wpl_load_agg (hgd : o.guard = none) (ty : TypeId) (x : Operand) (ho : o.op = .load ty x) {d : TypeDesc} (hu : P.underlying ty = some d) (hd : (match d with | .struct _ | .array _ _ => true | _ => false) = true)
  {n : Nat} (hi : (P.info? ty).map (·.size) = some n) {m : Bool} {b off : Nat} {vs : List Value} (hs : Sat W0 w (seg m b off vs :: L)) (k q : Nat) (hx : a.eval x = .pointer (some ⟨b, q, none⟩)) (hq : q = off + k) (hn : k + n ≤ vs.length)
  (h : wpList P ops Q rest (a.put o.dst (.agg ((vs.drop k).take n).toArray)) w) : wpList P ops Q (o :: rest) a w := by
 refine wpList_plain hgd fun _ hK => ?_
 unfold Oper.wp execOp
 simp only [ho, hx, Instr.loadAt, Instr.sureAddr, Sem.run_bind, Sem.run_pure, Result.andThen_ok, run_loadVar_agg hu hd hi hs k q hq hn]
 exact hK _ _ h
theorem wpl_store_agg (hgd : o.guard = none) (hdst : o.dst = none) (ty : TypeId) (x y : Operand) (ho : o.op = .store ty x y) {b off : Nat} {vs cs : List Value} (hs : Sat W0 w (seg true b off vs :: L)) (k q : Nat)
  (hi : (P.info? ty).map (·.size) = some cs.length) (hx : a.eval x = .pointer (some ⟨b, q, none⟩)) (hy : a.eval y = .agg cs.toArray) (hq : q = off + k) (hn : k + cs.length ≤ vs.length) (h1 : ∀ v ∈ cs, v.oneCell' = true)
  (h : ∀ w', Sat W0 w' (seg true b off (setL vs k cs) :: L) → wpList P ops Q rest a w') : wpList P ops Q (o :: rest) a w := by
 refine wpList_plain hgd fun _ hK => ?_
 obtain ⟨w', hr, hs'⟩ := Sat.run_storeCells (P := P) q k cs 0 vs w hs hq (by simpa using hn) h1
 have hst : (storeVar ty ⟨b, q, none⟩ (.agg cs.toArray)).run P w = .ok () w' := by
  cases hq' : P.info? ty with
  | none => simp [hq'] at hi
  | some i =>
   have hsz : i.size = cs.length := by simpa [hq'] using hi
   simp [storeVar, sizeOf, typeInfo, hq', Value.cells, hsz, hr]
 unfold Oper.wp execOp
 simp only [ho, hx, hy, Instr.storeAt, Instr.sureAddr, Sem.run_bind, Sem.run_pure, Result.andThen_ok, hst]
 refine hK _ _ ?_
 rw [hdst]
 exact h w' (by simpa using hs')
theorem wpl_alloc (hgd : o.guard = none) (ty : TypeId) (ho : o.op = .alloc ty) (hs : Sat W0 w L) {z : Value} (hz : (zeroValue ty).run P w = .ok z w)
  (h : ∀ w' g, Sat W0 w' (seg true g 0 z.cells.toList :: L) → w.heap.size = g → g < w'.heap.size → wpList P ops Q rest (a.put o.dst (.pointer (some ⟨g, 0, none⟩))) w') : wpList P ops Q (o :: rest) a w := by
 refine wpList_plain hgd fun _ hK => ?_
 unfold Oper.wp execOp
 have := h (w.alloc (.cells z.cells ty)) w.heap.size (hs.alloc z.cells ty) rfl (by simp)
 simp [ho, Instr.alloc, newVar, newRow, hz, Sem.run_bind]
 exact hK _ _ this
theorem wpl_alloc_agg (hgd : o.guard = none) (ty : TypeId) (ho : o.op = .alloc ty) (hs : Sat W0 w L) (cs : List Value) (hz : (zeroValue ty).run P w = .ok (.agg cs.toArray) w)
  (h : ∀ w' g, Sat W0 w' (seg true g 0 cs :: L) → g < w'.heap.size → wpList P ops Q rest (a.put o.dst (.pointer (some ⟨g, 0, none⟩))) w') : wpList P ops Q (o :: rest) a w :=
 wpl_alloc hgd ty ho hs hz fun w' g h1 _ h3 => h w' g h1 h3
theorem wpl_copy (hgd : o.guard = none) (d s : Operand) (dT sT : TypeId) (ho : o.op = .call { callee := .builtin .copy, args := #[d, s], argTypes := #[dT, sT] }) {elem : TypeId} (hu : P.underlying dT = some (.slice elem)) (hsz : (P.info? elem).map (·.size) = some 1)
  {b off : Nat} {vs : List Value} (hs : Sat W0 w (seg true b off vs :: L)) (k q dLen dCap sLen sCap : Nat) (sp : Option Addr) (cs : List Value) (hd : a.eval d = .slice (some ⟨b, q, none⟩) dLen dCap) (hx : a.eval s = .slice sp sLen sCap)
  (hq : q = off + k) (hn : cs.length = Nat.min sLen dLen) (hfit : k + cs.length ≤ vs.length) (hsrc : ∀ j v, cs[j]? = some v → ∃ ad, sp = some ad ∧ w.cell? (ad.add j) = some v) (h1 : ∀ v ∈ cs, v.oneCell' = true)
  (h : ∀ w', Sat W0 w' (seg true b off (setL vs k cs) :: L) → wpList P ops Q rest (a.put o.dst (.int .i64 (cs.length : Int))) w') : wpList P ops Q (o :: rest) a w := by
 refine wpList_plain hgd fun _ hK => ?_
 cases hq' : P.info? elem with
 | none => simp [hq'] at hsz
 | some i =>
  have hsz' : i.size = 1 := by simpa [hq'] using hsz
  have hmin : Nat.min sLen dLen = cs.length := hn.symm
  obtain ⟨w', hr, hs'⟩ := Sat.run_storeCells (P := P) q k cs 0 vs w hs hq (by simpa using hfit) h1
  have hrun : (Builtin.copy_ #[dT, sT] o.type #[.slice (some ⟨b, q, none⟩) dLen dCap, .slice sp sLen sCap]).run P w = .ok (goInt cs.length) w' := by
   have hf : (Builtin.firstCells 1 cs.length (.slice sp sLen sCap)).run P w = .ok cs.toArray w := by
    cases sp with
    | none =>
     have : cs = [] := by
      cases cs with
      | nil => rfl
      | cons v r => obtain ⟨ad, h, _⟩ := hsrc 0 v rfl; cases h
     subst this
     rfl
    | some ad => exact run_firstCells_some w 1 cs.length ad sLen sCap cs (by simp) (fun j v hv => by obtain ⟨ad', h, hc⟩ := hsrc j v hv; cases h; exact hc)
   simp [Builtin.copy_, run_underlying hu, Builtin.lenOf, sizeOf, typeInfo, hq', hsz', hmin, hf, hr]
  unfold Oper.wp
  simp [execOp, ho, resolve, invoke, builtin, hd, hx, hrun, Result.andThen]
  exact hK _ _ (h w' (by simpa using hs'))
end
def row (p : Option Addr) (c sz n : Nat) (xs : List Value) : Assn := fun h =>
 xs.length = n * sz ∧ ((p = none ∧ c = 0 ∧ n = 0) ∨ ∃ g rest, p = some ⟨g, 0, none⟩ ∧ n ≤ c ∧ c ≤ maxLen ∧ (xs ++ rest).length = c * sz ∧ seg true g 0 (xs ++ rest) h)
theorem Sat.rowNil (h : Sat W0 w L) (sz : Nat) : Sat W0 w (row none 0 sz 0 [] :: L) := by
 obtain ⟨hb, hs, hf⟩ := h
 exact ⟨hb, Hp.zero :: hs, .cons ⟨by simp, .inl ⟨rfl, rfl, rfl⟩⟩ (Hp.zero_ok _ _) (fun _ _ => Hp.zero_dis _) hf⟩
theorem Sat.rowMade {g sz n cap : Nat} {xs rest : List Value} (h : Sat W0 w (seg true g 0 (xs ++ rest) :: L)) (hl : xs.length = n * sz) (hc : (xs ++ rest).length = cap * sz) (hn : n ≤ cap) (hm : cap ≤ maxLen) :
  Sat W0 w (row (some ⟨g, 0, none⟩) cap sz n xs :: L) :=
 h.imp fun x hx => ⟨hl, .inr ⟨g, rest, rfl, hn, hm, hc, hx⟩⟩
theorem Sat.rowFull {g n : Nat} {xs : List Value} (h : Sat W0 w (seg true g 0 xs :: L)) (hl : xs.length = n) (hm : n ≤ maxLen) : Sat W0 w (row (some ⟨g, 0, none⟩) n 1 n xs :: L) := by
 have h' : Sat W0 w (seg true g 0 (xs ++ []) :: L) := by rw [List.append_nil]; exact h
 exact h'.rowMade (by simp [hl]) (by simp [hl]) (Nat.le_refl _) hm
theorem Sat.rowOpen {p : Option Addr} {c sz n : Nat} {xs : List Value} (h : Sat W0 w (row p c sz n xs :: L)) : xs.length = n * sz ∧
  ((p = none ∧ c = 0 ∧ n = 0 ∧ xs = [] ∧ Sat W0 w L) ∨ ∃ g rest, p = some ⟨g, 0, none⟩ ∧ n ≤ c ∧ c ≤ maxLen ∧ (xs ++ rest).length = c * sz ∧ Sat W0 w (seg true g 0 (xs ++ rest) :: L)) := by
 obtain ⟨h0, hs, hf⟩ := h
 obtain ⟨x, t, rfl, hA, ok, hd, hf'⟩ := hf.head
 obtain ⟨hl, hA⟩ := hA
 refine ⟨hl, ?_⟩
 rcases hA with ⟨rfl, rfl, rfl⟩ | ⟨g, rest, rfl, hn, hm, hc, hx⟩
 ·exact .inl ⟨rfl, rfl, rfl, List.eq_nil_of_length_eq_zero (by simpa using hl), h0, t, hf'⟩
 ·exact .inr ⟨g, rest, rfl, hn, hm, hc, h0, x :: t, .cons hx ok hd hf'⟩
theorem run_append_row (t ty e : TypeId) {i : TypeInfo} {z : Value} {size bytes : Nat} (ht : P.underlying t = some (.slice e)) (hi : P.info? e = some i) (hz : i.zero = some z) (hsize : i.size = size) (hby : i.bytes = bytes) (hzs : z.cells.size = size) (hsz : 0 < size)
  {p : Option Addr} {cp n : Nat} {xs : List Value} (hs : Sat W0 w (row p cp size n xs :: L)) (sp : Option Addr) (m c : Nat) (news : List Value) (hl : news.length = m * size) (hnews : ∀ j u, news[j]? = some u → ∃ ad, sp = some ad ∧ w.cell? (ad.add j) = some u)
  (hnil : sp = none → m = 0) (h1 : ∀ u ∈ news, u.oneCell' = true) (h63 : n + m ≤ maxLen) (hbytes : (n + m) * bytes ≤ 140737488355328) :
  ∃ p' c' w', (Builtin.append_ #[t, t] ty #[.slice p n cp, .slice sp m c]).run P w = .ok (.slice p' (n + m) c') w' ∧ Sat W0 w' (row p' c' size (n + m) (xs ++ news) :: L) ∧ (m = 0 → p' = p ∧ c' = cp) ∧ (p' = none → p = none ∧ m = 0) := by
 subst hsize
 subst hby
 have hsmall : n + m ≤ 9223372036854775807 := by simp only [maxLen] at h63; omega
 obtain ⟨hxl, hopen⟩ := hs.rowOpen
 have hlen : (xs ++ news).length = (n + m) * i.size := by rw [List.length_append, hxl, hl, Nat.add_mul]
 have hzl : ∀ k, (Builtin.zeroCells z.cells k).size = k * i.size := fun k => by rw [size_zeroCells, hzs]
 have fresh : ∀ old, Sat W0 w L → n + m ≤ grownCap w (n + m) old e → Sat W0 (w.drew.alloc (.cells (xs.toArray ++ news.toArray ++ Builtin.zeroCells z.cells (grownCap w (n + m) old e - (n + m))) e))
   (row (some ⟨w.heap.size, 0, none⟩) (grownCap w (n + m) old e) i.size (n + m) (xs ++ news) :: L) := by
  intro old hL hge
  have := hL.drew.alloc (xs.toArray ++ news.toArray ++ Builtin.zeroCells z.cells (grownCap w (n + m) old e - (n + m))) e
  simp only [Array.toList_append] at this
  refine this.rowMade hlen ?_ hge (grownCap_le_maxLen w _ _ e h63)
  rw [List.length_append, hlen, Array.length_toList, hzl, ← Nat.add_mul]
  congr 1; omega
 cases sp with
 | none =>
  obtain rfl : m = 0 := hnil rfl
  obtain rfl : news = [] := List.eq_nil_of_length_eq_zero (by simpa using hl)
  have hf : (Builtin.firstCells i.size 0 (.slice none 0 c)).run P w = .ok #[] w := rfl
  rcases hopen with ⟨rfl, rfl, rfl, rfl, hL⟩ | ⟨g, rest, rfl, hn, hm, hc, hL⟩
  ·refine ⟨none, 0, w, ?_, hs, fun _ => ⟨rfl, rfl⟩, fun _ => ⟨rfl, rfl⟩⟩
   simp [Builtin.append_, run_underlying ht, sizeOf, typeInfo, hi, Builtin.lenOf, Builtin.firstCells, loadCells, loadCellsFrom]
  ·refine ⟨some ⟨g, 0, none⟩, cp, w, ?_, by simpa using hs, fun _ => ⟨rfl, rfl⟩, by simp⟩
   simp [Builtin.append_, run_underlying ht, sizeOf, typeInfo, hi, Builtin.lenOf, hn, Builtin.firstCells, storeCells]
 | some ad =>
  have hnews' : ∀ j u, news[j]? = some u → w.cell? (ad.add j) = some u := fun j u hu => by obtain ⟨ad', h, hc⟩ := hnews j u hu; cases h; exact hc
  have hf := run_firstCells_some (P := P) w i.size m ad m c news hl hnews'
  rcases hopen with ⟨rfl, rfl, rfl, rfl, hL⟩ | ⟨g, rest, rfl, hn, hm, hc, hL⟩
  ·by_cases hm : m = 0
   ·subst hm
    obtain rfl : news = [] := List.eq_nil_of_length_eq_zero (by simpa using hl)
    refine ⟨none, 0, w, ?_, hs, fun _ => ⟨rfl, rfl⟩, fun _ => ⟨rfl, rfl⟩⟩
    simp [Builtin.append_, run_underlying ht, sizeOf, typeInfo, hi, Builtin.lenOf, Builtin.firstCells, loadCells, loadCellsFrom]
   ·have hr := run_append_nil (P := P) w t ty e i z ht hi hz ad m c news hl hnews' (by omega) (by omega) (by have hb := hbytes; simp only [Nat.zero_add] at hb; omega)
    have := fresh 0 hL (grownCap_ge w _ _ e)
    simp only [Nat.zero_add, List.nil_append] at this ⊢
    have e0 : (([] : List Value).toArray ++ news.toArray) = news.toArray := by simp
    rw [e0] at this
    exact ⟨_, _, _, hr, this, fun h => absurd h hm, by simp⟩
  ·by_cases hroom : n + m ≤ cp
   ·have hfit : n * i.size + 0 + news.length ≤ (xs ++ rest).length := by rw [hc, hl, Nat.add_zero, ← Nat.add_mul]; exact Nat.mul_le_mul_right _ hroom
    obtain ⟨w', hr, hs'⟩ := Sat.run_storeCells (P := P) (n * i.size) (n * i.size) news 0 _ w hL (by simp) hfit h1
    have hset : setL (xs ++ rest) (n * i.size + 0) news = (xs ++ news) ++ rest.drop news.length := by
     have hrl : news.length ≤ rest.length := by rw [List.length_append, hxl] at hfit; omega
     have := setL_mid xs (rest.take news.length) (rest.drop news.length) news (by simp; omega)
     rw [List.append_assoc, List.take_append_drop, hxl] at this
     rw [Nat.add_zero, this]
    rw [hset] at hs'
    refine ⟨some ⟨g, 0, none⟩, cp, w', ?_, hs'.rowMade hlen ?_ hroom hm, fun _ => ⟨rfl, rfl⟩, by simp⟩
    ·have hadd : (⟨g, 0, none⟩ : Addr).add (n * i.size) = ⟨g, n * i.size, none⟩ := by rw [add_lit', Nat.zero_add]
     simp [Builtin.append_, run_underlying ht, sizeOf, typeInfo, hi, Builtin.lenOf, hroom, hf, hadd, hr]
    ·have h9 : (xs ++ rest).length = (xs ++ news ++ rest.drop news.length).length := by
      simp only [List.length_append, List.length_drop] at hfit ⊢
      omega
     rw [← h9]; exact hc
   ·have holds : ∀ j u, xs[j]? = some u → w.cell? ((⟨g, 0, none⟩ : Addr).add j) = some u := fun j u hu => by
     rw [add_lit']
     refine hL.cell ?_
     rw [List.getElem?_append_left (List.getElem?_eq_some_iff.1 hu).1]; exact hu
    have hr := run_append_grow (P := P) w t ty e i z ht hi hz ⟨g, 0, none⟩ n cp xs hxl holds ad m c news hl hnews' (by omega) (by omega) (growslice_fits (by omega) hbytes)
    exact ⟨_, _, _, hr, fresh cp hL.tail (grownCap_ge w _ _ e), fun h0 => by omega, by simp⟩
section
variable {ops : Array Oper} {rest : List Oper} {o : Oper} {a : Act} {Q : Exit → Act → World → Prop}
theorem wpl_append (hgd : o.guard = none) (s x : Operand) (t : TypeId) (ho : o.op = .call { callee := .builtin .append, args := #[s, x], argTypes := #[t, t] }) {e : TypeId} {i : TypeInfo} {z : Value} {size bytes : Nat}
  (ht : P.underlying t = some (.slice e)) (hi : P.info? e = some i) (hz : i.zero = some z) (hsize : i.size = size) (hby : i.bytes = bytes) (hzs : z.cells.size = size) (hsz : 0 < size)
  {p : Option Addr} {cp n : Nat} {xs : List Value} (hs : Sat W0 w (row p cp size n xs :: L)) (hv : a.eval s = .slice p n cp) (sp : Option Addr) (m c : Nat) (hx : a.eval x = .slice sp m c) (news : List Value) (hl : news.length = m * size)
  (hnews : ∀ j u, news[j]? = some u → ∃ ad, sp = some ad ∧ w.cell? (ad.add j) = some u) (hnil : sp = none → m = 0) (h1 : ∀ u ∈ news, u.oneCell' = true) (h63 : n + m ≤ maxLen) (hbytes : (n + m) * bytes ≤ 140737488355328)
  (h : ∀ p' c' w', Sat W0 w' (row p' c' size (n + m) (xs ++ news) :: L) → (m = 0 → p' = p ∧ c' = cp) → (p' = none → p = none ∧ m = 0) → wpList P ops Q rest (a.put o.dst (.slice p' (n + m) c')) w') : wpList P ops Q (o :: rest) a w := by
 refine wpList_plain hgd fun _ hK => ?_
 obtain ⟨p', c', w', hr, h2, h3, h4⟩ := run_append_row (P := P) t o.type e ht hi hz hsize hby hzs hsz hs sp m c news hl hnews hnil h1 h63 hbytes
 unfold Oper.wp execOp
 simp only [ho, resolve, invoke, builtin, Sem.run_bind, Sem.run_pure, Result.andThen_ok, List.map_toArray, List.map_cons, List.map_nil, hv, hx, hr]
 exact hK _ _ (h p' c' w' h2 h3 h4)
end
theorem step_append {ops : Array Oper} {o : Oper} {a : Act} {K : Act → World → Prop} {Q : Exit → Act → World → Prop} {E : Prop} (hgd : o.guard = none) (s x : Operand) (t : TypeId) (ho : o.op = .call { callee := .builtin .append, args := #[s, x], argTypes := #[t, t] }) {e : TypeId} {i : TypeInfo} {z : Value} {size bytes : Nat}
  (ht : P.underlying t = some (.slice e)) (hi : P.info? e = some i) (hz : i.zero = some z) (hsize : i.size = size) (hby : i.bytes = bytes) (hzs : z.cells.size = size) (hsz : 0 < size)
  {p : Option Addr} {cp n : Nat} {xs : List Value} (hs : Sat W0 w (row p cp size n xs :: L)) (hv : a.eval s = .slice p n cp) (sp : Option Addr) (m c : Nat) (hx : a.eval x = .slice sp m c) (news : List Value) (hl : news.length = m * size)
  (hnews : ∀ j u, news[j]? = some u → ∃ ad, sp = some ad ∧ w.cell? (ad.add j) = some u) (hnil : sp = none → m = 0) (h1 : ∀ u ∈ news, u.oneCell' = true) (h63 : n + m ≤ maxLen) (hbytes : (n + m) * bytes ≤ 140737488355328)
  (h : ∀ p' c' w', Sat W0 w' (row p' c' size (n + m) (xs ++ news) :: L) → (m = 0 → p' = p ∧ c' = cp) → (p' = none → p = none ∧ m = 0) → K (a.put o.dst (.slice p' (n + m) c')) w') :
  if Region.wanted o (yielded ops a.tmps) = true then Oper.wp P o a w K Q else E := by
 rw [if_pos (by simp [Region.wanted, hgd])]
 obtain ⟨p', c', w', hr, h2, h3, h4⟩ := run_append_row (P := P) t o.type e ht hi hz hsize hby hzs hsz hs sp m c news hl hnews hnil h1 h63 hbytes
 unfold Oper.wp execOp
 simp only [ho, resolve, invoke, builtin, Sem.run_bind, Sem.run_pure, Result.andThen_ok, List.map_toArray, List.map_cons, List.map_nil, hv, hx, hr]
 exact h p' c' w' h2 h3 h4
theorem step_copy {ops : Array Oper} {o : Oper} {a : Act} {K : Act → World → Prop} {Q : Exit → Act → World → Prop} {E : Prop} (hgd : o.guard = none) (d s : Operand) (dT sT : TypeId) (ho : o.op = .call { callee := .builtin .copy, args := #[d, s], argTypes := #[dT, sT] }) {elem : TypeId} (hu : P.underlying dT = some (.slice elem)) (hsz : (P.info? elem).map (·.size) = some 1)
  {b off : Nat} {vs : List Value} (hs : Sat W0 w (seg true b off vs :: L)) (k q dLen dCap sLen sCap : Nat) (sp : Option Addr) (cs : List Value) (hd : a.eval d = .slice (some ⟨b, q, none⟩) dLen dCap) (hx : a.eval s = .slice sp sLen sCap)
  (hq : q = off + k) (hn : cs.length = Nat.min sLen dLen) (hfit : k + cs.length ≤ vs.length) (hsrc : ∀ j v, cs[j]? = some v → ∃ ad, sp = some ad ∧ w.cell? (ad.add j) = some v) (h1 : ∀ v ∈ cs, v.oneCell' = true)
  (h : ∀ w', Sat W0 w' (seg true b off (setL vs k cs) :: L) → K (a.put o.dst (.int .i64 (cs.length : Int))) w') :
  if Region.wanted o (yielded ops a.tmps) = true then Oper.wp P o a w K Q else E := by
 rw [if_pos (by simp [Region.wanted, hgd])]
 cases hq' : P.info? elem with
 | none => simp [hq'] at hsz
 | some i =>
  have hsz' : i.size = 1 := by simpa [hq'] using hsz
  have hmin : Nat.min sLen dLen = cs.length := hn.symm
  obtain ⟨w', hr, hs'⟩ := Sat.run_storeCells (P := P) q k cs 0 vs w hs hq (by simpa using hfit) h1
  have hrun : (Builtin.copy_ #[dT, sT] o.type #[.slice (some ⟨b, q, none⟩) dLen dCap, .slice sp sLen sCap]).run P w = .ok (goInt cs.length) w' := by
   have hf : (Builtin.firstCells 1 cs.length (.slice sp sLen sCap)).run P w = .ok cs.toArray w := by
    cases sp with
    | none =>
     have : cs = [] := by
      cases cs with
      | nil => rfl
      | cons v r => obtain ⟨ad, h, _⟩ := hsrc 0 v rfl; cases h
     subst this
     rfl
    | some ad => exact run_firstCells_some w 1 cs.length ad sLen sCap cs (by simp) (fun j v hv => by obtain ⟨ad', h, hc⟩ := hsrc j v hv; cases h; exact hc)
   simp [Builtin.copy_, run_underlying hu, Builtin.lenOf, sizeOf, typeInfo, hq', hsz', hmin, hf, hr]
  unfold Oper.wp
  simp [execOp, ho, resolve, invoke, builtin, hd, hx, hrun, Result.andThen]
  exact h w' (by simpa using hs')
theorem run_index_list {t e : TypeId} {n : Nat} (ht : P.underlying t = some (.array n e)) (hz : (P.info? e).map (·.size) = some 1) (hag : ∀ w, (isAgg e).run P w = .ok false w) (vs : List Value) (hl : vs.length = n) (i : Nat) (hi : i < n) (w : World) :
  (Instr.index t (.agg vs.toArray) (.int .i64 (i : Int))).run P w = .ok (vs.getD i undef) w := by
 subst hl
 cases hq : P.info? e with
 | none => simp [hq] at hz
 | some inf =>
  have hz' : inf.size = 1 := by simpa [hq] using hz
  have h0 : (0 : Int) ≤ (i : Int) := by omega
  have h2 : (i : Int) < (vs.length : Int) := by omega
  simp [Instr.index, asIntOf, run_underlying ht, h0, h2, sizeOf, typeInfo, hq, hz', part, hag, hi]
end Go.Sep

/- A region that draws its order: its first operations only read, or call what leaves a class of worlds; the others come up in one order, behind all of these: one walk in the text's order serves every order. Under the two Bools that are named. -/
namespace Go.Sep
section
variable {P : Program} {ops : Array Oper} {md : Region.Mode} {C : World → Prop}
def headQ (P : Program) (md : Region.Mode) (ops : Array Oper) (C : World → Prop) (n : Nat) (T : Array Bool → Act → Prop) : Nat → Array Bool → Act → Prop
 | 0, done, a => T done a
 | f + 1, done, a => Region.ready md ops done ≠ [] ∧ ∀ i ∈ Region.ready md ops done, i < n ∧ qOp P ops C i (headQ P md ops C n T f (done.setIfInBounds i true)) a
theorem headQ_any {n g : Nat} {T : Array Bool → Act → Prop} {Q : Exit → Act → World → Prop} (hT : ∀ done a w, C w → T done a → wpAny P md ops Q g done a w) (f : Nat) :
  ∀ (done : Array Bool) (a : Act) (w : World), C w → headQ P md ops C n T f done a → wpAny P md ops Q (f + g) done a w := by
 induction f with
 | zero => intro done a w hw h; rw [Nat.zero_add]; exact hT _ _ _ hw h
 | succ f ih =>
  intro done a w hw h
  rw [Nat.succ_add]
  exact ⟨fun h0 => absurd h0 h.1, fun i hi => wpOp_of_qOp hw (fun a' w' hw' h' => ih _ a' w' hw' h') (h.2 i hi).2⟩
def sinkFrom (md : Region.Mode) (ops : Array Oper) (k n : Nat) : Bool := (List.range n).all fun i => decide (i < k) || (List.range (n + 1)).any fun j => decide (i < j) && Region.waitsFor md ops j i
theorem tail_late {k n : Nat} {done : Array Bool} (hs : sinkFrom md ops k n = true) (hc : Region.chainB md ops n = true) (inv : HeadInv md ops n done) (d : Nat) :
  ∀ i, n - i ≤ d → k ≤ i → i < n → done.getD i true = false → ∀ t, t ∈ Region.ready md ops done → t < n := by
 induction d with
 | zero => intro i hd _ hi; omega
 | succ d ih =>
  intro i hd hk hi hun t hr
  refine Nat.lt_of_not_le fun ht => ?_
  obtain ⟨_, x, hx, hall⟩ := mem_ready.1 hr
  have hlt : t < ops.size := (Array.getElem?_eq_some_iff.1 hx).1
  rcases Nat.lt_or_ge n t with htn | htn
  ·have h1 := List.all_eq_true.1 hc t (List.mem_range.2 hlt)
   simp only [Bool.or_eq_true, decide_eq_true_eq] at h1
   obtain ⟨y, hy, e, he, hb, hon⟩ := Region.waitsFor_spec (h1.resolve_left (by omega))
   obtain rfl : x = y := Option.some.inj (hx.symm.trans hy)
   have := hall e he hb
   rw [hon, getD_both (inv.tail (t - 1) (by omega) (by omega))] at this
   cases this
  ·obtain rfl : t = n := by omega
   have h1 := List.all_eq_true.1 hs i (List.mem_range.2 hi)
   simp only [Bool.or_eq_true, decide_eq_true_eq] at h1
   obtain ⟨j, hj, h2⟩ := List.any_eq_true.1 (h1.resolve_left (by omega))
   simp only [Bool.and_eq_true, decide_eq_true_eq] at h2
   obtain ⟨y, hy, e, he, hb, hon⟩ := Region.waitsFor_spec h2.2
   have hjt : j ≤ t := by have := List.mem_range.1 hj; omega
   by_cases ejt : j = t
   ·subst ejt
    obtain rfl : x = y := Option.some.inj (hx.symm.trans hy)
    have := hall e he hb
    rw [hon, getD_both hun] at this
    cases this
   ·cases hd2 : done.getD j false with
    | true =>
     have := inv.closed j y hy hd2 e he hb
     rw [hon, getD_both hun] at this
     cases this
    | false =>
     have := ih j (by omega) (by omega) (by omega) (getD_in (by rw [inv.size]; omega) hd2) t hr
     omega
theorem headQ_first {k n i : Nat} {x : Oper} {v : Value} {T : Array Bool → Act → Prop} (hx : ops[i]? = some x) (hsel : ∀ (j : Nat) (o : Oper) cs b, ops[j]? = some o → o.op ≠ .select cs b)
  (hs : sinkFrom md ops k n = true) (hc : Region.chainB md ops n = true) (hki : k ≤ i) (hin : i < n) (hT : ∀ done a, T done a → ∀ j ∈ Region.ready md ops done, n ≤ j) (f : Nat) :
  ∀ (done : Array Bool) (a : Act), HeadInv md ops n done → (∀ j y, ops[j]? = some y → j ≠ i → done.getD j true = false → (∀ e ∈ y.after, Region.binds md e = true → e.on ≠ i) → x.apart ops y = true) →
   i ∈ Region.ready md ops done → YieldsIn P ops C x v a → headQ P md ops C n T f (done.setIfInBounds i true) (a.put x.dst v) → headQ P md ops C n T (f + 1) done a := by
 induction f with
 | zero =>
  intro done a inv hfree hr hy H
  have hun := (mem_ready.1 hr).1
  refine ⟨List.ne_nil_of_mem hr, fun j hj => ?_⟩
  have hjn : j < n := tail_late hs hc inv _ i (Nat.le_refl _) hki hin hun j hj
  by_cases e : j = i
  ·subst e; exact ⟨hjn, hy.qOp hx H⟩
  ·have := hT _ _ H j (ready_mono hj e); omega
 | succ f ih =>
  intro done a inv hfree hr hy H
  have hun := (mem_ready.1 hr).1
  refine ⟨List.ne_nil_of_mem hr, fun j hj => ?_⟩
  have hjn : j < n := tail_late hs hc inv _ i (Nat.le_refl _) hki hin hun j hj
  by_cases e : j = i
  ·subst e; exact ⟨hjn, hy.qOp hx H⟩
  obtain ⟨hjun, y, hyj, hall⟩ := mem_ready.1 hj
  have hno : ∀ e ∈ y.after, Region.binds md e = true → e.on ≠ i := fun e he hb heq => by
   have h1 := hall e he hb
   rw [heq, getD_both hun] at h1
   cases h1
  have h2 := qOp_put hyj (hfree j y hyj e hjun hno) (fun cs b => hsel i x cs b hx) (fun cs b => hsel j y cs b hyj) hy (H.2 j (ready_mono hj e)).2
  refine ⟨hjn, qOp_mono (fun a' h3 => ?_) h2⟩
  refine ih (done.setIfInBounds j true) a' (inv.set hj hjn) (fun k z hk hki hkun hkno => hfree k z hk hki ?_ hkno) (ready_mono hr (Ne.symm e)) h3.1 (by rw [Array.setIfInBounds_comm _ _ e]; exact h3.2)
  by_cases hjk : j = k
  ·subst hjk; exact hjun
  ·rwa [getD_set_ne true hjk] at hkun
theorem headQ_lex {k0 n g : Nat} {R : Act → Prop} (hsel : Region.noSelect ops = true) (hs : sinkFrom md ops k0 n = true) (hc : Region.chainB md ops n = true) :
  ∀ (l : List Oper) (k : Nat) (done : Array Bool) (a : Act), (∀ j, j < l.length → l[j]? = ops[k + j]?) → k0 ≤ k → k + l.length = n → HeadInv md ops n done →
  Region.lexHead md ops g l.length k done = true → wpQuiet P ops C R l a → headQ P md ops C n (fun d b => Region.seqB md ops g n d = true ∧ R b) l.length done a := by
 intro l
 induction l with
 | nil =>
  intro k done a _ _ hk _ hB h
  obtain rfl : k = n := by simpa using hk
  exact ⟨hB, h⟩
 | cons x l ih =>
  intro k done a hl hk0 hk inv hB h
  have h0 : ops[k]? = some x := by simpa using (hl 0 (by simp)).symm
  simp only [List.length_cons, Region.lexHead, Bool.and_eq_true] at hB
  simp only [List.length_cons] at hk
  have hr : k ∈ Region.ready md ops done := by simpa using hB.1.1
  obtain ⟨v, hy, hK⟩ := yieldsIn_of_qOp (K := wpQuiet P ops C R l) h0 (by unfold qOp; simp only [h0]; exact h)
  refine headQ_first h0 (Region.noSelect_spec hsel) hs hc hk0 (by omega) (fun d b hd => seqB_ready hd.1) l.length done a inv (Region.free_spec h0 hB.1.2) hr hy ?_
  exact ih (k + 1) _ _ (fun j hj => by have := hl (j + 1) (by simp; omega); simpa [Nat.add_assoc, Nat.add_comm 1 j] using this) (by omega) (by omega) (inv.set hr (by omega)) hB.2 hK
def tailFrom (md : Region.Mode) (ops : Array Oper) (n : Nat) : Bool :=
 Region.noSelect ops && decide (0 < n) && decide (n < ops.size) && sinkFrom md ops 1 n && Region.chainB md ops n && Region.free md ops (Array.replicate ops.size false) 0 && (Region.ready md ops (Array.replicate ops.size false)).contains 0 &&
  Region.lexHead md ops (ops.size - n) (n - 1) 1 ((Array.replicate ops.size false).setIfInBounds 0 true)
theorem wp_region_move_tail {id : Nat} {Q : Exit → Act → World → Prop} {a : Act} {w : World} {o : Oper} {l : List Oper} (C : World → Prop) (n : Nat) (hm : P.follows .mixedOrders = true) (hB : tailFrom .any (o :: l).toArray n = true) (hC : C { w with drawn := w.drawn + 1 })
  (x : Operand) (ho : o.op = .move x) (hg : o.guard = none) (hQ : ∀ c (a : Act) v w, Q (.panic c) (a.put o.dst v) w → Q (.panic c) a w)
  (h : wpQuiet P (o :: l).toArray C (fun b => ∀ w', C w' → wpList P (o :: l).toArray Q ((o :: l).drop n) b w') (l.take (n - 1)) (a.put o.dst (a.eval x))) : (Code.region id (o :: l).toArray true).wp P Q a w := by
 simp only [tailFrom, Bool.and_eq_true, decide_eq_true_eq] at hB
 obtain ⟨⟨⟨⟨⟨⟨⟨hsel, h0⟩, hn⟩, hs⟩, hc⟩, hfr⟩, hrd⟩, hlex⟩ := hB
 have hn' : n < l.length + 1 := by simpa using hn
 have htl : (l.take (n - 1)).length = n - 1 := by simp; omega
 have hdl : ((o :: l).drop n).length = (o :: l).toArray.size - n := by simp
 have hr0 : 0 ∈ Region.ready .any (o :: l).toArray (Array.replicate (o :: l).toArray.size false) := by simpa using hrd
 have inv0 : HeadInv .any (o :: l).toArray n (Array.replicate (o :: l).toArray.size false) :=
  ⟨by simp, fun j y _ hl => (by rw [getD_replicate_false] at hl; cases hl), fun t _ ht => getD_in (by simpa using ht) (getD_replicate_false _ _)⟩
 have H := headQ_lex (md := .any) (g := (o :: l).toArray.size - n) hsel hs hc (l.take (n - 1)) 1 ((Array.replicate (o :: l).toArray.size false).setIfInBounds 0 true) (a.put o.dst (a.eval x))
  (fun j hj => by rw [htl] at hj; rw [List.getElem?_take, if_pos hj, Nat.add_comm]; simp) (Nat.le_refl _) (by rw [htl]; omega) (inv0.set hr0 h0) (by rw [htl]; exact hlex) h
 refine wp_region_any hm ?_
 have H2 := headQ_any (Q := Q) (g := (o :: l).toArray.size - n) (fun d b w' hw' hd => by
  have := wpAny_of_seq (md := .any) (Q' := Q) ((o :: l).drop n) n d b w' (fun j => by simp [List.getElem?_drop]) (by rw [hdl]; exact hd.1) (hd.2 w' hw')
  rwa [hdl] at this) _ _ _ _ hC H
 have e : (o :: l).toArray.size = (l.take (n - 1)).length + ((o :: l).toArray.size - n) + 1 := by rw [htl]; omega
 rw [show wpAny P .any (o :: l).toArray Q (o :: l).toArray.size = wpAny P .any (o :: l).toArray Q ((l.take (n - 1)).length + ((o :: l).toArray.size - n) + 1) from congrArg _ e]
 exact wpAny_take (i := 0) (v := a.eval x) (by simp) hsel hfr hrd (fun c a w => hQ c a _ w) (Or.inl ⟨by simp [Region.wanted, hg], fun w => by simp [execOp, ho]⟩) H2
theorem wp_region_move_tail_lit {id : Nat} {Q : Exit → Act → World → Prop} {a : Act} {w : World} {o : Oper} {l : List Oper} (n : Nat) (hm : P.follows .mixedOrders = true) (hB : tailFrom .any (o :: l).toArray n = true)
  (x : Operand) (ho : o.op = .move x) (hg : o.guard = none) (hQ : ∀ c (a : Act) v w, Q (.panic c) (a.put o.dst v) w → Q (.panic c) a w)
  (h : wpQuiet P (o :: l).toArray (fun w' => ∃ k, w' = w.drewN k) (fun b => ∀ w', (∃ k, w' = w.drewN k) → wpList P (o :: l).toArray Q ((o :: l).drop n) b w') (l.take (n - 1)) (a.put o.dst (a.eval x))) : (Code.region id (o :: l).toArray true).wp P Q a w :=
 wp_region_move_tail (fun w' => ∃ k, w' = w.drewN k) n hm hB ⟨1, rfl⟩ x ho hg hQ h
theorem wp_region_quiet_tail {id : Nat} {Q : Exit → Act → World → Prop} {a : Act} {w : World} {l : List Oper} (C : World → Prop) (n : Nat) (hm : P.follows .mixedOrders = true) (hB : Region.lexTailB .any l.toArray n = true) (hC : C { w with drawn := w.drawn + 1 })
  (h : wpQuiet P l.toArray C (fun b => ∀ w', C w' → wpList P l.toArray Q (l.drop n) b w') (l.take n) a) : (Code.region id l.toArray true).wp P Q a w := by
 simp only [Region.lexTailB, Bool.and_eq_true, decide_eq_true_eq] at hB
 obtain ⟨⟨⟨⟨hsel, hn⟩, hs⟩, hc⟩, hlex⟩ := hB
 have htl : (l.take n).length = n := by simp at hn ⊢; omega
 have hdl : (l.drop n).length = l.toArray.size - n := by simp
 have hs' : sinkFrom .any l.toArray 0 n = true := by
  unfold sinkFrom; unfold Region.sinkB at hs
  simpa using hs
 have H := headQ_lex (md := .any) (g := l.toArray.size - n) hsel hs' hc (l.take n) 0 (Array.replicate l.toArray.size false) a (fun j hj => by rw [htl] at hj; simp [hj]) (Nat.le_refl _) (by rw [htl, Nat.zero_add])
  ⟨by simp, fun j y _ hl => (by rw [getD_replicate_false] at hl; cases hl), fun t _ ht => getD_in (by simpa using ht) (getD_replicate_false _ _)⟩ (by rw [htl]; exact hlex) h
 refine wp_region_any hm ?_
 have := headQ_any (Q := Q) (g := l.toArray.size - n) (fun d b w' hw' hd => by
  have := wpAny_of_seq (md := .any) (Q' := Q) (l.drop n) n d b w' (fun j => by simp [List.getElem?_drop]) (by rw [hdl]; exact hd.1) (hd.2 w' hw')
  rwa [hdl] at this) _ _ _ _ hC H
 rwa [htl, show n + (l.toArray.size - n) = l.toArray.size by simp at hn ⊢; omega] at this
theorem wp_region_quiet_tail_lit {id : Nat} {Q : Exit → Act → World → Prop} {a : Act} {w : World} {l : List Oper} (n : Nat) (hm : P.follows .mixedOrders = true) (hB : Region.lexTailB .any l.toArray n = true)
  (h : wpQuiet P l.toArray (fun w' => ∃ k, w' = w.drewN k) (fun b => ∀ w', (∃ k, w' = w.drewN k) → wpList P l.toArray Q (l.drop n) b w') (l.take n) a) : (Code.region id l.toArray true).wp P Q a w :=
 wp_region_quiet_tail (fun w' => ∃ k, w' = w.drewN k) n hm hB ⟨1, rfl⟩ h
end
end Go.Sep

/- The contracts of the ledger: what Note, NoteTimes, New, Len, Runs do; each under the conditions that it names. -/
namespace Go.Proofs.YtbefjaodpbgpcaaGreat
open Go.RowKit Go.Sep Go.Bv
abbrev Run3 := Int × Int × Nat
def enc3 (r : Run3) : List Value := [.int .u8 r.1, .int .i64 r.2.1, .int .i64 (r.2.2 : Int)]
theorem len3 (r : Run3) : (enc3 r).length = 3 := rfl
def tot : List Run3 → Nat
 | [] => 0
 | r :: rs => r.2.2 + tot rs
theorem tot_append (a b : List Run3) : tot (a ++ b) = tot a + tot b := by
 induction a with
 | nil => simp [tot]
 | cons r rs ih => simp [tot, ih, Nat.add_assoc]
def note (rs : List Run3) (k s : Int) (n : Nat) : List Run3 :=
 match rs.getLast? with
 | some r => if r.1 = k ∧ r.2.1 = s then rs.dropLast ++ [(k, s, r.2.2 + n)] else rs ++ [(k, s, n)]
 | none => [(k, s, n)]
theorem tot_note (rs : List Run3) (k s : Int) (n : Nat) : tot (note rs k s n) = tot rs + n := by
 unfold note
 rcases List.eq_nil_or_concat rs with rfl | ⟨l, r, rfl⟩
 ·simp [tot]
 ·by_cases h : r.1 = k ∧ r.2.1 = s <;> simp [h, tot_append, tot, Nat.add_assoc]
theorem note_len (rs : List Run3) (k s : Int) (n : Nat) : (note rs k s n).length ≤ rs.length + 1 := by
 unfold note
 split
 ·split <;> simp
 ·simp
def led (l : Nat) (rs : List Run3) : Assn := fun x => ∃ q : Option Addr × Nat, sep (seg true l 0 [.slice q.1 rs.length q.2, .int .i64 (tot rs : Int)]) (row q.1 q.2 3 rs.length (rs.flatMap enc3)) x
def ledO (p : Option Nat) (rs : List Run3) : Assn := match p with | none => emp | some l => led l rs
abbrev ptrO (p : Option Nat) : Value := .pointer (p.map fun l => ⟨l, 0, none⟩)
theorem ledOpen {W0 w : World} {L : List Assn} {l : Nat} {rs : List Run3} (h : Sat W0 w (led l rs :: L)) : ∃ p c, Sat W0 w (seg true l 0 [.slice p rs.length c, .int .i64 (tot rs : Int)] :: row p c 3 rs.length (rs.flatMap enc3) :: L) := by
 obtain ⟨q, h⟩ := h.exOpen
 exact ⟨q.1, q.2, h.sepOpen⟩
theorem ledShut {W0 w : World} {L : List Assn} {l : Nat} {rs : List Run3} {p : Option Addr} {c : Nat} (h : Sat W0 w (seg true l 0 [.slice p rs.length c, .int .i64 (tot rs : Int)] :: row p c 3 rs.length (rs.flatMap enc3) :: L)) : Sat W0 w (led l rs :: L) :=
 Sat.exShut (A := fun q : Option Addr × Nat => sep (seg true l 0 [.slice q.1 rs.length q.2, .int .i64 (tot rs : Int)]) (row q.1 q.2 3 rs.length (rs.flatMap enc3))) (p, c) h.sepShut
theorem Tryz.info_run : (Tryz.prog.info? 72).map (fun i => (i.zero, i.size, i.bytes)) = some (some (.agg #[.int .u8 0, .int .i64 0, .int .i64 0]), 3, 24) := by kernel_rfl
theorem noteTimes_nil (w : World) (k s : Int) (n : Int) : Calls Tryz.prog 48 #[.pointer none, .agg #[.int .u8 k, .int .i64 s], .int .i64 n] w fun e w' => e = .returned (.tuple #[]) ∧ w.alloc (.cells #[.int .u8 k, .int .i64 s] 70) = w' := by
 go_enter Tryz.func48, Tryz.ntmps48
 go_wp2
 exact bodyPost_ret (v := .tuple #[]) (by simp [results, Tryz.results48, go_sem]) rfl ⟨rfl, rfl⟩
theorem row3 {W0 w : World} {L : List Assn} {m : Bool} {b k : Nat} {rs : List Run3} {rest : List Value} {y : Run3} (s : Sat W0 w (seg m b 0 (rs.flatMap enc3 ++ rest) :: L)) (hy : rs[k]? = some y) :
  w.cell? ⟨b, k * 3, none⟩ = some (.int .u8 y.1) ∧ w.cell? ⟨b, k * 3 + 1, none⟩ = some (.int .i64 y.2.1) ∧ w.cell? ⟨b, k * 3 + 2, none⟩ = some (.int .i64 (y.2.2 : Int)) := by
 have hk := (List.getElem?_eq_some_iff.1 hy).1
 have hyk : rs[k] = y := (List.getElem?_eq_some_iff.1 hy).2
 have hl : k * 3 + 3 ≤ (rs.flatMap enc3).length := by rw [fm_len len3, ← Nat.succ_mul]; exact Nat.mul_le_mul_right _ hk
 have g : ∀ j, j < 3 → (rs.flatMap enc3 ++ rest)[k * 3 + j]? = (enc3 y)[j]? := fun j hj => by
  rw [List.getElem?_append_left (by omega), fm_get len3 rs k j hk hj, hyk]
 exact ⟨s.at _ (g 0 (by omega)), s.at _ (g 1 (by omega)), s.at _ (g 2 (by omega))⟩
theorem noteTimes_new {W0 w : World} {L : List Assn} {l : Nat} (rs : List Run3) (k s : Int) (n : Nat) (hs : Sat W0 w (led l rs :: L)) (hn : 1 ≤ n) (hb : tot rs + n ≤ 4611686018427387904) (hl : rs.length ≤ 4294967296) (hne : ∀ r, rs.getLast? = some r → (r.1 == k && r.2.1 == s) = false) :
  Calls Tryz.prog 48 #[.pointer (some ⟨l, 0, none⟩), .agg #[.int .u8 k, .int .i64 s], .int .i64 (n : Int)] w fun e w' => e = .returned (.tuple #[]) ∧ Sat W0 w' (led l (rs ++ [(k, s, n)]) :: L) := by
 obtain ⟨p, c, s1⟩ := ledOpen hs
 have hr : Sat W0 w (row p c 3 rs.length (rs.flatMap enc3) :: seg true l 0 [.slice p rs.length c, .int .i64 (tot rs : Int)] :: L) := s1.pull 1
 obtain ⟨hrl, hro⟩ := hr.rowOpen
 have c0 := s1.at 0 rfl
 have c1 := s1.at 1 rfl
 have f0 := s1.fr 0 (by simp)
 have f1 := s1.fr 1 (by simp)
 have z1 := s1.lt (by simp)
 obtain ⟨i3, hi3, hz3, hs3, hb3⟩ := info_parts Tryz.info_run
 rcases List.eq_nil_or_concat rs with rfl | ⟨rs0, r, hrs⟩
 ·go_enter Tryz.func48, Tryz.ntmps48
  go_wp2_with fail
  go_quiet (fail)
  go_wp2
  go_region_law (refine step_append (by rfl) (.tmp 58) (.tmp 62) 47 (by rfl) Tryz.underlying47 hi3 hz3 hs3 hb3 rfl (by decide) (p := p) (cp := c) (xs := ([] : List Run3).flatMap enc3) (n := ([] : List Run3).length) (L := seg true l 0 [.slice p ([] : List Run3).length c, .int .i64 (tot ([] : List Run3) + n)] :: L) (by exact ((((s1.store (i := 1) (by simp) (.int .i64 (tot ([] : List Run3) + n)) (q := 1) (by simp)).alloc #[.int .u8 k, .int .i64 s] 70).tail.drewN _).drew.alloc' _).pull 1) (by rfl) (some _) 1 1 (by rfl) (enc3 (k, s, n)) rfl (by exact ((((s1.store (i := 1) (by simp) (.int .i64 (tot ([] : List Run3) + n)) (q := 1) (by simp)).alloc #[.int .u8 k, .int .i64 s] 70).tail.drewN _).drew.allocAt #[.int .u8 k, .int .i64 s, .int .i64 n] 72 (by simp)).news) (fun h => by cases h) (by simp [enc3, Value.oneCell']) (by unfold maxLen; simp only [List.length_nil]; omega) (by simp only [List.length_nil]; omega) ?_; intro p' c' w' hs' _ _; have sl : Sat W0 w' (seg true l 0 [.slice p ([] : List Run3).length c, .int .i64 (tot ([] : List Run3) + n)] :: _) := hs'.pull 1; have k0 := sl.at 0 rfl; have k1 := sl.fr 0 (by simp))
  all_goals
   refine bodyPost_end (by simp [results, Tryz.results48, go_sem]) rfl ⟨rfl, ?_⟩
   have sl : Sat W0 w' (seg true l 0 [.slice p ([] : List Run3).length c, .int .i64 (tot ([] : List Run3) + n)] :: _) := hs'.pull 1
   refine ledShut (p := p') (c := c') ?_
   have st := sl.store (i := 0) (by simp) (.slice p' (([] : List Run3).length + 1) c') (q := 0) (by simp)
   refine st.to ?_
   simp [tot_append, tot, enc3]
 ·obtain ⟨r0, r1, r2⟩ := r
  have hlast := hne (r0, r1, r2) (by rw [hrs]; simp)
  have hcase : (¬ r0 = k) ∨ (k = r0 ∧ ¬ r1 = s) := by
   by_cases h : r0 = k
   ·exact .inr ⟨h.symm, by simpa [h] using hlast⟩
   ·exact .inl h
  clear hlast
  have hlen : rs.length = rs0.length + 1 := by rw [hrs]; simp
  rcases hro with ⟨-, -, h0, -, -⟩ | ⟨g, rest, rfl, hcap, hmx, hcl, hg⟩
  ·omega
  obtain ⟨y0, y1, y2⟩ := row3 hg (k := rs0.length) (y := (r0, r1, r2)) (by rw [hrs]; simp)
  have hgl : g ≠ l := (hg.pull 0 : Sat W0 w (seg true g 0 _ :: seg true l 0 _ :: _)).ne' (by rw [hcl]; omega) (by simp)
  have hgl' := hgl.symm
  have zg := hg.lt (by rw [hcl]; omega)
  have Hrs := Lib.hid hrs; clear hrs
  have e1 : (rs.length : Int) - 1 = (rs0.length : Int) := by omega
  have e2 : IntKind.i64.wrap (rs0.length : Int) = (rs0.length : Int) := by rw [IntKind.wrap_i64]; omega
  have d1 : decide (0 < rs.length) = true := by simp; omega
  have hlt : rs0.length < rs.length := by omega
  clear hlen
  rcases hcase with hk | ⟨rfl, hk⟩
  all_goals
   go_enter Tryz.func48, Tryz.ntmps48
   go_wp2_with fail
   go_quiet (fail)
   go_wp2
   go_region_law (refine step_append (by rfl) (.tmp 58) (.tmp 62) 47 (by rfl) Tryz.underlying47 hi3 hz3 hs3 hb3 rfl (by decide) (p := (some ⟨g, 0, none⟩)) (cp := c) (xs := rs.flatMap enc3) (n := rs.length) (L := seg true l 0 [.slice (some ⟨g, 0, none⟩) rs.length c, .int .i64 (tot rs + n)] :: L) (by exact ((((s1.store (i := 1) (by simp) (.int .i64 (tot rs + n)) (q := 1) (by simp)).alloc #[.int .u8 k, .int .i64 s] 70).tail.drewN _).drew.alloc' _).pull 1) (by rfl) (some _) 1 1 (by rfl) (enc3 (k, s, n)) rfl (by exact ((((s1.store (i := 1) (by simp) (.int .i64 (tot rs + n)) (q := 1) (by simp)).alloc #[.int .u8 k, .int .i64 s] 70).tail.drewN _).drew.allocAt #[.int .u8 k, .int .i64 s, .int .i64 n] 72 (by simp)).news) (fun h => by cases h) (by simp [enc3, Value.oneCell']) (by unfold maxLen; omega) (by omega) ?_; intro p' c' w' hs' _ _; have sl : Sat W0 w' (seg true l 0 [.slice (some ⟨g, 0, none⟩) rs.length c, .int .i64 (tot rs + n)] :: _) := hs'.pull 1; have k0 := sl.at 0 rfl; have k1 := sl.fr 0 (by simp))
   all_goals
    refine bodyPost_end (by simp [results, Tryz.results48, go_sem]) rfl ⟨rfl, ?_⟩
    have sl : Sat W0 w' (seg true l 0 [.slice (some ⟨g, 0, none⟩) rs.length c, .int .i64 (tot rs + n)] :: _) := hs'.pull 1
    refine ledShut (p := p') (c := c') ?_
    have st := sl.store (i := 0) (by simp) (.slice p' (rs.length + 1) c') (q := 0) (by simp)
    refine st.to ?_
    simp [tot_append, tot, enc3]
theorem set_last3 (rs : List Run3) (k s : Int) (c c' : Nat) (rest : List Value) : (((rs ++ [(k, s, c)]).flatMap enc3) ++ rest).set (rs.length * 3 + 2) (.int .i64 (c' : Int)) = (rs ++ [(k, s, c')]).flatMap enc3 ++ rest := by
 rw [List.flatMap_append, List.flatMap_append, List.append_assoc, List.append_assoc, List.set_append_right _ _ (by rw [fm_len len3]; omega), fm_len len3, Nat.add_sub_cancel_left]
 simp [enc3]
theorem noteTimes_same {W0 w : World} {L : List Assn} {l : Nat} (rs : List Run3) (k s : Int) (c n : Nat) (hs : Sat W0 w (led l (rs ++ [(k, s, c)]) :: L)) (hn : 1 ≤ n) (hb : tot (rs ++ [(k, s, c)]) + n ≤ 4611686018427387904) (hl : rs.length ≤ 4294967296) :
  Calls Tryz.prog 48 #[.pointer (some ⟨l, 0, none⟩), .agg #[.int .u8 k, .int .i64 s], .int .i64 (n : Int)] w fun e w' => e = .returned (.tuple #[]) ∧ Sat W0 w' (led l (rs ++ [(k, s, c + n)]) :: L) := by
 obtain ⟨p, cp, s1⟩ := ledOpen hs
 have hlen : (rs ++ [(k, s, c)]).length = rs.length + 1 := by simp
 have htc : c ≤ tot (rs ++ [(k, s, c)]) := by rw [tot_append]; simp [tot]
 have ht2 : tot (rs ++ [(k, s, c)]) + n = tot (rs ++ [(k, s, c + n)]) := by simp [tot_append, tot]; omega
 rw [hlen] at s1
 have hr : Sat W0 w (row p cp 3 (rs.length + 1) ((rs ++ [(k, s, c)]).flatMap enc3) :: seg true l 0 [.slice p (rs.length + 1) cp, .int .i64 (tot (rs ++ [(k, s, c)]) : Int)] :: L) := s1.pull 1
 obtain ⟨hrl, hro⟩ := hr.rowOpen
 rcases hro with ⟨-, -, h0, -, -⟩ | ⟨g, rest, rfl, hcap, hmx, hcl, hg⟩
 ·omega
 have c0 := s1.at 0 rfl
 have c1 := s1.at 1 rfl
 have f0 := s1.fr 0 (by simp)
 have f1 := s1.fr 1 (by simp)
 have z1 := s1.lt (by simp)
 have hcc : rs.length * 3 + 2 < ((rs ++ [(k, s, c)]).flatMap enc3 ++ rest).length := by rw [hcl]; omega
 obtain ⟨y0, y1, y2⟩ := row3 hg (k := rs.length) (y := (k, s, c)) (by simp)
 have y3 := hg.fr (rs.length * 3 + 2) hcc
 have hgl : g ≠ l := (hg.pull 0 : Sat W0 w (seg true g 0 _ :: seg true l 0 _ :: _)).ne' (by rw [hcl]; omega) (by simp)
 have hgl' := hgl.symm
 have zg := hg.lt (by rw [hcl]; omega)
 have e1 : ((rs.length : Int) + 1) - 1 = (rs.length : Int) := by omega
 have e2 : IntKind.i64.wrap (rs.length : Int) = (rs.length : Int) := by rw [IntKind.wrap_i64]; omega
 generalize hT : tot (rs ++ [(k, s, c)]) = T at *
 have HT := Lib.hid hT; have Ht2 := Lib.hid ht2; clear hT ht2 hlen
 have d1 : decide (0 < rs.length + 1) = true := by simp
 go_enter Tryz.func48, Tryz.ntmps48
 go_wp2_with fail
 go_quiet (fail)
 go_wp2
 refine bodyPost_ret (v := .tuple #[]) (by simp [results, Tryz.results48, go_sem]) rfl ⟨rfl, ?_⟩
 have t1 : Sat W0 w (seg true l 0 [.slice (some ⟨g, 0, none⟩) (rs.length + 1) cp, .int .i64 (T : Int)] :: seg true g 0 ((rs ++ [(k, s, c)]).flatMap enc3 ++ rest) :: L) := hg.pull 1
 have t3 : Sat W0 _ (seg true g 0 ((rs ++ [(k, s, c)]).flatMap enc3 ++ rest) :: _) := ((((t1.store (i := 1) (by simp) (.int .i64 ((T : Int) + n)) (q := 1) (by simp)).alloc #[.int .u8 k, .int .i64 s] 70).tail.drewN nq).pull 1)
 have t4 := t3.store (i := rs.length * 3 + 2) hcc (.int .i64 ((c + n : Nat) : Int)) (q := rs.length * 3 + 2) (by simp)
 rw [set_last3] at t4
 refine ledShut (p := some ⟨g, 0, none⟩) (c := cp) ?_
 have t5 := (t4.rowMade (sz := 3) (n := rs.length + 1) (by rw [fm_len len3]; simp) (by rw [← hcl]; simp [fm_len len3, len3]) hcap hmx).pull 1
 refine t5.to ?_
 simp [← Ht2.out]
theorem noteTimes {W0 w : World} {L : List Assn} (p : Option Nat) (rs : List Run3) (k s : Int) (n : Nat) (hs : Sat W0 w (ledO p rs :: L)) (hn : 1 ≤ n) (hb : tot rs + n ≤ 4611686018427387904) (hl : rs.length ≤ 4294967296) :
  Calls Tryz.prog 48 #[ptrO p, .agg #[.int .u8 k, .int .i64 s], .int .i64 (n : Int)] w fun e w' => e = .returned (.tuple #[]) ∧ Sat W0 w' (ledO p (note rs k s n) :: L) := by
 cases p with
 | none =>
  refine (noteTimes_nil w k s n).mono ?_
  rintro e w' ⟨rfl, rfl⟩
  exact ⟨rfl, (hs.alloc _ _).tail⟩
 | some l =>
  rcases List.eq_nil_or_concat rs with rfl | ⟨rs0, ⟨r0, r1, r2⟩, hcc⟩
  ·exact noteTimes_new [] k s n hs hn hb hl (by simp)
  ·rw [List.concat_eq_append] at hcc
   subst hcc
   by_cases h : r0 = k ∧ r1 = s
   ·obtain ⟨rfl, rfl⟩ := h
    have e : note (rs0 ++ [(r0, r1, r2)]) r0 r1 n = rs0 ++ [(r0, r1, r2 + n)] := by simp [note]
    rw [e]
    exact noteTimes_same rs0 r0 r1 r2 n hs hn hb (by simp at hl; omega)
   ·have e : note (rs0 ++ [(r0, r1, r2)]) k s n = (rs0 ++ [(r0, r1, r2)]) ++ [(k, s, n)] := by simp [note, h]
    rw [e]
    refine noteTimes_new (rs0 ++ [(r0, r1, r2)]) k s n hs hn hb hl ?_
    intro r hr
    simp at hr
    subst hr
    simpa using h
theorem noteOne {W0 w : World} {L : List Assn} (p : Option Nat) (rs : List Run3) (k s : Int) (hs : Sat W0 w (ledO p rs :: L)) (hb : tot rs + 1 ≤ 4611686018427387904) (hl : rs.length ≤ 4294967296) :
  Calls Tryz.prog 38 #[ptrO p, .agg #[.int .u8 k, .int .i64 s]] w fun e w' => e = .returned (.tuple #[]) ∧ Sat W0 w' (ledO p (note rs k s 1) :: L) := by
 have hc := noteTimes p rs k s 1 ((hs.alloc #[.int .u8 k, .int .i64 s] 70).tail) (by omega) hb hl
 clear hb
 go_enter Tryz.func38, Tryz.ntmps38
 go_wp2_with fail
 refine hc.mono ?_
 rintro e w1 ⟨rfl, s1⟩
 go_wp2
 go_end0
 exact ⟨rfl, s1⟩
theorem ledNew {W0 w : World} {L : List Assn} (hs : Sat W0 w L) : Calls Tryz.prog 8 #[] w fun e w' => ∃ l, e = .returned (.pointer (some ⟨l, 0, none⟩)) ∧ Sat W0 w' (led l [] :: L) := by
 go_enter Tryz.func8, Tryz.ntmps8
 go_wp2
 go_ret
 exact ⟨_, rfl, ledShut (p := none) (c := 0) (((hs.rowNil 3).alloc _ _).to (by simp [tot]))⟩
theorem ledLen {W0 w : World} {L : List Assn} {l : Nat} {rs : List Run3} (hs : Sat W0 w (led l rs :: L)) : Calls Tryz.prog 36 #[.pointer (some ⟨l, 0, none⟩)] w fun e w' => e = .returned (.int .i64 (tot rs : Int)) ∧ w = w' := by
 obtain ⟨p, c, s1⟩ := ledOpen hs
 have c1 := s1.at 1 rfl
 go_enter Tryz.func36, Tryz.ntmps36
 go_wp2
 go_ret
 exact ⟨rfl, rfl⟩
end Go.Proofs.YtbefjaodpbgpcaaGreat

/- The contracts of package word, and of the turnings of layers 5 and 6, of the program and of the document; each under the conditions that it names. -/
namespace Go.Proofs.YtbefjaodpbgpcaaGreat
open Go.RowKit Go.Sep Go.Bv
theorem ret_int {k : IntKind} {a b : Int} (h : a = b) : Ending.returned (.int k a) = .returned (.int k b) := by rw [h]
theorem Tryz.info_u8 : (Tryz.prog.info? 5).map (fun i => (i.zero, i.size, i.bytes)) = some (some (.int .u8 0), 1, 1) := by kernel_rfl
theorem within_yes (w : World) (a : Option Addr) (len cap : Nat) (at_ n : Nat) (hn : 0 < n) (h1 : at_ < len) (h2 : len ≤ 9223372036854775807) (h3 : n ≤ 8) : Calls Tryz.prog 215 #[.slice a len cap, .int .i64 (at_ : Int), .int .i64 (n : Int)] w fun e w' => e = .returned (.bool true) ∧ w = w' := by
 have h4 : (-(n : Int)) < (at_ : Int) := by omega
 go_enter Tryz.func215, Tryz.ntmps215
 go_wp2
 go_ret
 exact ⟨by simp [h1], rfl⟩
theorem width32 (w : World) : Calls Tryz.prog 157 #[] w fun e w' => e = .returned (.int .i64 32) ∧ w = w' := by
 go_enter Tryz.func157, Tryz.ntmps157
 go_wp2
 go_ret
 exact ⟨rfl, rfl⟩
theorem turn32 (w : World) (x : BitVec 32) (k : Nat) (hk : k < 32) : Calls Tryz.prog 216 #[.int .u32 (v32 x), .int .i64 (k : Int)] w fun e w' => e = .returned (.int .u32 (v32 (rotl x k))) ∧ ∃ n, w' = w.drewN n := by
 go_enter Tryz.func216, Tryz.ntmps216
 go_wp2_with (go_at_call 157; refine (width32 _).mono ?_; rintro e w' ⟨rfl, rfl⟩)
 go_quiet (fail)
 go_wp2
 go_ret
 refine ⟨ret_int ?_, _, rfl⟩
 show bits .or .u32 (v32 x * 2 ^ (k % 32) % 4294967296) (v32 x / 2 ^ (32 - k % 32)) = _
 rw [Nat.mod_eq_of_lt hk, vshl32, vshr32, vor32]
 rfl
theorem take32 {W0 w : World} {L : List Assn} {m : Bool} {b o len cap : Nat} {bs : List Byte} (at_ : Nat) (hs : Sat W0 w (seg m b o (u8s bs) :: L)) (hl : bs.length = len) (h : at_ + 4 ≤ len) (hm : len ≤ 9223372036854775807) :
  Calls Tryz.prog 208 #[.slice (some ⟨b, o, none⟩) len cap, .int .i64 (at_ : Int)] w fun e w' => e = .returned (.int .u32 (v32 (takeBE 32 ((bs.drop at_).take 4)))) ∧ w = w' := by
 have hl' := Lib.hid hl; clear hl
 go_enter Tryz.func208, Tryz.ntmps208
 go_wp2_with (first | (go_at_call 157; refine (width32 _).mono ?_; rintro e w' ⟨rfl, rfl⟩) | (go_at_call 215; refine (within_yes _ _ _ _ at_ 4 (by omega) (by omega) hm (by omega)).mono ?_; rintro e w' ⟨rfl, rfl⟩))
 go_loop [5, 17] (fun t5 t17 => ∃ i : Nat, i ≤ 4 ∧ t17 = .int .i64 i ∧ t5 = .int .u32 (v32 (takeBE 32 ((bs.drop at_).take i)))) (fun _ t17 => 4 - (intOf t17).toNat)
 case atStart => exact ⟨0, by omega, rfl, rfl⟩
 case round =>
  obtain ⟨i, hi, rfl, rfl⟩ := hrel
  by_cases hlt : i < 4
  ·have hat : at_ + i < bs.length := by have := hl'.out; omega
   have c := hs.cell (u8s_get bs (at_ + i) hat)
   have e : (bs.drop at_).take (i + 1) = (bs.drop at_).take i ++ [bs.getD (at_ + i) 0] := by
    rw [List.take_succ_eq_append_getElem (by simp; omega)]
    simp [hat]
   have e2 := takeBE_snoc 32 ((bs.drop at_).take i) (bs.getD (at_ + i) 0)
   rw [← e] at e2
   have E := Lib.hid e2; clear e e2
   go_wp2
   go_round
   case rel =>
    refine ⟨i + 1, by omega, by go_num, ?_⟩
    rw [E.out, ← vor32, ← vwide32w, ← vshl32_8w]
    simp [hat, IntKind.wrap_u32]
   case measure => simp [intOf]; omega
  ·obtain rfl : i = 4 := by omega
   go_wp2
   go_ret
   exact ⟨rfl, rfl⟩
theorem madeLay32 (x : BitVec 32) (i : Nat) (h : i < 4) : ((u8s ((List.range 4).map fun j => if j < i then (x >>> (8 * (4 - 1 - j))).setWidth 8 else 0)).set i (.int .u8 (v8 ((x >>> (8 * (4 - 1 - i))).setWidth 8)))) = u8s ((List.range 4).map fun j => if j < i + 1 then (x >>> (8 * (4 - 1 - j))).setWidth 8 else 0) := by
 rw [u8s_set]
 congr 1
 apply List.ext_getElem
 ·simp
 ·intro j h1 h2
  simp only [List.getElem_set, List.getElem_map, List.getElem_range]
  by_cases e : i = j
  ·subst e; simp
  ·rw [if_neg e]
   by_cases h : j < i
   ·rw [if_pos h, if_pos (by omega)]
   ·rw [if_neg h, if_neg (by omega)]
theorem lay32 {W0 w : World} {L : List Assn} (x : BitVec 32) (hs : Sat W0 w L) :
  Calls Tryz.prog 120 #[.int .u32 (v32 x)] w fun e w' => ∃ g, e = .returned (.slice (some ⟨g, 0, none⟩) 4 4) ∧ Sat W0 w' (seg true g 0 (u8s (layBE 4 x)) :: L) := by
 obtain ⟨i3, hi3, hz3, hs3, hb3⟩ := info_parts Tryz.info_u8
 have hm1 := fun w => run_make (P := Tryz.prog) w 25 5 i3 _ Tryz.underlying25 hi3 hz3 .i64 .i64 4 4 (by omega) (by omega) (by rw [hb3]; omega) (by omega)
 rw [hs3] at hm1
 clear hi3 hz3 hs3 hb3
 have hs0 := hs.make (.int .u8 0) 4 5
 rw [u8s_zero] at hs0
 go_enter Tryz.func120, Tryz.ntmps120
 go_wp2_with (go_at_call 157; refine (width32 _).mono ?_; rintro e w' ⟨rfl, rfl⟩)
 go_loopw [12] (fun t12 wr => ∃ i : Nat, i ≤ 4 ∧ t12 = .int .i64 i ∧ Sat W0 wr (seg true w.heap.size 0 (u8s ((List.range 4).map fun j => if j < i then (x >>> (8 * (4 - 1 - j))).setWidth 8 else 0)) :: L)) (fun t12 _ => 4 - (intOf t12).toNat)
 case atStart => exact ⟨0, by omega, rfl, hs0⟩
 case round =>
  obtain ⟨i, hi, rfl, hr⟩ := hrel
  by_cases hlt : i < 4
  ·have c := hr.at i (u8s_get _ i (by simp; omega))
   have f := hr.fr i (by simp [u8s_len]; omega)
   have b1 : (8 : Int) * (4 - 1 - (i : Int)) = ((8 * (4 - 1 - i) : Nat) : Int) := by omega
   go_wp2
   go_roundw
   case rel =>
    refine ⟨i + 1, by omega, by go_num, ?_⟩
    have hst := hr.store (i := i) (by simp [u8s_len]; omega) (.int .u8 (v8 ((x >>> (8 * (4 - 1 - i))).setWidth 8))) (q := i) (by simp)
    rw [madeLay32 x i hlt] at hst
    rw [← vlow32, ← vshr32] at hst
    exact hst
   case measure => simp [intOf]; omega
  ·obtain rfl : i = 4 := by omega
   go_wp2
   go_ret
   exact ⟨_, rfl, hr⟩
theorem width64 (w : World) : Calls Tryz.prog 210 #[] w fun e w' => e = .returned (.int .i64 64) ∧ w = w' := by
 go_enter Tryz.func210, Tryz.ntmps210
 go_wp2
 go_ret
 exact ⟨rfl, rfl⟩
theorem turn64 (w : World) (x : BitVec 64) (k : Nat) (hk : k < 64) : Calls Tryz.prog 214 #[.int .u64 (v64 x), .int .i64 (k : Int)] w fun e w' => e = .returned (.int .u64 (v64 (rotl x k))) ∧ ∃ n, w' = w.drewN n := by
 go_enter Tryz.func214, Tryz.ntmps214
 go_wp2_with (go_at_call 210; refine (width64 _).mono ?_; rintro e w' ⟨rfl, rfl⟩)
 go_quiet (fail)
 go_wp2
 go_ret
 refine ⟨ret_int ?_, _, rfl⟩
 show bits .or .u64 (v64 x * 2 ^ (k % 64) % 18446744073709551616) (v64 x / 2 ^ (64 - k % 64)) = _
 rw [Nat.mod_eq_of_lt hk, vshl64, vshr64, vor64]
 rfl
theorem tmod_neg_small (k : Nat) (h : k < 64) : (-(k : Int)).tmod 64 = -(k : Int) := by
 rw [Int.neg_tmod, Int.tmod_eq_emod_of_nonneg (by omega), Int.emod_eq_of_lt (by omega) (by omega)]
theorem turn64n (w : World) (x : BitVec 64) (k : Nat) (h1 : 1 ≤ k) (h2 : k ≤ 63) : Calls Tryz.prog 214 #[.int .u64 (v64 x), .int .i64 (-(k : Int))] w fun e w' => e = .returned (.int .u64 (v64 (rotr x k))) ∧ ∃ n, w' = w.drewN n := by
 have e1 := tmod_neg_small k (by omega)
 have e2 : -(k : Int) + 64 = ((64 - k : Nat) : Int) := by omega
 have e3 : (-(k : Int)) < 0 := by omega
 go_enter Tryz.func214, Tryz.ntmps214
 go_wp2_with (go_at_call 210; refine (width64 _).mono ?_; rintro e w' ⟨rfl, rfl⟩)
 go_quiet (fail)
 go_wp2
 go_ret
 refine ⟨ret_int ?_, _, rfl⟩
 rw [← rotl_rotr x k (by omega), rotl, ← vor64, ← vshr64, ← vshl64w]
theorem take64 {W0 w : World} {L : List Assn} {m : Bool} {b o len cap : Nat} {bs : List Byte} (at_ : Nat) (hs : Sat W0 w (seg m b o (u8s bs) :: L)) (hl : bs.length = len) (h : at_ + 8 ≤ len) (hm : len ≤ 9223372036854775807) :
  Calls Tryz.prog 211 #[.slice (some ⟨b, o, none⟩) len cap, .int .i64 (at_ : Int)] w fun e w' => e = .returned (.int .u64 (v64 (takeBE 64 ((bs.drop at_).take 8)))) ∧ w = w' := by
 have hl' := Lib.hid hl; clear hl
 go_enter Tryz.func211, Tryz.ntmps211
 go_wp2_with (first | (go_at_call 210; refine (width64 _).mono ?_; rintro e w' ⟨rfl, rfl⟩) | (go_at_call 215; refine (within_yes _ _ _ _ at_ 8 (by omega) (by omega) hm (by omega)).mono ?_; rintro e w' ⟨rfl, rfl⟩))
 go_loop [5, 17] (fun t5 t17 => ∃ i : Nat, i ≤ 8 ∧ t17 = .int .i64 i ∧ t5 = .int .u64 (v64 (takeBE 64 ((bs.drop at_).take i)))) (fun _ t17 => 8 - (intOf t17).toNat)
 case atStart => exact ⟨0, by omega, rfl, rfl⟩
 case round =>
  obtain ⟨i, hi, rfl, rfl⟩ := hrel
  by_cases hlt : i < 8
  ·have hat : at_ + i < bs.length := by have := hl'.out; omega
   have c := hs.cell (u8s_get bs (at_ + i) hat)
   have e : (bs.drop at_).take (i + 1) = (bs.drop at_).take i ++ [bs.getD (at_ + i) 0] := by
    rw [List.take_succ_eq_append_getElem (by simp; omega)]
    simp [hat]
   have e2 := takeBE_snoc 64 ((bs.drop at_).take i) (bs.getD (at_ + i) 0)
   rw [← e] at e2
   have E := Lib.hid e2; clear e e2
   go_wp2
   go_round
   case rel =>
    refine ⟨i + 1, by omega, by go_num, ?_⟩
    rw [E.out, ← vor64, ← vwide64w, ← vshl64_8w]
    simp [hat, IntKind.wrap_u64]
   case measure => simp [intOf]; omega
  ·obtain rfl : i = 8 := by omega
   go_wp2
   go_ret
   exact ⟨rfl, rfl⟩
theorem madeLay64 (x : BitVec 64) (i : Nat) (h : i < 8) : ((u8s ((List.range 8).map fun j => if j < i then (x >>> (8 * (8 - 1 - j))).setWidth 8 else 0)).set i (.int .u8 (v8 ((x >>> (8 * (8 - 1 - i))).setWidth 8)))) = u8s ((List.range 8).map fun j => if j < i + 1 then (x >>> (8 * (8 - 1 - j))).setWidth 8 else 0) := by
 rw [u8s_set]
 congr 1
 apply List.ext_getElem
 ·simp
 ·intro j h1 h2
  simp only [List.getElem_set, List.getElem_map, List.getElem_range]
  by_cases e : i = j
  ·subst e; simp
  ·rw [if_neg e]
   by_cases h : j < i
   ·rw [if_pos h, if_pos (by omega)]
   ·rw [if_neg h, if_neg (by omega)]
theorem lay64 {W0 w : World} {L : List Assn} (x : BitVec 64) (hs : Sat W0 w L) :
  Calls Tryz.prog 198 #[.int .u64 (v64 x)] w fun e w' => ∃ g, e = .returned (.slice (some ⟨g, 0, none⟩) 8 8) ∧ Sat W0 w' (seg true g 0 (u8s (layBE 8 x)) :: L) := by
 obtain ⟨i3, hi3, hz3, hs3, hb3⟩ := info_parts Tryz.info_u8
 have hm1 := fun w => run_make (P := Tryz.prog) w 25 5 i3 _ Tryz.underlying25 hi3 hz3 .i64 .i64 8 8 (by omega) (by omega) (by rw [hb3]; omega) (by omega)
 rw [hs3] at hm1
 clear hi3 hz3 hs3 hb3
 have hs0 := hs.make (.int .u8 0) 8 5
 rw [u8s_zero] at hs0
 go_enter Tryz.func198, Tryz.ntmps198
 go_wp2_with (go_at_call 210; refine (width64 _).mono ?_; rintro e w' ⟨rfl, rfl⟩)
 go_loopw [12] (fun t12 wr => ∃ i : Nat, i ≤ 8 ∧ t12 = .int .i64 i ∧ Sat W0 wr (seg true w.heap.size 0 (u8s ((List.range 8).map fun j => if j < i then (x >>> (8 * (8 - 1 - j))).setWidth 8 else 0)) :: L)) (fun t12 _ => 8 - (intOf t12).toNat)
 case atStart => exact ⟨0, by omega, rfl, hs0⟩
 case round =>
  obtain ⟨i, hi, rfl, hr⟩ := hrel
  by_cases hlt : i < 8
  ·have c := hr.at i (u8s_get _ i (by simp; omega))
   have f := hr.fr i (by simp [u8s_len]; omega)
   have b1 : (8 : Int) * (8 - 1 - (i : Int)) = ((8 * (8 - 1 - i) : Nat) : Int) := by omega
   go_wp2
   go_roundw
   case rel =>
    refine ⟨i + 1, by omega, by go_num, ?_⟩
    have hst := hr.store (i := i) (by simp [u8s_len]; omega) (.int .u8 (v8 ((x >>> (8 * (8 - 1 - i))).setWidth 8))) (q := i) (by simp)
    rw [madeLay64 x i hlt] at hst
    rw [← vlow64, ← vshr64] at hst
    exact hst
   case measure => simp [intOf]; omega
  ·obtain rfl : i = 8 := by omega
   go_wp2
   go_ret
   exact ⟨_, rfl, hr⟩
theorem right32 (w : World) (x : BitVec 32) (k : Nat) (h1 : 1 ≤ k) (h2 : k ≤ 31) : Calls Tryz.prog 209 #[.int .u32 (v32 x), .int .i64 (k : Int)] w fun e w' => e = .returned (.int .u32 (v32 (rotr x k))) ∧ ∃ n, w' = w.drewN n := by
 have b1 : (32 : Int) - (k : Int) = ((32 - k : Nat) : Int) := by omega
 have hc := turn32 w x (32 - k) (by omega)
 rw [rotl_rotr x k (by omega), ← b1] at hc
 clear b1
 go_enter Tryz.func209, Tryz.ntmps209
 go_wp2_with fail
 refine hc.mono ?_
 rintro e w' ⟨rfl, n, rfl⟩
 go_wp2
 go_ret
 exact ⟨rfl, n, rfl⟩
theorem right64 (w : World) (x : BitVec 64) (k : Nat) (h1 : 1 ≤ k) (h2 : k ≤ 63) : Calls Tryz.prog 212 #[.int .u64 (v64 x), .int .i64 (k : Int)] w fun e w' => e = .returned (.int .u64 (v64 (rotr x k))) ∧ ∃ n, w' = w.drewN n := by
 have hc := turn64n w x k h1 h2
 go_enter Tryz.func212, Tryz.ntmps212
 go_wp2_with fail
 refine hc.mono ?_
 rintro e w' ⟨rfl, n, rfl⟩
 go_wp2
 go_ret
 exact ⟨rfl, n, rfl⟩
end Go.Proofs.YtbefjaodpbgpcaaGreat

/- SHA-256 and SHA-512 as plain functions on bit vectors: the schedule, the rounds, a block, and laws of lists that the walks want. No condition but what each names. -/
namespace Go.Sha
open Go.Bv
structure Turns where
 s0 : Nat × Nat × Nat
 s1 : Nat × Nat × Nat
 b0 : Nat × Nat × Nat
 b1 : Nat × Nat × Nat
def T256 : Turns := ⟨(7, 18, 3), (17, 19, 10), (2, 13, 22), (6, 11, 25)⟩
def T512 : Turns := ⟨(1, 8, 7), (19, 61, 6), (28, 34, 39), (14, 18, 41)⟩
section
variable {w : Nat}
def sml (r : Nat × Nat × Nat) (x : BitVec w) : BitVec w := rotr x r.1 ^^^ rotr x r.2.1 ^^^ x >>> r.2.2
def big (r : Nat × Nat × Nat) (x : BitVec w) : BitVec w := rotr x r.1 ^^^ rotr x r.2.1 ^^^ rotr x r.2.2
def ext (T : Turns) (ws : List (BitVec w)) : List (BitVec w) :=
 ws ++ [sml T.s1 (ws.getD (ws.length - 2) 0) + ws.getD (ws.length - 7) 0 + sml T.s0 (ws.getD (ws.length - 15) 0) + ws.getD (ws.length - 16) 0]
def sched (T : Turns) (ws : List (BitVec w)) : Nat → List (BitVec w)
 | 0 => ws
 | n + 1 => ext T (sched T ws n)
theorem sched_len (T : Turns) (ws : List (BitVec w)) (n : Nat) : (sched T ws n).length = ws.length + n := by
 induction n with
 | zero => rfl
 | succ n ih => simp [sched, ext, ih]; omega
abbrev Eight (w : Nat) := BitVec w × BitVec w × BitVec w × BitVec w × BitVec w × BitVec w × BitVec w × BitVec w
def p1 (T : Turns) (k x e f g h : BitVec w) : BitVec w := h + big T.b1 e + ((e &&& f) ^^^ (~~~e &&& g)) + k + x
def q1 (T : Turns) (a b c : BitVec w) : BitVec w := big T.b0 a + (((a &&& b) ^^^ (a &&& c)) ^^^ (b &&& c))
def rnd (T : Turns) (k x : BitVec w) : Eight w → Eight w
 | (a, b, c, d, e, f, g, h) => (p1 T k x e f g h + q1 T a b c, a, b, c, d + p1 T k x e f g h, e, f, g)
def rounds (T : Turns) (K W : List (BitVec w)) (s : Eight w) : Nat → Eight w
 | 0 => s
 | n + 1 => rnd T (K.getD n 0) (W.getD n 0) (rounds T K W s n)
def eightOf (h : List (BitVec w)) : Eight w := (h.getD 0 0, h.getD 1 0, h.getD 2 0, h.getD 3 0, h.getD 4 0, h.getD 5 0, h.getD 6 0, h.getD 7 0)
def listOf : Eight w → List (BitVec w)
 | (a, b, c, d, e, f, g, h) => [a, b, c, d, e, f, g, h]
def wordsOf (w n : Nat) (blk : List Byte) : List (BitVec w) := (List.range 16).map fun t => takeBE w ((blk.drop (n * t)).take n)
theorem wordsOf_len (n : Nat) (blk : List Byte) : (wordsOf w n blk).length = 16 := by simp [wordsOf]
def comp (T : Turns) (K : List (BitVec w)) (n m : Nat) (h : List (BitVec w)) (blk : List Byte) : List (BitVec w) :=
 List.zipWith (· + ·) h (listOf (rounds T K (sched T (wordsOf w n blk) m) (eightOf h) (16 + m)))
theorem listOf_len (s : Eight w) : (listOf s).length = 8 := rfl
theorem comp_len (T : Turns) (K : List (BitVec w)) (n m : Nat) (h : List (BitVec w)) (blk : List Byte) (hh : h.length = 8) : (comp T K n m h blk).length = 8 := by
 simp [comp, hh, listOf_len]
end
def K256 : List (BitVec 32) := [1116352408#32, 1899447441, 3049323471, 3921009573, 961987163, 1508970993, 2453635748, 2870763221, 3624381080, 310598401, 607225278, 1426881987, 1925078388, 2162078206, 2614888103, 3248222580, 3835390401, 4022224774, 264347078, 604807628, 770255983, 1249150122, 1555081692, 1996064986, 2554220882, 2821834349, 2952996808, 3210313671, 3336571891, 3584528711, 113926993, 338241895, 666307205, 773529912, 1294757372, 1396182291, 1695183700, 1986661051, 2177026350, 2456956037, 2730485921, 2820302411, 3259730800, 3345764771, 3516065817, 3600352804, 4094571909, 275423344, 430227734, 506948616, 659060556, 883997877, 958139571, 1322822218, 1537002063, 1747873779, 1955562222, 2024104815, 2227730452, 2361852424, 2428436474, 2756734187, 3204031479, 3329325298]
def K512 : List (BitVec 64) := [4794697086780616226#64, 8158064640168781261, 13096744586834688815, 16840607885511220156, 4131703408338449720, 6480981068601479193, 10538285296894168987, 12329834152419229976, 15566598209576043074, 1334009975649890238, 2608012711638119052, 6128411473006802146, 8268148722764581231, 9286055187155687089, 11230858885718282805, 13951009754708518548, 16472876342353939154, 17275323862435702243, 1135362057144423861, 2597628984639134821, 3308224258029322869, 5365058923640841347, 6679025012923562964, 8573033837759648693, 10970295158949994411, 12119686244451234320, 12683024718118986047, 13788192230050041572, 14330467153632333762, 15395433587784984357, 489312712824947311, 1452737877330783856, 2861767655752347644, 3322285676063803686, 5560940570517711597, 5996557281743188959, 7280758554555802590, 8532644243296465576, 9350256976987008742, 10552545826968843579, 11727347734174303076, 12113106623233404929, 14000437183269869457, 14369950271660146224, 15101387698204529176, 15463397548674623760, 17586052441742319658, 1182934255886127544, 1847814050463011016, 2177327727835720531, 2830643537854262169, 3796741975233480872, 4115178125766777443, 5681478168544905931, 6601373596472566643, 7507060721942968483, 8399075790359081724, 8693463985226723168, 9568029438360202098, 10144078919501101548, 10430055236837252648, 11840083180663258601, 13761210420658862357, 14299343276471374635, 14566680578165727644, 15097957966210449927, 16922976911328602910, 17689382322260857208, 500013540394364858, 748580250866718886, 1242879168328830382, 1977374033974150939, 2944078676154940804, 3659926193048069267, 4368137639120453308, 4836135668995329356, 5532061633213252278, 6448918945643986474, 6902733635092675308, 7801388544844847127]
def H256 : List (BitVec 32) := [1779033703#32, 3144134277, 1013904242, 2773480762, 1359893119, 2600822924, 528734635, 1541459225]
def H512 : List (BitVec 64) := [7640891576956012808#64, 13503953896175478587, 4354685564936845355, 11912009170470909681, 5840696475078001361, 11170449401992604703, 2270897969802886507, 6620516959819538809]
theorem K256_len : K256.length = 64 := rfl
def comp256 (h : List (BitVec 32)) (blk : List Byte) : List (BitVec 32) := comp T256 K256 4 48 h blk
def comp512 (h : List (BitVec 64)) (blk : List Byte) : List (BitVec 64) := comp T512 K512 8 64 h blk
def blk {w : Nat} (f : List (BitVec w) → List Byte → List (BitVec w)) (B : Nat) (h : List (BitVec w)) (p : List Byte) : Nat → List (BitVec w)
 | 0 => h
 | n + 1 => f (blk f B h p n) ((p.drop (B * n)).take B)
def blocks256 (h : List (BitVec 32)) (p : List Byte) (n : Nat) : List (BitVec 32) := blk comp256 64 h p n
def blocks512 (h : List (BitVec 64)) (p : List Byte) (n : Nat) : List (BitVec 64) := blk comp512 128 h p n
def restOf (n : Nat) (msg : List Byte) : List Byte := msg.drop (n * (msg.length / n))
def waitOf (n : Nat) (msg : List Byte) : List Byte := restOf n msg ++ List.replicate (n - msg.length % n) 0
theorem restOf_len (n : Nat) (msg : List Byte) : (restOf n msg).length = msg.length % n := by
 unfold restOf
 rw [List.length_drop]
 have := Nat.div_add_mod msg.length n
 omega
theorem waitOf_len (n : Nat) (msg : List Byte) (h : 0 < n) : (waitOf n msg).length = n := by
 unfold waitOf
 rw [List.length_append, restOf_len, List.length_replicate]
 have := Nat.mod_lt msg.length h
 omega
theorem blk_len {w : Nat} {f : List (BitVec w) → List Byte → List (BitVec w)} (hf : ∀ h b, h.length = 8 → (f h b).length = 8) (B : Nat) (h : List (BitVec w)) (p : List Byte) (n : Nat) (hh : h.length = 8) : (blk f B h p n).length = 8 := by
 induction n with
 | zero => exact hh
 | succ n ih => exact hf _ _ ih
theorem blk_take {w : Nat} (f : List (BitVec w) → List Byte → List (BitVec w)) (B : Nat) (h : List (BitVec w)) (p q : List Byte) (n : Nat) (hn : B * n ≤ p.length) : blk f B h (p ++ q) n = blk f B h p n := by
 induction n with
 | zero => rfl
 | succ n ih =>
  rw [Nat.mul_succ] at hn
  rw [blk, blk, ih (by omega), List.drop_append_of_le_length (by omega), List.take_append_of_le_length (by simp; omega)]
theorem div_same (n B k : Nat) (hB : 0 < B) (h : n % B + k < B) : (n + k) / B = n / B := by
 have h1 := Nat.div_add_mod n B
 rw [show n + k = n % B + k + B * (n / B) by omega, Nat.add_mul_div_left _ _ hB, Nat.div_eq_of_lt h]; omega
theorem div_next (n B k : Nat) (hB : 0 < B) (h : n % B + k = B) : (n + k) / B = n / B + 1 ∧ (n + k) % B = 0 := by
 have h1 := Nat.div_add_mod n B
 have h2 : n + k = B * (n / B + 1) := by rw [Nat.mul_succ]; omega
 rw [h2]
 exact ⟨Nat.mul_div_cancel_left _ hB, Nat.mul_mod_right _ _⟩
theorem mod_same (n B k : Nat) (h : n % B + k < B) : (n + k) % B = n % B + k := by
 rw [Nat.add_mod, Nat.mod_eq_of_lt (a := k) (by omega), Nat.mod_eq_of_lt h]
theorem rest_part (B : Nat) (M x : List Byte) (hB : 0 < B) (h : M.length % B + x.length < B) : restOf B (M ++ x) = restOf B M ++ x := by
 unfold restOf
 rw [List.length_append, div_same _ _ _ hB h, List.drop_append_of_le_length (Nat.mul_div_le _ _)]
theorem wait_part (B : Nat) (M x : List Byte) (hB : 0 < B) (h : M.length % B + x.length < B) : waitOf B (M ++ x) = restOf B M ++ x ++ List.replicate (B - M.length % B - x.length) 0 := by
 unfold waitOf
 rw [rest_part B M x hB h, List.length_append, mod_same _ _ _ h, Nat.sub_sub]
theorem wait_full (B : Nat) (M x : List Byte) (hB : 0 < B) (h : M.length % B + x.length = B) : waitOf B (M ++ x) = List.replicate B 0 := by
 unfold waitOf restOf
 obtain ⟨h1, h2⟩ := div_next M.length B x.length hB h
 have h3 := Nat.div_add_mod (M ++ x).length B
 rw [List.length_append, h2] at h3
 rw [List.length_append, h2, List.drop_eq_nil_of_le (by rw [List.length_append]; omega)]
 simp
theorem blk_full {w : Nat} (f : List (BitVec w) → List Byte → List (BitVec w)) (B : Nat) (h : List (BitVec w)) (M x : List Byte) (hB : 0 < B) (hl : M.length % B + x.length = B) :
  blk f B h (M ++ x) ((M ++ x).length / B) = f (blk f B h M (M.length / B)) (restOf B M ++ x) := by
 obtain ⟨h1, h2⟩ := div_next M.length B x.length hB hl
 rw [List.length_append, h1, blk, blk_take f B h M x _ (Nat.mul_div_le _ _), List.drop_append_of_le_length (Nat.mul_div_le _ _)]
 rw [List.take_of_length_le]
 ·rfl
 ·show (restOf B M ++ x).length ≤ B
  rw [List.length_append, restOf_len]; omega
theorem blk_part {w : Nat} (f : List (BitVec w) → List Byte → List (BitVec w)) (B : Nat) (h : List (BitVec w)) (M x : List Byte) (hB : 0 < B) (hl : M.length % B + x.length < B) :
  blk f B h (M ++ x) ((M ++ x).length / B) = blk f B h M (M.length / B) := by
 rw [List.length_append, div_same _ _ _ hB hl, blk_take f B h M x _ (Nat.mul_div_le _ _)]
def pad256 (p : List Byte) : List Byte := p ++ 128 :: List.replicate ((119 - p.length % 64) % 64) 0 ++ layBE 8 (BitVec.ofNat 64 (8 * p.length))
def laid {w : Nat} (n : Nat) (h : List (BitVec w)) : List Byte := h.flatMap fun x => layBE n x
def sha256 (p : List Byte) : List Byte := laid 4 (blocks256 H256 (pad256 p) ((pad256 p).length / 64))
def abc : List Byte := [97, 98, 99]
example : (sha256 abc).take 4 = [0xba, 0x78, 0x16, 0xbf] := by decide +kernel
end Go.Sha
