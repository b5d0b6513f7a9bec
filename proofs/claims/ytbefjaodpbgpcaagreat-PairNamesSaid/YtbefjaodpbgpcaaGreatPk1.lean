
/- A vault that holds keys alone: keys are put and told; under the conditions that each names. -/
import Derived.Test.YtbefjaodpbgpcaaGreatPr1
namespace Go.Proofs.YtbefjaodpbgpcaaGreat
open Go.RowKit Go.Sep Go.Bv
set_option linter.unusedVariables false
set_option linter.unusedSimpArgs false
/-- No session is held. -/
def noSes : SesI Empty := ⟨fun x => x.elim, fun x => x.elim⟩
def doK : Doer Empty := fun S o rs =>
 if o.kind = 1 then atLast ((vPut S o).1, (vPut S o).2, note rs 11 1 1) else atLast ((vReveal S o).1, (vReveal S o).2, note rs 11 9 1)
def invK (i : Nat) (S : Sts Empty) (rs : List Run3) : Prop := S.length = 64 ∧ tot rs = 2 * i ∧ rs.length ≤ 2 * i
def goodK (o : OpC) : Prop := o.kind = 1 ∨ o.kind = 9
theorem vTake_len {σ : Type} (S : Sts σ) (x : Th σ) : (vTake S x).1.length = S.length := by
 unfold vTake
 split <;> simp
theorem vPut_len {σ : Type} (S : Sts σ) (o : OpC) : (vPut S o).1.length = S.length := by
 unfold vPut
 split
 ·rfl
 ·exact vTake_len _ _
theorem vReveal_same {σ : Type} (S : Sts σ) (o : OpC) : (vReveal S o).1 = S := by
 unfold vReveal
 split <;> rfl
theorem doesK : Does noSes doK invK goodK 100000 where
 start := ⟨by simp, rfl, Nat.le_refl _⟩
 room := fun {i S rs} h hi => ⟨by rw [h.2.1]; omega, by have := h.2.2; omega⟩
 next := fun {i S rs o} h hi hg => by
  obtain ⟨h1, h2, h3⟩ := h
  have hl1 := note_len rs 11 1 1
  have hl9 := note_len rs 11 9 1
  unfold doK
  by_cases hk : o.kind = 1
  ·rw [if_pos hk]
   have hl := note_len (note rs 11 1 1) 12 (vPut S o).2.code 1
   refine ⟨⟨by show (vPut S o).1.length = 64; rw [vPut_len]; exact h1, ?_, ?_⟩, ?_⟩
   ·show tot (note (note rs 11 1 1) 12 _ 1) = _; rw [tot_note, tot_note]; omega
   ·exact Nat.le_trans hl (by omega)
   ·show tot rs < tot (note (note rs 11 1 1) 12 _ 1); rw [tot_note, tot_note]; omega
  ·rw [if_neg hk]
   have hl := note_len (note rs 11 9 1) 12 (vReveal S o).2.code 1
   refine ⟨⟨by show (vReveal S o).1.length = 64; rw [vReveal_same]; exact h1, ?_, ?_⟩, ?_⟩
   ·show tot (note (note rs 11 9 1) 12 _ 1) = _; rw [tot_note, tot_note]; omega
   ·exact Nat.le_trans hl (by omega)
   ·show tot rs < tot (note (note rs 11 9 1) 12 _ 1); rw [tot_note, tot_note]; omega
 call := fun {W0 w L v l md mm i S rs x} h hi hg hf hs => by
  obtain ⟨h1, h2, h3⟩ := h
  have hl1 := note_len rs 11 1 1
  have hl9 := note_len rs 11 9 1
  obtain ⟨kd, hd, ag, ct, ot, dp, dn, dc, ep, en, ec, data, more⟩ := x
  obtain ⟨-, ⟨hdn, -⟩, -⟩ := hf
  simp only at hdn
  rcases hg with hk | hk
  ·have hk : kd = 1 := hk
   subst hk
   have e0 : doK S (OpM.c ⟨1, hd, ag, ct, ot, dp, dn, dc, ep, en, ec, data, more⟩) rs = atLast ((vPut S ⟨1, hd, ag, ct, ot, data, more⟩).1, (vPut S ⟨1, hd, ag, ct, ot, data, more⟩).2, note rs 11 1 1) := rfl
   rw [e0]
   exact vDo_fn (ix := 0) (fid := 49) S ((vPut S ⟨1, hd, ag, ct, ot, data, more⟩).1, (vPut S ⟨1, hd, ag, ct, ot, data, more⟩).2, note rs 11 1 1) 1 hd ag ct ot data more (by decide) (fun x y w => by kernel_rfl) (fun v => by rfl) ⟨by omega, by omega⟩ ⟨by show tot (note rs 11 1 1) + 1 ≤ _; rw [tot_note]; omega, by show (note rs 11 1 1).length ≤ _; omega⟩
    (fun w X s => vPutW S 1 hd ag ct ot data more hdn s) hs
  ·have hk : kd = 9 := hk
   subst hk
   have e0 : doK S (OpM.c ⟨9, hd, ag, ct, ot, dp, dn, dc, ep, en, ec, data, more⟩) rs = atLast ((vReveal S ⟨9, hd, ag, ct, ot, data, more⟩).1, (vReveal S ⟨9, hd, ag, ct, ot, data, more⟩).2, note rs 11 9 1) := rfl
   rw [e0]
   exact vDo_fn (ix := 8) (fid := 57) S ((vReveal S ⟨9, hd, ag, ct, ot, data, more⟩).1, (vReveal S ⟨9, hd, ag, ct, ot, data, more⟩).2, note rs 11 9 1) 9 hd ag ct ot data more (by decide) (fun x y w => by kernel_rfl) (fun v => by rfl) ⟨by omega, by omega⟩ ⟨by show tot (note rs 11 9 1) + 1 ≤ _; rw [tot_note]; omega, by show (note rs 11 9 1).length ≤ _; omega⟩
    (fun w X s => vRevealW S 9 hd ag ct ot data more s) hs
/-- The operations of the statement: told is what stands under a handle. -/
theorem sinceR_two (rs : List Run3) (a b : Run3) (ha : 0 < a.2.2) : sinceR (rs ++ [a, b]) (tot rs) = [a, b] := by
 have h := sinceR_cut (rs ++ [a, b]) (tot rs) rs.length a [b] (by simp) (by simp) (by simp; omega)
 rw [h, List.take_left, Nat.sub_self, Nat.sub_zero]
theorem note_new (rs : List Run3) (k s : Int) (h : ∀ r, rs.getLast? = some r → ¬ (r.1 = k ∧ r.2.1 = s)) : note rs k s 1 = rs ++ [(k, s, 1)] := by
 unfold note
 split
 ·rename_i r hr
  rw [if_neg (h r hr)]
 ·rename_i hr
  have : rs = [] := by simpa using hr
  rw [this]; rfl
/-- What is seen of keys asked for in an empty vault. -/
theorem seen_empty (l : List OpC) (hl : ∀ o ∈ l, o.kind = 9) (rs : List Run3) (hr : ∀ r, rs.getLast? = some r → r.1 = 12) :
  seenL doK l (List.replicate 64 none) rs = List.replicate l.length (5, [(11, 9, 1), (12, 5, 1)]) := by
 induction l generalizing rs with
 | nil => rfl
 | cons o l ih =>
  have hk : o.kind = 9 := hl o (by simp)
  have ht : tAt (List.replicate 64 none : Sts Empty) o.handle = none := by
   unfold tAt
   split
   ·rfl
   ·rename_i h
    rw [List.getD_eq_getElem?_getD, List.getElem?_replicate]
    split <;> rfl
  have hv : vReveal (List.replicate 64 none : Sts Empty) o = (List.replicate 64 none, noA 5) := by unfold vReveal; rw [ht]
  have hD : doK (List.replicate 64 none) o rs = (List.replicate 64 none, noA 5, rs ++ [(11, 9, 1), (12, 5, 1)]) := by
   unfold doK
   rw [if_neg (by omega), hv]
   show (_, _, note (note rs 11 9 1) 12 5 1) = _
   rw [note_new rs 11 9 (fun r h1 h2 => by have := hr r h1; omega), note_new _ 12 5 (fun r h1 h2 => by
    rw [List.getLast?_append] at h1
    simp at h1
    rw [← h1] at h2
    exact absurd h2.1 (by decide)), List.append_assoc]
   rfl
  show ((doK _ o rs).2.1.code, sinceR (doK _ o rs).2.2 (tot rs)) :: seenL doK l (doK _ o rs).1 (doK _ o rs).2.2 = _
  rw [hD, sinceR_two rs _ _ (by decide), ih (fun o ho => hl o (by simp [ho])) _ (fun r h1 => by
   rw [List.getLast?_append] at h1
   simp at h1
   rw [← h1])]
  rfl
end Go.Proofs.YtbefjaodpbgpcaaGreat
