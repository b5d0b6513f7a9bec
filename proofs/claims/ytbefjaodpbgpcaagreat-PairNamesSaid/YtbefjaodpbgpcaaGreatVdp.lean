
/- A vault in which keys are put and sessions begun; under the conditions that each names. -/
import Derived.Test.YtbefjaodpbgpcaaGreatVs3
import Derived.Test.YtbefjaodpbgpcaaGreatVdo
import Derived.Test.YtbefjaodpbgpcaaGreatPr1
namespace Go.Proofs.YtbefjaodpbgpcaaGreat
open Go.RowKit Go.Sep Go.Bv Go.Kec Go.Aes Go.Sha
set_option linter.unusedVariables false
set_option linter.unusedSimpArgs false
def doP : Doer SesD := fun S o rs =>
 if o.kind = 1 then atLast ((vPut S o).1, (vPut S o).2, note rs 11 1 1) else atLast (vBegin S o (note rs 11 2 1))
def okThP : Th SesD → Prop
 | .key k => k.length ≤ 512
 | .ses x => x.ok 0
theorem okP_iff {S : Sts SesD} : okV 0 S ↔ ∀ t, some t ∈ S → okThP t := by
 constructor
 ·intro h t ht
  have := h t ht
  cases t <;> exact this
 ·intro h t ht
  have := h t ht
  cases t <;> exact this
theorem okP_take {S : Sts SesD} (h : okV 0 S) {x : Th SesD} (hx : okThP x) : okV 0 (vTake S x).1 := by
 unfold vTake
 split
 ·refine okP_iff.2 fun t ht => ?_
  rcases List.mem_or_eq_of_mem_set ht with h1 | h1
  ·exact okP_iff.1 h t h1
  ·cases h1; exact hx
 ·exact h
theorem lenP_take (S : Sts SesD) (x : Th SesD) : (vTake S x).1.length = S.length := by
 unfold vTake
 split <;> simp
theorem putP (S : Sts SesD) (o : OpC) (h : okV 0 S) : okV 0 (vPut S o).1 ∧ (vPut S o).1.length = S.length := by
 unfold vPut
 split
 ·exact ⟨h, rfl⟩
 ·exact ⟨okP_take h (show o.data.length ≤ 512 by omega), lenP_take _ _⟩
theorem tAtP {S : Sts SesD} {h : Int} {t : Th SesD} (e : tAt S h = some t) : some t ∈ S := by
 unfold tAt at e
 split at e
 ·cases e
 ·rw [List.getD_eq_getElem?_getD] at e
  rcases hx : S[h.toNat]? with _ | y
  ·rw [hx] at e; cases e
  ·rw [hx] at e
   have : y = some t := e
   rw [← this]
   exact List.mem_of_getElem? hx
theorem beginP' (S : Sts SesD) (o : OpC) (rs : List Run3) (h : okV 0 S) : okV 0 (vBegin S o rs).1 ∧ (vBegin S o rs).1.length = S.length ∧ tot rs ≤ tot (vBegin S o rs).2.2 ∧ tot (vBegin S o rs).2.2 ≤ tot rs + 200000000 ∧ (vBegin S o rs).2.2.length ≤ rs.length + 2 := by
 unfold vBegin
 split
 ·exact ⟨h, rfl, Nat.le_refl _, Nat.le_add_right _ _, Nat.le_add_right _ _⟩
 ·exact ⟨h, rfl, Nat.le_refl _, Nat.le_add_right _ _, Nat.le_add_right _ _⟩
 ·rename_i k ht
  have hk : k.length ≤ 512 := okP_iff.1 h _ (tAtP ht)
  split
  ·rename_i hc
   split
   ·exact ⟨h, rfl, Nat.le_refl _, Nat.le_add_right _ _, Nat.le_add_right _ _⟩
   ·obtain ⟨oo, ho, _, hf⟩ := beginFine (kd := o.kind) (hd := o.handle) (ct := o.count) (more := o.more) (ag := o.alg) (out := o.out) (data := o.data) hc hk
    have hf2 : (kindA o.alg).fits k o.data o.out.toNat := by rw [ho, Int.toNat_natCast]; exact hf
    have hcl : o.data.length ≤ 64 := by
     have h4 := hf.2.2.2
     generalize kindA o.alg = K at h4
     cases K with
     | hm wide => simp only at h4; rw [h4]; decide
     | cm => simp only at h4; rw [h4.1]; decide
     | km a b => simpa using h4
    have h1 := beg_tot (kindA o.alg) k.length o.data.length rs (by omega) hcl
    refine ⟨okP_take h (x := .ses ⟨kindA o.alg, o.out.toNat, k, o.data, []⟩) ⟨hf2, hk, Nat.zero_le _⟩, lenP_take _ _, ?_, h1.1, h1.2⟩
    show tot rs ≤ tot ((kindA o.alg).beg k.length o.data.length rs)
    generalize kindA o.alg = K
    cases K <;> simp only [MKind.beg, tot_noteN, tot_note, Nat.add_assoc] <;> exact Nat.le_add_right _ _
  ·exact ⟨h, rfl, Nat.le_refl _, Nat.le_add_right _ _, Nat.le_add_right _ _⟩
def invP (i : Nat) (S : Sts SesD) (rs : List Run3) : Prop := S.length = 64 ∧ okV 0 S ∧ tot rs ≤ 200000002 * i ∧ rs.length ≤ 4 * i
def goodP (o : OpC) : Prop := o.kind = 1 ∨ o.kind = 2
theorem doesP : Does sesI doP invP goodP 15000 where
 start := ⟨by simp, okP_iff.2 (fun t ht => by rw [List.mem_replicate] at ht; cases ht.2), Nat.le_refl _, Nat.le_refl _⟩
 room := fun {i S rs} h hi => ⟨by have := h.2.2.1; omega, by have := h.2.2.2; omega⟩
 next := fun {i S rs o} h hi hg => by
  obtain ⟨h1, h2, h3, h4⟩ := h
  unfold doP
  by_cases hk : o.kind = 1
  ·rw [if_pos hk]
   obtain ⟨p1, p2⟩ := putP S o h2
   have hl1 := note_len rs 11 1 1
   have hl := note_len (note rs 11 1 1) 12 (vPut S o).2.code 1
   refine ⟨⟨by show (vPut S o).1.length = 64; rw [p2]; exact h1, p1, ?_, ?_⟩, ?_⟩
   ·show tot (note (note rs 11 1 1) 12 _ 1) ≤ _; rw [tot_note, tot_note]; omega
   ·exact Nat.le_trans hl (by omega)
   ·show tot rs < tot (note (note rs 11 1 1) 12 _ 1); rw [tot_note, tot_note]; omega
  ·rw [if_neg hk]
   obtain ⟨p1, p2, p3, p4, p5⟩ := beginP' S o (note rs 11 2 1) h2
   have hl1 := note_len rs 11 2 1
   have hl := note_len (vBegin S o (note rs 11 2 1)).2.2 12 (vBegin S o (note rs 11 2 1)).2.1.code 1
   rw [tot_note] at p3 p4
   refine ⟨⟨by show (vBegin S o (note rs 11 2 1)).1.length = 64; rw [p2]; exact h1, p1, ?_, ?_⟩, ?_⟩
   ·show tot (note (vBegin S o (note rs 11 2 1)).2.2 12 _ 1) ≤ _; rw [tot_note]; omega
   ·exact Nat.le_trans hl (by omega)
   ·show tot rs < tot (note (vBegin S o (note rs 11 2 1)).2.2 12 _ 1); rw [tot_note]; omega
 call := fun {W0 w L v l md mm i S rs x} h hi hg hf hs => by
  obtain ⟨h1, h2, h3, h4⟩ := h
  obtain ⟨kd, hd, ag, ct, ot, dp, dn, dc, ep, en, ec, data, more⟩ := x
  obtain ⟨-, ⟨hdn, hdc, hdm⟩, -⟩ := hf
  simp only at hdn hdc hdm
  rcases hg with hk | hk
  ·have hk : kd = 1 := hk
   subst hk
   have hl1 := note_len rs 11 1 1
   exact vDo_fn (ix := 0) (fid := 49) S ((vPut S ⟨1, hd, ag, ct, ot, data, more⟩).1, (vPut S ⟨1, hd, ag, ct, ot, data, more⟩).2, note rs 11 1 1) 1 hd ag ct ot data more (by decide) (fun x y w => by kernel_rfl) (fun v => by rfl) ⟨by omega, by omega⟩ ⟨by show tot (note rs 11 1 1) + 1 ≤ _; rw [tot_note]; omega, by show (note rs 11 1 1).length ≤ _; omega⟩
    (fun w X s => vPutW S 1 hd ag ct ot data more hdn s) hs
  ·have hk : kd = 2 := hk
   subst hk
   have hl1 := note_len rs 11 2 1
   obtain ⟨p1, p2, p3, p4, p5⟩ := beginP' S ⟨2, hd, ag, ct, ot, data, more⟩ (note rs 11 2 1) h2
   have ht : tot (note rs 11 2 1) = tot rs + 1 := tot_note _ _ _ _
   exact vDo_fn (ix := 1) (fid := 50) S (vBegin S ⟨2, hd, ag, ct, ot, data, more⟩ (note rs 11 2 1)) 2 hd ag ct ot data more (by decide) (fun x y w => by kernel_rfl) (fun v => by rfl) ⟨by omega, by omega⟩ ⟨by omega, by omega⟩
    (fun w X s => vBeginW (B := 0) S 2 hd ag ct ot data more h2 (by decide) ⟨by omega, by omega⟩ hdn hdc hdm s) hs
end Go.Proofs.YtbefjaodpbgpcaaGreat
