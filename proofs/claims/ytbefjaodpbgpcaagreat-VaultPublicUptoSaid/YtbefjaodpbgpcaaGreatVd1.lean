
import Derived.Test.YtbefjaodpbgpcaaGreatVs2
import Derived.Test.YtbefjaodpbgpcaaGreatVs4
import Derived.Test.YtbefjaodpbgpcaaGreatVs6
import Derived.Test.YtbefjaodpbgpcaaGreatHK
set_option linter.unusedVariables false
set_option linter.unusedSimpArgs false
set_option maxRecDepth 100000
set_option maxHeartbeats 16000000
namespace Go.Proofs.YtbefjaodpbgpcaaGreat
open Go.RowKit Go.Sep Go.Bv Go.Kec Go.Aes Go.Sha
def coreV (S : Sts SesD) (o : OpC) (rs : List Run3) : Sts SesD × Ans × List Run3 :=
 match o.kind with
 | 1 => ((vPut S o).1, (vPut S o).2, rs)
 | 2 => vBegin S o rs
 | 3 => vUpdate S o rs
 | 4 => vFinish S o rs
 | 5 => vVerify S o rs
 | 6 => vClone S o rs
 | 7 => vHkdf S o rs
 | 8 => vPbkdf S o rs
 | 9 => ((vReveal S o).1, (vReveal S o).2, rs)
 | 10 => vDrop S o rs
 | _ => (S, noA 3, rs)
def doV : Doer SesD := fun S o rs => atLast (coreV S o (note rs 11 (o.kind : Int) 1))
def okTh (B : Nat) : Th SesD → Prop
 | .key k => k.length ≤ 512
 | .ses x => x.ok B
theorem okV_iff {B : Nat} {S : Sts SesD} : okV B S ↔ ∀ t, some t ∈ S → okTh B t := by
 constructor
 ·intro h t ht
  have := h t ht
  cases t <;> exact this
 ·intro h t ht
  have := h t ht
  cases t <;> exact this
theorem okTh_mono {B C : Nat} (hBC : B ≤ C) : ∀ {t : Th SesD}, okTh B t → okTh C t
 | .key k, h => h
 | .ses x, h => ⟨h.1, h.2.1, Nat.le_trans h.2.2 hBC⟩
theorem okV_mono {B C : Nat} (hBC : B ≤ C) {S : Sts SesD} (h : okV B S) : okV C S := okV_iff.2 fun t ht => okTh_mono hBC (okV_iff.1 h t ht)
theorem okV_set {B : Nat} {S : Sts SesD} (h : okV B S) {k : Nat} {x : Option (Th SesD)} (hx : ∀ t, x = some t → okTh B t) : okV B (S.set k x) := okV_iff.2 fun t ht => by
 rcases List.mem_or_eq_of_mem_set ht with h1 | h1
 ·exact okV_iff.1 h t h1
 ·exact hx t h1.symm
theorem tAt_mem {S : Sts SesD} {h : Int} {t : Th SesD} (e : tAt S h = some t) : some t ∈ S := by
 unfold tAt at e
 split at e
 ·cases e
 ·rw [List.getD_eq_getElem?_getD] at e
  rcases hx : S[h.toNat]? with _ | y
  ·rw [hx] at e; cases e
  ·rw [hx] at e
   have : y = some t := e
   rw [← this]
   exact List.mem_of_getElem? hx
theorem okV_take {B : Nat} {S : Sts SesD} (h : okV B S) {x : Th SesD} (hx : okTh B x) : okV B (vTake S x).1 := by
 unfold vTake
 split
 ·exact okV_set h fun t ht => by cases ht; exact hx
 ·exact h
theorem vTake_len' {σ : Type} (S : Sts σ) (x : Th σ) : (vTake S x).1.length = S.length := by
 unfold vTake
 split <;> simp
theorem coreV_ok {B D : Nat} {S : Sts SesD} {o : OpC} {rs : List Run3} (h : okV B S) (hD : o.data.length ≤ D ∨ 65536 ≤ D) : okV (B + D) (coreV S o rs).1 := by
 have hm := okV_mono (Nat.le_add_right B D) h
 have hnone : ∀ t : Th SesD, (none : Option (Th SesD)) = some t → okTh (B + D) t := fun t ht => by cases ht
 unfold coreV
 split
 ·show okV _ (vPut S o).1
  unfold vPut
  split
  ·exact hm
  ·exact okV_take hm (show o.data.length ≤ 512 by omega)
 ·show okV _ (vBegin S o rs).1
  unfold vBegin
  split
  ·exact hm
  ·exact hm
  ·rename_i k ht
   have hk : k.length ≤ 512 := okV_iff.1 h _ (tAt_mem ht)
   split
   ·rename_i hc
    split
    ·exact hm
    ·obtain ⟨oo, ho, _, hf⟩ := beginFine (kd := o.kind) (hd := o.handle) (ct := o.count) (more := o.more) (ag := o.alg) (out := o.out) (data := o.data) hc hk
     refine okV_take hm (x := .ses ⟨kindA o.alg, o.out.toNat, k, o.data, []⟩) ⟨?_, hk, Nat.zero_le _⟩
     show (kindA o.alg).fits k o.data o.out.toNat
     rw [ho, Int.toNat_natCast]; exact hf
   ·exact hm
 ·show okV _ (vUpdate S o rs).1
  unfold vUpdate
  split
  ·exact hm
  ·exact hm
  ·rename_i x ht
   have hx : x.ok B := okV_iff.1 h _ (tAt_mem ht)
   split
   ·exact hm
   ·refine okV_set hm fun t e => ?_
    cases e
    refine ⟨hx.1, hx.2.1, ?_⟩
    show (x.msg ++ o.data).length ≤ B + D
    have := hx.2.2
    rw [List.length_append]; omega
 ·show okV _ (vFinish S o rs).1
  unfold vFinish
  split
  ·exact hm
  ·exact hm
  ·exact okV_set hm hnone
 ·show okV _ (vVerify S o rs).1
  unfold vVerify
  split
  ·exact hm
  ·exact hm
  ·split
   ·exact okV_set hm hnone
   ·exact hm
 ·show okV _ (vClone S o rs).1
  unfold vClone
  split
  ·exact hm
  ·rename_i x ht
   split
   ·exact hm
   ·exact okV_take hm (okV_iff.1 hm _ (tAt_mem ht))
 ·show okV _ (vHkdf S o rs).1
  unfold vHkdf
  split
  ·exact hm
  ·exact hm
  ·split
   ·exact hm
   ·split
    ·exact hm
    ·rename_i hl
     have hl : lastE S o = 0 := Classical.not_not.1 hl
     refine okV_take hm ?_
     show (List.take o.out.toNat _).length ≤ 512
     unfold lastE at hl
     by_cases hq : o.out < 1 ∨ 512 < o.out
     ·rw [if_pos hq] at hl; cases hl
     ·rw [List.length_take]; omega
 ·show okV _ (vPbkdf S o rs).1
  unfold vPbkdf
  split
  ·exact hm
  ·exact hm
  ·split
   ·exact hm
   ·split
    ·exact hm
    ·rename_i hl
     have hl : lastE S o = 0 := Classical.not_not.1 hl
     refine okV_take hm ?_
     show (List.take o.out.toNat _).length ≤ 512
     unfold lastE at hl
     by_cases hq : o.out < 1 ∨ 512 < o.out
     ·rw [if_pos hq] at hl; cases hl
     ·rw [List.length_take]; omega
 ·show okV _ (vReveal S o).1
  unfold vReveal
  split <;> exact hm
 ·show okV _ (vDrop S o rs).1
  unfold vDrop
  split
  ·exact hm
  ·exact okV_set hm hnone
 ·exact hm
theorem coreV_len (S : Sts SesD) (o : OpC) (rs : List Run3) : (coreV S o rs).1.length = S.length := by
 unfold coreV
 split
 ·show (vPut S o).1.length = _
  unfold vPut; split
  ·rfl
  ·exact vTake_len' _ _
 ·unfold vBegin; split
  ·rfl
  ·rfl
  ·split
   ·split
    ·rfl
    ·exact vTake_len' _ _
   ·rfl
 ·unfold vUpdate; split
  ·rfl
  ·rfl
  ·split
   ·rfl
   ·exact List.length_set
 ·unfold vFinish; split
  ·rfl
  ·rfl
  ·exact List.length_set
 ·unfold vVerify; split
  ·rfl
  ·rfl
  ·split
   ·exact List.length_set
   ·rfl
 ·unfold vClone; split
  ·rfl
  ·split
   ·rfl
   ·exact vTake_len' _ _
 ·unfold vHkdf; split
  ·rfl
  ·rfl
  ·split
   ·rfl
   ·split
    ·rfl
    ·exact vTake_len' _ _
 ·unfold vPbkdf; split
  ·rfl
  ·rfl
  ·split
   ·rfl
   ·split
    ·rfl
    ·exact vTake_len' _ _
 ·show (vReveal S o).1.length = _
  unfold vReveal; split <;> rfl
 ·unfold vDrop; split
  ·rfl
  ·exact List.length_set
 ·rfl
theorem keyN_lin (wide : Bool) (n : Nat) : keyN wide n ≤ n + 5 := by
 unfold keyN
 by_cases h : bsz wide < n
 ·rw [if_pos h]
  unfold padN roomN
  cases wide <;> simp only [bsz] <;> omega
 ·rw [if_neg h]; omega
theorem hkStep_le (wide : Bool) (t n : Nat) (ht : t ≤ 64) : hkStep wide t n ≤ n + 68 := by
 unfold hkStep
 have h1 := endN_le wide (t + n + 1)
 have h2 := Nat.div_le_self (t + n + 1) (bsz wide)
 omega
theorem hkCnt_le (wide : Bool) (n : Nat) : ∀ j, hkCnt wide n j ≤ j * (n + 68)
 | 0 => Nat.zero_le _
 | j + 1 => by
  have h1 := hkCnt_le wide n j
  have h2 := hkStep_le wide (if j = 0 then 0 else hsz wide) n (by split <;> cases wide <;> simp [hsz])
  rw [Nat.succ_mul]
  show hkCnt wide n j + hkStep wide _ n ≤ _
  omega
theorem hkM_le (wide : Bool) (n : Nat) : hkM wide n ≤ n := by
 unfold hkM
 cases wide <;> simp only [hsz] <;> omega
theorem hkKeyN_le (wide : Bool) (sn kn ni n : Nat) (hn : n ≤ 512) (hi : ni ≤ 65536) : hkKeyN wide sn kn ni n ≤ sn + kn + 40000000 := by
 unfold hkKeyN expN
 have h1 := keyN_lin wide sn
 have h2 := Nat.div_le_self kn (bsz wide)
 have h3 := endN_le wide kn
 have h4 := keyN_lin wide (hsz wide)
 have h5 : hsz wide ≤ 64 := by cases wide <;> simp [hsz]
 have h6 := hkCnt_le wide ni (hkM wide n)
 have h7 : hkM wide n * (ni + 68) ≤ 512 * 65604 := Nat.mul_le_mul (Nat.le_trans (hkM_le wide n) hn) (by omega)
 omega
theorem pbMN_le (wide : Bool) (n d c : Nat) (hn : n ≤ 512) (hd : d ≤ 65536) (hc : c ≤ 1048576) : pbM wide n * pbN wide d c ≤ 2000000000 := by
 have h1 := pbM_le wide n
 have h2 : pbN wide d c ≤ 3300000 := by
  unfold pbN
  have h3 := endN_le wide (d + 4)
  have h4 := Nat.div_le_self (d + 4) (bsz wide)
  have h5 := endN_le wide (hsz wide)
  have h6 : (c - 1) * endN wide (hsz wide) ≤ 1048576 * 3 := Nat.mul_le_mul (by omega) h5
  omega
 have h3 : pbM wide n * pbN wide d c ≤ 512 * 3300000 := Nat.mul_le_mul (Nat.le_trans h1 hn) h2
 omega
theorem beg_low (K : MKind) (kl cl : Nat) (rs : List Run3) : tot rs ≤ tot (K.beg kl cl rs) := by
 cases K <;> simp only [MKind.beg, tot_noteN, tot_note, Nat.add_assoc] <;> exact Nat.le_add_right _ _
def Grown (B : Nat) (rs rs' : List Run3) : Prop := rs'.length ≤ rs.length + 3 ∧ tot rs ≤ tot rs' ∧ tot rs' ≤ tot rs + B + 3000000000
theorem grown_same (B : Nat) (rs : List Run3) : Grown B rs rs := ⟨by omega, by omega, by omega⟩
theorem grown_n {B : Nat} {rs rs' : List Run3} {k s : Int} {n : Nat} (e : rs' = noteN rs k s n) (h : n ≤ B + 3000000000) : Grown B rs rs' := by
 subst e
 have := noteN_len rs k s n
 exact ⟨by omega, by rw [tot_noteN]; omega, by rw [tot_noteN]; omega⟩
theorem coreV_grown {B : Nat} {S : Sts SesD} {o : OpC} {rs : List Run3} (h : okV B S) (hB : B + 65536 ≤ 1000000000) : Grown B rs (coreV S o rs).2.2 := by
 unfold coreV
 split
 ·exact grown_same _ _
 ·show Grown B rs (vBegin S o rs).2.2
  unfold vBegin
  split
  ·exact grown_same _ _
  ·exact grown_same _ _
  ·rename_i k ht
   have hk : k.length ≤ 512 := okV_iff.1 h _ (tAt_mem ht)
   split
   ·rename_i hc
    split
    ·exact grown_same _ _
    ·obtain ⟨oo, ho, _, hf⟩ := beginFine (kd := o.kind) (hd := o.handle) (ct := o.count) (more := o.more) (ag := o.alg) (out := o.out) (data := o.data) hc hk
     have hcl : o.data.length ≤ 64 := by
      have h4 := hf.2.2.2
      generalize kindA o.alg = K at h4
      cases K with
      | hm wide => simp only at h4; rw [h4]; decide
      | cm => simp only at h4; rw [h4.1]; decide
      | km a b => simpa using h4
     have h1 := beg_tot (kindA o.alg) k.length o.data.length rs (by omega) hcl
     have h2 := beg_low (kindA o.alg) k.length o.data.length rs
     exact ⟨by show ((kindA o.alg).beg k.length o.data.length rs).length ≤ _; omega, h2, by show tot ((kindA o.alg).beg k.length o.data.length rs) ≤ _; omega⟩
   ·exact grown_same _ _
 ·show Grown B rs (vUpdate S o rs).2.2
  unfold vUpdate
  split
  ·exact grown_same _ _
  ·exact grown_same _ _
  ·rename_i x ht
   have hx : x.ok B := okV_iff.1 h _ (tAt_mem ht)
   split
   ·exact grown_same _ _
   ·refine grown_n rfl ?_
    have h1 := MKind.blk_le x.K (x.msg.length + o.data.length)
    have h2 := hx.2.2
    omega
 ·show Grown B rs (vFinish S o rs).2.2
  unfold vFinish
  split
  ·exact grown_same _ _
  ·exact grown_same _ _
  ·rename_i x ht
   have hx : x.ok B := okV_iff.1 h _ (tAt_mem ht)
   have h1 := MKind.fin_tot x.K x.msg.length x.out
   have h2 := hx.2.2
   have h3 := noteN_len rs x.K.ek (x.K.es x.key.length) (x.K.fin x.msg.length x.out)
   have h4 := note_len (noteN rs x.K.ek (x.K.es x.key.length) (x.K.fin x.msg.length x.out)) 8 1024 1
   refine ⟨by show List.length (note _ 8 1024 1) ≤ _; omega, by show _ ≤ tot (note _ 8 1024 1); rw [tot_note, tot_noteN]; omega, by show tot (note _ 8 1024 1) ≤ _; rw [tot_note, tot_noteN]; omega⟩
 ·show Grown B rs (vVerify S o rs).2.2
  unfold vVerify
  split
  ·exact grown_same _ _
  ·exact grown_same _ _
  ·rename_i x ht
   split
   ·have hx : x.ok B := okV_iff.1 h _ (tAt_mem ht)
    have h1 := MKind.fin_tot x.K x.msg.length x.out
    have h2 := hx.2.2
    have h3 := noteN_len rs x.K.ek (x.K.es x.key.length) (x.K.fin x.msg.length x.out)
    have h4 := note_len (noteN rs x.K.ek (x.K.es x.key.length) (x.K.fin x.msg.length x.out)) 6 (x.out : Int) 1
    have h5 := note_len (note (noteN rs x.K.ek (x.K.es x.key.length) (x.K.fin x.msg.length x.out)) 6 (x.out : Int) 1) 8 1024 1
    refine ⟨by show List.length (note _ 8 1024 1) ≤ _; omega, by show _ ≤ tot (note _ 8 1024 1); rw [tot_note, tot_note, tot_noteN]; omega, by show tot (note _ 8 1024 1) ≤ _; rw [tot_note, tot_note, tot_noteN]; omega⟩
   ·exact grown_same _ _
 ·show Grown B rs (vClone S o rs).2.2
  unfold vClone
  split
  ·exact grown_same _ _
  ·split <;> exact grown_same _ _
 ·show Grown B rs (vHkdf S o rs).2.2
  unfold vHkdf
  split
  ·exact grown_same _ _
  ·exact grown_same _ _
  ·rename_i k ht
   have hk : k.length ≤ 512 := okV_iff.1 h _ (tAt_mem ht)
   split
   ·exact grown_same _ _
   ·rename_i hc
    split
    ·exact grown_same _ _
    ·rename_i hl
     have hl : lastE S o = 0 := Classical.not_not.1 hl
     have hc : hkE o = 0 := Classical.not_not.1 hc
     have ho : o.out.toNat ≤ 512 := by
      unfold lastE at hl
      by_cases hq : o.out < 1 ∨ 512 < o.out
      ·rw [if_pos hq] at hl; cases hl
      ·omega
     have hd : o.data.length ≤ 65536 ∧ o.more.length ≤ 65536 := by
      unfold hkE at hc
      split at hc
      ·cases hc
      ·split at hc
       ·cases hc
       ·omega
     refine grown_n rfl ?_
     have := hkKeyN_le (algB o.alg) o.data.length k.length o.more.length o.out.toNat ho hd.2
     omega
 ·show Grown B rs (vPbkdf S o rs).2.2
  unfold vPbkdf
  split
  ·exact grown_same _ _
  ·exact grown_same _ _
  ·rename_i k ht
   have hk : k.length ≤ 512 := okV_iff.1 h _ (tAt_mem ht)
   split
   ·exact grown_same _ _
   ·rename_i hc
    split
    ·exact grown_same _ _
    ·rename_i hl
     have hl : lastE S o = 0 := Classical.not_not.1 hl
     have hc : pbE o = 0 := Classical.not_not.1 hc
     have ho : o.out.toNat ≤ 512 := by
      unfold lastE at hl
      by_cases hq : o.out < 1 ∨ 512 < o.out
      ·rw [if_pos hq] at hl; cases hl
      ·omega
     have hd : o.data.length ≤ 65536 ∧ o.count.toNat ≤ 1048576 := by
      unfold pbE at hc
      split at hc
      ·cases hc
      ·split at hc
       ·cases hc
       ·split at hc
        ·cases hc
        ·omega
     refine grown_n rfl ?_
     have h1 := keyN_lin (algB o.alg) k.length
     have h2 := pbMN_le (algB o.alg) o.out.toNat o.data.length o.count.toNat ho hd.1 hd.2
     omega
 ·exact grown_same _ _
 ·show Grown B rs (vDrop S o rs).2.2
  unfold vDrop
  split
  ·exact grown_same _ _
  ·have h4 := note_len rs 8 1024 1
   exact ⟨by show List.length (note _ 8 1024 1) ≤ _; omega, by show _ ≤ tot (note _ 8 1024 1); rw [tot_note]; omega, by show tot (note _ 8 1024 1) ≤ _; rw [tot_note]; omega⟩
 ·exact grown_same _ _
end Go.Proofs.YtbefjaodpbgpcaaGreat
