
import Derived.Test.YtbefjaodpbgpcaaGreatVd3
import Derived.Test.YtbefjaodpbgpcaaGreatSk4
set_option linter.unusedVariables false
set_option linter.unusedSimpArgs false
set_option maxRecDepth 100000
set_option maxHeartbeats 16000000
namespace Go.Proofs.YtbefjaodpbgpcaaGreat
open Go.RowKit Go.Sep Go.Bv Go.Kec Go.Aes Go.Sha
theorem pubCore_none {P : Shs} {o : OpS} {rs : List Run3} (hk : o.kind = 0 ∨ 10 < o.kind) : pubCore P o rs = (P, noP 3, rs) := by
 obtain ⟨kd, hd, ag, ct, ot, dn, en⟩ := o
 simp only at hk
 rcases hk with rfl | hk
 ·rfl
 ·obtain ⟨n, rfl⟩ : ∃ n, kd = n + 11 := ⟨kd - 11, by omega⟩
  rfl
theorem pub_plain (P : Shs) (o : OpS) (rs : List Run3) : pubV P (plainS o) rs = pubV P o rs := by
 obtain ⟨kd, hd, ag, ct, ot, dn, en⟩ := o
 by_cases h : kd = 0 ∨ 10 < kd
 ·have hk : (plainS ⟨kd, hd, ag, ct, ot, dn, en⟩).kind = kd := (plain_dn ⟨kd, hd, ag, ct, ot, dn, en⟩).2.2.1
  unfold pubV
  rw [pubCore_none (by rw [hk]; exact h), pubCore_none (o := ⟨kd, hd, ag, ct, ot, dn, en⟩) h, hk]
 ·rcases kd_cases h with rfl | rfl | rfl | rfl | rfl | rfl | rfl | rfl | rfl | rfl <;> rfl
theorem blk_step (K : MKind) (a b : Nat) : K.blk (a + b) ≤ K.blk a + b + 1 := by
 cases K with
 | hm wide => cases wide <;> simp only [MKind.blk, bsz] <;> omega
 | cm => simp only [MKind.blk]; omega
 | km large xof => cases large <;> simp only [MKind.blk, krt] <;> simp <;> omega
theorem fin_few (K : MKind) (n out : Nat) : K.fin n out ≤ 12 := by
 cases K with
 | hm wide => have := endN_le wide n; show endN wide n ≤ 12; omega
 | cm => show 1 ≤ 12; decide
 | km large xof =>
  have h := rightB_le (kmBits xof out)
  show ((n + (rightB (kmBits xof out)).length) / krt large - n / krt large) + 1 ≤ 12
  generalize (rightB (kmBits xof out)).length = r at h
  cases large <;> simp only [krt] <;> simp <;> omega
theorem keyN_512 (wide : Bool) (n : Nat) (hn : n ≤ 512) : keyN wide n ≤ 12 := by
 unfold keyN
 by_cases h : bsz wide < n
 ·rw [if_pos h]
  unfold padN roomN
  cases wide <;> simp only [bsz] <;> omega
 ·rw [if_neg h]; omega
theorem beg_few (K : MKind) (kl cl : Nat) (rs : List Run3) (hk : kl ≤ 512) (hc : cl ≤ 64) : tot (K.beg kl cl rs) ≤ tot rs + 40 := by
 cases K with
 | hm wide =>
  have := keyN_512 wide kl hk
  simp only [MKind.beg]
  rw [tot_noteN]; omega
 | cm =>
  simp only [MKind.beg]
  rw [tot_note, tot_note]; omega
 | km large xof =>
  simp only [MKind.beg]
  rw [tot_noteN]
  have h := (kmPre_len (krt large) (krt_pos large) (List.replicate kl 0) (List.replicate cl 0)).2
  rw [List.length_replicate, List.length_replicate] at h
  generalize (kmPre (krt large) (List.replicate kl 0) (List.replicate cl 0)).length = r at h
  cases large <;> simp only [krt] at h ⊢ <;> simp at h ⊢ <;> omega
theorem bound_low (s : OpS) : 96 + clamp s.dn + clamp s.out ≤ boundN s := by
 unfold boundN
 have h : 32 ≤ (clamp s.en + 512) * (clamp s.out / 32 + 1) / 16 := by
  rw [Nat.le_div_iff_mul_le (by decide)]
  have := Nat.mul_le_mul (show 512 ≤ clamp s.en + 512 by omega) (show 1 ≤ clamp s.out / 32 + 1 by omega)
  omega
 omega
theorem clampN {n : Nat} (h : n ≤ 16777216) : clamp (n : Int) = n := by unfold clamp; omega
theorem hkM_q (wide : Bool) (n : Nat) : hkM wide n ≤ n / 32 + 1 := by
 unfold hkM
 cases wide <;> simp only [hsz] <;> omega
theorem hkCnt_q (wide : Bool) (n : Nat) : ∀ j, hkCnt wide n j ≤ j * ((n + 65) / 64 + 3)
 | 0 => Nat.zero_le _
 | j + 1 => by
  have h1 := hkCnt_q wide n j
  have h2 : hkStep wide (if j = 0 then 0 else hsz wide) n ≤ (n + 65) / 64 + 3 := by
   unfold hkStep
   have h3 := endN_le wide ((if j = 0 then 0 else hsz wide) + n + 1)
   have h4 : ((if j = 0 then 0 else hsz wide) + n + 1) / bsz wide ≤ (n + 65) / 64 := by
    by_cases hj : j = 0
    ·rw [if_pos hj]; cases wide <;> simp only [bsz] <;> omega
    ·rw [if_neg hj]; cases wide <;> simp only [bsz, hsz] <;> omega
   omega
  rw [Nat.succ_mul]
  show hkCnt wide n j + hkStep wide _ n ≤ _
  omega
theorem hk_bound (wide : Bool) (dn kl en out : Nat) (hk : kl ≤ 512) (hd : dn ≤ 65536) (he : en ≤ 65536) (ho : out ≤ 512) : hkKeyN wide dn kl en out + 2 ≤ 64 + dn + out + (en + 512) * (out / 32 + 1) / 16 := by
 have h1 := keyN_lin wide dn
 have h2 : kl / bsz wide ≤ 8 := by cases wide <;> simp only [bsz] <;> omega
 have h3 := endN_le wide kl
 have h4 : keyN wide (hsz wide) = 2 := by cases wide <;> rfl
 have h5 := hkCnt_q wide en (hkM wide out)
 have h6 := hkM_q wide out
 have h7 : hkM wide out * ((en + 65) / 64 + 3) ≤ (out / 32 + 1) * ((en + 65) / 64 + 3) := Nat.mul_le_mul_right _ h6
 have h8 : (out / 32 + 1) * ((en + 65) / 64 + 3) ≤ (en + 512) * (out / 32 + 1) / 16 := by
  rw [Nat.le_div_iff_mul_le (by decide), Nat.mul_comm (en + 512), Nat.mul_assoc]
  exact Nat.mul_le_mul_left _ (by omega)
 unfold hkKeyN expN
 omega
theorem endN_hsz (wide : Bool) : endN wide (hsz wide) = 2 := by cases wide <;> rfl
theorem pb_bound (wide : Bool) (dn kl out c : Nat) (hk : kl ≤ 512) (hd : dn ≤ 65536) (ho : out ≤ 512) (hc1 : 1 ≤ c) : keyN wide kl + pbM wide out * pbN wide dn c + 2 ≤ 64 + dn + out + (0 + 512) * (out / 32 + 1) / 16 + 4 * c * (out / 32 + 1) := by
 have h1 := keyN_512 wide kl hk
 have h2 : pbM wide out ≤ out / 32 + 1 := by
  unfold pbM
  cases wide <;> simp only [hsz] <;> omega
 have h3 : pbN wide dn c ≤ (dn + 4) / 64 + 3 + 2 * (c - 1) := by
  unfold pbN
  have h4 := endN_le wide (dn + 4)
  have h5 : (dn + 4) / bsz wide ≤ (dn + 4) / 64 := by cases wide <;> simp only [bsz] <;> omega
  rw [endN_hsz]
  omega
 obtain ⟨q, hq⟩ : ∃ q, q = out / 32 + 1 := ⟨_, rfl⟩
 rw [← hq] at h2 ⊢
 have hq17 : q ≤ 17 := by omega
 have h6 : pbM wide out * pbN wide dn c ≤ q * ((dn + 4) / 64 + 3 + 2 * (c - 1)) := Nat.mul_le_mul h2 h3
 have h7 : q * ((dn + 4) / 64 + 3 + 2 * (c - 1)) = q * ((dn + 4) / 64) + q * 3 + q * (2 * (c - 1)) := by rw [Nat.mul_add, Nat.mul_add]
 have h8 : q * ((dn + 4) / 64) ≤ 17 * ((dn + 4) / 64) := Nat.mul_le_mul_right _ hq17
 have h9 : q * (2 * (c - 1)) ≤ 4 * c * q := by rw [Nat.mul_comm q]; exact Nat.mul_le_mul_right _ (by omega)
 have h10 : (0 + 512) * q / 16 = 32 * q := by omega
 rw [h10]
 omega
theorem coreV_bound {B : Nat} {S : Sts SesD} {o : OpC} {rs : List Run3} (h : okV B S) (hd : o.data.length ≤ 16777216) : tot (coreV S o rs).2.2 + 2 ≤ tot rs + boundN (plainS o.sk) := by
 have hlow := bound_low (plainS o.sk)
 have hsame : tot rs + 2 ≤ tot rs + boundN (plainS o.sk) := by omega
 obtain ⟨kd, hd', ag, ct, ot, data, more⟩ := o
 have hm : ∀ {t}, tAt S hd' = some t → okTh B t := fun e => okV_iff.1 h _ (tAt_mem e)
 replace hd : data.length ≤ 16777216 := hd
 unfold coreV
 simp only
 split
 ·exact hsame
 ·simp only [vBegin]
  rcases e : tAt S hd' with _ | ⟨k⟩ | ⟨x⟩
  ·exact hsame
  ·simp only
   have hk : k.length ≤ 512 := hm e
   split
   ·rename_i hc
    split
    ·exact hsame
    ·obtain ⟨oo, ho, _, hf⟩ := beginFine (kd := 2) (hd := hd') (ct := ct) (more := more) (ag := ag) (out := ot) (data := data) hc hk
     have hcl : data.length ≤ 64 := by
      have h4 := hf.2.2.2
      generalize kindA ag = K at h4
      cases K with
      | hm wide => simp only at h4; rw [h4]; decide
      | cm => simp only at h4; rw [h4.1]; decide
      | km a b => simpa using h4
     have h1 := beg_few (kindA ag) k.length data.length rs hk hcl
     show tot ((kindA ag).beg k.length data.length rs) + 2 ≤ _
     omega
   ·exact hsame
  ·exact hsame
 ·simp only [vUpdate]
  rcases e : tAt S hd' with _ | ⟨k⟩ | ⟨x⟩
  ·exact hsame
  ·exact hsame
  ·simp only
   split
   ·exact hsame
   ·rename_i hl
    show tot (noteN rs _ _ _) + 2 ≤ _
    rw [tot_noteN]
    have h1 := blk_step x.K x.msg.length data.length
    have h2 : clamp (plainS (OpC.sk ⟨3, hd', ag, ct, ot, data, more⟩)).dn = data.length := clampN hd
    rw [h2] at hlow
    omega
 ·simp only [vFinish]
  rcases e : tAt S hd' with _ | ⟨k⟩ | ⟨x⟩
  ·exact hsame
  ·exact hsame
  ·show tot (note (noteN rs _ _ _) 8 1024 1) + 2 ≤ _
   rw [tot_note, tot_noteN]
   have h1 := fin_few x.K x.msg.length x.out
   omega
 ·simp only [vVerify]
  rcases e : tAt S hd' with _ | ⟨k⟩ | ⟨x⟩
  ·exact hsame
  ·exact hsame
  ·simp only
   split
   ·show tot (note (note (noteN rs _ _ _) 6 _ 1) 8 1024 1) + 2 ≤ _
    rw [tot_note, tot_note, tot_noteN]
    have h1 := fin_few x.K x.msg.length x.out
    omega
   ·exact hsame
 ·simp only [vClone]
  rcases e : tAt S hd' with _ | x
  ·exact hsame
  ·simp only
   split <;> exact hsame
 ·simp only [vHkdf]
  rcases e : tAt S hd' with _ | ⟨k⟩ | ⟨x⟩
  ·exact hsame
  ·simp only
   have hk : k.length ≤ 512 := hm e
   split
   ·exact hsame
   ·rename_i hc
    split
    ·exact hsame
    ·rename_i hl
     obtain ⟨q1, q2⟩ := out_of_last (Classical.not_not.1 hl)
     have hc : hkE ⟨7, hd', ag, ct, ot, data, more⟩ = 0 := Classical.not_not.1 hc
     have hde : data.length ≤ 65536 ∧ more.length ≤ 65536 := by
      unfold hkE at hc
      split at hc
      ·cases hc
      ·split at hc
       ·cases hc
       ·rename_i hh
        simp only at hh
        omega
     show tot (noteN rs _ _ (hkKeyN (algB ag) data.length k.length more.length ot.toNat)) + 2 ≤ _
     rw [tot_noteN]
     have h1 := hk_bound (algB ag) data.length k.length more.length ot.toNat hk hde.1 hde.2 (by simp only at q2; omega)
     have h2 : boundN (plainS (OpC.sk ⟨7, hd', ag, ct, ot, data, more⟩)) = 64 + clamp (data.length : Int) + clamp ot + (clamp (more.length : Int) + 512) * (clamp ot / 32 + 1) / 16 + 4 * clamp 0 * (clamp ot / 32 + 1) := rfl
     have h3 : clamp ot = ot.toNat := by unfold clamp; simp only at q2; omega
     rw [h2, clampN hd, clampN (by omega), h3]
     omega
  ·exact hsame
 ·simp only [vPbkdf]
  rcases e : tAt S hd' with _ | ⟨k⟩ | ⟨x⟩
  ·exact hsame
  ·simp only
   have hk : k.length ≤ 512 := hm e
   split
   ·exact hsame
   ·rename_i hc
    split
    ·exact hsame
    ·rename_i hl
     obtain ⟨q1, q2⟩ := out_of_last (Classical.not_not.1 hl)
     have hc : pbE ⟨8, hd', ag, ct, ot, data, more⟩ = 0 := Classical.not_not.1 hc
     have hde : data.length ≤ 65536 ∧ 1 ≤ ct ∧ ct ≤ 1048576 := by
      unfold pbE at hc
      split at hc
      ·cases hc
      ·split at hc
       ·cases hc
       ·split at hc
        ·cases hc
        ·rename_i hh hh2
         simp only at hh hh2
         omega
     show tot (noteN rs _ _ (keyN (algB ag) k.length + pbM (algB ag) ot.toNat * pbN (algB ag) data.length ct.toNat)) + 2 ≤ _
     rw [tot_noteN]
     have h1 := pb_bound (algB ag) data.length k.length ot.toNat ct.toNat hk hde.1 (by simp only at q2; omega) (by omega)
     have h2 : boundN (plainS (OpC.sk ⟨8, hd', ag, ct, ot, data, more⟩)) = 64 + clamp (data.length : Int) + clamp ot + (clamp ((0 : Nat) : Int) + 512) * (clamp ot / 32 + 1) / 16 + 4 * clamp ct * (clamp ot / 32 + 1) := rfl
     have h3 : clamp ot = ot.toNat := by unfold clamp; simp only at q2; omega
     have h4 : clamp ct = ct.toNat := by unfold clamp; omega
     rw [h2, clampN hd, clampN (Nat.zero_le _), h3, h4]
     omega
  ·exact hsame
 ·exact hsame
 ·simp only [vDrop]
  rcases e : tAt S hd' with _ | x
  ·exact hsame
  ·show tot (note rs 8 1024 1) + 2 ≤ _
   rw [tot_note]
   omega
 ·exact hsame
theorem doV_bound {B : Nat} {S : Sts SesD} {o : OpC} {rs : List Run3} (h : okV B S) (hd : o.data.length ≤ 16777216) : tot (doV S o rs).2.2 ≤ tot rs + boundN (plainS o.sk) := by
 have h1 := coreV_bound (rs := note rs 11 (o.kind : Int) 1) h hd
 rw [tot_note] at h1
 show tot (note _ 12 _ 1) ≤ _
 rw [tot_note]
 omega
theorem alike {B C : Nat} {S T : Sts SesD} {o u : OpC} {rs : List Run3} (hS : okV B S) (hT : okV C T) (he : shS S = shS T) (hu : u.sk = plainS (plainS o.sk)) :
  shS (doV S o rs).1 = shS (doV T u rs).1 ∧ (doV T u rs).2.1.code = (doV S o rs).2.1.code ∧ (doV T u rs).2.1.handle = (doV S o rs).2.1.handle ∧ (doV T u rs).2.1.bytes.length = (doV S o rs).2.1.bytes.length ∧ (doV T u rs).2.2 = (doV S o rs).2.2 := by
 have h1 := doV_pub (o := o) (rs := rs) hS
 have h2 := doV_pub (o := u) (rs := rs) hT
 rw [hu, pub_plain, pub_plain, ← he, ← h1] at h2
 unfold resP Ans.pub at h2
 simp only [Prod.mk.injEq] at h2
 exact ⟨h2.1.symm, h2.2.1.1, h2.2.1.2.1, h2.2.1.2.2, h2.2.2⟩
end Go.Proofs.YtbefjaodpbgpcaaGreat
