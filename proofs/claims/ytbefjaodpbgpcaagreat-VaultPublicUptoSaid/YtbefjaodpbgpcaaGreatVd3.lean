
import Derived.Test.YtbefjaodpbgpcaaGreatVd2
import Derived.Test.YtbefjaodpbgpcaaGreatHM
set_option linter.unusedVariables false
set_option linter.unusedSimpArgs false
set_option maxRecDepth 100000
set_option maxHeartbeats 16000000
namespace Go.Proofs.YtbefjaodpbgpcaaGreat
open Go.RowKit Go.Sep Go.Bv Go.Kec Go.Aes Go.Sha
def OpC.sk (o : OpC) : OpS := ⟨o.kind, o.handle, o.alg, o.count, o.out, o.data.length, o.more.length⟩
inductive Sh where
 | key (n : Nat)
 | ses (K : MKind) (out kl cl ml : Nat)
def Th.sh : Th SesD → Sh
 | .key k => .key k.length
 | .ses x => .ses x.K x.out x.key.length x.custom.length x.msg.length
abbrev Shs := List (Option Sh)
def shS (S : Sts SesD) : Shs := S.map (Option.map Th.sh)
def sAt (P : Shs) (h : Int) : Option Sh := if h < 0 ∨ 64 ≤ h then none else P.getD h.toNat none
abbrev Pub := Int × Nat × Nat
def noP (e : Int) : Pub := (e, 0, 0)
def sTake (P : Shs) (x : Sh) : Shs × Pub :=
 match P.findIdx? (·.isNone) with
 | some i => (P.set i (some x), (0, i, 0))
 | none => (P, noP 8)
def sFull (P : Shs) : Bool := P.all (·.isSome)
def beginP (o : OpS) (kl : Nat) : Int := if o.alg < 1 ∨ 7 < o.alg then 4 else (kindA o.alg).code kl o.dn o.out
def hkP (o : OpS) : Int := if ¬ (o.alg = 1 ∨ o.alg = 2) then 4 else if 65536 < o.dn ∨ 65536 < o.en ∨ (255 * hsz (algB o.alg) : Int) < o.out then 9 else 0
def pbP (o : OpS) : Int := if ¬ (o.alg = 1 ∨ o.alg = 2) then 4 else if 65536 < o.dn ∨ (4294967295 * hsz (algB o.alg) : Int) < o.out then 9 else if o.count < 1 ∨ 1048576 < o.count then 10 else 0
def lastP (P : Shs) (o : OpS) : Int := if o.out < 1 ∨ 512 < o.out then 7 else if sFull P then 8 else 0
def pubCore (P : Shs) (o : OpS) (rs : List Run3) : Shs × Pub × List Run3 :=
 match o.kind with
 | 1 => if 512 < o.dn then (P, noP 7, rs) else ((sTake P (.key o.dn)).1, (sTake P (.key o.dn)).2, rs)
 | 2 => match sAt P o.handle with
  | none => (P, noP 5, rs)
  | some (.ses ..) => (P, noP 6, rs)
  | some (.key k) => if beginP o k = 0 then (if sFull P then (P, noP 8, rs) else ((sTake P (.ses (kindA o.alg) o.out.toNat k o.dn 0)).1, (sTake P (.ses (kindA o.alg) o.out.toNat k o.dn 0)).2, (kindA o.alg).beg k o.dn rs)) else (P, noP (beginP o k), rs)
 | 3 => match sAt P o.handle with
  | none => (P, noP 5, rs)
  | some (.key _) => (P, noP 6, rs)
  | some (.ses K out kl cl ml) => if 65536 < o.dn then (P, noP 9, rs) else (P.set o.handle.toNat (some (.ses K out kl cl (ml + o.dn))), (0, 0, 0), noteN rs K.ek (K.es kl) (K.blk (ml + o.dn) - K.blk ml))
 | 4 => match sAt P o.handle with
  | none => (P, noP 5, rs)
  | some (.key _) => (P, noP 6, rs)
  | some (.ses K out kl cl ml) => (P.set o.handle.toNat none, (0, 0, out), note (noteN rs K.ek (K.es kl) (K.fin ml out)) 8 1024 1)
 | 5 => match sAt P o.handle with
  | none => (P, noP 5, rs)
  | some (.key _) => (P, noP 6, rs)
  | some (.ses K out kl cl ml) => if o.dn = out then (P.set o.handle.toNat none, (0, 0, 0), note (note (noteN rs K.ek (K.es kl) (K.fin ml out)) 6 (out : Int) 1) 8 1024 1) else (P, noP 11, rs)
 | 6 => match sAt P o.handle with
  | none => (P, noP 5, rs)
  | some x => if sFull P then (P, noP 8, rs) else ((sTake P x).1, (sTake P x).2, rs)
 | 7 => match sAt P o.handle with
  | none => (P, noP 5, rs)
  | some (.ses ..) => (P, noP 6, rs)
  | some (.key k) => if hkP o ≠ 0 then (P, noP (hkP o), rs) else if lastP P o ≠ 0 then (P, noP (lastP P o), rs) else
   ((sTake P (.key o.out.toNat)).1, (sTake P (.key o.out.toNat)).2, noteN rs (evK (algB o.alg)) (evS (algB o.alg)) (hkKeyN (algB o.alg) o.dn k o.en o.out.toNat))
 | 8 => match sAt P o.handle with
  | none => (P, noP 5, rs)
  | some (.ses ..) => (P, noP 6, rs)
  | some (.key k) => if pbP o ≠ 0 then (P, noP (pbP o), rs) else if lastP P o ≠ 0 then (P, noP (lastP P o), rs) else
   ((sTake P (.key o.out.toNat)).1, (sTake P (.key o.out.toNat)).2, noteN rs (evK (algB o.alg)) (evS (algB o.alg)) (keyN (algB o.alg) k + pbM (algB o.alg) o.out.toNat * pbN (algB o.alg) o.dn o.count.toNat))
 | 9 => match sAt P o.handle with
  | none => (P, noP 5, rs)
  | some (.ses ..) => (P, noP 6, rs)
  | some (.key k) => (P, (0, 0, k), rs)
 | 10 => match sAt P o.handle with
  | none => (P, noP 5, rs)
  | some _ => (P.set o.handle.toNat none, (0, 0, 0), note rs 8 1024 1)
 | _ => (P, noP 3, rs)
def pubLast (R : Shs × Pub × List Run3) : Shs × Pub × List Run3 := (R.1, if R.2.1.1 = 0 then R.2.1 else noP R.2.1.1, note R.2.2 12 R.2.1.1 1)
def pubV (P : Shs) (o : OpS) (rs : List Run3) : Shs × Pub × List Run3 := pubLast (pubCore P o (note rs 11 (o.kind : Int) 1))
def Ans.pub (a : Ans) : Pub := (a.code, a.handle, a.bytes.length)
def resP (R : Sts SesD × Ans × List Run3) : Shs × Pub × List Run3 := (shS R.1, R.2.1.pub, R.2.2)
theorem sAt_eq (S : Sts SesD) (h : Int) : sAt (shS S) h = (tAt S h).map Th.sh := by
 unfold sAt tAt
 split
 ·rfl
 ·unfold shS
  rw [List.getD_eq_getElem?_getD, List.getD_eq_getElem?_getD, List.getElem?_map]
  cases S[h.toNat]? <;> rfl
theorem findNone_eq (S : Sts SesD) : (shS S).findIdx? (·.isNone) = S.findIdx? (·.isNone) := by
 unfold shS
 rw [List.findIdx?_map]
 congr 1
 funext x
 cases x <;> rfl
theorem shS_set (S : Sts SesD) (k : Nat) (x : Option (Th SesD)) : shS (S.set k x) = (shS S).set k (x.map Th.sh) := by
 unfold shS
 rw [List.map_set]
theorem sTake_eq (S : Sts SesD) (x : Th SesD) : (shS (vTake S x).1, (vTake S x).2.pub) = sTake (shS S) x.sh := by
 unfold sTake vTake
 rw [findNone_eq]
 cases S.findIdx? (·.isNone) with
 | none => rfl
 | some i =>
  show (shS (S.set i (some x)), _) = _
  rw [shS_set]
  rfl
theorem sTake_eq' (S : Sts SesD) (x : Th SesD) (rs : List Run3) : resP ((vTake S x).1, (vTake S x).2, rs) = ((sTake (shS S) x.sh).1, (sTake (shS S) x.sh).2, rs) := by
 rw [← sTake_eq]; rfl
theorem sFull_eq (S : Sts SesD) : sFull (shS S) = fullS S := by
 unfold sFull fullS shS
 rw [List.all_map]
 congr 1
 funext x
 cases x <;> rfl
theorem lastP_eq (S : Sts SesD) (o : OpC) : lastP (shS S) o.sk = lastE S o := by
 unfold lastP lastE
 rw [sFull_eq]; rfl
theorem out_of_last {S : Sts SesD} {o : OpC} (h : lastE S o = 0) : 1 ≤ o.out ∧ o.out ≤ 512 := by
 unfold lastE at h
 by_cases hq : o.out < 1 ∨ 512 < o.out
 ·rw [if_pos hq] at h; cases h
 ·omega
theorem algB_hsz (a : Nat) : hsz (algB a) = 32 ∨ hsz (algB a) = 64 := by cases algB a <;> simp [hsz]
theorem hkBytes_len {o : OpC} {k : List Byte} (h1 : 1 ≤ o.out) (h2 : o.out ≤ 512) : (hkBytes o k).length = o.out.toNat := hkdf_len _ _ _ _ (by omega) (by rcases algB_hsz o.alg with h | h <;> rw [h] <;> omega)
theorem pbBytes_len {o : OpC} {k : List Byte} (h1 : 1 ≤ o.out) (h2 : o.out ≤ 512) : (pbBytes o k).length = o.out.toNat := by
 unfold pbBytes
 rw [List.length_take, pbMany_len]
 unfold pbM
 rcases algB_hsz o.alg with h | h <;> rw [h] <;> omega
theorem core_pub {B : Nat} {S : Sts SesD} {o : OpC} {rs : List Run3} (h : okV B S) : resP (coreV S o rs) = pubCore (shS S) o.sk rs := by
 obtain ⟨kd, hd, ag, ct, ot, data, more⟩ := o
 have hm : ∀ {t}, tAt S hd = some t → okTh B t := fun e => okV_iff.1 h _ (tAt_mem e)
 have hA := sAt_eq S hd
 unfold coreV pubCore OpC.sk
 simp only
 split
 ·simp only [vPut]
  split
  ·rfl
  ·exact sTake_eq' S (.key data) rs
 ·simp only [vBegin]
  rw [hA]
  rcases e : tAt S hd with _ | ⟨k⟩ | ⟨x⟩
  ·rfl
  ·simp only [Option.map_some, Th.sh]
   rw [sFull_eq]
   show resP (if beginE _ k.length = 0 then _ else _) = if beginE ⟨2, hd, ag, ct, ot, data, more⟩ k.length = 0 then _ else _
   split
   ·split
    ·rfl
    ·exact sTake_eq' S (.ses ⟨kindA ag, ot.toNat, k, data, []⟩) _
   ·rfl
  ·rfl
 ·simp only [vUpdate]
  rw [hA]
  rcases e : tAt S hd with _ | ⟨k⟩ | ⟨x⟩
  ·rfl
  ·rfl
  ·simp only [Option.map_some, Th.sh]
   split
   ·rfl
   ·show (shS (S.set _ _), _, _) = _
    rw [shS_set]
    simp only [Option.map_some, Th.sh, List.length_append]
    rfl
 ·simp only [vFinish]
  rw [hA]
  rcases e : tAt S hd with _ | ⟨k⟩ | ⟨x⟩
  ·rfl
  ·rfl
  ·simp only [Option.map_some, Th.sh]
   have hx : x.ok B := hm e
   show (shS (S.set _ _), (0, 0, (x.K.tag x.key x.custom x.out x.msg).length), _) = _
   rw [shS_set, x.K.tag_len _ _ _ _ hx.1]
   rfl
 ·simp only [vVerify]
  rw [hA]
  rcases e : tAt S hd with _ | ⟨k⟩ | ⟨x⟩
  ·rfl
  ·rfl
  ·simp only [Option.map_some, Th.sh]
   split
   ·show (shS (S.set _ _), _, _) = _
    rw [shS_set]
    rfl
   ·rfl
 ·simp only [vClone]
  rw [hA, sFull_eq]
  rcases e : tAt S hd with _ | x
  ·rfl
  ·simp only [Option.map_some]
   split
   ·rfl
   ·exact sTake_eq' S x rs
 ·simp only [vHkdf]
  rw [hA]
  rcases e : tAt S hd with _ | ⟨k⟩ | ⟨x⟩
  ·rfl
  ·simp only [Option.map_some, Th.sh]
   rw [show lastP (shS S) ⟨7, hd, ag, ct, ot, data.length, more.length⟩ = lastE S ⟨7, hd, ag, ct, ot, data, more⟩ from lastP_eq S ⟨7, hd, ag, ct, ot, data, more⟩]
   show resP (if hkE ⟨7, hd, ag, ct, ot, data, more⟩ ≠ 0 then _ else _) = if hkE ⟨7, hd, ag, ct, ot, data, more⟩ ≠ 0 then _ else _
   split
   ·rfl
   ·split
    ·rfl
    ·rename_i hl
     obtain ⟨q1, q2⟩ := out_of_last (Classical.not_not.1 hl)
     rw [sTake_eq']
     show _ = ((sTake (shS S) (.key ot.toNat)).1, _)
     have hk := hkBytes_len (o := ⟨7, hd, ag, ct, ot, data, more⟩) (k := k) q1 q2
     simp only [Th.sh, hk]
  ·rfl
 ·simp only [vPbkdf]
  rw [hA]
  rcases e : tAt S hd with _ | ⟨k⟩ | ⟨x⟩
  ·rfl
  ·simp only [Option.map_some, Th.sh]
   rw [show lastP (shS S) ⟨8, hd, ag, ct, ot, data.length, more.length⟩ = lastE S ⟨8, hd, ag, ct, ot, data, more⟩ from lastP_eq S ⟨8, hd, ag, ct, ot, data, more⟩]
   show resP (if pbE ⟨8, hd, ag, ct, ot, data, more⟩ ≠ 0 then _ else _) = if pbE ⟨8, hd, ag, ct, ot, data, more⟩ ≠ 0 then _ else _
   split
   ·rfl
   ·split
    ·rfl
    ·rename_i hl
     obtain ⟨q1, q2⟩ := out_of_last (Classical.not_not.1 hl)
     rw [sTake_eq']
     show _ = ((sTake (shS S) (.key ot.toNat)).1, _)
     have hk := pbBytes_len (o := ⟨8, hd, ag, ct, ot, data, more⟩) (k := k) q1 q2
     simp only [Th.sh, hk]
  ·rfl
 ·simp only [vReveal]
  rw [hA]
  rcases e : tAt S hd with _ | ⟨k⟩ | ⟨x⟩ <;> rfl
 ·simp only [vDrop]
  rw [hA]
  rcases e : tAt S hd with _ | x
  ·rfl
  ·show (shS (S.set _ _), _, _) = _
   rw [shS_set]
   rfl
 ·split <;> first | rfl | contradiction | (exfalso; simp_all)
theorem doV_pub {B : Nat} {S : Sts SesD} {o : OpC} {rs : List Run3} (h : okV B S) : resP (doV S o rs) = pubV (shS S) o.sk rs := by
 unfold pubV
 rw [show o.sk.kind = o.kind from rfl, ← core_pub (o := o) (rs := note rs 11 (o.kind : Int) 1) h]
 unfold doV atLast pubLast resP
 simp only
 by_cases hc : (coreV S o (note rs 11 (o.kind : Int) 1)).2.1.code = 0
 ·rw [if_pos hc, if_pos (show (coreV S o (note rs 11 (o.kind : Int) 1)).2.1.pub.1 = 0 from hc)]; rfl
 ·rw [if_neg hc, if_neg (show ¬ (coreV S o (note rs 11 (o.kind : Int) 1)).2.1.pub.1 = 0 from hc)]; rfl
end Go.Proofs.YtbefjaodpbgpcaaGreat
