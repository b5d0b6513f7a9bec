/- Idl, Idl2, Mpi, Idl3: texts that lie apart elsewhere, as one; each under the conditions that it names. -/
import Derived.Test.YtpiiklfnakkdiaaGreatHB
import Derived.Test.YtpiiklfnakkdiaaGreatGH
import Derived.Test.YtpiiklfnakkdiaaGreatGP
import Derived.Test.YtpiiklfnakkdiaaGreatHC
import Derived.Test.YtpiiklfnakkdiaaGreatGA
import Derived.MapKept
import Derived.RangeFuncRecord

/- The ideal vault: what it holds, and what each operation makes of that, in plain words. No condition. -/
namespace Go.Proofs.YtpiiklfnakkdiaaGreat
open Go.RowKit Go.Sep Go.Bv Go.Kec Go.Aes Go.Sha
set_option linter.unusedVariables false
set_option linter.unusedSimpArgs false
/-- What lies under a handle: a key, or a session. -/
inductive Hold
 | key (k : List Byte)
 | sn (K : MKind) (out : Nat) (key custom msg : List Byte)
def Hold.alg : Hold → Nat
 | .key _ => 0
 | .sn K _ _ _ _ => K.alg
def Hold.out : Hold → Nat
 | .key _ => 0
 | .sn _ o _ _ _ => o
def Hold.kb : Hold → List Byte
 | .key k => k
 | .sn _ _ k _ _ => k
def Hold.cb : Hold → List Byte
 | .key _ => []
 | .sn _ _ _ c _ => c
def Hold.mb : Hold → List Byte
 | .key _ => []
 | .sn _ _ _ _ m => m
/-- Such things there are in a vault; B: no message is longer. -/
def Hold.ok (B : Nat) : Hold → Prop
 | .key k => k.length ≤ 512
 | .sn K o k c m => K.fits k c o ∧ k.length ≤ 512 ∧ m.length ≤ B
def Hold.tag : Hold → List Byte
 | .key _ => []
 | .sn K o k c m => K.tag k c o m
abbrev Slots := List (Option Hold)
def okS (B : Nat) (S : Slots) : Prop := S.length = 64 ∧ ∀ H, some H ∈ S → H.ok B
structure Ans where
 code : Int
 handle : Nat
 same : Bool
 bytes : List Byte
def noA (e : Int) : Ans := ⟨e, 0, false, []⟩
structure OpC where
 kind : Nat
 handle : Int
 alg : Nat
 count : Int
 out : Int
 data : List Byte
 more : List Byte
/-- What stands under a handle, or what refuses it. -/
def iAt (S : Slots) (h : Int) (sess : Bool) : Int × Option Hold :=
 if h < 0 ∨ 64 ≤ h then (5, none) else
 match S.getD h.toNat none with
 | none => (5, none)
 | some H => if (H.alg != 0) = sess then (0, some H) else (6, none)
def iTake (S : Slots) (H : Hold) : Slots × Ans :=
 match S.findIdx? (·.isNone) with
 | some i => (S.set i (some H), ⟨0, i, false, []⟩)
 | none => (S, noA 8)
def kindA : Nat → MKind
 | 1 => .hm false
 | 2 => .hm true
 | 3 => .cm
 | 4 => .km false false
 | 5 => .km true false
 | 6 => .km false true
 | _ => .km true true
theorem kindA_alg : ∀ a, 1 ≤ a → a ≤ 7 → (kindA a).alg = a
 | 0, h, _ => by omega
 | 1, _, _ => rfl
 | 2, _, _ => rfl
 | 3, _, _ => rfl
 | 4, _, _ => rfl
 | 5, _, _ => rfl
 | 6, _, _ => rfl
 | 7, _, _ => rfl
 | n + 8, _, h => by omega
def mostA (a : Nat) : Nat := if a = 1 then 32 else if a = 3 then 16 else 64
def iPut (S : Slots) (o : OpC) : Slots × Ans := if 512 < o.data.length then (S, noA 7) else iTake S (.key o.data)
def iBegin (S : Slots) (o : OpC) : Slots × Ans :=
 match iAt S o.handle false with
 | (e, none) => (S, noA e)
 | (_, some H) =>
  if o.alg = 3 ∧ ¬ (H.kb.length = 16 ∨ H.kb.length = 24 ∨ H.kb.length = 32) then (S, noA 7)
  else if o.alg < 1 ∨ 7 < o.alg then (S, noA 4)
  else if 0 < o.data.length ∧ o.alg < 4 then (S, noA 2)
  else if 64 < o.data.length then (S, noA 9)
  else if o.out < 1 ∨ (mostA o.alg : Int) < o.out then (S, noA 11)
  else iTake S (.sn (kindA o.alg) o.out.toNat H.kb o.data [])
def Hold.more (d : List Byte) : Hold → Hold
 | .key k => .key k
 | .sn K o k c m => .sn K o k c (m ++ d)
def iUpdate (S : Slots) (o : OpC) : Slots × Ans :=
 match iAt S o.handle true with
 | (e, none) => (S, noA e)
 | (_, some H) => if 65536 < o.data.length then (S, noA 9) else (S.set o.handle.toNat (some (H.more o.data)), noA 0)
def iEnd (S : Slots) (o : OpC) : Slots × Ans :=
 match iAt S o.handle true with
 | (e, none) => (S, noA e)
 | (_, some H) =>
  if o.kind = 5 then (if o.data.length = H.out then (S.set o.handle.toNat none, ⟨0, 0, decide (H.tag = o.data), []⟩) else (S, noA 11))
  else (S.set o.handle.toNat none, ⟨0, 0, false, H.tag⟩)
def iAny (S : Slots) (h : Int) : Int × Option Hold :=
 match iAt S h false with
 | (6, none) => iAt S h true
 | x => x
def iSimple (S : Slots) (o : OpC) : Slots × Ans :=
 match (if o.kind = 9 then iAt S o.handle false else iAny S o.handle) with
 | (e, none) => (S, noA e)
 | (_, some H) => if o.kind = 9 then (S, ⟨0, 0, false, H.kb⟩) else if o.kind = 6 then iTake S H else (S.set o.handle.toNat none, noA 0)
def iFull (S : Slots) : Bool := S.all (·.isSome)
def algW (a : Nat) : Bool := a == 2
def iHkdf (S : Slots) (o : OpC) : Slots × Ans :=
 match iAt S o.handle false with
 | (e, none) => (S, noA e)
 | (_, some H) =>
  if ¬ (o.alg = 1 ∨ o.alg = 2) then (S, noA 4)
  else if 65536 < o.data.length ∨ 65536 < o.more.length ∨ (255 * hsz (algW o.alg) : Int) < o.out then (S, noA 9)
  else if o.out < 1 ∨ 512 < o.out then (S, noA 7)
  else if iFull S then (S, noA 8)
  else iTake S (.key (hkdf (algW o.alg) (hmac (algW o.alg) o.data H.kb) o.more o.out.toNat))
def iPbkdf (S : Slots) (o : OpC) : Slots × Ans :=
 match iAt S o.handle false with
 | (e, none) => (S, noA e)
 | (_, some H) =>
  if ¬ (o.alg = 1 ∨ o.alg = 2) then (S, noA 4)
  else if 65536 < o.data.length ∨ (4294967295 * hsz (algW o.alg) : Int) < o.out then (S, noA 9)
  else if o.count < 1 ∨ 1048576 < o.count then (S, noA 10)
  else if o.out < 1 ∨ 512 < o.out then (S, noA 7)
  else if iFull S then (S, noA 8)
  else iTake S (.key ((pbMany (algW o.alg) H.kb o.data o.count.toNat (pbM (algW o.alg) o.out.toNat)).take o.out.toNat))
/-- What an operation makes of what is held, and answers. -/
def iDo (S : Slots) (o : OpC) : Slots × Ans :=
 match o.kind with
 | 1 => iPut S o
 | 2 => iBegin S o
 | 3 => iUpdate S o
 | 4 => iEnd S o
 | 5 => iEnd S o
 | 6 => iSimple S o
 | 7 => iHkdf S o
 | 8 => iPbkdf S o
 | 9 => iSimple S o
 | 10 => iSimple S o
 | _ => (S, noA 3)
/-- Where the parts of a thing lie. -/
structure HQ where
 kp : Option Addr
 kc : Nat
 cp : Option Addr
 cc : Nat
 mp : Option Addr
 mc : Nat
def HQ.ok (q : HQ) (H : Hold) : Prop := H.kb.length ≤ q.kc ∧ q.kc ≤ maxLen ∧ H.cb.length ≤ q.cc ∧ q.cc ≤ maxLen
abbrev holdC (i : Nat) (H : Hold) (q : HQ) : List Value := [.int .i64 (i : Int), .int .u8 (H.alg : Int), .int .i64 (H.out : Int), .slice q.kp H.kb.length q.kc, .slice q.cp H.cb.length q.cc, .slice q.mp H.mb.length q.mc]
/-- A thing under a handle, in memory. -/
abbrev holdL (p i : Nat) (H : Hold) (q : HQ) (L : List Assn) : List Assn :=
 seg true p 0 (holdC i H q) :: bytes true q.kp H.kb :: bytes true q.cp H.cb :: row q.mp q.mc 1 H.mb.length (u8s H.mb) :: L
def holdA (p i : Nat) (H : Hold) : Assn := fun h => ∃ q : HQ, q.ok H ∧ big (holdL p i H q []) h
theorem holdOpen {W0 w : World} {L : List Assn} {p i : Nat} {H : Hold} (h : Sat W0 w (holdA p i H :: L)) : ∃ q : HQ, q.ok H ∧ Sat W0 w (holdL p i H q L) := by
 obtain ⟨q, h1⟩ := Sat.exOpen h
 obtain ⟨h0, hs, hf⟩ := h1
 obtain ⟨x, t, rfl, ⟨e, hA⟩, ok, hd, hf'⟩ := hf.head
 have h2 : Sat W0 w (big (holdL p i H q []) :: L) := ⟨h0, x :: t, .cons hA ok hd hf'⟩
 exact ⟨q, e, h2.bigOpen⟩
theorem holdShut {W0 w : World} {L : List Assn} {p i : Nat} {H : Hold} (q : HQ) (e : q.ok H) (h : Sat W0 w (holdL p i H q L)) : Sat W0 w (holdA p i H :: L) := by
 have h1 : Sat W0 w (big (holdL p i H q []) :: L) := Sat.bigShut (K := holdL p i H q []) h
 exact h1.imp fun x hx => ⟨q, e, hx⟩
/-- A row of bytes as bytes, for a time. -/
theorem rowWand {W0 w : World} {L : List Assn} {p : Option Addr} {c n : Nat} {bs : List Byte} (h : Sat W0 w (row p c 1 n (u8s bs) :: L)) :
  bs.length = n ∧ n ≤ c ∧ c ≤ maxLen ∧ ∃ R : Assn, Sat W0 w (bytes true p bs :: R :: L) ∧ ∀ w' L', Sat W0 w' (bytes true p bs :: R :: L') → Sat W0 w' (row p c 1 n (u8s bs) :: L') := by
 obtain ⟨h1, h2, h3, _⟩ := rowBytes h
 refine ⟨h1, h2, h3, ?_⟩
 obtain ⟨hl, ⟨rfl, rfl, rfl, hx, s⟩ | ⟨g, rest, rfl, a1, a2, a3, s⟩⟩ := h.rowOpen
 ·have hb : bs = [] := List.eq_nil_of_length_eq_zero h1
  subst hb
  refine ⟨emp, bytesNil true none s.addEmp, fun w' L' s' => ?_⟩
  exact s'.tail.tail.rowNil 1
 ·refine ⟨seg true g (0 + (u8s bs).length) rest, bytesOf (s.part rfl), fun w' L' s' => ?_⟩
  have s2 : Sat W0 w' (seg true g 0 (u8s bs) :: seg true g (0 + (u8s bs).length) rest :: L') := by
   by_cases hb : bs = []
   ·subst hb
    exact s'.imp fun x _ => fun i v hv => by simp [u8s] at hv
   ·obtain ⟨b', o', e0, s3⟩ := bytesCell s' hb
    cases e0
    exact s3
  exact (s2.join rfl).rowMade (sz := 1) hl a3 a1 a2
/-- The slots of a vault, from a handle on. -/
abbrev Held := List (Option (Nat × Hold))
def slotsA : Nat → Held → Assn
 | _, [] => emp
 | i, none :: T => slotsA (i + 1) T
 | i, some x :: T => sep (holdA x.1 i x.2) (slotsA (i + 1) T)
theorem slotsOpen {W0 w : World} : ∀ {T : Held} {L : List Assn} {k : Nat} (i : Nat) {p : Nat} {H : Hold}, T[i]? = some (some (p, H)) → Sat W0 w (slotsA k T :: L) → Sat W0 w (holdA p (k + i) H :: slotsA k (T.set i none) :: L)
 | [], _, _, _, _, _, h, _ => by simp at h
 | none :: T, L, k, 0, p, H, h, _ => by simp at h
 | some x :: T, L, k, 0, p, H, h, s => by
  simp only [List.getElem?_cons_zero, Option.some.injEq] at h
  subst h
  exact Sat.sepOpen s
 | none :: T, L, k, i + 1, p, H, h, s => by
  have h1 : T[i]? = some (some (p, H)) := by simpa using h
  have s1 : Sat W0 w (slotsA (k + 1) T :: L) := s
  have s2 := slotsOpen i h1 s1
  rw [show k + (i + 1) = k + 1 + i by omega]
  exact s2
 | some x :: T, L, k, i + 1, p, H, h, s => by
  have h1 : T[i]? = some (some (p, H)) := by simpa using h
  have s1 : Sat W0 w (holdA x.1 k x.2 :: slotsA (k + 1) T :: L) := Sat.sepOpen s
  have s2 := slotsOpen i h1 (s1.pull 1 : Sat W0 w (slotsA (k + 1) T :: holdA x.1 k x.2 :: L))
  rw [show k + (i + 1) = k + 1 + i by omega]
  have s3 : Sat W0 w (holdA x.1 k x.2 :: slotsA (k + 1) (T.set i none) :: holdA p (k + 1 + i) H :: L) := s2.sub (.cons (.there (.there .here)) (.cons (.there .here) .done))
  have s4 : Sat W0 w (slotsA k (some x :: T.set i none) :: holdA p (k + 1 + i) H :: L) := Sat.sepShut s3
  exact s4.pull 1
theorem slotsShut {W0 w : World} : ∀ {T : Held} {L : List Assn} {k : Nat} (i : Nat) {p : Nat} {H : Hold}, T[i]? = some none → Sat W0 w (holdA p (k + i) H :: slotsA k T :: L) → Sat W0 w (slotsA k (T.set i (some (p, H))) :: L)
 | [], _, _, _, _, _, h, _ => by simp at h
 | some x :: T, L, k, 0, p, H, h, _ => by simp at h
 | none :: T, L, k, 0, p, H, h, s => by
  have s1 : Sat W0 w (holdA p k H :: slotsA (k + 1) T :: L) := s
  exact Sat.sepShut s1
 | none :: T, L, k, i + 1, p, H, h, s => by
  have h1 : T[i]? = some none := by simpa using h
  rw [show k + (i + 1) = k + 1 + i by omega] at s
  have s1 : Sat W0 w (holdA p (k + 1 + i) H :: slotsA (k + 1) T :: L) := s
  exact slotsShut i h1 s1
 | some x :: T, L, k, i + 1, p, H, h, s => by
  have h1 : T[i]? = some none := by simpa using h
  rw [show k + (i + 1) = k + 1 + i by omega] at s
  have s1 : Sat W0 w (slotsA k (some x :: T) :: holdA p (k + 1 + i) H :: L) := s.pull 1
  have s2 : Sat W0 w (holdA x.1 k x.2 :: slotsA (k + 1) T :: holdA p (k + 1 + i) H :: L) := Sat.sepOpen s1
  have s3 := slotsShut i h1 (s2.sub (.cons (.there (.there .here)) (.cons (.there .here) .done)) : Sat W0 w (holdA p (k + 1 + i) H :: slotsA (k + 1) T :: holdA x.1 k x.2 :: L))
  have s4 : Sat W0 w (holdA x.1 k x.2 :: slotsA (k + 1) (T.set i (some (p, H))) :: L) := s3.pull 1
  exact Sat.sepShut s4
def cellsT (T : Held) : List Value := T.map fun o => ptrO (o.map Prod.fst)
def namesT (T : Held) : Slots := T.map fun o => o.map Prod.snd
/-- A vault in memory. -/
def vaultA (v : Nat) (S : Slots) : Assn := fun h => ∃ T : Held, namesT T = S ∧ sep (seg true v 0 (.bool true :: cellsT T)) (slotsA 0 T) h
theorem vOpen {W0 w : World} {L : List Assn} {v : Nat} {S : Slots} (h : Sat W0 w (vaultA v S :: L)) : ∃ T : Held, namesT T = S ∧ Sat W0 w (seg true v 0 (.bool true :: cellsT T) :: slotsA 0 T :: L) := by
 obtain ⟨T, h1⟩ := Sat.exOpen h
 obtain ⟨h0, hs, hf⟩ := h1
 obtain ⟨x, t, rfl, ⟨e, hA⟩, ok, hd, hf'⟩ := hf.head
 exact ⟨T, e, Sat.sepOpen ⟨h0, x :: t, .cons hA ok hd hf'⟩⟩
theorem vShut {W0 w : World} {L : List Assn} {v : Nat} {S : Slots} (T : Held) (e : namesT T = S) (h : Sat W0 w (seg true v 0 (.bool true :: cellsT T) :: slotsA 0 T :: L)) : Sat W0 w (vaultA v S :: L) :=
 (Sat.sepShut h).imp fun x hx => ⟨T, e, hx⟩
end Go.Proofs.YtpiiklfnakkdiaaGreat

/- The ideal vault: plain laws of its operations. Each under the conditions that it names. -/
namespace Go.Proofs.YtpiiklfnakkdiaaGreat
open Go.RowKit Go.Sep Go.Bv Go.Kec Go.Aes Go.Sha
set_option linter.unusedVariables false
set_option linter.unusedSimpArgs false
theorem alg_pos17 (K : MKind) : 1 ≤ K.alg ∧ K.alg ≤ 7 := by
 rcases K with (wide | wide) | _ | ⟨large | large, xof | xof⟩ <;> decide
theorem okS_mono {B C : Nat} {S : Slots} (h : okS B S) (hBC : B ≤ C) : okS C S := by
 refine ⟨h.1, fun H hH => ?_⟩
 have := h.2 H hH
 cases H with
 | key k => exact this
 | sn K o k c m => exact ⟨this.1, this.2.1, Nat.le_trans this.2.2 hBC⟩
theorem okS_set {B : Nat} {S : Slots} (h : okS B S) (i : Nat) (x : Option Hold) (hx : ∀ H, x = some H → H.ok B) : okS B (S.set i x) := by
 refine ⟨by rw [List.length_set]; exact h.1, fun H hH => ?_⟩
 rcases List.mem_or_eq_of_mem_set hH with h1 | h1
 ·exact h.2 H h1
 ·exact hx H h1.symm
theorem iAt_cases (S : Slots) (hS : S.length = 64) (h : Int) (sess : Bool) :
  (iAt S h sess = (5, none) ∧ (h < 0 ∨ 64 ≤ h ∨ (0 ≤ h ∧ h < 64 ∧ S[h.toNat]? = some none))) ∨
  (0 ≤ h ∧ h < 64 ∧ ∃ H, S[h.toNat]? = some (some H) ∧ ((iAt S h sess = (0, some H) ∧ (H.alg != 0) = sess) ∨ (iAt S h sess = (6, none) ∧ (H.alg != 0) = !sess))) := by
 unfold iAt
 by_cases h1 : h < 0 ∨ 64 ≤ h
 ·rw [if_pos h1]
  exact .inl ⟨rfl, by omega⟩
 ·rw [if_neg h1]
  have h2 : h.toNat < S.length := by omega
  rw [List.getD_eq_getElem?_getD]
  rcases hx : S[h.toNat]? with _ | _ | H
  ·rw [List.getElem?_eq_none_iff] at hx; omega
  ·exact .inl ⟨rfl, .inr (.inr ⟨by omega, by omega, rfl⟩)⟩
  ·refine .inr ⟨by omega, by omega, H, rfl, ?_⟩
   simp only [Option.getD_some]
   by_cases h3 : (H.alg != 0) = sess
   ·exact .inl ⟨by rw [if_pos h3], h3⟩
   ·exact .inr ⟨by rw [if_neg h3], by cases hb : (H.alg != 0) <;> cases sess <;> simp_all⟩
theorem mem_of_get {S : Slots} {i : Nat} {H : Hold} (h : S[i]? = some (some H)) : some H ∈ S := List.mem_of_getElem? h
theorem Hold.alg_key {H : Hold} (h : (H.alg != 0) = false) : ∃ k, H = .key k := by
 cases H with
 | key k => exact ⟨k, rfl⟩
 | sn K o k c m =>
  have := alg_pos17 K
  simp only [Hold.alg, bne_eq_false_iff_eq] at h
  omega
theorem Hold.alg_ses {H : Hold} (h : (H.alg != 0) = true) : ∃ K o k c m, H = .sn K o k c m := by
 cases H with
 | key k => simp [Hold.alg] at h
 | sn K o k c m => exact ⟨K, o, k, c, m, rfl⟩
theorem iTake_ok {B : Nat} {S : Slots} {H : Hold} (hS : okS B S) (hH : H.ok B) : okS B (iTake S H).1 := by
 unfold iTake
 split
 ·exact okS_set hS _ _ fun H' e => by cases e; exact hH
 ·exact hS
theorem hkdf_len (wide : Bool) (prk info : List Byte) (n : Nat) (h0 : 0 < n) (h : n ≤ 255 * hsz wide) : (hkdf wide prk info n).length = n := by
 unfold hkdf
 have h1 := hkM_bd wide n h0 h
 rw [List.length_take, hkOut_len]
 omega
end Go.Proofs.YtpiiklfnakkdiaaGreat

/- Maps with integer keys, in the separation logic: a store of a new key, a look-up; each under the conditions that it names. -/
namespace Go.Sep
open Go.RowKit
set_option linter.unusedVariables false
set_option linter.unusedSimpArgs false
section
variable {P : Program} {W0 w : World} {L : List Assn} {ops : Array Oper} {Q : Exit → Act → World → Prop} {o : Oper} {rest : List Oper} {a : Act}
theorem run_mapPut {mty kt et : TypeId} {r clock : Nat} {es : Array MapEntry} {kd : IntKind} {z : Int} {val : Value} (hm : P.underlying mty = some (.map kt et)) (hk : P.underlying kt = some (.int kd)) (hb : w.heap[r]? = some (.map es clock))
  (hf : Instr.findNow (.int kd) (.int kd z) es.toList 0 = some none) :
  (Instr.mapUpdate mty (.map (some r)) (.int kd z) val).run P w = .ok () (w.putObj r (.map (es.push { key := .int kd z, val := val, born := clock }) (clock + 1))) := by
 have hc : (Instr.checkKey false 10000 kt (.int kd z)).run P w = .ok () w := MapKept.run_checkKey (k := .int kd z) hk (by simp [MapKept.IsKey]) false 9999
 simp [Instr.mapUpdate, run_underlying hm, MapKept.run_getObj_map hb, hc, MapKept.run_findKey hk hf, MapKept.run_setObj_map _ hb, Result.andThen, World.putObj]
theorem run_mapHas {mty kt et : TypeId} {r clock : Nat} {es : Array MapEntry} {kd : IntKind} {z : Int} {i : Nat} {v : Value} (hm : P.underlying mty = some (.map kt et)) (hk : P.underlying kt = some (.int kd)) (hb : w.heap[r]? = some (.map es clock))
  (hf : Instr.findNow (.int kd) (.int kd z) es.toList 0 = some (some (i, v))) :
  (Instr.lookup mty (.map (some r)) (.int kd z) true).run P w = .ok (.tuple #[v, .bool true]) w := by
 have hc : (Instr.checkKey es.isEmpty 10000 kt (.int kd z)).run P w = .ok () w := MapKept.run_checkKey (k := .int kd z) hk (by simp [MapKept.IsKey]) _ 9999
 simp [Instr.lookup, run_underlying hm, MapKept.run_getObj_map hb, hc, MapKept.run_findKey hk hf, Result.andThen]
theorem run_mapHasNot {mty kt et : TypeId} {r clock : Nat} {es : Array MapEntry} {kd : IntKind} {z : Int} {v : Value} (hm : P.underlying mty = some (.map kt et)) (hk : P.underlying kt = some (.int kd)) (hb : w.heap[r]? = some (.map es clock))
  (hf : Instr.findNow (.int kd) (.int kd z) es.toList 0 = some none) (hz : (zeroValue et).run P w = .ok v w) :
  (Instr.lookup mty (.map (some r)) (.int kd z) true).run P w = .ok (.tuple #[v, .bool false]) w := by
 have hc : (Instr.checkKey es.isEmpty 10000 kt (.int kd z)).run P w = .ok () w := MapKept.run_checkKey (k := .int kd z) hk (by simp [MapKept.IsKey]) _ 9999
 simp [Instr.lookup, run_underlying hm, MapKept.run_getObj_map hb, hc, MapKept.run_findKey hk hf, hz, Result.andThen]
theorem wpl_makeMap (hgd : o.guard = none) (mty : TypeId) (h? : Option Operand) (ho : o.op = .makeMap mty h?) (hn : h? = none) (hs : Sat W0 w L)
  (h : ∀ w' r, Sat W0 w' (obj r (.map #[] 0) :: L) → wpList P ops Q rest (a.put o.dst (.map (some r))) w') : wpList P ops Q (o :: rest) a w := by
 subst hn
 refine wpList_plain hgd fun _ hK => ?_
 unfold Oper.wp execOp
 simp only [ho, Option.map_none, Sem.run_bind, Sem.run_pure, Result.andThen_ok, show (Instr.makeMap mty none).run P w = .ok (.map (some w.heap.size)) (w.alloc (.map #[] 0)) from rfl]
 exact hK _ _ (h _ _ (hs.allocObj (.map #[] 0) rfl rfl))
theorem wpl_mapPut (hgd : o.guard = none) (hdst : o.dst = none) (mty : TypeId) (mm kk vv : Operand) (ho : o.op = .mapUpdate mty mm kk vv ∨ o.op = .insert mty mm kk vv) {kt et : TypeId} {kd : IntKind} {r clock : Nat} {es : Array MapEntry} {z : Int} {val : Value}
  (hm : P.underlying mty = some (.map kt et)) (hk : P.underlying kt = some (.int kd)) (hs : Sat W0 w (obj r (.map es clock) :: L)) (hmv : a.eval mm = .map (some r)) (hkv : a.eval kk = .int kd z) (hvv : a.eval vv = val) (hf : Instr.findNow (.int kd) (.int kd z) es.toList 0 = some none)
  (h : ∀ w', Sat W0 w' (obj r (.map (es.push { key := .int kd z, val := val, born := clock }) (clock + 1)) :: L) → wpList P ops Q rest a w') : wpList P ops Q (o :: rest) a w := by
 refine wpList_plain hgd fun _ hK => ?_
 have hr := run_mapPut (P := P) (val := val) hm hk hs.obj.1 hf
 unfold Oper.wp execOp
 rcases ho with ho | ho
 all_goals
  simp only [ho, hmv, hkv, hvv, Sem.run_bind, Sem.run_pure, Result.andThen_ok, hr]
  refine hK _ _ ?_
  rw [hdst]
  exact h _ (hs.putObj _ rfl)
end
end Go.Sep

/- The ideal vault: what it calls: copies of bytes, tags of whole messages, the table of what each kind does; under the conditions that each names. -/
namespace Go.Proofs.YtpiiklfnakkdiaaGreat
open Go.RowKit Go.Sep Go.Bv Go.Kec Go.Aes Go.Sha
set_option linter.unusedVariables false
set_option linter.unusedSimpArgs false
@[go_sem] theorem eqlSl0 (n c : Nat) (w : World) : (binOp .eql 24 (.slice none n c) (.slice none 0 0)).run Tryz.prog w = .ok (.bool true) w := by kernel_rfl
@[go_sem] theorem eqlSl1 (p : Addr) (n c : Nat) (w : World) : (binOp .eql 24 (.slice (some p) n c) (.slice none 0 0)).run Tryz.prog w = .ok (.bool false) w := by kernel_rfl
set_option maxRecDepth 100000 in
set_option maxHeartbeats 1000000 in
theorem bClone {W0 w : World} {L : List Assn} {m : Bool} {pp : Option Addr} {n cap : Nat} (bs : List Byte) (hn : bs.length = n) (hb : n ≤ 140737488355328) (hs : Sat W0 w (bytes m pp bs :: L)) :
  Calls Tryz.prog 47 #[.slice pp n cap] w fun e w' => ∃ q c, e = .returned (.slice q n c) ∧ Sat W0 w' (row q c 1 n (u8s bs) :: bytes m pp bs :: L) := by
 have h0 := bytesNone0 hs hn
 have HBB := Lib.hid hb; clear hb
 cases pp with
 | none =>
  have hn0 := h0 rfl
  subst hn0
  have hb0 : bs = [] := List.eq_nil_of_length_eq_zero hn
  subst hb0
  go_enter Tryz.func47, Tryz.ntmps47
  go_wp2
  go_ret
  exact ⟨none, 0, rfl, hs.rowNil 1⟩
 | some pa =>
  have hn' := Lib.hid hn; clear hn h0
  have t1 := hs.alloc #[] 5
  have t2 : Sat W0 (w.alloc (.cells #[] 5)) (row (some ⟨w.heap.size, 0, none⟩) 0 1 0 (u8s []) :: bytes m (some pa) bs :: L) := t1.rowMade (rest := []) (sz := 1) (n := 0) (cap := 0) rfl rfl (Nat.le_refl _) (Nat.zero_le _)
  clear t1
  go_enter Tryz.func47, Tryz.ntmps47
  go_wp2_with (refine wpl_app8 rfl (.tmp 5) (.tmp 6) rfl rfl rfl t2 hn'.out (by have := HBB.out; omega) ?_; intro p9 c9 w9 s9; clear t2)
  go_ret
  rw [Nat.zero_add, List.nil_append] at s9
  exact ⟨p9, c9, rfl, s9⟩
set_option maxHeartbeats 2000000 in
theorem kmTagF {W0 w : World} {L : List Assn} {m m2 m3 : Bool} {pk pc pp : Option Addr} {nk ck n cap np cp st r : Nat} {sv nv xv : Value} (key custom P : List Byte) (out : Nat) (xof : Bool) (hsv : sv = .int .i64 (st : Int)) (hnv : nv = .int .i64 (out : Int)) (hxv : xv = .bool xof) (h : kmOk st r)
  (hnk : key.length = nk) (hck : nk ≤ ck) (hckm : ck ≤ maxLen) (hbk : nk ≤ 100000000) (hn : custom.length = n) (hcap : n ≤ cap) (hcm : cap ≤ maxLen) (hb : n ≤ 100000000) (hP : P.length = np) (hcp : np ≤ cp) (hcpm : cp ≤ maxLen) (hbp : np ≤ 1000000000) (h0 : 0 < out) (h64 : out ≤ 64)
  (hs : Sat W0 w (bytes m pk key :: bytes m2 pc custom :: bytes m3 pp P :: L)) :
  Calls Tryz.prog 31 #[.pointer none, sv, .slice pk nk ck, .slice pc n cap, .slice pp np cp, nv, xv] w fun e w' => ∃ q, e = .returned (.tuple #[.slice (some ⟨q, 0, none⟩) out out, .int .i64 0]) ∧ Sat W0 w' (seg true q 0 (u8s (kmTag r (kmPre r key custom ++ P) out (kmBits xof out))) :: bytes m pk key :: bytes m2 pc custom :: bytes m3 pp P :: L) := by
 subst hsv hnv hxv
 have hnew := kmNew (L := bytes m3 pp P :: L) (pv := .pointer none) (ck := ck) (cap := cap) none [] key custom rfl rfl h hnk hck hckm hbk hn hcap hcm hb (by simp only [tot]; omega) (by simp) (Sat.sub (ledNone hs) .done)
 have hwr := fun (w : World) (X : List Assn) (c g : Nat) (s : Sat W0 w (ledO none [] :: bytes m3 pp P :: kmS c g st r (kmPre r key custom) X)) => kmWrite (pv := .pointer none) (cap := cp) none [] (kmPre r key custom) P rfl h hP hcp hcpm (by simp only [tot]; omega) (by simp) s
 have hsm := fun (w : World) (X : List Assn) (c g : Nat) (s : Sat W0 w (ledO none [] :: kmS c g st r (kmPre r key custom ++ P) X)) => kmSum (pv := .pointer none) none [] (kmPre r key custom ++ P) out xof rfl rfl rfl h h0 h64 (by simp only [tot]; omega) (by simp) s
 have g1 : ¬ (out : Int) < 0 := by omega
 have g2 : ¬ (65536 : Int) < (out : Int) := by omega
 have HN := Lib.hid (And.intro hnew (And.intro hwr hsm)); clear hnew hwr hsm h hnk hck hckm hbk hn hcap hcm hb hP hcp hcpm hbp h0 h64
 go_enter Tryz.func31, Tryz.ntmps31
 go_wp2_with fail
 refine HN.out.1.mono ?_
 rintro e w1 ⟨c, g, rfl, s1'⟩
 have s1 : Sat W0 w1 (ledO none [] :: bytes m3 pp P :: kmS c g st r (kmPre r key custom) (bytes m pk key :: bytes m2 pc custom :: L)) := by
  have s1e : Sat W0 w1 (ledO none [] :: _) := s1'.addEmp
  exact (Sat.sub (s1e) (by with_reducible repeat first | exact Fr1 | exact Fr2 | (apply Fr3; focus ((repeat (first | exact Tk1 | apply Tk2)); done)) | apply Fr4))
 clear hs s1'
 go_wp2_with fail
 refine (HN.out.2.1 _ _ _ _ s1).mono ?_
 rintro e w2 ⟨rfl, s2'⟩
 have s2 : Sat W0 w2 (ledO none [] :: kmS c g st r (kmPre r key custom ++ P) (bytes m3 pp P :: bytes m pk key :: bytes m2 pc custom :: L)) := by
  have s2e : Sat W0 w2 (ledO none [] :: bytes m3 pp P :: kmS c g st r (kmPre r key custom ++ P) (bytes m pk key :: bytes m2 pc custom :: L)) := s2'
  exact (Sat.sub (s2e) (by with_reducible repeat first | exact Fr1 | exact Fr2 | (apply Fr3; focus ((repeat (first | exact Tk1 | apply Tk2)); done)) | apply Fr4))
 clear s1 s2'
 go_wp2_with fail
 refine (HN.out.2.2 _ _ _ _ s2).mono ?_
 rintro e w3 ⟨q, rfl, s3⟩
 clear s2
 have HS := Lib.hid s3; clear s3
 go_wp2_with fail
 refine bodyPost_ret (v := .tuple #[.slice (some ⟨q, 0, none⟩) out out, .int .i64 0]) (by simp [results, Tryz.results31, go_sem]) rfl ⟨q, rfl, ?_⟩
 have s9 := HS.out
 exact (Sat.sub (s9) (by with_reducible repeat first | exact Fr1 | exact Fr2 | (apply Fr3; focus ((repeat (first | exact Tk1 | apply Tk2)); done)) | apply Fr4))
set_option maxHeartbeats 2000000 in
theorem cmTagF {W0 w : World} {L : List Assn} {m m3 : Bool} {pk pp : Option Addr} {nk ck np cp : Nat} (key P : List Byte) (hk : cmKey key) (hnk : key.length = nk) (hck : nk ≤ ck) (hckm : ck ≤ maxLen) (hP : P.length = np) (hcp : np ≤ cp) (hcpm : cp ≤ maxLen) (hbp : np ≤ 1000000000)
  (hs : Sat W0 w (bytes m pk key :: bytes m3 pp P :: L)) :
  Calls Tryz.prog 30 #[.pointer none, .slice pk nk ck, .slice pp np cp] w fun e w' => ∃ q, e = .returned (.tuple #[.slice (some ⟨q, 0, none⟩) 16 16, .int .i64 0]) ∧ Sat W0 w' (seg true q 0 (u8s (cmTag (aesEnc key.length (expand key)) (cmK1 key) (cmK2 key) (cmSt key P))) :: bytes m pk key :: bytes m3 pp P :: L) := by
 subst hnk
 have hk' := hk
 unfold cmKey at hk'
 have hnew := cmacNew (L := bytes m3 pp P :: L) (pv := .pointer none) (cap := ck) none [] key rfl rfl hk' hck hckm (by simp only [tot]; omega) (by simp) (Sat.sub (ledNone hs) .done)
 have hwr := fun (w : World) (X : List Assn) (b c : Nat) (s : Sat W0 w (ledO none [] :: bytes m3 pp P :: cmM b c key [] X)) => cmWriteM (pv := .pointer none) (cap := cp) none [] key [] P rfl hP hk hcp hcpm (by simp only [tot]; omega) (by simp) s
 have hsm := fun (w : World) (X : List Assn) (b c : Nat) (s : Sat W0 w (ledO none [] :: cmM b c key P X)) => cmSumM (pv := .pointer none) none [] key P rfl hk (by simp only [tot]; omega) (by simp) s
 have HN := Lib.hid (And.intro hnew (And.intro hwr hsm)); clear hnew hwr hsm hk hk' hck hckm hP hcp hcpm hbp
 go_enter Tryz.func30, Tryz.ntmps30
 go_wp2_with fail
 refine HN.out.1.mono ?_
 rintro e w1 ⟨b, c, rfl, s1'⟩
 have s1 : Sat W0 w1 (ledO none [] :: bytes m3 pp P :: cmM b c key [] (bytes m pk key :: L)) := by
  have s1e : Sat W0 w1 (ledO none [] :: cmM b c key [] (ledO none _ :: bytes m pk key :: bytes m3 pp P :: L)) := s1'.addEmp
  exact (Sat.sub (s1e) (by with_reducible repeat first | exact Fr1 | exact Fr2 | (apply Fr3; focus ((repeat (first | exact Tk1 | apply Tk2)); done)) | apply Fr4))
 clear hs s1'
 go_wp2_with fail
 refine (HN.out.2.1 _ _ _ _ s1).mono ?_
 rintro e w2 ⟨rfl, s2'⟩
 have s2 : Sat W0 w2 (ledO none [] :: cmM b c key P (bytes m3 pp P :: bytes m pk key :: L)) := by
  have s2e : Sat W0 w2 (ledO none [] :: bytes m3 pp P :: cmM b c key P (bytes m pk key :: L)) := s2'
  exact (Sat.sub (s2e) (by with_reducible repeat first | exact Fr1 | exact Fr2 | (apply Fr3; focus ((repeat (first | exact Tk1 | apply Tk2)); done)) | apply Fr4))
 clear s1 s2'
 go_wp2_with fail
 refine (HN.out.2.2 _ _ _ _ s2).mono ?_
 rintro e w3 ⟨q, rfl, s3⟩
 clear s2
 have HS := Lib.hid s3; clear s3
 go_wp2_with fail
 refine bodyPost_ret (v := .tuple #[.slice (some ⟨q, 0, none⟩) 16 16, .int .i64 0]) (by simp [results, Tryz.results30, go_sem]) rfl ⟨q, rfl, ?_⟩
 have s9 := HS.out
 exact (Sat.sub (s9) (by with_reducible repeat first | exact Fr1 | exact Fr2 | (apply Fr3; focus ((repeat (first | exact Tk1 | apply Tk2)); done)) | apply Fr4))
/-- The table of what each kind does. -/
def kindsM : Array MapEntry := #[⟨.int .u8 1, .func (.func 41) #[] #[], 0⟩, ⟨.int .u8 2, .func (.func 42) #[] #[], 1⟩, ⟨.int .u8 3, .func (.func 43) #[] #[], 2⟩, ⟨.int .u8 4, .func (.func 44) #[] #[], 3⟩, ⟨.int .u8 5, .func (.func 44) #[] #[], 4⟩, ⟨.int .u8 7, .func (.func 45) #[] #[], 5⟩, ⟨.int .u8 8, .func (.func 45) #[] #[], 6⟩, ⟨.int .u8 6, .func (.func 46) #[] #[], 7⟩, ⟨.int .u8 9, .func (.func 46) #[] #[], 8⟩, ⟨.int .u8 10, .func (.func 46) #[] #[], 9⟩]
set_option maxRecDepth 100000 in
set_option maxHeartbeats 2000000 in
theorem iKinds {W0 w : World} {L : List Assn} (hs : Sat W0 w L) :
  Calls Tryz.prog 26 #[] w fun e w' => ∃ r, e = .returned (.map (some r)) ∧ Sat W0 w' (obj r (.map kindsM 10) :: L) := by
 go_enter Tryz.func26, Tryz.ntmps26
 go_wp2_with (first | (refine wpl_makeMap rfl 64 none rfl rfl hs ?_; intro w1 r s0; clear hs) | (refine wpl_mapPut rfl rfl 64 (.tmp 1) (.const (.int .u8 1)) (.func 41) (.inr rfl) Tryz.underlying64 Tryz.underlying22 s0 rfl rfl rfl (by rfl) ?_; intro w2 s1; clear s0) | (refine wpl_mapPut rfl rfl 64 (.tmp 1) (.const (.int .u8 2)) (.func 42) (.inr rfl) Tryz.underlying64 Tryz.underlying22 s1 rfl rfl rfl (by rfl) ?_; intro w3 s2; clear s1) | (refine wpl_mapPut rfl rfl 64 (.tmp 1) (.const (.int .u8 3)) (.func 43) (.inr rfl) Tryz.underlying64 Tryz.underlying22 s2 rfl rfl rfl (by rfl) ?_; intro w4 s3; clear s2) | (refine wpl_mapPut rfl rfl 64 (.tmp 1) (.const (.int .u8 4)) (.func 44) (.inr rfl) Tryz.underlying64 Tryz.underlying22 s3 rfl rfl rfl (by rfl) ?_; intro w5 s4; clear s3) | (refine wpl_mapPut rfl rfl 64 (.tmp 1) (.const (.int .u8 5)) (.func 44) (.inr rfl) Tryz.underlying64 Tryz.underlying22 s4 rfl rfl rfl (by rfl) ?_; intro w6 s5; clear s4) | (refine wpl_mapPut rfl rfl 64 (.tmp 1) (.const (.int .u8 7)) (.func 45) (.inr rfl) Tryz.underlying64 Tryz.underlying22 s5 rfl rfl rfl (by rfl) ?_; intro w7 s6; clear s5) | (refine wpl_mapPut rfl rfl 64 (.tmp 1) (.const (.int .u8 8)) (.func 45) (.inr rfl) Tryz.underlying64 Tryz.underlying22 s6 rfl rfl rfl (by rfl) ?_; intro w8 s7; clear s6) | (refine wpl_mapPut rfl rfl 64 (.tmp 1) (.const (.int .u8 6)) (.func 46) (.inr rfl) Tryz.underlying64 Tryz.underlying22 s7 rfl rfl rfl (by rfl) ?_; intro w9 s8; clear s7) | (refine wpl_mapPut rfl rfl 64 (.tmp 1) (.const (.int .u8 9)) (.func 46) (.inr rfl) Tryz.underlying64 Tryz.underlying22 s8 rfl rfl rfl (by rfl) ?_; intro w10 s9; clear s8) | (refine wpl_mapPut rfl rfl 64 (.tmp 1) (.const (.int .u8 10)) (.func 46) (.inr rfl) Tryz.underlying64 Tryz.underlying22 s9 rfl rfl rfl (by rfl) ?_; intro w11 s10; clear s9))
 have HS := Lib.hid s10; clear s10
 go_ret
 exact ⟨r, rfl, HS.out⟩
end Go.Proofs.YtpiiklfnakkdiaaGreat
