/- Hm5, Mac1, Mac2, Mac3, Mac4: texts that lie apart elsewhere, as one; each under the conditions that it names. -/
import Derived.Test.YtpiiklfnakkdiaaGreatGH
import Derived.Test.YtpiiklfnakkdiaaGreatGG
import Derived.Test.YtpiiklfnakkdiaaGreatHA
import Derived.Test.YtpiiklfnakkdiaaGreatGK

/- HMAC: wiped; under the conditions that it names. -/
namespace Go.Proofs.YtpiiklfnakkdiaaGreat
open Go.RowKit Go.Sep Go.Bv Go.Sha
set_option linter.unusedVariables false
set_option linter.unusedSimpArgs false
end Go.Proofs.YtpiiklfnakkdiaaGreat

/- Sessions (mac): what lies behind one; the makers of its parts; under the conditions that each names. -/
namespace Go.Sep
open Go.RowKit
/-- Assertions as one. -/
def big : List Assn → Assn
 | [] => emp
 | A :: L => sep A (big L)
theorem Take.mid {A : Assn} {L : List Assn} : ∀ (K : List Assn), Take A (K ++ A :: L) (K ++ L)
 | [] => .here
 | _ :: K => .there (Take.mid K)
theorem Fr.rot {A : Assn} {L : List Assn} : ∀ (K : List Assn), Fr (K ++ A :: L) (A :: (K ++ L))
 | [] => .done
 | _ :: K => .cons (.there .here) (Fr.rot K)
theorem Sat.bigOpen {W0 w : World} : ∀ {K L : List Assn}, Sat W0 w (big K :: L) → Sat W0 w (K ++ L)
 | [], L, h => h.tail
 | A :: K, L, h => by
  have h1 : Sat W0 w (A :: big K :: L) := Sat.sepOpen h
  have h2 : Sat W0 w (K ++ A :: L) := Sat.bigOpen (h1.pull 1)
  exact h2.sub (.cons (Take.mid K) .done)
theorem Sat.bigShut {W0 w : World} : ∀ {K L : List Assn}, Sat W0 w (K ++ L) → Sat W0 w (big K :: L)
 | [], L, h => h.addEmp
 | A :: K, L, h => by
  have h0 : Sat W0 w (A :: (K ++ L)) := h
  have h2 : Sat W0 w (big K :: A :: L) := Sat.bigShut (h0.sub (Fr.rot K))
  exact Sat.sepShut (h2.pull 1)
end Go.Sep
namespace Go.Aes
/-- Blocks worked off for so many bytes. -/
theorem cblocks_diff (l n : Nat) : cblocks (cwait 0 l) n = (l + n - 1) / 16 - (l - 1) / 16 := by
 unfold cblocks cwait
 by_cases h : 0 + l = 0
 ·rw [if_pos h]
  have : l = 0 := by omega
  subst this
  simp
 ·rw [if_neg h]; omega
end Go.Aes
namespace Go.Proofs.YtpiiklfnakkdiaaGreat
open Go.RowKit Go.Sep Go.Bv Go.Kec Go.Aes Go.Sha
set_option linter.unusedVariables false
set_option linter.unusedSimpArgs false
/-- A kind of session. -/
inductive MKind
 | hm (wide : Bool)
 | cm
 | km (large xof : Bool)
def kst (large : Bool) : Nat := if large then 256 else 128
def krt (large : Bool) : Nat := if large then 136 else 168
theorem kst_ok (large : Bool) : kmOk (kst large) (krt large) := by cases large <;> (unfold kmOk kst krt; simp)
def MKind.alg : MKind → Nat
 | .hm false => 1
 | .hm true => 2
 | .cm => 3
 | .km false false => 4
 | .km true false => 5
 | .km false true => 6
 | .km true true => 7
def MKind.most : MKind → Nat
 | .hm wide => hsz wide
 | .cm => 16
 | .km _ _ => 64
/-- What a key and a customization are to be. -/
def MKind.fits (K : MKind) (key custom : List Byte) (out : Nat) : Prop :=
 1 ≤ out ∧ out ≤ K.most ∧ key.length ≤ 100000000 ∧ (match K with | .hm _ => custom = [] | .cm => custom = [] ∧ (key.length = 16 ∨ key.length = 24 ∨ key.length = 32) | .km _ _ => custom.length ≤ 64)
/-- The event of a block worked on. -/
def MKind.ek : MKind → Int
 | .hm wide => evK wide
 | .cm => 5
 | .km _ _ => 3
def MKind.es (kl : Nat) : MKind → Int
 | .hm wide => evS wide
 | .cm => (kl : Int)
 | .km _ _ => 200
/-- Blocks worked on for so many bytes of a message. -/
def MKind.blk : MKind → Nat → Nat
 | .hm wide, n => n / bsz wide
 | .cm, n => (n - 1) / 16
 | .km large _, n => n / krt large
/-- What is told: the tag, and whatever stands behind it. -/
def cmSt (key msg : List Byte) : CSt := cfold (aesEnc key.length (expand key)) (nought16, nought16, 0) msg
def MKind.tag (K : MKind) (key custom : List Byte) (out : Nat) (msg : List Byte) : List Byte :=
 match K with
 | .hm wide => (hmac wide key msg).take out
 | .cm => (cmTag (aesEnc key.length (expand key)) (cmK1 key) (cmK2 key) (cmSt key msg)).take out
 | .km large xof => kmTag (krt large) (kmPre (krt large) key custom ++ msg) out (kmBits xof out)
/-- Blocks worked on for a tag. -/
def MKind.fin (K : MKind) (n out : Nat) : Nat :=
 match K with
 | .hm wide => endN wide n
 | .cm => 1
 | .km large xof => ((n + (rightB (kmBits xof out)).length) / krt large - n / krt large) + 1
def MKind.form (K : MKind) (key custom msg : List Byte) : List Byte :=
 match K with
 | .hm wide => macForm wide (blockKey wide key) msg
 | .cm => cmForm key.length (expand key) (cmK1 key) (cmK2 key) (cmSt key msg).1 (cmSt key msg).2.1 (cmSt key msg).2.2
 | .km large _ => spForm (spState (krt large) (kmPre (krt large) key custom ++ msg)).1 (spState (krt large) (kmPre (krt large) key custom ++ msg)).2 false
/-- A cipher's mac that was told a message. -/
abbrev cmM (b c : Nat) (key msg : List Byte) (L : List Assn) : List Assn := cmS b (.pointer (some ⟨c, 0, none⟩)) (cmK1 key) (cmK2 key) (cmSt key msg).1 (cmSt key msg).2.1 (cmSt key msg).2.2 (cipS c key.length (expand key) L)
def cmKey (key : List Byte) : Prop := key.length = 16 ∨ key.length = 24 ∨ key.length = 32
theorem expand_240 {key : List Byte} (h : cmKey key) : (expand key).length = 240 := by
 unfold cmKey at h
 exact expand_len key (key.length / 4) (by omega) (by omega) (by omega)
theorem cmSt_inv {key : List Byte} (h : cmKey key) (msg : List Byte) : (cmSt key msg).1.length = 16 ∧ (cmSt key msg).2.1.length = 16 ∧ (cmSt key msg).2.2 = cwait 0 msg.length := by
 have hk := h
 unfold cmKey at hk
 exact cfold_inv _ (fun x hx => aesEnc_len _ _ _ (expand_240 h) hx (by omega)) msg nought16 nought16 0 rfl rfl (by decide)
theorem cwait_le (n l : Nat) : cwait n l ≤ 16 := by unfold cwait; split <;> omega
theorem cmSt_append (key m p : List Byte) : cmSt key (m ++ p) = cfold (aesEnc key.length (expand key)) (cmSt key m) p := cfold_append _ _ m p
end Go.Proofs.YtpiiklfnakkdiaaGreat

/- Sessions (mac): kinds; what a session holds; under the conditions that each names. -/
namespace Go.Proofs.YtpiiklfnakkdiaaGreat
open Go.RowKit Go.Sep Go.Bv Go.Kec Go.Aes Go.Sha
set_option linter.unusedVariables false
set_option linter.unusedSimpArgs false
def MKind.cust : MKind → Bool
 | .km _ _ => true
 | _ => false
end Go.Proofs.YtpiiklfnakkdiaaGreat

/- Sessions (mac): what a session holds, and Begin; under the conditions that each names. -/
namespace Go.Proofs.YtpiiklfnakkdiaaGreat
open Go.RowKit Go.Sep Go.Bv Go.Kec Go.Aes Go.Sha
set_option linter.unusedVariables false
set_option linter.unusedSimpArgs false
end Go.Proofs.YtpiiklfnakkdiaaGreat

/- Sessions (mac): Begin; under the conditions that each names. -/
namespace Go.Proofs.YtpiiklfnakkdiaaGreat
open Go.RowKit Go.Sep Go.Bv Go.Kec Go.Aes Go.Sha
set_option linter.unusedVariables false
set_option linter.unusedSimpArgs false
def MKind.keyOk (K : MKind) (n : Nat) : Bool :=
 match K with
 | .cm => n == 16 || n == 24 || n == 32
 | _ => true
/-- What Begin answers, of a known algorithm. -/
def MKind.code (K : MKind) (kl cl : Nat) (out : Int) : Int :=
 if K.keyOk kl = false then 7 else if 0 < cl ∧ K.cust = false then 2 else if 64 < cl then 9 else if out < 1 ∨ (K.most : Int) < out then 11 else 0
end Go.Proofs.YtpiiklfnakkdiaaGreat
