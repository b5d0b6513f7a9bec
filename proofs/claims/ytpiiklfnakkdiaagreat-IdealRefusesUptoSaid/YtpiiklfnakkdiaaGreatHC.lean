/- Mac5, Mac6, Ct, Mac7: texts that lie apart elsewhere, as one; each under the conditions that it names. -/
import Derived.Test.YtpiiklfnakkdiaaGreatHB

/- Sessions (mac): what Begin refuses; under the conditions that each names. -/
namespace Go.Proofs.YtpiiklfnakkdiaaGreat
open Go.RowKit Go.Sep Go.Bv Go.Kec Go.Aes Go.Sha
set_option linter.unusedVariables false
set_option linter.unusedSimpArgs false
end Go.Proofs.YtpiiklfnakkdiaaGreat

/- Sessions (mac): told bytes; under the conditions that each names. -/
namespace Go.Proofs.YtpiiklfnakkdiaaGreat
open Go.RowKit Go.Sep Go.Bv Go.Kec Go.Aes Go.Sha
set_option linter.unusedVariables false
set_option linter.unusedSimpArgs false
theorem cmWriteM {W0 w : World} {L : List Assn} {m : Bool} {b c n cap : Nat} {pp : Option Addr} {pv : Value} (p : Option Nat) (rs : List Run3) (key msg P : List Byte) (hp : pv = ptrO p) (hP : P.length = n) (hk : cmKey key) (hcap : n ≤ cap) (hcm : cap ≤ maxLen) (hb : tot rs + n + 32 ≤ 4611686018427387904) (hl : rs.length + 1 ≤ 4294967296)
  (hs : Sat W0 w (ledO p rs :: bytes m pp P :: cmM b c key msg L)) :
  Calls Tryz.prog 51 #[.pointer (some ⟨b, 0, none⟩), pv, .slice pp n cap] w fun e w' => e = .returned (.int .i64 0) ∧ Sat W0 w' (ledO p (noteN rs 5 (key.length : Int) ((msg.length + n - 1) / 16 - (msg.length - 1) / 16)) :: bytes m pp P :: cmM b c key (msg ++ P) L) := by
 obtain ⟨h1, h2, h3⟩ := cmSt_inv hk msg
 have hk' := hk
 unfold cmKey at hk'
 have := cmacWrite p rs (expand key) (cmK1 key) (cmK2 key) (cmSt key msg).1 (cmSt key msg).2.1 P (cmSt key msg).2.2 hp hP (expand_240 hk) h1 h2 (by rw [h3]; exact cwait_le _ _) (by omega) (by omega) hcap hcm hb hl hs
 rw [h3, cblocks_diff, ← h3] at this
 unfold cmM
 rw [cmSt_append]
 exact this
theorem cmSumM {W0 w : World} {L : List Assn} {b c : Nat} {pv : Value} (p : Option Nat) (rs : List Run3) (key msg : List Byte) (hp : pv = ptrO p) (hk : cmKey key) (hb : tot rs + 1 ≤ 4611686018427387904) (hl : rs.length ≤ 4294967296) (hs : Sat W0 w (ledO p rs :: cmM b c key msg L)) :
  Calls Tryz.prog 52 #[.pointer (some ⟨b, 0, none⟩), pv] w fun e w' => ∃ g, e = .returned (.tuple #[.slice (some ⟨g, 0, none⟩) 16 16, .int .i64 0]) ∧ Sat W0 w' (seg true g 0 (u8s (cmTag (aesEnc key.length (expand key)) (cmK1 key) (cmK2 key) (cmSt key msg))) :: ledO p (note rs 5 (key.length : Int) 1) :: cmM b c key msg L) := by
 obtain ⟨h1, h2, h3⟩ := cmSt_inv hk msg
 have hk' := hk
 unfold cmKey at hk'
 exact cmacSum p rs (expand key) (cmK1 key) (cmK2 key) (cmSt key msg).1 (cmSt key msg).2.1 (cmSt key msg).2.2 hp (expand_240 hk) (dbl_len _) (dbl_len _) h1 h2 (by rw [h3]; exact cwait_le _ _) (by omega) (by omega) hb hl hs
end Go.Proofs.YtpiiklfnakkdiaaGreat

/- Bytes held against each other in equal time (ct.Equal); under the conditions that each names. -/
namespace Go.Proofs.YtpiiklfnakkdiaaGreat
open Go.RowKit Go.Sep Go.Bv Go.Kec Go.Aes Go.Sha
set_option linter.unusedVariables false
set_option linter.unusedSimpArgs false
end Go.Proofs.YtpiiklfnakkdiaaGreat

/- Sessions (mac): a tag told, a tag verified; under the conditions that each names. -/
namespace Go.Proofs.YtpiiklfnakkdiaaGreat
open Go.RowKit Go.Sep Go.Bv Go.Kec Go.Aes Go.Sha
set_option linter.unusedVariables false
set_option linter.unusedSimpArgs false
theorem cmTag_len (E : List Byte → List Byte) (hE : ∀ x, x.length = 16 → (E x).length = 16) (k1 k2 : List Byte) (s : CSt) (h1 : k1.length = 16) (h2 : k2.length = 16) (hs1 : s.1.length = 16) (hs2 : s.2.1.length = 16) : (cmTag E k1 k2 s).length = 16 := by
 unfold cmTag
 refine hE _ ?_
 have hA : (if s.2.2 < 16 then s.2.1.set s.2.2 128 else s.2.1).length = 16 := by split <;> simp [hs2]
 have hB : (if s.2.2 < 16 then k2 else k1).length = 16 := by split <;> assumption
 have hAB := xorL_len _ _ (hA.trans hB.symm)
 rw [xorL_len _ _ (by rw [hAB, hA, hs1]), hs1]
theorem MKind.tag_len (K : MKind) (key custom : List Byte) (out : Nat) (msg : List Byte) (hf : K.fits key custom out) : (K.tag key custom out msg).length = out := by
 obtain ⟨_, h2, _, h4⟩ := hf
 cases K with
 | hm wide => simp only [MKind.tag, MKind.most] at *; rw [List.length_take, hmac_len]; omega
 | cm =>
  obtain ⟨_, hk⟩ := h4
  obtain ⟨h1, h3, _⟩ := cmSt_inv hk msg
  have hl := cmTag_len (aesEnc key.length (expand key)) (fun x hx => aesEnc_len _ _ _ (expand_240 hk) hx (by omega)) (cmK1 key) (cmK2 key) (cmSt key msg) (dbl_len _) (dbl_len _) h1 h3
  simp only [MKind.tag, MKind.most] at *
  rw [List.length_take, hl]; omega
 | km large xof => simp only [MKind.tag, MKind.most] at *; exact kmTag_len _ _ _ _ (by omega)
end Go.Proofs.YtpiiklfnakkdiaaGreat
