
/- Layer 25's statements: what a session's tag must be, by the layers below; under the conditions that each names. -/
import Derived.Test.YtpiiklfnakkdiaaGreatIdl19
import Derived.Test.YtpiiklfnakkdiaaGreatGG
namespace Go.Proofs.YtpiiklfnakkdiaaGreat
open Go.RowKit Go.Sep Go.Bv Go.Kec Go.Aes Go.Sha
set_option linter.unusedVariables false
set_option linter.unusedSimpArgs false
set_option maxRecDepth 100000 in
set_option maxHeartbeats 16000000 in
theorem tag25W {W0 w : World} {L : List Assn} {m1 m2 m3 : Bool} {kq c2 mq : Option Addr} {kl cq cl c3 ml mc : Nat} {av : Value} (K : MKind) (key cu msg : List Byte) (o : Nat) (hf : K.fits key cu o) (hav : av = .int .u8 (K.alg : Int))
  (hkl : key.length = kl) (hcl : cu.length = cl) (hml : msg.length = ml) (h1 : kl ≤ cq) (h2 : cq ≤ maxLen) (h3 : cl ≤ c3) (h4 : c3 ≤ maxLen) (h5 : ml ≤ mc) (h6 : mc ≤ maxLen) (hb : ml ≤ 1000000000)
  (hs : Sat W0 w (bytes m1 kq key :: bytes m2 c2 cu :: bytes m3 mq msg :: L)) :
  Calls Tryz.prog 14 #[av, .int .i64 (o : Int), .slice kq kl cq, .slice c2 cl c3, .slice mq ml mc] w fun e w' => ∃ x c, e = .returned (.tuple #[.slice x o c, .bool true]) ∧ o ≤ c ∧ c ≤ maxLen ∧ Sat W0 w' (bytes true x (K.tag key cu o msg) :: bytes m1 kq key :: bytes m2 c2 cu :: bytes m3 mq msg :: L) := by
 have hbd := fits_bdI hf
 have hkb : kl ≤ 100000000 := by rw [← hkl]; exact hbd.1
 have hcb : cl ≤ 64 := by rw [← hcl]; exact hbd.2.1
 have ho1 := hbd.2.2.1
 have ho2 := hbd.2.2.2
 have g0 : ¬ (o : Int) < 0 := by omega
 clear hbd
 rcases K with (wide | wide) | _ | ⟨large | large, xof | xof⟩
 ·subst hav
  show Calls Tryz.prog 14 #[.int .u8 1, .int .i64 (o : Int), .slice kq kl cq, .slice c2 cl c3, .slice mq ml mc] w _
  have hx0 : o ≤ 32 := hf.2.1
  have gx : ¬ ((hsz false : Nat) : Int) < (o : Int) := by have : hsz false = 32 := rfl; omega
  have se : Sat W0 w (ledO none [] :: bytes m1 kq key :: bytes m2 c2 cu :: bytes m3 mq msg :: L) := hs.addEmp
  go_enter Tryz.func14, Tryz.ntmps14
  go_wp2_with fail
  refine (hmacTagF (L := bytes m2 c2 cu :: L) (pv := .pointer none) (av := .int .u8 1) (cap := cq) (cap2 := mc) false none [] key msg hkl hml rfl rfl h1 h2 h5 h6 (by simp only [tot]; omega) (by simp) (Sat.sub (se) (by with_reducible repeat first | exact Fr1 | exact Fr2 | (apply Fr3; focus ((repeat (first | exact Tk1 | apply Tk2)); done)) | apply Fr4))).mono ?_
  rintro e w1 ⟨xq, xc, rfl, hx1, hx2, s1'⟩
  have s1 : Sat W0 w1 (bytes true xq (hmac false key msg) :: bytes m1 kq key :: bytes m2 c2 cu :: bytes m3 mq msg :: L) := (Sat.sub (s1') (by with_reducible repeat first | exact Fr1 | exact Fr2 | (apply Fr3; focus ((repeat (first | exact Tk1 | apply Tk2)); done)) | apply Fr4))
  clear se hs s1'
  have goI : (o : Int) ≤ (xc : Int) := by have : 32 ≤ xc := hx1; omega
  have s2 := bytesTake o s1
  have HS := Lib.hid s2; clear s1 s2
  go_wp2_with fail
  go_ret2
  refine ⟨xq, xc, rfl, by omega, hx2, ?_⟩
  exact HS.out
 ·subst hav
  show Calls Tryz.prog 14 #[.int .u8 2, .int .i64 (o : Int), .slice kq kl cq, .slice c2 cl c3, .slice mq ml mc] w _
  have hx0 : o ≤ 64 := hf.2.1
  have gx : ¬ ((hsz true : Nat) : Int) < (o : Int) := by have : hsz true = 64 := rfl; omega
  have se : Sat W0 w (ledO none [] :: bytes m1 kq key :: bytes m2 c2 cu :: bytes m3 mq msg :: L) := hs.addEmp
  go_enter Tryz.func14, Tryz.ntmps14
  go_wp2_with fail
  refine (hmacTagF (L := bytes m2 c2 cu :: L) (pv := .pointer none) (av := .int .u8 2) (cap := cq) (cap2 := mc) true none [] key msg hkl hml rfl rfl h1 h2 h5 h6 (by simp only [tot]; omega) (by simp) (Sat.sub (se) (by with_reducible repeat first | exact Fr1 | exact Fr2 | (apply Fr3; focus ((repeat (first | exact Tk1 | apply Tk2)); done)) | apply Fr4))).mono ?_
  rintro e w1 ⟨xq, xc, rfl, hx1, hx2, s1'⟩
  have s1 : Sat W0 w1 (bytes true xq (hmac true key msg) :: bytes m1 kq key :: bytes m2 c2 cu :: bytes m3 mq msg :: L) := (Sat.sub (s1') (by with_reducible repeat first | exact Fr1 | exact Fr2 | (apply Fr3; focus ((repeat (first | exact Tk1 | apply Tk2)); done)) | apply Fr4))
  clear se hs s1'
  have goI : (o : Int) ≤ (xc : Int) := by have : 64 ≤ xc := hx1; omega
  have s2 := bytesTake o s1
  have HS := Lib.hid s2; clear s1 s2
  go_wp2_with fail
  go_ret2
  refine ⟨xq, xc, rfl, by omega, hx2, ?_⟩
  exact HS.out
 ·subst hav
  show Calls Tryz.prog 14 #[.int .u8 3, .int .i64 (o : Int), .slice kq kl cq, .slice c2 cl c3, .slice mq ml mc] w _
  have hx0 : o ≤ 16 := hf.2.1
  have gx : ¬ (16 : Int) < (o : Int) := by omega
  go_enter Tryz.func14, Tryz.ntmps14
  go_wp2_with fail
  refine (cmTagF (L := bytes m2 c2 cu :: L) (ck := cq) (cp := mc) key msg hf.2.2.2.2 hkl h1 h2 hml h5 h6 hb (Sat.sub (hs) (by with_reducible repeat first | exact Fr1 | exact Fr2 | (apply Fr3; focus ((repeat (first | exact Tk1 | apply Tk2)); done)) | apply Fr4))).mono ?_
  rintro e w1 ⟨xg, rfl, s1a⟩
  have s1b := bytesOf s1a
  obtain ⟨xq, hxq⟩ : ∃ xq : Option Addr, xq = some ⟨xg, 0, none⟩ := ⟨_, rfl⟩
  rw [← hxq] at s1b ⊢
  have s1 : Sat W0 w1 (bytes true xq (cmTag (aesEnc key.length (expand key)) (cmK1 key) (cmK2 key) (cmSt key msg)) :: bytes m1 kq key :: bytes m2 c2 cu :: bytes m3 mq msg :: L) := (Sat.sub (s1b) (by with_reducible repeat first | exact Fr1 | exact Fr2 | (apply Fr3; focus ((repeat (first | exact Tk1 | apply Tk2)); done)) | apply Fr4))
  clear hs s1a s1b hxq
  have goI : (o : Int) ≤ 16 := by omega
  have s2 := bytesTake o s1
  have HS := Lib.hid s2; clear s1 s2
  go_wp2_with fail
  go_ret2
  refine ⟨xq, 16, rfl, hx0, by decide, ?_⟩
  exact HS.out
 ·subst hav
  show Calls Tryz.prog 14 #[.int .u8 4, .int .i64 (o : Int), .slice kq kl cq, .slice c2 cl c3, .slice mq ml mc] w _
  have gx : ¬ (o : Int) < (o : Int) := by omega
  have hxl := (MKind.km false false).tag_len key cu o msg hf
  go_enter Tryz.func14, Tryz.ntmps14
  go_wp2_with fail
  refine (kmTagF (L := L) (ck := cq) (cap := c3) (cp := mc) (sv := .int .i64 128) (nv := .int .i64 (o : Int)) (xv := .bool false) key cu msg o false rfl rfl rfl (kst_ok false) hkl h1 h2 hkb hcl h3 h4 (by omega) hml h5 h6 hb (by omega) (by omega) hs).mono ?_
  rintro e w1 ⟨xg, rfl, s1a⟩
  have s1b := bytesOf s1a
  obtain ⟨xq, hxq⟩ : ∃ xq : Option Addr, xq = some ⟨xg, 0, none⟩ := ⟨_, rfl⟩
  rw [← hxq] at s1b ⊢
  have s1 : Sat W0 w1 (bytes true xq (kmTag (krt false) (kmPre (krt false) key cu ++ msg) o (kmBits false o)) :: bytes m1 kq key :: bytes m2 c2 cu :: bytes m3 mq msg :: L) := s1b
  clear hs s1a s1b hxq
  have goI : (o : Int) ≤ (o : Int) := by omega
  have HS := Lib.hid s1; clear s1
  have hom : o ≤ maxLen := by unfold maxLen; omega
  go_wp2_with fail
  go_ret2
  exact ⟨xq, o, rfl, Nat.le_refl _, hom, HS.out⟩
 ·subst hav
  show Calls Tryz.prog 14 #[.int .u8 6, .int .i64 (o : Int), .slice kq kl cq, .slice c2 cl c3, .slice mq ml mc] w _
  have gx : ¬ (o : Int) < (o : Int) := by omega
  have hxl := (MKind.km false true).tag_len key cu o msg hf
  go_enter Tryz.func14, Tryz.ntmps14
  go_wp2_with fail
  refine (kmTagF (L := L) (ck := cq) (cap := c3) (cp := mc) (sv := .int .i64 128) (nv := .int .i64 (o : Int)) (xv := .bool true) key cu msg o true rfl rfl rfl (kst_ok false) hkl h1 h2 hkb hcl h3 h4 (by omega) hml h5 h6 hb (by omega) (by omega) hs).mono ?_
  rintro e w1 ⟨xg, rfl, s1a⟩
  have s1b := bytesOf s1a
  obtain ⟨xq, hxq⟩ : ∃ xq : Option Addr, xq = some ⟨xg, 0, none⟩ := ⟨_, rfl⟩
  rw [← hxq] at s1b ⊢
  have s1 : Sat W0 w1 (bytes true xq (kmTag (krt false) (kmPre (krt false) key cu ++ msg) o (kmBits true o)) :: bytes m1 kq key :: bytes m2 c2 cu :: bytes m3 mq msg :: L) := s1b
  clear hs s1a s1b hxq
  have goI : (o : Int) ≤ (o : Int) := by omega
  have HS := Lib.hid s1; clear s1
  have hom : o ≤ maxLen := by unfold maxLen; omega
  go_wp2_with fail
  go_ret2
  exact ⟨xq, o, rfl, Nat.le_refl _, hom, HS.out⟩
 ·subst hav
  show Calls Tryz.prog 14 #[.int .u8 5, .int .i64 (o : Int), .slice kq kl cq, .slice c2 cl c3, .slice mq ml mc] w _
  have gx : ¬ (o : Int) < (o : Int) := by omega
  have hxl := (MKind.km true false).tag_len key cu o msg hf
  go_enter Tryz.func14, Tryz.ntmps14
  go_wp2_with fail
  refine (kmTagF (L := L) (ck := cq) (cap := c3) (cp := mc) (sv := .int .i64 256) (nv := .int .i64 (o : Int)) (xv := .bool false) key cu msg o false rfl rfl rfl (kst_ok true) hkl h1 h2 hkb hcl h3 h4 (by omega) hml h5 h6 hb (by omega) (by omega) hs).mono ?_
  rintro e w1 ⟨xg, rfl, s1a⟩
  have s1b := bytesOf s1a
  obtain ⟨xq, hxq⟩ : ∃ xq : Option Addr, xq = some ⟨xg, 0, none⟩ := ⟨_, rfl⟩
  rw [← hxq] at s1b ⊢
  have s1 : Sat W0 w1 (bytes true xq (kmTag (krt true) (kmPre (krt true) key cu ++ msg) o (kmBits false o)) :: bytes m1 kq key :: bytes m2 c2 cu :: bytes m3 mq msg :: L) := s1b
  clear hs s1a s1b hxq
  have goI : (o : Int) ≤ (o : Int) := by omega
  have HS := Lib.hid s1; clear s1
  have hom : o ≤ maxLen := by unfold maxLen; omega
  go_wp2_with fail
  go_ret2
  exact ⟨xq, o, rfl, Nat.le_refl _, hom, HS.out⟩
 ·subst hav
  show Calls Tryz.prog 14 #[.int .u8 7, .int .i64 (o : Int), .slice kq kl cq, .slice c2 cl c3, .slice mq ml mc] w _
  have gx : ¬ (o : Int) < (o : Int) := by omega
  have hxl := (MKind.km true true).tag_len key cu o msg hf
  go_enter Tryz.func14, Tryz.ntmps14
  go_wp2_with fail
  refine (kmTagF (L := L) (ck := cq) (cap := c3) (cp := mc) (sv := .int .i64 256) (nv := .int .i64 (o : Int)) (xv := .bool true) key cu msg o true rfl rfl rfl (kst_ok true) hkl h1 h2 hkb hcl h3 h4 (by omega) hml h5 h6 hb (by omega) (by omega) hs).mono ?_
  rintro e w1 ⟨xg, rfl, s1a⟩
  have s1b := bytesOf s1a
  obtain ⟨xq, hxq⟩ : ∃ xq : Option Addr, xq = some ⟨xg, 0, none⟩ := ⟨_, rfl⟩
  rw [← hxq] at s1b ⊢
  have s1 : Sat W0 w1 (bytes true xq (kmTag (krt true) (kmPre (krt true) key cu ++ msg) o (kmBits true o)) :: bytes m1 kq key :: bytes m2 c2 cu :: bytes m3 mq msg :: L) := s1b
  clear hs s1a s1b hxq
  have goI : (o : Int) ≤ (o : Int) := by omega
  have HS := Lib.hid s1; clear s1
  have hom : o ≤ maxLen := by unfold maxLen; omega
  go_wp2_with fail
  go_ret2
  exact ⟨xq, o, rfl, Nat.le_refl _, hom, HS.out⟩
end Go.Proofs.YtpiiklfnakkdiaaGreat
