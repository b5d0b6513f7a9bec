
/- Sessions (mac): verified, their form, wiped; under the conditions that each names. -/
import Derived.Test.YtbefjaodpbgpcaaGreatHC
namespace Go.Proofs.YtbefjaodpbgpcaaGreat
open Go.RowKit Go.Sep Go.Bv Go.Kec Go.Aes Go.Sha
set_option linter.unusedVariables false
set_option linter.unusedSimpArgs false
set_option maxHeartbeats 2000000 in
theorem macVerifyLen {W0 w : World} {L : List Assn} {s out n cap : Nat} {pt : Option Addr} {pv : Value} {K : MKind} {key custom msg : List Byte} (ho : 1 ≤ out) (hn : n ≠ out) (hs : Sat W0 w (ses K s key custom out msg :: L)) :
  Calls Tryz.prog 81 #[.pointer (some ⟨s, 0, none⟩), pv, .slice pt n cap] w fun e w' => e = .returned (.tuple #[.bool false, .int .i64 11]) ∧ w' = w := by
 have hno := macNone ho hs
 obtain ⟨_, c6, z0⟩ := sesFacts hs
 have e0 : ((n : Int) != (out : Int)) = true := by rw [bne_iff_ne]; omega
 have HN := Lib.hid hno; clear hno hs hn
 go_enter Tryz.func81, Tryz.ntmps81
 go_wp2_with fail
 refine HN.out.mono ?_
 rintro e w1 ⟨rfl, rfl⟩
 go_wp2_with fail
 exact bodyPost_ret (v := .tuple #[.bool false, .int .i64 11]) (by simp [results, Tryz.results81, go_sem]) rfl ⟨rfl, rfl⟩
set_option maxRecDepth 100000 in
set_option maxHeartbeats 2000000 in
theorem macVerify {W0 w : World} {L : List Assn} {m : Bool} {s out cap : Nat} {pt : Option Addr} {pv : Value} (K : MKind) (p : Option Nat) (rs : List Run3) (key custom msg tag : List Byte) (hp : pv = ptrO p) (hf : K.fits key custom out) (hR : Roomy rs) (hnb : msg.length ≤ 1000000000) (ht : tag.length = out)
  (hs : Sat W0 w (ledO p rs :: bytes m pt tag :: ses K s key custom out msg :: L)) :
  Calls Tryz.prog 81 #[.pointer (some ⟨s, 0, none⟩), pv, .slice pt out cap] w fun e w' => e = .returned (.tuple #[.bool (decide (K.tag key custom out msg = tag)), .int .i64 0]) ∧ Sat W0 w' (ledO p (note (noteN rs K.ek (K.es key.length) (K.fin msg.length out)) 6 (out : Int) 1) :: bytes m pt tag :: ses K s key custom out msg :: L) := by
 subst hp
 have htl := K.tag_len key custom out msg hf
 have hno := macNone hf.1 (hs.f : Sat W0 w (ses K s key custom out msg :: []))
 obtain ⟨_, c6, z0⟩ := sesFacts (hs.f : Sat W0 w (ses K s key custom out msg :: []))
 have hsm := macSum (L := bytes m pt tag :: L) (pv := ptrO p) K p rs key custom msg rfl hf hR hnb hs.f
 have ho64 : out ≤ 64 := by
  have h2 := hf.2.1
  cases K with
  | hm wide => cases wide <;> simp only [MKind.most, hsz] at h2 <;> omega
  | cm => simp only [MKind.most] at h2; omega
  | km large xof => simp only [MKind.most] at h2; omega
 have hfn := K.fin_tot msg.length out
 have htn := tot_noteN rs K.ek (K.es key.length) (K.fin msg.length out)
 have hln := noteN_len rs K.ek (K.es key.length) (K.fin msg.length out)
 obtain ⟨hR1, hR2⟩ := hR
 obtain ⟨R1, hR1'⟩ : ∃ R, R = noteN rs K.ek (K.es key.length) (K.fin msg.length out) := ⟨_, rfl⟩
 rw [← hR1'] at hsm htn hln ⊢
 obtain ⟨T, hT⟩ : ∃ T, T = K.tag key custom out msg := ⟨_, rfl⟩
 rw [← hT] at hsm htl ⊢
 have hct := fun (w : World) (q : Option Addr) (c : Nat) (X : List Assn) (s : Sat W0 w (ledO p R1 :: bytes true q T :: bytes m pt tag :: X)) => ctEqual (ca := c) (cb := cap) (pv := ptrO p) p R1 T tag rfl htl ht (by omega) (by omega) (by omega) s
 have HN := Lib.hid (And.intro hno (And.intro hsm hct)); clear hno hsm hct htl hf hnb ht hfn htn hln hR1 hR2 hR1' hT hs ho64
 go_enter Tryz.func81, Tryz.ntmps81
 go_wp2_with fail
 refine HN.out.1.mono ?_
 rintro e w1 ⟨rfl, rfl⟩
 go_wp2_with fail
 refine HN.out.2.1.mono ?_
 rintro e w2 ⟨q, c, rfl, s2⟩
 clear c6 z0
 obtain ⟨_, _, _, s3⟩ := rowBytes s2
 clear s2
 go_wp2_with fail
 refine (HN.out.2.2 _ q c (ses K s key custom out msg :: L) s3.f).mono ?_
 rintro e w4 ⟨rfl, s4⟩
 clear s3
 have HS := Lib.hid s4; clear s4
 go_wp2_with fail
 refine bodyPost_ret (v := .tuple #[.bool (decide (T = tag)), .int .i64 0]) (by simp [results, Tryz.results81, go_sem]) rfl ⟨rfl, ?_⟩
 have s5 := HS.out
 exact s5.f
theorem MKind.form_len (K : MKind) (key custom : List Byte) (msg : List Byte) : True := trivial
set_option maxRecDepth 100000 in
set_option maxHeartbeats 4000000 in
theorem sesForm {W0 w : World} {L : List Assn} {s out : Nat} (K : MKind) (key custom msg : List Byte) (hf : K.fits key custom out) (hnb : msg.length ≤ 1000000000)
  (hs : Sat W0 w (ses K s key custom out msg :: L)) :
  Calls Tryz.prog 94 #[.pointer (some ⟨s, 0, none⟩)] w fun e w' => ∃ q c, e = .returned (.slice q (K.formN key.length) c) ∧ Sat W0 w' (row q c 1 (K.formN key.length) (u8s (K.form key custom msg)) :: ses K s key custom out msg :: L) := by
 obtain ⟨hf1, hf2, hf3, hf4⟩ := hf
 have hno := macNone hf1 (hs.f : Sat W0 w (ses K s key custom out msg :: []))
 cases K with
 | hm wide =>
  obtain ⟨c, gb, s1⟩ := hmOpen hs
  clear hs
  have z0 := s1.lt (by simp [dHm])
  have c0 := s1.at 4 rfl
  have hfo := hmacForm (c := c) (L := seg true s 0 (dHm c gb ++ [.int .u8 ((MKind.hm wide).alg : Int), .int .i64 (out : Int)]) :: seg true gb 0 [.pointer (some ⟨c, 0, none⟩)] :: L) wide (blockKey wide key) msg (by omega) s1.f
  have HN := Lib.hid (And.intro hno hfo); clear hno hfo s1 hf2 hf3 hf4 hnb
  go_enter Tryz.func94, Tryz.ntmps94
  go_wp2_with fail
  refine HN.out.1.mono ?_
  rintro e w1 ⟨rfl, rfl⟩
  go_wp2_with fail
  refine HN.out.2.mono ?_
  rintro e w2 ⟨q, cq, rfl, s2⟩
  have HS := Lib.hid s2; clear s2 c0 z0
  go_wp2_with fail
  go_ret
  have s9 := HS.out
  refine ⟨q, cq, rfl, ?_⟩
  have s10 := hmShut (custom := custom) (s9.f : Sat W0 _ (hmSes wide s c gb key out msg (row q cq 1 (3 * fsz wide) (u8s (macForm wide (blockKey wide key) msg)) :: L)))
  simp only [MKind.form, MKind.formN]
  exact s10.f
 | cm =>
  obtain ⟨b, gb, c, s1⟩ := cmOpen hs
  clear hs
  obtain ⟨_, hkl⟩ := hf4
  have z0 := s1.lt (by simp [dCm])
  have c0 := s1.at 4 rfl
  have hfo := cmFormM (b := b) (c := c) (L := seg true s 0 (dCm b gb ++ [.int .u8 (MKind.cm.alg : Int), .int .i64 (out : Int)]) :: seg true gb 0 [.pointer (some ⟨b, 0, none⟩)] :: L) key msg hkl s1.f
  have HN := Lib.hid (And.intro hno hfo); clear hno hfo s1 hf2 hf3 hkl hnb
  go_enter Tryz.func94, Tryz.ntmps94
  go_wp2_with fail
  refine HN.out.1.mono ?_
  rintro e w1 ⟨rfl, rfl⟩
  go_wp2_with fail
  refine HN.out.2.mono ?_
  rintro e w2 ⟨q, cq, rfl, s2⟩
  have HS := Lib.hid s2; clear s2 c0 z0
  go_wp2_with fail
  go_ret
  have s9 := HS.out
  refine ⟨q, cq, rfl, ?_⟩
  have s10 := cmShut (custom := custom) (s9.f : Sat W0 _ (cmSes s b gb c key out msg (row q cq 1 (16 * (key.length / 4 + 7) + 65) (u8s (cmForm key.length (expand key) (cmK1 key) (cmK2 key) (cmSt key msg).1 (cmSt key msg).2.1 (cmSt key msg).2.2)) :: L)))
  simp only [MKind.form, MKind.formN]
  exact s10.f
 | km large xof =>
  obtain ⟨c, gb, go, gx, g, s1⟩ := kmOpen hs
  clear hs
  have z0 := s1.lt (by simp [dKm])
  have c0 := s1.at 4 rfl
  have hfo := kmForm (c := c) (g := g) (L := seg true s 0 (dKm c gb go gx ++ [.int .u8 ((MKind.km large xof).alg : Int), .int .i64 (out : Int)]) :: seg true gb 0 [.pointer (some ⟨c, 0, none⟩)] :: seg true go 0 [.int .i64 (out : Int)] :: seg true gx 0 [.bool xof] :: L) (kmPre (krt large) key custom ++ msg) (kst_ok large) s1.f
  have HN := Lib.hid (And.intro hno hfo); clear hno hfo s1 hf2 hf3 hf4 hnb
  go_enter Tryz.func94, Tryz.ntmps94
  go_wp2_with fail
  refine HN.out.1.mono ?_
  rintro e w1 ⟨rfl, rfl⟩
  go_wp2_with fail
  refine HN.out.2.mono ?_
  rintro e w2 ⟨q, cq, rfl, s2⟩
  have HS := Lib.hid s2; clear s2 c0 z0
  go_wp2_with fail
  go_ret
  have s9 := HS.out
  refine ⟨some ⟨q, 0, none⟩, cq, rfl, ?_⟩
  have s10 := kmShut (s9.f : Sat W0 _ (kmSes large xof s c gb go gx g key custom out msg (row (some ⟨q, 0, none⟩) cq 1 203 (u8s (spForm (spState (krt large) (kmPre (krt large) key custom ++ msg)).1 (spState (krt large) (kmPre (krt large) key custom ++ msg)).2 false)) :: L)))
  simp only [MKind.form, MKind.formN]
  exact s10.f
/-- A session that was wiped. -/
def wipedS (s : Nat) : Assn := seg true s 0 [Value.nilFunc, .nilFunc, .nilFunc, .nilFunc, .nilFunc, .int .u8 0, .int .i64 0]
set_option maxRecDepth 100000 in
set_option maxHeartbeats 4000000 in
theorem macWipe {W0 w : World} {L : List Assn} {s out : Nat} {pv : Value} (K : MKind) (p : Option Nat) (rs : List Run3) (key custom msg : List Byte) (hp : pv = ptrO p) (hf : K.fits key custom out) (hR : Roomy rs) (hnb : msg.length ≤ 1000000000)
  (hs : Sat W0 w (ledO p rs :: ses K s key custom out msg :: L)) :
  Calls Tryz.prog 74 #[.pointer (some ⟨s, 0, none⟩), pv] w fun e w' => e = .returned (.int .i64 0) ∧ Sat W0 w' (ledO p (note rs 8 (K.formN key.length : Int) 1) :: wipedS s :: L) := by
 subst hp
 obtain ⟨hR1, hR2⟩ := hR
 obtain ⟨hf1, hf2, hf3, hf4⟩ := hf
 have hno := macNone hf1 (hs.f : Sat W0 w (ses K s key custom out msg :: []))
 have s0 : Sat W0 w (ses K s key custom out msg :: ledO p rs :: L) := hs.f
 clear hs
 cases K with
 | hm wide =>
  obtain ⟨c, gb, s1⟩ := hmOpen s0
  clear s0
  have z0 := s1.lt (by simp [dHm])
  have c0 := s1.at 3 rfl
  have hwp := hmacWipe (pv := ptrO p) (c := c) (L := seg true s 0 (dHm c gb ++ [.int .u8 ((MKind.hm wide).alg : Int), .int .i64 (out : Int)]) :: seg true gb 0 [.pointer (some ⟨c, 0, none⟩)] :: L) wide p rs (blockKey wide key) msg rfl (by omega) (by omega) (by omega) s1.f
  have HN := Lib.hid (And.intro hno hwp); clear hno hwp s1 hf2 hf3 hf4 hR1 hR2 hnb
  go_enter Tryz.func74, Tryz.ntmps74
  go_wp2_with fail
  refine HN.out.1.mono ?_
  rintro e w1 ⟨rfl, rfl⟩
  go_wp2_with fail
  refine HN.out.2.mono ?_
  rintro e w2 ⟨rfl, s2⟩
  clear c0 z0
  have s3 : Sat W0 w2 (seg true s 0 (dHm c gb ++ [.int .u8 ((MKind.hm wide).alg : Int), .int .i64 (out : Int)]) :: ledO p (note rs 8 ((3 * fsz wide : Nat) : Int) 1) :: L) := s2.f
  clear s2
  have f0 := s3.fr 0 (by simp [dHm])
  have f1 := s3.fr 1 (by simp [dHm])
  have f2 := s3.fr 2 (by simp [dHm])
  have f3 := s3.fr 3 (by simp [dHm])
  have f4 := s3.fr 4 (by simp [dHm])
  have f5 := s3.fr 5 (by simp [dHm])
  have f6 := s3.fr 6 (by simp [dHm])
  have c0 := s3.at 0 rfl
  have c1 := s3.at 1 rfl
  have c2 := s3.at 2 rfl
  have c3 := s3.at 3 rfl
  have c4 := s3.at 4 rfl
  have c5 := s3.at 5 rfl
  have c6 := s3.at 6 rfl
  have z0 := s3.lt (by simp [dHm])
  have s4 := ((((((s3.store (i := 0) (by simp [dHm]) .nilFunc (q := 0) rfl).store (i := 1) (by simp [dHm]) .nilFunc (q := 1) rfl).store (i := 2) (by simp [dHm]) .nilFunc (q := 2) rfl).store (i := 3) (by simp [dHm]) .nilFunc (q := 3) rfl).store (i := 4) (by simp [dHm]) .nilFunc (q := 4) rfl).store (i := 5) (by simp [dHm]) (.int .u8 0) (q := 5) rfl).store (i := 6) (by simp [dHm]) (.int .i64 0) (q := 6) rfl
  have HS := Lib.hid s4; clear s3 s4
  go_wp2_with fail
  go_ret
  refine ⟨rfl, ?_⟩
  have s5 : Sat W0 _ (wipedS s :: ledO p (note rs 8 ((3 * fsz wide : Nat) : Int) 1) :: L) := HS.out
  have s6 : Sat W0 _ (ledO p (note rs 8 ((3 * fsz wide : Nat) : Int) 1) :: wipedS s :: L) := s5.f
  exact s6
 | cm =>
  obtain ⟨b, gb, c, s1⟩ := cmOpen s0
  clear s0
  obtain ⟨_, hkl⟩ := hf4
  have z0 := s1.lt (by simp [dCm])
  have c0 := s1.at 3 rfl
  have hwp := cmWipeM (pv := ptrO p) (b := b) (c := c) (L := seg true s 0 (dCm b gb ++ [.int .u8 (MKind.cm.alg : Int), .int .i64 (out : Int)]) :: seg true gb 0 [.pointer (some ⟨b, 0, none⟩)] :: L) p rs key msg rfl hkl (by omega) (by omega) s1.f
  have HN := Lib.hid (And.intro hno hwp); clear hno hwp s1 hf2 hf3 hkl hR1 hR2 hnb
  go_enter Tryz.func74, Tryz.ntmps74
  go_wp2_with fail
  refine HN.out.1.mono ?_
  rintro e w1 ⟨rfl, rfl⟩
  go_wp2_with fail
  refine HN.out.2.mono ?_
  rintro e w2 ⟨rfl, s2⟩
  clear c0 z0
  have s3 : Sat W0 w2 (seg true s 0 (dCm b gb ++ [.int .u8 (MKind.cm.alg : Int), .int .i64 (out : Int)]) :: ledO p (note rs 8 ((16 * (key.length / 4 + 7) + 65 : Nat) : Int) 1) :: L) := s2.f
  clear s2
  have f0 := s3.fr 0 (by simp [dCm])
  have f1 := s3.fr 1 (by simp [dCm])
  have f2 := s3.fr 2 (by simp [dCm])
  have f3 := s3.fr 3 (by simp [dCm])
  have f4 := s3.fr 4 (by simp [dCm])
  have f5 := s3.fr 5 (by simp [dCm])
  have f6 := s3.fr 6 (by simp [dCm])
  have c0 := s3.at 0 rfl
  have c1 := s3.at 1 rfl
  have c2 := s3.at 2 rfl
  have c3 := s3.at 3 rfl
  have c4 := s3.at 4 rfl
  have c5 := s3.at 5 rfl
  have c6 := s3.at 6 rfl
  have z0 := s3.lt (by simp [dCm])
  have s4 := ((((((s3.store (i := 0) (by simp [dCm]) .nilFunc (q := 0) rfl).store (i := 1) (by simp [dCm]) .nilFunc (q := 1) rfl).store (i := 2) (by simp [dCm]) .nilFunc (q := 2) rfl).store (i := 3) (by simp [dCm]) .nilFunc (q := 3) rfl).store (i := 4) (by simp [dCm]) .nilFunc (q := 4) rfl).store (i := 5) (by simp [dCm]) (.int .u8 0) (q := 5) rfl).store (i := 6) (by simp [dCm]) (.int .i64 0) (q := 6) rfl
  have HS := Lib.hid s4; clear s3 s4
  go_wp2_with fail
  go_ret
  refine ⟨rfl, ?_⟩
  have s5 : Sat W0 _ (wipedS s :: ledO p (note rs 8 ((16 * (key.length / 4 + 7) + 65 : Nat) : Int) 1) :: L) := HS.out
  have s6 : Sat W0 _ (ledO p (note rs 8 ((16 * (key.length / 4 + 7) + 65 : Nat) : Int) 1) :: wipedS s :: L) := s5.f
  exact s6
 | km large xof =>
  obtain ⟨c, gb, go, gx, g, s1⟩ := kmOpen s0
  clear s0
  have z0 := s1.lt (by simp [dKm])
  have c0 := s1.at 3 rfl
  have hwp := kmWipe (pv := ptrO p) (c := c) (g := g) (L := seg true s 0 (dKm c gb go gx ++ [.int .u8 ((MKind.km large xof).alg : Int), .int .i64 (out : Int)]) :: seg true gb 0 [.pointer (some ⟨c, 0, none⟩)] :: L) p rs (kmPre (krt large) key custom ++ msg) rfl (kst_ok large) (by omega) (by omega) s1.f
  have HN := Lib.hid (And.intro hno hwp); clear hno hwp s1 hf2 hf3 hf4 hR1 hR2 hnb
  go_enter Tryz.func74, Tryz.ntmps74
  go_wp2_with fail
  refine HN.out.1.mono ?_
  rintro e w1 ⟨rfl, rfl⟩
  go_wp2_with fail
  refine HN.out.2.mono ?_
  rintro e w2 ⟨rfl, s2⟩
  clear c0 z0
  have s3 : Sat W0 w2 (seg true s 0 (dKm c gb go gx ++ [.int .u8 ((MKind.km large xof).alg : Int), .int .i64 (out : Int)]) :: ledO p (note rs 8 203 1) :: L) := s2.f
  clear s2
  have f0 := s3.fr 0 (by simp [dKm])
  have f1 := s3.fr 1 (by simp [dKm])
  have f2 := s3.fr 2 (by simp [dKm])
  have f3 := s3.fr 3 (by simp [dKm])
  have f4 := s3.fr 4 (by simp [dKm])
  have f5 := s3.fr 5 (by simp [dKm])
  have f6 := s3.fr 6 (by simp [dKm])
  have c0 := s3.at 0 rfl
  have c1 := s3.at 1 rfl
  have c2 := s3.at 2 rfl
  have c3 := s3.at 3 rfl
  have c4 := s3.at 4 rfl
  have c5 := s3.at 5 rfl
  have c6 := s3.at 6 rfl
  have z0 := s3.lt (by simp [dKm])
  have s4 := ((((((s3.store (i := 0) (by simp [dKm]) .nilFunc (q := 0) rfl).store (i := 1) (by simp [dKm]) .nilFunc (q := 1) rfl).store (i := 2) (by simp [dKm]) .nilFunc (q := 2) rfl).store (i := 3) (by simp [dKm]) .nilFunc (q := 3) rfl).store (i := 4) (by simp [dKm]) .nilFunc (q := 4) rfl).store (i := 5) (by simp [dKm]) (.int .u8 0) (q := 5) rfl).store (i := 6) (by simp [dKm]) (.int .i64 0) (q := 6) rfl
  have HS := Lib.hid s4; clear s3 s4
  go_wp2_with fail
  go_ret
  refine ⟨rfl, ?_⟩
  have s5 : Sat W0 _ (wipedS s :: ledO p (note rs 8 203 1) :: L) := HS.out
  have s6 : Sat W0 _ (ledO p (note rs 8 203 1) :: wipedS s :: L) := s5.f
  exact s6
end Go.Proofs.YtbefjaodpbgpcaaGreat
