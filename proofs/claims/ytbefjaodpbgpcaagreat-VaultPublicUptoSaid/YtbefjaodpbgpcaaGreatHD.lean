/- Mac8, Mac9: texts that lie apart elsewhere, as one; each under the conditions that it names. -/
import Derived.Test.YtbefjaodpbgpcaaGreatHC
set_option linter.unusedVariables false
set_option linter.unusedSimpArgs false
set_option maxRecDepth 100000
set_option maxHeartbeats 16000000
namespace Go.Proofs.YtbefjaodpbgpcaaGreat
open Go.RowKit Go.Sep Go.Bv Go.Kec Go.Aes Go.Sha
theorem macVerifyLen {W0 w : World} {L : List Assn} {s out n cap : Nat} {pt : Option Addr} {pv : Value} {K : MKind} {key custom msg : List Byte} (ho : 1 ≤ out) (hn : n ≠ out) (hs : Sat W0 w (ses K s key custom out msg :: L)) :
  Calls Tryz.prog 81 #[.pointer (some ⟨s, 0, none⟩), pv, .slice pt n cap] w fun e w' => e = .returned (.tuple #[.bool false, .int .i64 11]) ∧ w' = w := by
 have hno := macNone ho hs
 obtain ⟨_, c6, z0⟩ := sesFacts hs
 have e0 : ((n : Int) != (out : Int)) = true := by rw [bne_iff_ne]; omega
 have HN := Lib.hid hno; clear hno hs hn
 go_enter Tryz.func81, Tryz.ntmps81
 go_wp2_with fail
 refine HN.out.mono ?_
 rintro e w1 ⟨rfl, rfl⟩
 go_wp2_with fail
 exact bodyPost_ret (v := .tuple #[.bool false, .int .i64 11]) (by simp [results, Tryz.results81, go_sem]) rfl ⟨rfl, rfl⟩
theorem macVerify {W0 w : World} {L : List Assn} {m : Bool} {s out cap : Nat} {pt : Option Addr} {pv : Value} (K : MKind) (p : Option Nat) (rs : List Run3) (key custom msg tag : List Byte) (hp : pv = ptrO p) (hf : K.fits key custom out) (hR : Roomy rs) (hnb : msg.length ≤ 1000000000) (ht : tag.length = out)
  (hs : Sat W0 w (ledO p rs :: bytes m pt tag :: ses K s key custom out msg :: L)) :
  Calls Tryz.prog 81 #[.pointer (some ⟨s, 0, none⟩), pv, .slice pt out cap] w fun e w' => e = .returned (.tuple #[.bool (decide (K.tag key custom out msg = tag)), .int .i64 0]) ∧ Sat W0 w' (ledO p (note (noteN rs K.ek (K.es key.length) (K.fin msg.length out)) 6 (out : Int) 1) :: bytes m pt tag :: ses K s key custom out msg :: L) := by
 subst hp
 have htl := K.tag_len key custom out msg hf
 have hno := macNone hf.1 (hs.f : Sat W0 w (ses K s key custom out msg :: []))
 obtain ⟨_, c6, z0⟩ := sesFacts (hs.f : Sat W0 w (ses K s key custom out msg :: []))
 have hsm := macSum (L := bytes m pt tag :: L) (pv := ptrO p) K p rs key custom msg rfl hf hR hnb hs.f
 have ho64 : out ≤ 64 := by
  have h2 := hf.2.1
  cases K with
  | hm wide => cases wide <;> simp only [MKind.most, hsz] at h2 <;> omega
  | cm => simp only [MKind.most] at h2; omega
  | km large xof => simp only [MKind.most] at h2; omega
 have hfn := K.fin_tot msg.length out
 have htn := tot_noteN rs K.ek (K.es key.length) (K.fin msg.length out)
 have hln := noteN_len rs K.ek (K.es key.length) (K.fin msg.length out)
 obtain ⟨hR1, hR2⟩ := hR
 obtain ⟨R1, hR1'⟩ : ∃ R, R = noteN rs K.ek (K.es key.length) (K.fin msg.length out) := ⟨_, rfl⟩
 rw [← hR1'] at hsm htn hln ⊢
 obtain ⟨T, hT⟩ : ∃ T, T = K.tag key custom out msg := ⟨_, rfl⟩
 rw [← hT] at hsm htl ⊢
 have hct := fun (w : World) (q : Option Addr) (c : Nat) (X : List Assn) (s : Sat W0 w (ledO p R1 :: bytes true q T :: bytes m pt tag :: X)) => ctEqual (ca := c) (cb := cap) (pv := ptrO p) p R1 T tag rfl htl ht (by omega) (by omega) (by omega) s
 have HN := Lib.hid (And.intro hno (And.intro hsm hct)); clear hno hsm hct htl hf hnb ht hfn htn hln hR1 hR2 hR1' hT hs ho64
 go_enter Tryz.func81, Tryz.ntmps81
 go_wp2_with fail
 refine HN.out.1.mono ?_
 rintro e w1 ⟨rfl, rfl⟩
 go_wp2_with fail
 refine HN.out.2.1.mono ?_
 rintro e w2 ⟨q, c, rfl, s2⟩
 clear c6 z0
 obtain ⟨_, _, _, s3⟩ := rowBytes s2
 clear s2
 go_wp2_with fail
 refine (HN.out.2.2 _ q c (ses K s key custom out msg :: L) s3.f).mono ?_
 rintro e w4 ⟨rfl, s4⟩
 clear s3
 have HS := Lib.hid s4; clear s4
 go_wp2_with fail
 refine bodyPost_ret (v := .tuple #[.bool (decide (T = tag)), .int .i64 0]) (by simp [results, Tryz.results81, go_sem]) rfl ⟨rfl, ?_⟩
 have s5 := HS.out
 exact s5.f
theorem sesForm {W0 w : World} {L : List Assn} {s out : Nat} (K : MKind) (key custom msg : List Byte) (hf : K.fits key custom out) (hnb : msg.length ≤ 1000000000)
  (hs : Sat W0 w (ses K s key custom out msg :: L)) :
  Calls Tryz.prog 94 #[.pointer (some ⟨s, 0, none⟩)] w fun e w' => ∃ q c, e = .returned (.slice q (K.formN key.length) c) ∧ Sat W0 w' (row q c 1 (K.formN key.length) (u8s (K.form key custom msg)) :: ses K s key custom out msg :: L) := by
 obtain ⟨hf1, hf2, hf3, hf4⟩ := hf
 have hno := macNone hf1 (hs.f : Sat W0 w (ses K s key custom out msg :: []))
 cases K with
 | hm wide =>
  obtain ⟨c, gb, s1⟩ := hmOpen hs
  clear hs
  have z0 := s1.lt (by simp [dHm])
  have c0 := s1.at 4 rfl
  have hfo := hmacForm (c := c) (L := seg true s 0 (dHm c gb ++ [.int .u8 ((MKind.hm wide).alg : Int), .int .i64 (out : Int)]) :: seg true gb 0 [.pointer (some ⟨c, 0, none⟩)] :: L) wide (blockKey wide key) msg (by omega) s1.f
  have HN := Lib.hid (And.intro hno hfo); clear hno hfo s1 hf2 hf3 hf4 hnb
  go_enter Tryz.func94, Tryz.ntmps94
  go_wp2_with fail
  refine HN.out.1.mono ?_
  rintro e w1 ⟨rfl, rfl⟩
  go_wp2_with fail
  refine HN.out.2.mono ?_
  rintro e w2 ⟨q, cq, rfl, s2⟩
  have HS := Lib.hid s2; clear s2 c0 z0
  go_wp2_with fail
  go_ret
  have s9 := HS.out
  refine ⟨q, cq, rfl, ?_⟩
  have s10 := hmShut (custom := custom) (s9.f : Sat W0 _ (hmSes wide s c gb key out msg (row q cq 1 (3 * fsz wide) (u8s (macForm wide (blockKey wide key) msg)) :: L)))
  simp only [MKind.form, MKind.formN]
  exact s10.f
 | cm =>
  obtain ⟨b, gb, c, s1⟩ := cmOpen hs
  clear hs
  obtain ⟨_, hkl⟩ := hf4
  have z0 := s1.lt (by simp [dCm])
  have c0 := s1.at 4 rfl
  have hfo := cmFormM (b := b) (c := c) (L := seg true s 0 (dCm b gb ++ [.int .u8 (MKind.cm.alg : Int), .int .i64 (out : Int)]) :: seg true gb 0 [.pointer (some ⟨b, 0, none⟩)] :: L) key msg hkl s1.f
  have HN := Lib.hid (And.intro hno hfo); clear hno hfo s1 hf2 hf3 hkl hnb
  go_enter Tryz.func94, Tryz.ntmps94
  go_wp2_with fail
  refine HN.out.1.mono ?_
  rintro e w1 ⟨rfl, rfl⟩
  go_wp2_with fail
  refine HN.out.2.mono ?_
  rintro e w2 ⟨q, cq, rfl, s2⟩
  have HS := Lib.hid s2; clear s2 c0 z0
  go_wp2_with fail
  go_ret
  have s9 := HS.out
  refine ⟨q, cq, rfl, ?_⟩
  have s10 := cmShut (custom := custom) (s9.f : Sat W0 _ (cmSes s b gb c key out msg (row q cq 1 (16 * (key.length / 4 + 7) + 65) (u8s (cmForm key.length (expand key) (cmK1 key) (cmK2 key) (cmSt key msg).1 (cmSt key msg).2.1 (cmSt key msg).2.2)) :: L)))
  simp only [MKind.form, MKind.formN]
  exact s10.f
 | km large xof =>
  obtain ⟨c, gb, go, gx, g, s1⟩ := kmOpen hs
  clear hs
  have z0 := s1.lt (by simp [dKm])
  have c0 := s1.at 4 rfl
  have hfo := kmForm (c := c) (g := g) (L := seg true s 0 (dKm c gb go gx ++ [.int .u8 ((MKind.km large xof).alg : Int), .int .i64 (out : Int)]) :: seg true gb 0 [.pointer (some ⟨c, 0, none⟩)] :: seg true go 0 [.int .i64 (out : Int)] :: seg true gx 0 [.bool xof] :: L) (kmPre (krt large) key custom ++ msg) (kst_ok large) s1.f
  have HN := Lib.hid (And.intro hno hfo); clear hno hfo s1 hf2 hf3 hf4 hnb
  go_enter Tryz.func94, Tryz.ntmps94
  go_wp2_with fail
  refine HN.out.1.mono ?_
  rintro e w1 ⟨rfl, rfl⟩
  go_wp2_with fail
  refine HN.out.2.mono ?_
  rintro e w2 ⟨q, cq, rfl, s2⟩
  have HS := Lib.hid s2; clear s2 c0 z0
  go_wp2_with fail
  go_ret
  have s9 := HS.out
  refine ⟨some ⟨q, 0, none⟩, cq, rfl, ?_⟩
  have s10 := kmShut (s9.f : Sat W0 _ (kmSes large xof s c gb go gx g key custom out msg (row (some ⟨q, 0, none⟩) cq 1 203 (u8s (spForm (spState (krt large) (kmPre (krt large) key custom ++ msg)).1 (spState (krt large) (kmPre (krt large) key custom ++ msg)).2 false)) :: L)))
  simp only [MKind.form, MKind.formN]
  exact s10.f
def wipedS (s : Nat) : Assn := seg true s 0 [Value.nilFunc, .nilFunc, .nilFunc, .nilFunc, .nilFunc, .int .u8 0, .int .i64 0]
theorem macWipe {W0 w : World} {L : List Assn} {s out : Nat} {pv : Value} (K : MKind) (p : Option Nat) (rs : List Run3) (key custom msg : List Byte) (hp : pv = ptrO p) (hf : K.fits key custom out) (hR : Roomy rs) (hnb : msg.length ≤ 1000000000)
  (hs : Sat W0 w (ledO p rs :: ses K s key custom out msg :: L)) :
  Calls Tryz.prog 74 #[.pointer (some ⟨s, 0, none⟩), pv] w fun e w' => e = .returned (.int .i64 0) ∧ Sat W0 w' (ledO p (note rs 8 (K.formN key.length : Int) 1) :: wipedS s :: L) := by
 subst hp
 obtain ⟨hR1, hR2⟩ := hR
 obtain ⟨hf1, hf2, hf3, hf4⟩ := hf
 have hno := macNone hf1 (hs.f : Sat W0 w (ses K s key custom out msg :: []))
 have s0 : Sat W0 w (ses K s key custom out msg :: ledO p rs :: L) := hs.f
 clear hs
 cases K with
 | hm wide =>
  obtain ⟨c, gb, s1⟩ := hmOpen s0
  clear s0
  have z0 := s1.lt (by simp [dHm])
  have c0 := s1.at 3 rfl
  have hwp := hmacWipe (pv := ptrO p) (c := c) (L := seg true s 0 (dHm c gb ++ [.int .u8 ((MKind.hm wide).alg : Int), .int .i64 (out : Int)]) :: seg true gb 0 [.pointer (some ⟨c, 0, none⟩)] :: L) wide p rs (blockKey wide key) msg rfl (by omega) (by omega) (by omega) s1.f
  have HN := Lib.hid (And.intro hno hwp); clear hno hwp s1 hf2 hf3 hf4 hR1 hR2 hnb
  go_enter Tryz.func74, Tryz.ntmps74
  go_wp2_with fail
  refine HN.out.1.mono ?_
  rintro e w1 ⟨rfl, rfl⟩
  go_wp2_with fail
  refine HN.out.2.mono ?_
  rintro e w2 ⟨rfl, s2⟩
  clear c0 z0
  have s3 : Sat W0 w2 (seg true s 0 (dHm c gb ++ [.int .u8 ((MKind.hm wide).alg : Int), .int .i64 (out : Int)]) :: ledO p (note rs 8 ((3 * fsz wide : Nat) : Int) 1) :: L) := s2.f
  clear s2
  have f0 := s3.fr 0 (by simp [dHm])
  have f1 := s3.fr 1 (by simp [dHm])
  have f2 := s3.fr 2 (by simp [dHm])
  have f3 := s3.fr 3 (by simp [dHm])
  have f4 := s3.fr 4 (by simp [dHm])
  have f5 := s3.fr 5 (by simp [dHm])
  have f6 := s3.fr 6 (by simp [dHm])
  have c0 := s3.at 0 rfl
  have c1 := s3.at 1 rfl
  have c2 := s3.at 2 rfl
  have c3 := s3.at 3 rfl
  have c4 := s3.at 4 rfl
  have c5 := s3.at 5 rfl
  have c6 := s3.at 6 rfl
  have z0 := s3.lt (by simp [dHm])
  have s4 := ((((((s3.store (i := 0) (by simp [dHm]) .nilFunc (q := 0) rfl).store (i := 1) (by simp [dHm]) .nilFunc (q := 1) rfl).store (i := 2) (by simp [dHm]) .nilFunc (q := 2) rfl).store (i := 3) (by simp [dHm]) .nilFunc (q := 3) rfl).store (i := 4) (by simp [dHm]) .nilFunc (q := 4) rfl).store (i := 5) (by simp [dHm]) (.int .u8 0) (q := 5) rfl).store (i := 6) (by simp [dHm]) (.int .i64 0) (q := 6) rfl
  have HS := Lib.hid s4; clear s3 s4
  go_wp2_with fail
  go_ret
  refine ⟨rfl, ?_⟩
  have s5 : Sat W0 _ (wipedS s :: ledO p (note rs 8 ((3 * fsz wide : Nat) : Int) 1) :: L) := HS.out
  have s6 : Sat W0 _ (ledO p (note rs 8 ((3 * fsz wide : Nat) : Int) 1) :: wipedS s :: L) := s5.f
  exact s6
 | cm =>
  obtain ⟨b, gb, c, s1⟩ := cmOpen s0
  clear s0
  obtain ⟨_, hkl⟩ := hf4
  have z0 := s1.lt (by simp [dCm])
  have c0 := s1.at 3 rfl
  have hwp := cmWipeM (pv := ptrO p) (b := b) (c := c) (L := seg true s 0 (dCm b gb ++ [.int .u8 (MKind.cm.alg : Int), .int .i64 (out : Int)]) :: seg true gb 0 [.pointer (some ⟨b, 0, none⟩)] :: L) p rs key msg rfl hkl (by omega) (by omega) s1.f
  have HN := Lib.hid (And.intro hno hwp); clear hno hwp s1 hf2 hf3 hkl hR1 hR2 hnb
  go_enter Tryz.func74, Tryz.ntmps74
  go_wp2_with fail
  refine HN.out.1.mono ?_
  rintro e w1 ⟨rfl, rfl⟩
  go_wp2_with fail
  refine HN.out.2.mono ?_
  rintro e w2 ⟨rfl, s2⟩
  clear c0 z0
  have s3 : Sat W0 w2 (seg true s 0 (dCm b gb ++ [.int .u8 (MKind.cm.alg : Int), .int .i64 (out : Int)]) :: ledO p (note rs 8 ((16 * (key.length / 4 + 7) + 65 : Nat) : Int) 1) :: L) := s2.f
  clear s2
  have f0 := s3.fr 0 (by simp [dCm])
  have f1 := s3.fr 1 (by simp [dCm])
  have f2 := s3.fr 2 (by simp [dCm])
  have f3 := s3.fr 3 (by simp [dCm])
  have f4 := s3.fr 4 (by simp [dCm])
  have f5 := s3.fr 5 (by simp [dCm])
  have f6 := s3.fr 6 (by simp [dCm])
  have c0 := s3.at 0 rfl
  have c1 := s3.at 1 rfl
  have c2 := s3.at 2 rfl
  have c3 := s3.at 3 rfl
  have c4 := s3.at 4 rfl
  have c5 := s3.at 5 rfl
  have c6 := s3.at 6 rfl
  have z0 := s3.lt (by simp [dCm])
  have s4 := ((((((s3.store (i := 0) (by simp [dCm]) .nilFunc (q := 0) rfl).store (i := 1) (by simp [dCm]) .nilFunc (q := 1) rfl).store (i := 2) (by simp [dCm]) .nilFunc (q := 2) rfl).store (i := 3) (by simp [dCm]) .nilFunc (q := 3) rfl).store (i := 4) (by simp [dCm]) .nilFunc (q := 4) rfl).store (i := 5) (by simp [dCm]) (.int .u8 0) (q := 5) rfl).store (i := 6) (by simp [dCm]) (.int .i64 0) (q := 6) rfl
  have HS := Lib.hid s4; clear s3 s4
  go_wp2_with fail
  go_ret
  refine ⟨rfl, ?_⟩
  have s5 : Sat W0 _ (wipedS s :: ledO p (note rs 8 ((16 * (key.length / 4 + 7) + 65 : Nat) : Int) 1) :: L) := HS.out
  have s6 : Sat W0 _ (ledO p (note rs 8 ((16 * (key.length / 4 + 7) + 65 : Nat) : Int) 1) :: wipedS s :: L) := s5.f
  exact s6
 | km large xof =>
  obtain ⟨c, gb, go, gx, g, s1⟩ := kmOpen s0
  clear s0
  have z0 := s1.lt (by simp [dKm])
  have c0 := s1.at 3 rfl
  have hwp := kmWipe (pv := ptrO p) (c := c) (g := g) (L := seg true s 0 (dKm c gb go gx ++ [.int .u8 ((MKind.km large xof).alg : Int), .int .i64 (out : Int)]) :: seg true gb 0 [.pointer (some ⟨c, 0, none⟩)] :: L) p rs (kmPre (krt large) key custom ++ msg) rfl (kst_ok large) (by omega) (by omega) s1.f
  have HN := Lib.hid (And.intro hno hwp); clear hno hwp s1 hf2 hf3 hf4 hR1 hR2 hnb
  go_enter Tryz.func74, Tryz.ntmps74
  go_wp2_with fail
  refine HN.out.1.mono ?_
  rintro e w1 ⟨rfl, rfl⟩
  go_wp2_with fail
  refine HN.out.2.mono ?_
  rintro e w2 ⟨rfl, s2⟩
  clear c0 z0
  have s3 : Sat W0 w2 (seg true s 0 (dKm c gb go gx ++ [.int .u8 ((MKind.km large xof).alg : Int), .int .i64 (out : Int)]) :: ledO p (note rs 8 203 1) :: L) := s2.f
  clear s2
  have f0 := s3.fr 0 (by simp [dKm])
  have f1 := s3.fr 1 (by simp [dKm])
  have f2 := s3.fr 2 (by simp [dKm])
  have f3 := s3.fr 3 (by simp [dKm])
  have f4 := s3.fr 4 (by simp [dKm])
  have f5 := s3.fr 5 (by simp [dKm])
  have f6 := s3.fr 6 (by simp [dKm])
  have c0 := s3.at 0 rfl
  have c1 := s3.at 1 rfl
  have c2 := s3.at 2 rfl
  have c3 := s3.at 3 rfl
  have c4 := s3.at 4 rfl
  have c5 := s3.at 5 rfl
  have c6 := s3.at 6 rfl
  have z0 := s3.lt (by simp [dKm])
  have s4 := ((((((s3.store (i := 0) (by simp [dKm]) .nilFunc (q := 0) rfl).store (i := 1) (by simp [dKm]) .nilFunc (q := 1) rfl).store (i := 2) (by simp [dKm]) .nilFunc (q := 2) rfl).store (i := 3) (by simp [dKm]) .nilFunc (q := 3) rfl).store (i := 4) (by simp [dKm]) .nilFunc (q := 4) rfl).store (i := 5) (by simp [dKm]) (.int .u8 0) (q := 5) rfl).store (i := 6) (by simp [dKm]) (.int .i64 0) (q := 6) rfl
  have HS := Lib.hid s4; clear s3 s4
  go_wp2_with fail
  go_ret
  refine ⟨rfl, ?_⟩
  have s5 : Sat W0 _ (wipedS s :: ledO p (note rs 8 203 1) :: L) := HS.out
  have s6 : Sat W0 _ (ledO p (note rs 8 203 1) :: wipedS s :: L) := s5.f
  exact s6
end Go.Proofs.YtbefjaodpbgpcaaGreat
namespace Go.Proofs.YtbefjaodpbgpcaaGreat
open Go.RowKit Go.Sep Go.Bv Go.Kec Go.Aes Go.Sha
end Go.Proofs.YtbefjaodpbgpcaaGreat
namespace Go.Sep
open Go.RowKit
section
variable {P : Program} {o : Oper} {a : Act} {K : Act → World → Prop} {Q : Exit → Act → World → Prop} {W0 w : World} {L : List Assn}
theorem op_box (ty : TypeId) (x : Operand) (ho : o.op = .box ty x) (cs : List Value) (hx : a.eval x = .agg cs.toArray) (hs : Sat W0 w L)
  (h : ∀ w' g, Sat W0 w' (seg true g 0 cs :: L) → K (a.put o.dst (.pointer (some ⟨g, 0, none⟩))) w') : Oper.wp P o a w K Q := by
 unfold Oper.wp execOp
 have := h (w.alloc (.cells cs.toArray ty)) w.heap.size (hs.alloc cs.toArray ty)
 simp only [ho, hx, Sem.run_bind, Sem.run_pure, Result.andThen_ok]
 simp [newRow, Instr.box, newVar, Value.cells]
 exact this
end
theorem Fr.app : ∀ (K : List Assn) {T R : List Assn}, Fr T R → Fr (K ++ T) (K ++ R)
 | [], _, _, h => h
 | _ :: K, _, _, h => .cons .here (Fr.app K h)
theorem Take.app {A : Assn} {T R : List Assn} : ∀ (K : List Assn), Take A T R → Take A (K ++ T) (K ++ R)
 | [], h => h
 | _ :: K, h => .there (Take.app K h)
theorem Fr.swap {L : List Assn} : ∀ (B A : List Assn), Fr (A ++ (B ++ L)) (B ++ (A ++ L))
 | B, [] => .done
 | B, a :: A => .cons (Take.app B .here) (Fr.swap B A)
theorem Fr.swap1 {L : List Assn} {c : Assn} : ∀ (B A : List Assn), Fr (A ++ (c :: (B ++ L))) (c :: (B ++ (A ++ L)))
 | B, [] => .done
 | B, a :: A => .cons (.there (Take.app B .here)) (Fr.swap1 B A)
end Go.Sep
namespace Go.Proofs.YtbefjaodpbgpcaaGreat
open Go.RowKit Go.Sep Go.Bv Go.Kec Go.Aes Go.Sha
abbrev nil5 : List Value := [Value.nilFunc, .nilFunc, .nilFunc, .nilFunc, .nilFunc]
theorem hmTwin {W0 w : World} {L : List Assn} {c gb : Nat} {wide : Bool} {k msg : List Byte} (hs : Sat W0 w (seg true gb 0 [.pointer (some ⟨c, 0, none⟩)] :: mac wide c k msg :: L)) :
  Calls Tryz.prog 126 #[.pointer (some ⟨gb, 0, none⟩)] w fun e w' => ∃ d gd, e = .returned (.agg (dHm d gd).toArray) ∧ Sat W0 w' (seg true gd 0 [.pointer (some ⟨d, 0, none⟩)] :: mac wide d k msg :: seg true gb 0 [.pointer (some ⟨c, 0, none⟩)] :: mac wide c k msg :: L) := by
 have hcl := fun (w : World) (X : List Assn) (s : Sat W0 w (mac wide c k msg :: X)) => hmacClone wide k msg s
 have HN := Lib.hid hcl; clear hcl
 go_enter Tryz.func126, Tryz.ntmps126
 go_wp2_with (refine wpl_alloc_agg rfl 162 rfl hs _ (zero_does _) ?_; intro w2 gt s2 _; clear hs; have sb : Sat W0 w2 (seg true gb 0 [.pointer (some ⟨c, 0, none⟩)] :: []) := s2.f; have cb := sb.at 0 rfl; have zb := sb.lt (by simp); clear sb)
 refine (HN.out _ (seg true gt 0 nil5 :: seg true gb 0 [.pointer (some ⟨c, 0, none⟩)] :: L) s2.f).mono ?_
 rintro e w3 ⟨d, rfl, s3⟩
 clear s2 cb zb
 go_wp2_with fail
 refine (ofHm (c := d) s3).mono ?_
 rintro e w4 ⟨gd, rfl, s4⟩
 clear s3
 have s6 : Sat W0 w4 (seg true gt 0 nil5 :: seg true gd 0 [.pointer (some ⟨d, 0, none⟩)] :: mac wide d k msg :: seg true gb 0 [.pointer (some ⟨c, 0, none⟩)] :: mac wide c k msg :: L) := s4.f
 clear s4
 go_wp2_with (refine wpl_store_agg rfl rfl 162 (.tmp 1) (.tmp 10) rfl (cs := dHm d gd) s6 0 0 Tryz.size_does rfl rfl rfl (Nat.le_refl 5) (dHm_one d gd) ?_; intro w7 s7; rw [setL_all _ _ (by rfl)] at s7; clear s6)
 have hr := run_loadVar_agg (P := Tryz.prog) (ty := 162) Tryz.underlying162 rfl Tryz.size_does s7 0 0 rfl (Nat.le_refl 5)
 have hr2 : Sem.run Tryz.prog (loadVar 162 ⟨gt, 0, none⟩) w7 = Result.ok (.agg (dHm d gd).toArray) w7 := hr
 have HS := Lib.hid s7.tail; clear s7 hr
 refine bodyPost_ret (v := .agg (dHm d gd).toArray) ?_ rfl ⟨d, gd, rfl, HS.out⟩
 simp [results, Tryz.results126, asAddr, hr2]
theorem cmTwin {W0 w : World} {L : List Assn} {b c gb : Nat} {key msg : List Byte} (hk : cmKey key) (hs : Sat W0 w (seg true gb 0 [.pointer (some ⟨b, 0, none⟩)] :: cmM b c key msg L)) :
  Calls Tryz.prog 135 #[.pointer (some ⟨gb, 0, none⟩)] w fun e w' => ∃ d gd c2, e = .returned (.agg (dCm d gd).toArray) ∧ Sat W0 w' (seg true gd 0 [.pointer (some ⟨d, 0, none⟩)] :: cmM d c2 key msg (seg true gb 0 [.pointer (some ⟨b, 0, none⟩)] :: cmM b c key msg L)) := by
 have hcl := fun (w : World) (X : List Assn) (s : Sat W0 w (cmM b c key msg X)) => cmCloneM key msg hk s
 have HN := Lib.hid hcl; clear hcl hk
 go_enter Tryz.func135, Tryz.ntmps135
 go_wp2_with (refine wpl_alloc_agg rfl 162 rfl hs _ (zero_does _) ?_; intro w2 gt s2 _; clear hs; have sb : Sat W0 w2 (seg true gb 0 [.pointer (some ⟨b, 0, none⟩)] :: []) := s2.f; have cb := sb.at 0 rfl; have zb := sb.lt (by simp); clear sb)
 refine (HN.out _ (seg true gt 0 nil5 :: seg true gb 0 [.pointer (some ⟨b, 0, none⟩)] :: L) s2.f).mono ?_
 rintro e w3 ⟨d, c2, rfl, s3⟩
 clear s2 cb zb
 go_wp2_with fail
 refine (ofCm (c := d) s3).mono ?_
 rintro e w4 ⟨gd, rfl, s4⟩
 clear s3
 have s6 : Sat W0 w4 (seg true gt 0 nil5 :: seg true gd 0 [.pointer (some ⟨d, 0, none⟩)] :: cmM d c2 key msg (seg true gb 0 [.pointer (some ⟨b, 0, none⟩)] :: cmM b c key msg L)) := s4.f
 clear s4
 go_wp2_with (refine wpl_store_agg rfl rfl 162 (.tmp 1) (.tmp 10) rfl (cs := dCm d gd) s6 0 0 Tryz.size_does rfl rfl rfl (Nat.le_refl 5) (dCm_one d gd) ?_; intro w7 s7; rw [setL_all _ _ (by rfl)] at s7; clear s6)
 have hr := run_loadVar_agg (P := Tryz.prog) (ty := 162) Tryz.underlying162 rfl Tryz.size_does s7 0 0 rfl (Nat.le_refl 5)
 have hr2 : Sem.run Tryz.prog (loadVar 162 ⟨gt, 0, none⟩) w7 = Result.ok (.agg (dCm d gd).toArray) w7 := hr
 have HS := Lib.hid s7.tail; clear s7 hr
 refine bodyPost_ret (v := .agg (dCm d gd).toArray) ?_ rfl ⟨d, gd, c2, rfl, HS.out⟩
 simp [results, Tryz.results135, asAddr, hr2]
theorem kmTwin {W0 w : World} {L : List Assn} {c gb go gx g st r out : Nat} {xof : Bool} {M : List Byte} (hk : kmOk st r) (hs : Sat W0 w (seg true gb 0 [.pointer (some ⟨c, 0, none⟩)] :: seg true go 0 [.int .i64 (out : Int)] :: seg true gx 0 [.bool xof] :: kmS c g st r M L)) :
  Calls Tryz.prog 147 #[.pointer (some ⟨gb, 0, none⟩), .pointer (some ⟨go, 0, none⟩), .pointer (some ⟨gx, 0, none⟩)] w fun e w' => ∃ d gd go2 gx2 g2, e = .returned (.agg (dKm d gd go2 gx2).toArray) ∧ Sat W0 w' (seg true gd 0 [.pointer (some ⟨d, 0, none⟩)] :: seg true go2 0 [.int .i64 (out : Int)] :: seg true gx2 0 [.bool xof] :: kmS d g2 st r M (seg true gb 0 [.pointer (some ⟨c, 0, none⟩)] :: seg true go 0 [.int .i64 (out : Int)] :: seg true gx 0 [.bool xof] :: kmS c g st r M L)) := by
 have hcl := fun (w : World) (X : List Assn) (s : Sat W0 w (kmS c g st r M X)) => kmClone M hk s
 have HN := Lib.hid hcl; clear hcl hk
 have hf : ∀ wx X, Sat W0 wx (seg true gb 0 [.pointer (some ⟨c, 0, none⟩)] :: seg true go 0 [.int .i64 (out : Int)] :: seg true gx 0 [.bool xof] :: X) → wx.cell? ⟨gb, 0, none⟩ = some (.pointer (some ⟨c, 0, none⟩)) ∧ wx.cell? ⟨go, 0, none⟩ = some (.int .i64 (out : Int)) ∧ wx.cell? ⟨gx, 0, none⟩ = some (.bool xof) ∧ gb < wx.heap.size ∧ go < wx.heap.size ∧ gx < wx.heap.size := fun wx X h => ⟨h.at 0 rfl, (h.pull 1 : Sat W0 wx (seg true go 0 [.int .i64 (out : Int)] :: _)).at 0 rfl, (h.pull 2 : Sat W0 wx (seg true gx 0 [.bool xof] :: _)).at 0 rfl, h.lt (by simp), (h.pull 1 : Sat W0 wx (seg true go 0 [.int .i64 (out : Int)] :: _)).lt (by simp), (h.pull 2 : Sat W0 wx (seg true gx 0 [.bool xof] :: _)).lt (by simp)⟩
 have HF := Lib.hid hf; clear hf
 go_enter Tryz.func147, Tryz.ntmps147
 go_wp2_with (refine wpl_alloc_agg rfl 162 rfl hs _ (zero_does _) ?_; intro w2 gt s2 _; clear hs; obtain ⟨cb, _, _, zb, _, _⟩ := HF.out _ _ s2.tail)
 refine (HN.out _ (seg true gt 0 nil5 :: seg true gb 0 [.pointer (some ⟨c, 0, none⟩)] :: seg true go 0 [.int .i64 (out : Int)] :: seg true gx 0 [.bool xof] :: L) s2.f).mono ?_
 rintro e w3 ⟨d, g2, rfl, s3⟩
 clear s2 cb zb
 obtain ⟨_, co, cx, _, zo, zx⟩ := HF.out w3 [] s3.f
 go_wp2_with fail
 refine (ofKm (c := d) (out := out) xof rfl rfl s3).mono ?_
 rintro e w4 ⟨gd, go2, gx2, rfl, s4⟩
 clear s3 co cx zo zx
 have s6 : Sat W0 w4 (seg true gt 0 nil5 :: seg true gd 0 [.pointer (some ⟨d, 0, none⟩)] :: seg true go2 0 [.int .i64 (out : Int)] :: seg true gx2 0 [.bool xof] :: kmS d g2 st r M (seg true gb 0 [.pointer (some ⟨c, 0, none⟩)] :: seg true go 0 [.int .i64 (out : Int)] :: seg true gx 0 [.bool xof] :: kmS c g st r M L)) := s4.f
 clear s4
 go_wp2_with (refine wpl_store_agg rfl rfl 162 (.tmp 3) (.tmp 14) rfl (cs := dKm d gd go2 gx2) s6 0 0 Tryz.size_does rfl rfl rfl (Nat.le_refl 5) (dKm_one d gd go2 gx2) ?_; intro w7 s7; rw [setL_all _ _ (by rfl)] at s7; clear s6)
 have hr := run_loadVar_agg (P := Tryz.prog) (ty := 162) Tryz.underlying162 rfl Tryz.size_does s7 0 0 rfl (Nat.le_refl 5)
 have hr2 : Sem.run Tryz.prog (loadVar 162 ⟨gt, 0, none⟩) w7 = Result.ok (.agg (dKm d gd go2 gx2).toArray) w7 := hr
 have HS := Lib.hid s7.tail; clear s7 hr
 refine bodyPost_ret (v := .agg (dKm d gd go2 gx2).toArray) ?_ rfl ⟨d, gd, go2, gx2, g2, rfl, HS.out⟩
 simp [results, Tryz.results147, asAddr, hr2]
def twinF (K : MKind) (q : Nat × Nat × Nat × Nat × Nat) : Nat × Array Value :=
 match K with
 | .hm wide => (126, #[.pointer (some ⟨q.2.1, 0, none⟩)])
 | .cm => (135, #[.pointer (some ⟨q.2.1, 0, none⟩)])
 | .km large xof => (147, #[.pointer (some ⟨q.2.1, 0, none⟩), .pointer (some ⟨q.2.2.1, 0, none⟩), .pointer (some ⟨q.2.2.2.1, 0, none⟩)])
theorem twinOf {W0 w : World} {L : List Assn} {K : MKind} {s out : Nat} {q : Nat × Nat × Nat × Nat × Nat} {key custom msg : List Byte} (hf : K.fits key custom out) (hs : Sat W0 w (sesL K s q key custom out msg ++ L)) :
  Calls Tryz.prog (twinF K q).1 (twinF K q).2 w fun e w' => ∃ q2, e = .returned (.agg (doesL K q2).toArray) ∧ Sat W0 w' (restL K q2 key custom out msg ++ (sesL K s q key custom out msg ++ L)) := by
 obtain ⟨_, _, _, h4⟩ := hf
 cases K with
 | hm wide =>
  have h1 : Sat W0 w (hmSes wide s q.1 q.2.1 key out msg L) := hs
  have h2 : Sat W0 w (seg true q.2.1 0 [.pointer (some ⟨q.1, 0, none⟩)] :: mac wide q.1 (blockKey wide key) msg :: seg true s 0 (dHm q.1 q.2.1 ++ [.int .u8 ((MKind.hm wide).alg : Int), .int .i64 (out : Int)]) :: L) := h1.f
  refine (hmTwin h2).mono ?_
  rintro e w' ⟨d, gd, rfl, h⟩
  refine ⟨(d, gd, 0, 0, 0), rfl, ?_⟩
  have h3 : Sat W0 w' (seg true gd 0 [.pointer (some ⟨d, 0, none⟩)] :: mac wide d (blockKey wide key) msg :: hmSes wide s q.1 q.2.1 key out msg L) := h.f
  exact h3
 | cm =>
  have h1 : Sat W0 w (cmSes s q.1 q.2.1 q.2.2.1 key out msg L) := hs
  have h2 : Sat W0 w (seg true q.2.1 0 [.pointer (some ⟨q.1, 0, none⟩)] :: cmM q.1 q.2.2.1 key msg (seg true s 0 (dCm q.1 q.2.1 ++ [.int .u8 (MKind.cm.alg : Int), .int .i64 (out : Int)]) :: L)) := h1.f
  refine (cmTwin h4.2 h2).mono ?_
  rintro e w' ⟨d, gd, c2, rfl, h⟩
  refine ⟨(d, gd, c2, 0, 0), rfl, ?_⟩
  have h3 : Sat W0 w' (seg true gd 0 [.pointer (some ⟨d, 0, none⟩)] :: cmM d c2 key msg (cmSes s q.1 q.2.1 q.2.2.1 key out msg L)) := h.f
  exact h3
 | km large xof =>
  have h1 : Sat W0 w (kmSes large xof s q.1 q.2.1 q.2.2.1 q.2.2.2.1 q.2.2.2.2 key custom out msg L) := hs
  have h2 : Sat W0 w (seg true q.2.1 0 [.pointer (some ⟨q.1, 0, none⟩)] :: seg true q.2.2.1 0 [.int .i64 (out : Int)] :: seg true q.2.2.2.1 0 [.bool xof] :: kmS q.1 q.2.2.2.2 (kst large) (krt large) (kmPre (krt large) key custom ++ msg) (seg true s 0 (dKm q.1 q.2.1 q.2.2.1 q.2.2.2.1 ++ [.int .u8 ((MKind.km large xof).alg : Int), .int .i64 (out : Int)]) :: L)) := h1.f
  refine (kmTwin (kst_ok large) h2).mono ?_
  rintro e w' ⟨d, gd, go2, gx2, g2, rfl, h⟩
  refine ⟨(d, gd, go2, gx2, g2), rfl, ?_⟩
  have h3 : Sat W0 w' (seg true gd 0 [.pointer (some ⟨d, 0, none⟩)] :: seg true go2 0 [.int .i64 (out : Int)] :: seg true gx2 0 [.bool xof] :: kmS d g2 (kst large) (krt large) (kmPre (krt large) key custom ++ msg) (kmSes large xof s q.1 q.2.1 q.2.2.1 q.2.2.2.1 q.2.2.2.2 key custom out msg L)) := h.f
  exact h3
theorem sesClone {W0 w : World} {L : List Assn} {s out : Nat} (K : MKind) (key custom msg : List Byte) (hf : K.fits key custom out) (hs : Sat W0 w (ses K s key custom out msg :: L)) :
  Calls Tryz.prog 83 #[.pointer (some ⟨s, 0, none⟩)] w fun e w' => ∃ t, e = .returned (.tuple #[.pointer (some ⟨t, 0, none⟩), .int .i64 0]) ∧ Sat W0 w' (ses K t key custom out msg :: ses K s key custom out msg :: L) := by
 have hno := macNone hf.1 hs
 obtain ⟨q, h⟩ := sesOpen hs
 clear hs
 have htw := fun (w : World) (X : List Assn) (s' : Sat W0 w (sesL K s q key custom out msg ++ X)) => twinOf hf s'
 have hseg : ∀ wx X, Sat W0 wx (sesL K s q key custom out msg ++ X) → Sat W0 wx (seg true s 0 (doesL K q ++ sesT K out) :: (restL K q key custom out msg ++ X)) := fun wx X h => h
 have hsh : ∀ wx X q t, Sat W0 wx (seg true t 0 (doesL K q ++ sesT K out) :: (restL K q key custom out msg ++ X)) → Sat W0 wx (ses K t key custom out msg :: X) := fun wx X q t h => sesShut q h
 have hcells : ∀ wx X, Sat W0 wx (sesL K s q key custom out msg ++ X) → wx.cell? ⟨s, 2, none⟩ = (doesL K q)[2]? ∧ wx.cell? ⟨s, 5, none⟩ = some (.int .u8 (K.alg : Int)) ∧ wx.cell? ⟨s, 6, none⟩ = some (.int .i64 (out : Int)) ∧ s < wx.heap.size := by
  intro wx X h
  obtain ⟨d0, d1, d2, d3, d4, hd, _⟩ := doesL_five K q
  have h1 : Sat W0 wx (seg true s 0 (doesL K q ++ sesT K out) :: (restL K q key custom out msg ++ X)) := h
  rw [hd] at h1 ⊢
  exact ⟨h1.at 2 rfl, h1.at 5 rfl, h1.at 6 rfl, h1.lt (by simp [sesT])⟩
 have hlen : ∀ q, (doesL K q).length = 5 := fun q => doesL_len K q
 have hbs := fun q a o w => build_ses K q a o w
 have HN := Lib.hid (And.intro hno (And.intro htw (And.intro hseg (And.intro hsh (And.intro hcells (And.intro hlen hbs)))))); clear hno htw hseg hsh hcells hlen hbs hf
 rcases K with wide | _ | ⟨large, xof⟩
 ·have hS0 := HN.out.2.2.2.2.1
  have hS : ∀ wx X, Sat W0 wx (sesL (MKind.hm wide) s q key custom out msg ++ X) → wx.cell? ⟨s, 2, none⟩ = some (.func (.func 126) #[] #[.pointer (some ⟨q.2.1, 0, none⟩)]) ∧ wx.cell? ⟨s, 5, none⟩ = some (.int .u8 ((MKind.hm wide).alg : Int)) ∧ wx.cell? ⟨s, 6, none⟩ = some (.int .i64 (out : Int)) ∧ s < wx.heap.size := fun wx X h => hS0 wx X h
  clear hS0
  have HSS := Lib.hid hS; clear hS
  obtain ⟨al, hal⟩ : ∃ al : Nat, al = (MKind.hm wide).alg := ⟨_, rfl⟩
  have HAL := Lib.hid hal
  rw [← hal] at HSS
  clear hal
  go_enter Tryz.func83, Tryz.ntmps83
  go_wp2_with fail
  refine HN.out.1.mono ?_
  rintro e w1 ⟨rfl, rfl⟩
  go_wp2_with fail
  refine region_E (fun w' => w'.cell? ⟨s, 2, none⟩ = some (.func (.func 126) #[] #[.pointer (some ⟨q.2.1, 0, none⟩)]) ∧ w'.cell? ⟨s, 5, none⟩ = some (.int .u8 (al : Int)) ∧ w'.cell? ⟨s, 6, none⟩ = some (.int .i64 (out : Int)) ∧ s < w'.heap.size) [4, 9, 13] (by kernel_rfl) ?_
  have hHeld := HSS.out _ _ h.drew
  iterate 13
   first | refine autoT' hHeld (h := ?_) | refine autoP' (h := ?_)
   try simp only [pA1, pA2, pA3, pA4]
  refine anyE_one' (i := 5) (h := fun K hK => ?_)
  go_simp
  refine (HN.out.2.1 _ L h.drew).mono ?_
  rintro e w5 ⟨q2, rfl, s5⟩
  have s5' : Sat W0 w5 (sesL (MKind.hm wide) s q key custom out msg ++ (restL (MKind.hm wide) q2 key custom out msg ++ L)) := Sat.sub s5 (Fr.swap _ _)
  have hK5 := HSS.out _ _ s5'
  have hD := HN.out.2.2.2.2.2.1 q2
  have hB := HN.out.2.2.2.2.2.2 q2
  obtain ⟨D, hDe⟩ : ∃ D, D = doesL (MKind.hm wide) q2 := ⟨_, rfl⟩
  rw [← hDe] at hD hB ⊢
  have HD := Lib.hid (And.intro hD (And.intro hB hDe)); clear hD hB hDe
  go_wp2_with fail
  refine hK.out _ _ hK5 ?_
  clear hK K hHeld h
  try simp only [pA1, pA2, pA3, pA4]
  refine anyE_pure (i := 14) (x := ?_) (v := ?_) ?_ (by kernel_rfl) (by kernel_rfl) (by kernel_rfl) ?_ ?_ ?_
  rotate_left 2
  ·(simp only [gE1, gE2, gE3]; rfl)
  ·exact fun _ _ _ h => h
  ·refine yieldsIf_build ?_ 166 (parts := #[(0, .tmp 11), (1, .tmp 15), (2, .tmp 19)]) ?_ (.agg (D ++ [Value.int .u8 (al : Int), Value.int .i64 (out : Int)]).toArray) ?_
   ·rfl
   ·rfl
   intro w
   simp only [List.map_toArray, List.map_cons, List.map_nil]
   exact HD.out.2.1 _ _ w
  try simp only [pA1, pA2, pA3, pA4]
  refine anyE_one' (i := 15) (h := fun K hK => ?_)
  rw [if_pos (by rfl)]
  refine op_box 166 (.tmp 20) rfl (D ++ [Value.int .u8 (al : Int), Value.int .i64 (out : Int)]) rfl s5 ?_
  intro w6 g6 s6'
  have hK6 := HSS.out w6 (seg true g6 0 (D ++ [Value.int .u8 (al : Int), Value.int .i64 (out : Int)]) :: (restL (MKind.hm wide) q2 key custom out msg ++ L)) (Sat.sub s6' (Fr.swap1 _ _))
  have s6 : Sat W0 w6 (seg true g6 0 (doesL (MKind.hm wide) q2 ++ sesT (MKind.hm wide) out) :: (restL (MKind.hm wide) q2 key custom out msg ++ (sesL (MKind.hm wide) s q key custom out msg ++ L))) := by
   have e1 : doesL (MKind.hm wide) q2 ++ sesT (MKind.hm wide) out = D ++ [Value.int .u8 (al : Int), Value.int .i64 (out : Int)] := by rw [HD.out.2.2, HAL.out]; rfl
   rw [e1]; exact s6'
  try simp only [Act.put, List.setIfInBounds_toArray, List.set_cons_zero, List.set_cons_succ]
  refine hK.out _ _ hK6 ?_
  clear hK K s5 s5' hK5 s6' hK6
  try simp only [pA1, pA2, pA3, pA4]
  iterate 2
   first | refine autoT' hHeld (h := ?_) | refine autoP' (h := ?_)
   try simp only [pA1, pA2, pA3, pA4]
  refine anyE_done (by kernel_rfl) ?_ _
  have hfin := HN.out.2.2.2.1 w6 (sesL (MKind.hm wide) s q key custom out msg ++ L) q2 g6 s6
  have HS := Lib.hid (HN.out.2.2.2.1 w6 (ses (MKind.hm wide) g6 key custom out msg :: L) q s (hfin.sub (Fr.rot (sesL (MKind.hm wide) s q key custom out msg)))); clear hfin s6
  go_wp2_with fail
  refine bodyPost_ret (v := .tuple #[.pointer (some ⟨g6, 0, none⟩), .int .i64 0]) (by simp [results, Tryz.results83, go_sem]) rfl ⟨g6, rfl, ?_⟩
  have s9 := HS.out
  exact s9.f
 ·have hS0 := HN.out.2.2.2.2.1
  have hS : ∀ wx X, Sat W0 wx (sesL MKind.cm s q key custom out msg ++ X) → wx.cell? ⟨s, 2, none⟩ = some (.func (.func 135) #[] #[.pointer (some ⟨q.2.1, 0, none⟩)]) ∧ wx.cell? ⟨s, 5, none⟩ = some (.int .u8 (MKind.cm.alg : Int)) ∧ wx.cell? ⟨s, 6, none⟩ = some (.int .i64 (out : Int)) ∧ s < wx.heap.size := fun wx X h => hS0 wx X h
  clear hS0
  have HSS := Lib.hid hS; clear hS
  obtain ⟨al, hal⟩ : ∃ al : Nat, al = MKind.cm.alg := ⟨_, rfl⟩
  have HAL := Lib.hid hal
  rw [← hal] at HSS
  clear hal
  go_enter Tryz.func83, Tryz.ntmps83
  go_wp2_with fail
  refine HN.out.1.mono ?_
  rintro e w1 ⟨rfl, rfl⟩
  go_wp2_with fail
  refine region_E (fun w' => w'.cell? ⟨s, 2, none⟩ = some (.func (.func 135) #[] #[.pointer (some ⟨q.2.1, 0, none⟩)]) ∧ w'.cell? ⟨s, 5, none⟩ = some (.int .u8 (al : Int)) ∧ w'.cell? ⟨s, 6, none⟩ = some (.int .i64 (out : Int)) ∧ s < w'.heap.size) [4, 9, 13] (by kernel_rfl) ?_
  have hHeld := HSS.out _ _ h.drew
  iterate 13
   first | refine autoT' hHeld (h := ?_) | refine autoP' (h := ?_)
   try simp only [pA1, pA2, pA3, pA4]
  refine anyE_one' (i := 5) (h := fun K hK => ?_)
  go_simp
  refine (HN.out.2.1 _ L h.drew).mono ?_
  rintro e w5 ⟨q2, rfl, s5⟩
  have s5' : Sat W0 w5 (sesL MKind.cm s q key custom out msg ++ (restL MKind.cm q2 key custom out msg ++ L)) := Sat.sub s5 (Fr.swap _ _)
  have hK5 := HSS.out _ _ s5'
  have hD := HN.out.2.2.2.2.2.1 q2
  have hB := HN.out.2.2.2.2.2.2 q2
  obtain ⟨D, hDe⟩ : ∃ D, D = doesL MKind.cm q2 := ⟨_, rfl⟩
  rw [← hDe] at hD hB ⊢
  have HD := Lib.hid (And.intro hD (And.intro hB hDe)); clear hD hB hDe
  go_wp2_with fail
  refine hK.out _ _ hK5 ?_
  clear hK K hHeld h
  try simp only [pA1, pA2, pA3, pA4]
  refine anyE_pure (i := 14) (x := ?_) (v := ?_) ?_ (by kernel_rfl) (by kernel_rfl) (by kernel_rfl) ?_ ?_ ?_
  rotate_left 2
  ·(simp only [gE1, gE2, gE3]; rfl)
  ·exact fun _ _ _ h => h
  ·refine yieldsIf_build ?_ 166 (parts := #[(0, .tmp 11), (1, .tmp 15), (2, .tmp 19)]) ?_ (.agg (D ++ [Value.int .u8 (al : Int), Value.int .i64 (out : Int)]).toArray) ?_
   ·rfl
   ·rfl
   intro w
   simp only [List.map_toArray, List.map_cons, List.map_nil]
   exact HD.out.2.1 _ _ w
  try simp only [pA1, pA2, pA3, pA4]
  refine anyE_one' (i := 15) (h := fun K hK => ?_)
  rw [if_pos (by rfl)]
  refine op_box 166 (.tmp 20) rfl (D ++ [Value.int .u8 (al : Int), Value.int .i64 (out : Int)]) rfl s5 ?_
  intro w6 g6 s6'
  have hK6 := HSS.out w6 (seg true g6 0 (D ++ [Value.int .u8 (al : Int), Value.int .i64 (out : Int)]) :: (restL MKind.cm q2 key custom out msg ++ L)) (Sat.sub s6' (Fr.swap1 _ _))
  have s6 : Sat W0 w6 (seg true g6 0 (doesL MKind.cm q2 ++ sesT MKind.cm out) :: (restL MKind.cm q2 key custom out msg ++ (sesL MKind.cm s q key custom out msg ++ L))) := by
   have e1 : doesL MKind.cm q2 ++ sesT MKind.cm out = D ++ [Value.int .u8 (al : Int), Value.int .i64 (out : Int)] := by rw [HD.out.2.2, HAL.out]; rfl
   rw [e1]; exact s6'
  try simp only [Act.put, List.setIfInBounds_toArray, List.set_cons_zero, List.set_cons_succ]
  refine hK.out _ _ hK6 ?_
  clear hK K s5 s5' hK5 s6' hK6
  try simp only [pA1, pA2, pA3, pA4]
  iterate 2
   first | refine autoT' hHeld (h := ?_) | refine autoP' (h := ?_)
   try simp only [pA1, pA2, pA3, pA4]
  refine anyE_done (by kernel_rfl) ?_ _
  have hfin := HN.out.2.2.2.1 w6 (sesL MKind.cm s q key custom out msg ++ L) q2 g6 s6
  have HS := Lib.hid (HN.out.2.2.2.1 w6 (ses MKind.cm g6 key custom out msg :: L) q s (hfin.sub (Fr.rot (sesL MKind.cm s q key custom out msg)))); clear hfin s6
  go_wp2_with fail
  refine bodyPost_ret (v := .tuple #[.pointer (some ⟨g6, 0, none⟩), .int .i64 0]) (by simp [results, Tryz.results83, go_sem]) rfl ⟨g6, rfl, ?_⟩
  have s9 := HS.out
  exact s9.f
 ·have hS0 := HN.out.2.2.2.2.1
  have hS : ∀ wx X, Sat W0 wx (sesL (MKind.km large xof) s q key custom out msg ++ X) → wx.cell? ⟨s, 2, none⟩ = some (.func (.func 147) #[] #[.pointer (some ⟨q.2.1, 0, none⟩), .pointer (some ⟨q.2.2.1, 0, none⟩), .pointer (some ⟨q.2.2.2.1, 0, none⟩)]) ∧ wx.cell? ⟨s, 5, none⟩ = some (.int .u8 ((MKind.km large xof).alg : Int)) ∧ wx.cell? ⟨s, 6, none⟩ = some (.int .i64 (out : Int)) ∧ s < wx.heap.size := fun wx X h => hS0 wx X h
  clear hS0
  have HSS := Lib.hid hS; clear hS
  obtain ⟨al, hal⟩ : ∃ al : Nat, al = (MKind.km large xof).alg := ⟨_, rfl⟩
  have HAL := Lib.hid hal
  rw [← hal] at HSS
  clear hal
  go_enter Tryz.func83, Tryz.ntmps83
  go_wp2_with fail
  refine HN.out.1.mono ?_
  rintro e w1 ⟨rfl, rfl⟩
  go_wp2_with fail
  refine region_E (fun w' => w'.cell? ⟨s, 2, none⟩ = some (.func (.func 147) #[] #[.pointer (some ⟨q.2.1, 0, none⟩), .pointer (some ⟨q.2.2.1, 0, none⟩), .pointer (some ⟨q.2.2.2.1, 0, none⟩)]) ∧ w'.cell? ⟨s, 5, none⟩ = some (.int .u8 (al : Int)) ∧ w'.cell? ⟨s, 6, none⟩ = some (.int .i64 (out : Int)) ∧ s < w'.heap.size) [4, 9, 13] (by kernel_rfl) ?_
  have hHeld := HSS.out _ _ h.drew
  iterate 13
   first | refine autoT' hHeld (h := ?_) | refine autoP' (h := ?_)
   try simp only [pA1, pA2, pA3, pA4]
  refine anyE_one' (i := 5) (h := fun K hK => ?_)
  go_simp
  refine (HN.out.2.1 _ L h.drew).mono ?_
  rintro e w5 ⟨q2, rfl, s5⟩
  have s5' : Sat W0 w5 (sesL (MKind.km large xof) s q key custom out msg ++ (restL (MKind.km large xof) q2 key custom out msg ++ L)) := Sat.sub s5 (Fr.swap _ _)
  have hK5 := HSS.out _ _ s5'
  have hD := HN.out.2.2.2.2.2.1 q2
  have hB := HN.out.2.2.2.2.2.2 q2
  obtain ⟨D, hDe⟩ : ∃ D, D = doesL (MKind.km large xof) q2 := ⟨_, rfl⟩
  rw [← hDe] at hD hB ⊢
  have HD := Lib.hid (And.intro hD (And.intro hB hDe)); clear hD hB hDe
  go_wp2_with fail
  refine hK.out _ _ hK5 ?_
  clear hK K hHeld h
  try simp only [pA1, pA2, pA3, pA4]
  refine anyE_pure (i := 14) (x := ?_) (v := ?_) ?_ (by kernel_rfl) (by kernel_rfl) (by kernel_rfl) ?_ ?_ ?_
  rotate_left 2
  ·(simp only [gE1, gE2, gE3]; rfl)
  ·exact fun _ _ _ h => h
  ·refine yieldsIf_build ?_ 166 (parts := #[(0, .tmp 11), (1, .tmp 15), (2, .tmp 19)]) ?_ (.agg (D ++ [Value.int .u8 (al : Int), Value.int .i64 (out : Int)]).toArray) ?_
   ·rfl
   ·rfl
   intro w
   simp only [List.map_toArray, List.map_cons, List.map_nil]
   exact HD.out.2.1 _ _ w
  try simp only [pA1, pA2, pA3, pA4]
  refine anyE_one' (i := 15) (h := fun K hK => ?_)
  rw [if_pos (by rfl)]
  refine op_box 166 (.tmp 20) rfl (D ++ [Value.int .u8 (al : Int), Value.int .i64 (out : Int)]) rfl s5 ?_
  intro w6 g6 s6'
  have hK6 := HSS.out w6 (seg true g6 0 (D ++ [Value.int .u8 (al : Int), Value.int .i64 (out : Int)]) :: (restL (MKind.km large xof) q2 key custom out msg ++ L)) (Sat.sub s6' (Fr.swap1 _ _))
  have s6 : Sat W0 w6 (seg true g6 0 (doesL (MKind.km large xof) q2 ++ sesT (MKind.km large xof) out) :: (restL (MKind.km large xof) q2 key custom out msg ++ (sesL (MKind.km large xof) s q key custom out msg ++ L))) := by
   have e1 : doesL (MKind.km large xof) q2 ++ sesT (MKind.km large xof) out = D ++ [Value.int .u8 (al : Int), Value.int .i64 (out : Int)] := by rw [HD.out.2.2, HAL.out]; rfl
   rw [e1]; exact s6'
  try simp only [Act.put, List.setIfInBounds_toArray, List.set_cons_zero, List.set_cons_succ]
  refine hK.out _ _ hK6 ?_
  clear hK K s5 s5' hK5 s6' hK6
  try simp only [pA1, pA2, pA3, pA4]
  iterate 2
   first | refine autoT' hHeld (h := ?_) | refine autoP' (h := ?_)
   try simp only [pA1, pA2, pA3, pA4]
  refine anyE_done (by kernel_rfl) ?_ _
  have hfin := HN.out.2.2.2.1 w6 (sesL (MKind.km large xof) s q key custom out msg ++ L) q2 g6 s6
  have HS := Lib.hid (HN.out.2.2.2.1 w6 (ses (MKind.km large xof) g6 key custom out msg :: L) q s (hfin.sub (Fr.rot (sesL (MKind.km large xof) s q key custom out msg)))); clear hfin s6
  go_wp2_with fail
  refine bodyPost_ret (v := .tuple #[.pointer (some ⟨g6, 0, none⟩), .int .i64 0]) (by simp [results, Tryz.results83, go_sem]) rfl ⟨g6, rfl, ?_⟩
  have s9 := HS.out
  exact s9.f
end Go.Proofs.YtbefjaodpbgpcaaGreat
