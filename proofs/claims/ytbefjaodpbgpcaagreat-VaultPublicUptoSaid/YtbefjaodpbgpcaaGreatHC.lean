/- Mac5, Mac6, Ct, Mac7: texts that lie apart elsewhere, as one; each under the conditions that it names. -/
import Derived.Test.YtbefjaodpbgpcaaGreatHB
set_option linter.unusedVariables false
set_option linter.unusedSimpArgs false
set_option maxRecDepth 100000
set_option maxHeartbeats 16000000
namespace Go.Proofs.YtbefjaodpbgpcaaGreat
open Go.RowKit Go.Sep Go.Bv Go.Kec Go.Aes Go.Sha
theorem macOfNone {W0 w : World} {L : List Assn} (a : Int) (ha : ∀ k : Nat, 1 ≤ k → k ≤ 7 → ¬ a = (k : Int)) (hs : Sat W0 w L) :
  Calls Tryz.prog 89 #[.int .u8 a] w fun e w' => e = .returned (.tuple #[.agg #[.int .u8 0, .int .i64 0, .bool false, .nilFunc], .int .i64 4]) ∧ Sat W0 w' L := by
 have e1 : (a == 1) = false := by rw [beq_eq_false_iff_ne]; exact ha 1 (by decide) (by decide)
 have e2 : (a == 2) = false := by rw [beq_eq_false_iff_ne]; exact ha 2 (by decide) (by decide)
 have e3 : (a == 3) = false := by rw [beq_eq_false_iff_ne]; exact ha 3 (by decide) (by decide)
 have e4 : (a == 4) = false := by rw [beq_eq_false_iff_ne]; exact ha 4 (by decide) (by decide)
 have e5 : (a == 5) = false := by rw [beq_eq_false_iff_ne]; exact ha 5 (by decide) (by decide)
 have e6 : (a == 6) = false := by rw [beq_eq_false_iff_ne]; exact ha 6 (by decide) (by decide)
 have e7 : (a == 7) = false := by rw [beq_eq_false_iff_ne]; exact ha 7 (by decide) (by decide)
 clear ha
 go_enter Tryz.func89, Tryz.ntmps89
 go_wp2_with fail
 have s2 := (hs.alloc #[.int .u8 0, .int .i64 0, .bool false, .nilFunc] 157).alloc #[.int .u8 a, .int .i64 64, .bool false, .func (.func 106) #[] #[]] 157
 have s3 : Sat W0 _ (seg true w.heap.size 0 [.int .u8 0, .int .i64 0, .bool false, .nilFunc] :: _) := s2.pull 1
 have hr := run_loadVar_agg (P := Tryz.prog) (ty := 157) Tryz.underlying157 rfl Tryz.size_kind s3 0 0 rfl (Nat.le_refl 4)
 refine bodyPost_ret (v := .tuple #[.agg #[.int .u8 0, .int .i64 0, .bool false, .nilFunc], .int .i64 4]) ?_ rfl ⟨rfl, s3.tail.tail⟩
 simp [results, Tryz.results89, asAddr]
 erw [hr]
 rfl
theorem macUnknown {W0 w : World} {L : List Assn} (a : Int) (ha : ∀ k : Nat, 1 ≤ k → k ≤ 7 → ¬ a = (k : Int)) (pv x y z : Value) (hs : Sat W0 w L) :
  Calls Tryz.prog 73 #[pv, .int .u8 a, x, y, z] w fun e w' => e = .returned (.tuple #[.pointer none, .int .i64 4]) ∧ Sat W0 w' L := by
 have hof := macOfNone a ha hs
 clear ha hs
 go_enter Tryz.func73, Tryz.ntmps73
 go_wp2_with fail
 refine hof.mono ?_
 rintro e w1 ⟨rfl, s1⟩
 have HS := Lib.hid ((s1.alloc #[.int .u8 0, .int .i64 0, .bool false, .nilFunc] 157).tail); clear s1 hof
 go_wp2_with fail
 exact bodyPost_ret (v := .tuple #[.pointer none, .int .i64 4]) (by simp [results, Tryz.results73, go_sem]) rfl ⟨rfl, HS.out⟩
theorem macRefuse {W0 w : World} {L : List Assn} {pk pc : Option Addr} {nk ck n cap : Nat} {pv av : Value} (K : MKind) (out : Int) (ha : av = .int .u8 (K.alg : Int)) (hc : K.code nk n out ≠ 0) (hs : Sat W0 w L) :
  Calls Tryz.prog 73 #[pv, av, .slice pk nk ck, .slice pc n cap, .int .i64 out] w fun e w' => e = .returned (.tuple #[.pointer none, .int .i64 (K.code nk n out)]) ∧ Sat W0 w' L := by
 subst ha
 have hof := fun (w : World) (X : List Assn) (s : Sat W0 w X) => macOf K rfl s
 have hkf := fun w => macKeyF K w nk
 have hcf := fun w => keyF_call K (.int .i64 (nk : Int)) w
 have hcode : K.code nk n out = if K.keyOk nk = false then 7 else if 0 < n ∧ K.cust = false then 2 else if 64 < n then 9 else if out < 1 ∨ (K.most : Int) < out then 11 else 0 := rfl
 obtain ⟨al, hal⟩ : ∃ al : Nat, al = K.alg := ⟨_, rfl⟩
 obtain ⟨mo, hmo⟩ : ∃ mo : Nat, mo = K.most := ⟨_, rfl⟩
 obtain ⟨cu, hcu⟩ : ∃ cu : Bool, cu = K.cust := ⟨_, rfl⟩
 obtain ⟨ko, hko⟩ : ∃ ko : Bool, ko = K.keyOk nk := ⟨_, rfl⟩
 obtain ⟨kf, hkf'⟩ : ∃ kf : Nat, kf = K.keyF := ⟨_, rfl⟩
 have hkv : kindV K = .agg #[.int .u8 (al : Int), .int .i64 (mo : Int), .bool cu, .func (.func kf) #[] #[]] := by rw [hal, hmo, hcu, hkf']; rfl
 have hfn := fun w => funcNil kf w
 rw [hkv, ← hal] at hof
 rw [← hkf', ← hko] at hkf
 rw [← hkf'] at hcf
 rw [← hal]
 rw [← hko, ← hcu, ← hmo] at hcode
 rw [hcode] at hc ⊢
 have HN := Lib.hid (And.intro hof hkf); clear hof hkf hcode hko hkv hkf' hcu hmo hal
 cases ko with
 | false =>
  rw [if_pos rfl] at hc ⊢
  clear hc
  go_enter Tryz.func73, Tryz.ntmps73
  go_wp2_with fail
  refine (HN.out.1 _ _ hs).mono ?_
  rintro e w1 ⟨rfl, s1⟩
  clear hs
  go_wp2_with fail
  refine (HN.out.2 _).mono ?_
  rintro e w2 ⟨rfl, rfl⟩
  have HS := Lib.hid s1; clear s1
  go_wp2_with fail
  exact bodyPost_ret (v := .tuple #[.pointer none, .int .i64 7]) (by simp [results, Tryz.results73, go_sem]) rfl ⟨rfl, HS.out.alloc' _⟩
 | true =>
  rw [if_neg (by decide)] at hc ⊢
  by_cases h2 : 0 < n ∧ cu = false
  ·rw [if_pos h2] at hc ⊢
   obtain ⟨h2, rfl⟩ := h2
   have g1 : (0 : Int) < (n : Int) := by omega
   clear hc h2
   go_enter Tryz.func73, Tryz.ntmps73
   go_wp2_with fail
   refine (HN.out.1 _ _ hs).mono ?_
   rintro e w1 ⟨rfl, s1⟩
   clear hs
   go_wp2_with fail
   refine (HN.out.2 _).mono ?_
   rintro e w2 ⟨rfl, rfl⟩
   have HS := Lib.hid s1; clear s1
   go_wp2_with fail
   exact bodyPost_ret (v := .tuple #[.pointer none, .int .i64 2]) (by simp [results, Tryz.results73, go_sem]) rfl ⟨rfl, HS.out.alloc' _⟩
  ·rw [if_neg h2] at hc ⊢
   by_cases h9 : 64 < n
   ·rw [if_pos h9] at hc ⊢
    have hcu : cu = true := by
     cases cu with
     | true => rfl
     | false => exact absurd ⟨by omega, rfl⟩ h2
    subst hcu
    have g1 : (0 : Int) < (n : Int) := by omega
    have g2 : (64 : Int) < (n : Int) := by omega
    clear hc h2 h9
    go_enter Tryz.func73, Tryz.ntmps73
    go_wp2_with fail
    refine (HN.out.1 _ _ hs).mono ?_
    rintro e w1 ⟨rfl, s1⟩
    clear hs
    go_wp2_with fail
    refine (HN.out.2 _).mono ?_
    rintro e w2 ⟨rfl, rfl⟩
    have HS := Lib.hid s1; clear s1
    go_wp2_with fail
    exact bodyPost_ret (v := .tuple #[.pointer none, .int .i64 9]) (by simp [results, Tryz.results73, go_sem]) rfl ⟨rfl, HS.out.alloc' _⟩
   ·rw [if_neg h9] at hc ⊢
    by_cases h11 : out < 1 ∨ (mo : Int) < out
    ·rw [if_pos h11] at hc ⊢
     clear hc
     have g2 : (n : Int) ≤ 64 := by omega
     have hn : (n = 0) ∨ (0 < n ∧ cu = true) := by
      rcases Nat.eq_zero_or_pos n with h | h
      ·exact .inl h
      ·refine .inr ⟨h, ?_⟩
       cases cu with
       | true => rfl
       | false => exact absurd ⟨h, rfl⟩ h2
     clear h2 h9
     have ho : out < 1 ∨ (1 ≤ out ∧ (mo : Int) < out) := by omega
     clear h11
     rcases hn with rfl | ⟨h0, rfl⟩
     ·rcases ho with ho | ⟨ho, ho2⟩
      ·skip
       go_enter Tryz.func73, Tryz.ntmps73
       go_wp2_with fail
       refine (HN.out.1 _ _ hs).mono ?_
       rintro e w1 ⟨rfl, s1⟩
       clear hs
       go_wp2_with fail
       refine (HN.out.2 _).mono ?_
       rintro e w2 ⟨rfl, rfl⟩
       have HS := Lib.hid s1; clear s1
       go_wp2_with fail
       exact bodyPost_ret (v := .tuple #[.pointer none, .int .i64 11]) (by simp [results, Tryz.results73, go_sem]) rfl ⟨rfl, HS.out.alloc' _⟩
      ·skip
       go_enter Tryz.func73, Tryz.ntmps73
       go_wp2_with fail
       refine (HN.out.1 _ _ hs).mono ?_
       rintro e w1 ⟨rfl, s1⟩
       clear hs
       go_wp2_with fail
       refine (HN.out.2 _).mono ?_
       rintro e w2 ⟨rfl, rfl⟩
       have HS := Lib.hid s1; clear s1
       go_wp2_with fail
       exact bodyPost_ret (v := .tuple #[.pointer none, .int .i64 11]) (by simp [results, Tryz.results73, go_sem]) rfl ⟨rfl, HS.out.alloc' _⟩
     ·have g1 : (0 : Int) < (n : Int) := by omega
      clear h0
      rcases ho with ho | ⟨ho, ho2⟩
      ·skip
       go_enter Tryz.func73, Tryz.ntmps73
       go_wp2_with fail
       refine (HN.out.1 _ _ hs).mono ?_
       rintro e w1 ⟨rfl, s1⟩
       clear hs
       go_wp2_with fail
       refine (HN.out.2 _).mono ?_
       rintro e w2 ⟨rfl, rfl⟩
       have HS := Lib.hid s1; clear s1
       go_wp2_with fail
       exact bodyPost_ret (v := .tuple #[.pointer none, .int .i64 11]) (by simp [results, Tryz.results73, go_sem]) rfl ⟨rfl, HS.out.alloc' _⟩
      ·skip
       go_enter Tryz.func73, Tryz.ntmps73
       go_wp2_with fail
       refine (HN.out.1 _ _ hs).mono ?_
       rintro e w1 ⟨rfl, s1⟩
       clear hs
       go_wp2_with fail
       refine (HN.out.2 _).mono ?_
       rintro e w2 ⟨rfl, rfl⟩
       have HS := Lib.hid s1; clear s1
       go_wp2_with fail
       exact bodyPost_ret (v := .tuple #[.pointer none, .int .i64 11]) (by simp [results, Tryz.results73, go_sem]) rfl ⟨rfl, HS.out.alloc' _⟩
    ·rw [if_neg h11] at hc
     exact absurd rfl hc
end Go.Proofs.YtbefjaodpbgpcaaGreat
namespace Go.Proofs.YtbefjaodpbgpcaaGreat
open Go.RowKit Go.Sep Go.Bv Go.Kec Go.Aes Go.Sha
theorem sesFacts {W0 w : World} {L : List Assn} {K : MKind} {s out : Nat} {key custom msg : List Byte} (h : Sat W0 w (ses K s key custom out msg :: L)) : w.cell? ⟨s, 5, none⟩ = some (.int .u8 (K.alg : Int)) ∧ w.cell? ⟨s, 6, none⟩ = some (.int .i64 (out : Int)) ∧ s < w.heap.size := by
 obtain ⟨q, h⟩ := sesOpen h
 obtain ⟨d0, d1, d2, d3, d4, hd, _⟩ := doesL_five K q
 have h1 : Sat W0 w (seg true s 0 (doesL K q ++ sesT K out) :: (restL K q key custom out msg ++ L)) := h
 rw [hd] at h1
 exact ⟨h1.at 5 rfl, h1.at 6 rfl, h1.lt (by simp [sesT])⟩
theorem macNone {W0 w : World} {L : List Assn} {K : MKind} {s out : Nat} {key custom msg : List Byte} (ho : 1 ≤ out) (hs : Sat W0 w (ses K s key custom out msg :: L)) :
  Calls Tryz.prog 91 #[.pointer (some ⟨s, 0, none⟩)] w fun e w' => e = .returned (.bool false) ∧ w' = w := by
 obtain ⟨_, c6, z0⟩ := sesFacts hs
 have e0 : ((out : Int) == 0) = false := by rw [beq_eq_false_iff_ne]; omega
 clear hs
 go_enter Tryz.func91, Tryz.ntmps91
 go_wp2
 go_ret
 exact ⟨rfl, rfl⟩
theorem cmWriteM {W0 w : World} {L : List Assn} {m : Bool} {b c n cap : Nat} {pp : Option Addr} {pv : Value} (p : Option Nat) (rs : List Run3) (key msg P : List Byte) (hp : pv = ptrO p) (hP : P.length = n) (hk : cmKey key) (hcap : n ≤ cap) (hcm : cap ≤ maxLen) (hb : tot rs + n + 32 ≤ 4611686018427387904) (hl : rs.length + 1 ≤ 4294967296)
  (hs : Sat W0 w (ledO p rs :: bytes m pp P :: cmM b c key msg L)) :
  Calls Tryz.prog 131 #[.pointer (some ⟨b, 0, none⟩), pv, .slice pp n cap] w fun e w' => e = .returned (.int .i64 0) ∧ Sat W0 w' (ledO p (noteN rs 5 (key.length : Int) ((msg.length + n - 1) / 16 - (msg.length - 1) / 16)) :: bytes m pp P :: cmM b c key (msg ++ P) L) := by
 obtain ⟨h1, h2, h3⟩ := cmSt_inv hk msg
 have hk' := hk
 unfold cmKey at hk'
 have := cmacWrite p rs (expand key) (cmK1 key) (cmK2 key) (cmSt key msg).1 (cmSt key msg).2.1 P (cmSt key msg).2.2 hp hP (expand_240 hk) h1 h2 (by rw [h3]; exact cwait_le _ _) (by omega) (by omega) hcap hcm hb hl hs
 rw [h3, cblocks_diff, ← h3] at this
 unfold cmM
 rw [cmSt_append]
 exact this
theorem cmSumM {W0 w : World} {L : List Assn} {b c : Nat} {pv : Value} (p : Option Nat) (rs : List Run3) (key msg : List Byte) (hp : pv = ptrO p) (hk : cmKey key) (hb : tot rs + 1 ≤ 4611686018427387904) (hl : rs.length ≤ 4294967296) (hs : Sat W0 w (ledO p rs :: cmM b c key msg L)) :
  Calls Tryz.prog 132 #[.pointer (some ⟨b, 0, none⟩), pv] w fun e w' => ∃ g, e = .returned (.tuple #[.slice (some ⟨g, 0, none⟩) 16 16, .int .i64 0]) ∧ Sat W0 w' (seg true g 0 (u8s (cmTag (aesEnc key.length (expand key)) (cmK1 key) (cmK2 key) (cmSt key msg))) :: ledO p (note rs 5 (key.length : Int) 1) :: cmM b c key msg L) := by
 obtain ⟨h1, h2, h3⟩ := cmSt_inv hk msg
 have hk' := hk
 unfold cmKey at hk'
 exact cmacSum p rs (expand key) (cmK1 key) (cmK2 key) (cmSt key msg).1 (cmSt key msg).2.1 (cmSt key msg).2.2 hp (expand_240 hk) (dbl_len _) (dbl_len _) h1 h2 (by rw [h3]; exact cwait_le _ _) (by omega) (by omega) hb hl hs
theorem cmFormM {W0 w : World} {L : List Assn} {b c : Nat} (key msg : List Byte) (hk : cmKey key) (hs : Sat W0 w (cmM b c key msg L)) :
  Calls Tryz.prog 134 #[.pointer (some ⟨b, 0, none⟩)] w fun e w' => ∃ q d, e = .returned (.slice q (16 * (key.length / 4 + 7) + 65) d) ∧ Sat W0 w' (row q d 1 (16 * (key.length / 4 + 7) + 65) (u8s (cmForm key.length (expand key) (cmK1 key) (cmK2 key) (cmSt key msg).1 (cmSt key msg).2.1 (cmSt key msg).2.2)) :: cmM b c key msg L) := by
 obtain ⟨h1, h2, h3⟩ := cmSt_inv hk msg
 have hk' := hk
 unfold cmKey at hk'
 exact cmacForm (expand key) (cmK1 key) (cmK2 key) (cmSt key msg).1 (cmSt key msg).2.1 (cmSt key msg).2.2 (expand_240 hk) (by omega) (by omega) (dbl_len _) (dbl_len _) h1 h2 (by rw [h3]; exact cwait_le _ _) hs
theorem cmWipeM {W0 w : World} {L : List Assn} {b c : Nat} {pv : Value} (p : Option Nat) (rs : List Run3) (key msg : List Byte) (hp : pv = ptrO p) (hk : cmKey key) (hb : tot rs + 1 ≤ 4611686018427387904) (hl : rs.length ≤ 4294967296) (hs : Sat W0 w (ledO p rs :: cmM b c key msg L)) :
  Calls Tryz.prog 133 #[.pointer (some ⟨b, 0, none⟩), pv] w fun e w' => e = .returned (.int .i64 0) ∧ Sat W0 w' (ledO p (note rs 8 ((16 * (key.length / 4 + 7) + 65 : Nat) : Int) 1) :: L) := by
 obtain ⟨h1, h2, h3⟩ := cmSt_inv hk msg
 have hk' := hk
 unfold cmKey at hk'
 exact cmacWipe p rs (expand key) (cmK1 key) (cmK2 key) (cmSt key msg).1 (cmSt key msg).2.1 (cmSt key msg).2.2 hp (expand_240 hk) (by omega) (by omega) (dbl_len _) (dbl_len _) h1 h2 (by rw [h3]; exact cwait_le _ _) hb hl hs
theorem cmCloneM {W0 w : World} {L : List Assn} {b c : Nat} (key msg : List Byte) (hk : cmKey key) (hs : Sat W0 w (cmM b c key msg L)) :
  Calls Tryz.prog 136 #[.pointer (some ⟨b, 0, none⟩)] w fun e w' => ∃ d c2, e = .returned (.tuple #[.pointer (some ⟨d, 0, none⟩), .int .i64 0]) ∧ Sat W0 w' (cmM d c2 key msg (cmM b c key msg L)) := by
 obtain ⟨h1, h2, h3⟩ := cmSt_inv hk msg
 have hk' := hk
 unfold cmKey at hk'
 exact cmacClone (expand key) (cmK1 key) (cmK2 key) (cmSt key msg).1 (cmSt key msg).2.1 (cmSt key msg).2.2 (expand_240 hk) (by omega) (dbl_len _) (dbl_len _) h1 h2 hs
theorem kmDiv {a r x y : Nat} (h : a % r = 0) (hr : 0 < r) : (a + x) / r - (a + y) / r = x / r - y / r := by
 obtain ⟨k, rfl⟩ : ∃ k, a = r * k := ⟨a / r, by have := Nat.div_add_mod a r; omega⟩
 rw [Nat.mul_add_div hr, Nat.mul_add_div hr]; omega
theorem macWrite {W0 w : World} {L : List Assn} {m : Bool} {pp : Option Addr} {s n cap out : Nat} {pv : Value} (K : MKind) (p : Option Nat) (rs : List Run3) (key custom msg P : List Byte) (hp : pv = ptrO p) (hf : K.fits key custom out) (hR : Roomy rs) (hP : P.length = n) (hcap : n ≤ cap) (hcm : cap ≤ maxLen) (hnb : msg.length + n ≤ 1000000000)
  (hs : Sat W0 w (ledO p rs :: bytes m pp P :: ses K s key custom out msg :: L)) :
  Calls Tryz.prog 76 #[.pointer (some ⟨s, 0, none⟩), pv, .slice pp n cap] w fun e w' => e = .returned (.int .i64 0) ∧ Sat W0 w' (ledO p (noteN rs K.ek (K.es key.length) (K.blk (msg.length + n) - K.blk msg.length)) :: bytes m pp P :: ses K s key custom out (msg ++ P) :: L) := by
 subst hp
 obtain ⟨hR1, hR2⟩ := hR
 obtain ⟨hf1, hf2, hf3, hf4⟩ := hf
 have hno := macNone hf1 (hs.f : Sat W0 w (ses K s key custom out msg :: []))
 have s0 : Sat W0 w (ses K s key custom out msg :: ledO p rs :: bytes m pp P :: L) := hs.f
 clear hs
 cases K with
 | hm wide =>
  obtain ⟨c, gb, s1⟩ := hmOpen s0
  clear s0
  have z0 := s1.lt (by simp [dHm])
  have c0 := s1.at 0 rfl
  have hwr := hmacWriteF (pv := ptrO p) (c := c) (cap := cap) (L := seg true s 0 (dHm c gb ++ [.int .u8 ((MKind.hm wide).alg : Int), .int .i64 (out : Int)]) :: seg true gb 0 [.pointer (some ⟨c, 0, none⟩)] :: L) wide p rs (blockKey wide key) msg P hP rfl hcap hcm (by omega) (by omega) s1.f
  have HN := Lib.hid (And.intro hno hwr); clear hno hwr s1 hf1 hf2 hf3 hf4 hR1 hR2 hP hcap hcm hnb
  go_enter Tryz.func76, Tryz.ntmps76
  go_wp2_with fail
  refine HN.out.1.mono ?_
  rintro e w1 ⟨rfl, rfl⟩
  go_wp2_with fail
  refine HN.out.2.mono ?_
  rintro e w2 ⟨rfl, s2⟩
  have HS := Lib.hid s2; clear s2 c0 z0
  go_wp2_with fail
  go_ret
  have s9 := HS.out
  have s10 := hmShut (custom := custom) (s9.f : Sat W0 _ (hmSes wide s c gb key out (msg ++ P) (ledO p (noteN rs (evK wide) (evS wide) ((msg.length + n) / bsz wide - msg.length / bsz wide)) :: bytes m pp P :: L)))
  refine ⟨rfl, ?_⟩
  simp only [MKind.ek, MKind.es, MKind.blk]
  exact s10.f
 | cm =>
  obtain ⟨b, gb, c, s1⟩ := cmOpen s0
  clear s0
  obtain ⟨_, hkl⟩ := hf4
  have z0 := s1.lt (by simp [dCm])
  have c0 := s1.at 0 rfl
  have hwr := cmWriteM (pv := ptrO p) (b := b) (c := c) (cap := cap) (L := seg true s 0 (dCm b gb ++ [.int .u8 (MKind.cm.alg : Int), .int .i64 (out : Int)]) :: seg true gb 0 [.pointer (some ⟨b, 0, none⟩)] :: L) p rs key msg P rfl hP hkl hcap hcm (by omega) (by omega) s1.f
  have HN := Lib.hid (And.intro hno hwr); clear hno hwr s1 hf1 hf2 hf3 hkl hR1 hR2 hP hcap hcm hnb
  go_enter Tryz.func76, Tryz.ntmps76
  go_wp2_with fail
  refine HN.out.1.mono ?_
  rintro e w1 ⟨rfl, rfl⟩
  go_wp2_with fail
  refine HN.out.2.mono ?_
  rintro e w2 ⟨rfl, s2⟩
  have HS := Lib.hid s2; clear s2 c0 z0
  go_wp2_with fail
  go_ret
  have s9 := HS.out
  have s10 := cmShut (custom := custom) (s9.f : Sat W0 _ (cmSes s b gb c key out (msg ++ P) (ledO p (noteN rs 5 (key.length : Int) ((msg.length + n - 1) / 16 - (msg.length - 1) / 16)) :: bytes m pp P :: L)))
  refine ⟨rfl, ?_⟩
  simp only [MKind.ek, MKind.es, MKind.blk]
  exact s10.f
 | km large xof =>
  obtain ⟨c, gb, go, gx, g, s1⟩ := kmOpen s0
  clear s0
  have z0 := s1.lt (by simp [dKm])
  have c0 := s1.at 0 rfl
  have hkl := (kmPre_len (krt large) (krt_pos large) key custom).1
  have hwr := kmWrite (pv := ptrO p) (c := c) (g := g) (cap := cap) (L := seg true s 0 (dKm c gb go gx ++ [.int .u8 ((MKind.km large xof).alg : Int), .int .i64 (out : Int)]) :: seg true gb 0 [.pointer (some ⟨c, 0, none⟩)] :: seg true go 0 [.int .i64 (out : Int)] :: seg true gx 0 [.bool xof] :: L) p rs (kmPre (krt large) key custom ++ msg) P rfl (kst_ok large) hP hcap hcm (by omega) (by omega) s1.f
  rw [List.length_append, Nat.add_assoc, kmDiv hkl (krt_pos large), List.append_assoc] at hwr
  have HN := Lib.hid (And.intro hno hwr); clear hno hwr s1 hf1 hf2 hf3 hf4 hkl hR1 hR2 hP hcap hcm hnb
  go_enter Tryz.func76, Tryz.ntmps76
  go_wp2_with fail
  refine HN.out.1.mono ?_
  rintro e w1 ⟨rfl, rfl⟩
  go_wp2_with fail
  refine HN.out.2.mono ?_
  rintro e w2 ⟨rfl, s2⟩
  have HS := Lib.hid s2; clear s2 c0 z0
  go_wp2_with fail
  go_ret
  have s9 := HS.out
  have s10 := kmShut (s9.f : Sat W0 _ (kmSes large xof s c gb go gx g key custom out (msg ++ P) (ledO p (noteN rs 3 200 ((msg.length + n) / krt large - msg.length / krt large)) :: bytes m pp P :: L)))
  refine ⟨rfl, ?_⟩
  simp only [MKind.ek, MKind.es, MKind.blk]
  exact s10.f
end Go.Proofs.YtbefjaodpbgpcaaGreat
namespace Go.Proofs.YtbefjaodpbgpcaaGreat
open Go.RowKit Go.Sep Go.Bv Go.Kec Go.Aes Go.Sha
def unlTo (a b : List Byte) : Nat → Byte
 | 0 => 0
 | i + 1 => unlTo a b i ||| (a.getD i 0 ^^^ b.getD i 0)
theorem unlTo_zero (a b : List Byte) : ∀ n, unlTo a b n = 0 ↔ ∀ i, i < n → a.getD i 0 = b.getD i 0
 | 0 => ⟨fun _ i hi => absurd hi (Nat.not_lt_zero i), fun _ => rfl⟩
 | n + 1 => by
  have e : unlTo a b (n + 1) = 0 ↔ unlTo a b n = 0 ∧ (a.getD n 0 ^^^ b.getD n 0) = 0 := by
   have hu : unlTo a b (n + 1) = unlTo a b n ||| (a.getD n 0 ^^^ b.getD n 0) := rfl
   rw [hu]
   exact BitVec.or_eq_zero_iff
  rw [e, unlTo_zero a b n]
  have e2 : (a.getD n 0 ^^^ b.getD n 0) = 0 ↔ a.getD n 0 = b.getD n 0 := BitVec.xor_eq_zero_iff
  rw [e2]
  constructor
  ·rintro ⟨h1, h2⟩ i hi
   by_cases h : i = n
   ·rw [h]; exact h2
   ·exact h1 i (by omega)
  ·exact fun h => ⟨fun i hi => h i (by omega), h n (by omega)⟩
theorem unlTo_eq (a b : List Byte) (n : Nat) (ha : a.length = n) (hb : b.length = n) : (unlTo a b n = 0) ↔ a = b := by
 rw [unlTo_zero]
 constructor
 ·intro h
  apply List.ext_getElem (by rw [ha, hb])
  intro i h1 h2
  have := h i (by omega)
  simpa [h1, h2] using this
 ·rintro rfl i hi; rfl
theorem ctUnlike {W0 w : World} {L : List Assn} {m1 m2 : Bool} {pa pb : Option Addr} {n ca cb : Nat} (a b : List Byte) (ha : a.length = n) (hb : b.length = n) (hn : n ≤ 1000000000) (hs : Sat W0 w (bytes m1 pa a :: bytes m2 pb b :: L)) :
  Calls Tryz.prog 114 #[.slice pa n ca, .slice pb n cb] w fun e w' => e = .returned (.int .u8 (v8 (unlTo a b n))) ∧ ∃ k, w' = w.drewN k := by
 have h0 : n ≠ 0 → ∃ ba oa bb ob, pa = some ⟨ba, oa, none⟩ ∧ pb = some ⟨bb, ob, none⟩ ∧ (∀ i v, (u8s a)[i]? = some v → w.cell? ⟨ba, oa + i, none⟩ = some v) ∧ (∀ i v, (u8s b)[i]? = some v → w.cell? ⟨bb, ob + i, none⟩ = some v) := by
  intro hne
  obtain ⟨ba, oa, rfl, h1⟩ := bytesCell hs (by rintro rfl; exact hne (by rw [← ha]; rfl))
  obtain ⟨bb, ob, rfl, h2⟩ := bytesCell (hs.pull 1 : Sat W0 w (bytes m2 pb b :: _)) (by rintro rfl; exact hne (by rw [← hb]; rfl))
  exact ⟨ba, oa, bb, ob, rfl, rfl, fun i v hv => h1.cell hv, fun i v hv => h2.cell hv⟩
 have HN := Lib.hid (And.intro ha (And.intro hb h0)); clear ha hb h0 hs
 have hz : v8 (0 : Byte) = 0 := rfl
 go_enter Tryz.func114, Tryz.ntmps114
 go_wp2
 go_loopw [5, 9] (fun t5 t9 wr => ∃ i k : Nat, i ≤ n ∧ t9 = .int .i64 (i : Int) ∧ t5 = .int .u8 (v8 (unlTo a b i)) ∧ wr = w.drewN k) (fun _ t9 _ => n - (intOf t9).toNat)
 case atStart => exact ⟨0, 0, Nat.zero_le _, rfl, rfl, rfl⟩
 case round =>
  clear hz
  obtain ⟨i, k, hi, rfl, rfl, rfl⟩ := hrel
  by_cases hlt : i < n
  ·obtain ⟨ba, oa, bb, ob, rfl, rfl, h1, h2⟩ := HN.out.2.2 (by omega)
   have c1 := h1 i _ (u8s_get a i (by rw [HN.out.1]; exact hlt))
   have c2 := h2 i _ (u8s_get b i (by rw [HN.out.2.1]; exact hlt))
   obtain ⟨x, hx⟩ : ∃ x, x = a.getD i 0 := ⟨_, rfl⟩
   obtain ⟨y, hy⟩ : ∃ y, y = b.getD i 0 := ⟨_, rfl⟩
   obtain ⟨d, hd⟩ : ∃ d, d = unlTo a b i := ⟨_, rfl⟩
   rw [← hx] at c1
   rw [← hy] at c2
   rw [← hd]
   have HX := Lib.hid (And.intro hx (And.intro hy hd)); clear hx hy hd h1 h2
   go_wp2_with fail
   go_quiet (fail)
   go_wp2
   go_roundw
   case rel =>
    refine ⟨i + 1, _, by omega, by go_num, ?_, rfl⟩
    rw [vxor8, vor8, HX.out.1, HX.out.2.1, HX.out.2.2]
    rfl
   case measure => simp [intOf]; omega
  ·obtain rfl : i = n := by omega
   go_wp2
   go_ret
   exact ⟨rfl, k, rfl⟩
theorem ctNote {W0 w : World} {L : List Assn} {pv : Value} (p : Option Nat) (rs : List Run3) (k n : Int) (hp : pv = ptrO p) (hb : tot rs + 1 ≤ 4611686018427387904) (hl : rs.length ≤ 4294967296) (hs : Sat W0 w (ledO p rs :: L)) :
  Calls Tryz.prog 113 #[pv, .int .u8 k, .int .i64 n] w fun e w' => e = .returned (.tuple #[]) ∧ Sat W0 w' (ledO p (note rs k n 1) :: L) := by
 subst hp
 have hn := noteOne p rs k n hs hb hl
 have HN := Lib.hid hn; clear hn hs hb hl
 go_enter Tryz.func113, Tryz.ntmps113
 go_wp2_with fail
 refine HN.out.mono ?_
 rintro e w1 ⟨rfl, s1⟩
 have HS := Lib.hid s1; clear s1
 go_wp2_with fail
 exact bodyPost_end (results_none rfl _ _ _) rfl ⟨rfl, HS.out⟩
theorem ctEqual {W0 w : World} {L : List Assn} {m1 m2 : Bool} {pa pb : Option Addr} {n ca cb : Nat} {pv : Value} (p : Option Nat) (rs : List Run3) (a b : List Byte) (hp : pv = ptrO p) (ha : a.length = n) (hb : b.length = n) (hn : n ≤ 1000000000) (hb2 : tot rs + 1 ≤ 4611686018427387904) (hl : rs.length ≤ 4294967296) (hs : Sat W0 w (ledO p rs :: bytes m1 pa a :: bytes m2 pb b :: L)) :
  Calls Tryz.prog 97 #[pv, .slice pa n ca, .slice pb n cb] w fun e w' => e = .returned (.bool (decide (a = b))) ∧ Sat W0 w' (ledO p (note rs 6 (n : Int) 1) :: bytes m1 pa a :: bytes m2 pb b :: L) := by
 subst hp
 have hnt := ctNote p rs 6 (n : Int) rfl hb2 hl hs
 have hun := fun (w : World) (s : Sat W0 w (bytes m1 pa a :: bytes m2 pb b :: ledO p (note rs 6 (n : Int) 1) :: L)) => ctUnlike (ca := ca) (cb := cb) a b ha hb hn s
 have hz : (v8 (unlTo a b n) == 0) = decide (a = b) := by
  by_cases h : a = b
  ·have hv0 : v8 (0 : Byte) = 0 := rfl
   rw [(unlTo_eq a b n ha hb).2 h, hv0]; simp [h]
  ·have h1 : ¬ unlTo a b n = 0 := fun h' => h ((unlTo_eq a b n ha hb).1 h')
   have h2 : ¬ v8 (unlTo a b n) = 0 := fun h' => h1 (v8_inj (by rw [h']; rfl))
   simp [h, h2]
 have HN := Lib.hid (And.intro hnt (And.intro hun hz)); clear hnt hun hz ha hb hb2 hl hs
 go_enter Tryz.func97, Tryz.ntmps97
 go_wp2_with fail
 refine HN.out.1.mono ?_
 rintro e w1 ⟨rfl, s1⟩
 go_wp2_with fail
 refine (HN.out.2.1 _ s1.f).mono ?_
 rintro e w2 ⟨rfl, k, rfl⟩
 have HS := Lib.hid (s1.drewN k); clear s1
 go_wp2_with fail
 go_ret
 exact ⟨by rw [← HN.out.2.2]; rfl, HS.out⟩
end Go.Proofs.YtbefjaodpbgpcaaGreat
namespace Go.Proofs.YtbefjaodpbgpcaaGreat
open Go.RowKit Go.Sep Go.Bv Go.Kec Go.Aes Go.Sha
theorem cmTag_len (E : List Byte → List Byte) (hE : ∀ x, x.length = 16 → (E x).length = 16) (k1 k2 : List Byte) (s : CSt) (h1 : k1.length = 16) (h2 : k2.length = 16) (hs1 : s.1.length = 16) (hs2 : s.2.1.length = 16) : (cmTag E k1 k2 s).length = 16 := by
 unfold cmTag
 refine hE _ ?_
 have hA : (if s.2.2 < 16 then s.2.1.set s.2.2 128 else s.2.1).length = 16 := by split <;> simp [hs2]
 have hB : (if s.2.2 < 16 then k2 else k1).length = 16 := by split <;> assumption
 have hAB := xorL_len _ _ (hA.trans hB.symm)
 rw [xorL_len _ _ (by rw [hAB, hA, hs1]), hs1]
theorem MKind.tag_len (K : MKind) (key custom : List Byte) (out : Nat) (msg : List Byte) (hf : K.fits key custom out) : (K.tag key custom out msg).length = out := by
 obtain ⟨_, h2, _, h4⟩ := hf
 cases K with
 | hm wide => simp only [MKind.tag, MKind.most] at *; rw [List.length_take, hmac_len]; omega
 | cm =>
  obtain ⟨_, hk⟩ := h4
  obtain ⟨h1, h3, _⟩ := cmSt_inv hk msg
  have hl := cmTag_len (aesEnc key.length (expand key)) (fun x hx => aesEnc_len _ _ _ (expand_240 hk) hx (by omega)) (cmK1 key) (cmK2 key) (cmSt key msg) (dbl_len _) (dbl_len _) h1 h3
  simp only [MKind.tag, MKind.most] at *
  rw [List.length_take, hl]; omega
 | km large xof => simp only [MKind.tag, MKind.most] at *; exact kmTag_len _ _ _ _ (by omega)
theorem MKind.fin_tot (K : MKind) (n out : Nat) : K.fin n out ≤ 1000 := by
 cases K with
 | hm wide =>
  simp only [MKind.fin]
  unfold endN padN roomN
  cases wide <;> simp only [bsz] <;> omega
 | cm => simp only [MKind.fin]; omega
 | km large xof =>
  simp only [MKind.fin]
  have h := rightB_le (kmBits xof out)
  have hr := krt_pos large
  rw [← divDiff _ _ _ hr]
  have h1 : krt large = 136 ∨ krt large = 168 := by cases large <;> simp [krt]
  have h2 := Nat.mod_lt n hr
  have h3 := Nat.div_le_self (n % krt large + (rightB (kmBits xof out)).length) (krt large)
  omega
theorem kmClosed {w : World} {c gb go gx out : Nat} {xof : Bool} {pv : Value} {X : Nat → World → Prop} (p : Option Nat) (hp : pv = ptrO p) (cb : w.cell? ⟨gb, 0, none⟩ = some (.pointer (some ⟨c, 0, none⟩))) (co : w.cell? ⟨go, 0, none⟩ = some (.int .i64 (out : Int))) (cx : w.cell? ⟨gx, 0, none⟩ = some (.bool xof)) (zb : gb < w.heap.size) (zo : go < w.heap.size) (zx : gx < w.heap.size)
  (h : Calls Tryz.prog 146 #[.pointer (some ⟨c, 0, none⟩), ptrO p, .int .i64 (out : Int), .bool xof] w fun e w' => ∃ q, e = .returned (.tuple #[.slice (some ⟨q, 0, none⟩) out out, .int .i64 0]) ∧ X q w') :
  Calls Tryz.prog 145 #[pv, .pointer (some ⟨gb, 0, none⟩), .pointer (some ⟨go, 0, none⟩), .pointer (some ⟨gx, 0, none⟩)] w fun e w' => ∃ q, e = .returned (.tuple #[.slice (some ⟨q, 0, none⟩) out out, .int .i64 0]) ∧ X q w' := by
 subst hp
 have HN := Lib.hid h; clear h
 go_enter Tryz.func145, Tryz.ntmps145
 go_wp2_with fail
 refine HN.out.mono ?_
 rintro e w1 ⟨q, rfl, hx⟩
 have HS := Lib.hid hx; clear hx
 go_wp2_with fail
 exact bodyPost_ret (v := .tuple #[.slice (some ⟨q, 0, none⟩) out out, .int .i64 0]) (by simp [results, Tryz.results145, go_sem]) rfl ⟨q, rfl, HS.out⟩
theorem macSum {W0 w : World} {L : List Assn} {s out : Nat} {pv : Value} (K : MKind) (p : Option Nat) (rs : List Run3) (key custom msg : List Byte) (hp : pv = ptrO p) (hf : K.fits key custom out) (hR : Roomy rs) (hnb : msg.length ≤ 1000000000)
  (hs : Sat W0 w (ledO p rs :: ses K s key custom out msg :: L)) :
  Calls Tryz.prog 79 #[.pointer (some ⟨s, 0, none⟩), pv] w fun e w' => ∃ q c, e = .returned (.tuple #[.slice q out c, .int .i64 0]) ∧ Sat W0 w' (row q c 1 out (u8s (K.tag key custom out msg)) :: ledO p (noteN rs K.ek (K.es key.length) (K.fin msg.length out)) :: ses K s key custom out msg :: L) := by
 subst hp
 have htl := K.tag_len key custom out msg hf
 obtain ⟨hR1, hR2⟩ := hR
 obtain ⟨hf1, hf2, hf3, hf4⟩ := hf
 have hno := macNone hf1 (hs.f : Sat W0 w (ses K s key custom out msg :: []))
 have s0 : Sat W0 w (ses K s key custom out msg :: ledO p rs :: L) := hs.f
 clear hs
 obtain ⟨i3, hi3, hz3, hs3, hb3⟩ := info_parts Tryz.info_u8
 cases K with
 | hm wide =>
  obtain ⟨c, gb, s1⟩ := hmOpen s0
  clear s0
  have z0 := s1.lt (by simp [dHm])
  have c0 := s1.at 1 rfl
  have hsm := hmacSum (c := c) (L := seg true s 0 (dHm c gb ++ [.int .u8 ((MKind.hm wide).alg : Int), .int .i64 (out : Int)]) :: seg true gb 0 [.pointer (some ⟨c, 0, none⟩)] :: L) wide p rs key msg (by omega) (by omega) s1.f
  have htag : (MKind.hm wide).tag key custom out msg = (hmac wide key msg).take out := rfl
  have hml := hmac_len wide key msg
  obtain ⟨T, hT⟩ : ∃ T, T = hmac wide key msg := ⟨_, rfl⟩
  rw [← hT] at hsm htag hml
  rw [htag] at htl ⊢
  simp only [MKind.most] at hf2
  obtain ⟨N, hN⟩ : ∃ N, N = hsz wide := ⟨_, rfl⟩
  rw [← hN] at hsm hml hf2
  have hN64 : N ≤ 64 := by rw [hN]; cases wide <;> decide
  have HN := Lib.hid (And.intro hno (And.intro hsm (And.intro htl hml))); clear hno hsm htl hml s1 hf3 hf4 hR1 hR2 hnb hT htag hN
  go_enter Tryz.func79, Tryz.ntmps79
  go_wp2_with fail
  refine HN.out.1.mono ?_
  rintro e w1 ⟨rfl, rfl⟩
  go_wp2_with fail
  refine HN.out.2.1.mono ?_
  rintro e w2 ⟨q, cq, rfl, s2⟩
  clear c0 z0
  obtain ⟨_, hcq, hcqm, s3⟩ := rowBytes s2
  clear s2
  have s4 := bytesTake out s3
  have s5 : Sat W0 w2 (seg true s 0 (dHm c gb ++ [.int .u8 ((MKind.hm wide).alg : Int), .int .i64 (out : Int)]) :: bytes true q (T.take out) :: mac wide c (blockKey wide key) msg :: ledO p (noteN rs (evK wide) (evS wide) (endN wide msg.length)) :: seg true gb 0 [.pointer (some ⟨c, 0, none⟩)] :: L) := s4.f
  clear s3 s4
  have c6 := s5.at 6 rfl
  have z6 := s5.lt (by simp [dHm])
  have sA := (s5.alloc #[] 5).rowFull (n := 0) (xs := u8s []) rfl (by decide)
  have sB : Sat W0 (w2.alloc (.cells #[] 5)) (row (some ⟨w2.heap.size, 0, none⟩) 0 1 0 (u8s []) :: bytes true q (T.take out) :: seg true s 0 (dHm c gb ++ [.int .u8 ((MKind.hm wide).alg : Int), .int .i64 (out : Int)]) :: mac wide c (blockKey wide key) msg :: ledO p (noteN rs (evK wide) (evS wide) (endN wide msg.length)) :: seg true gb 0 [.pointer (some ⟨c, 0, none⟩)] :: L) := sA.f
  clear sA s5
  go_wp2_with (at_builtin; refine wpl_app8 rfl (.tmp 23) (.tmp 29) rfl rfl rfl sB HN.out.2.2.1 (by omega) ?_; intro p9 c9 w9 s8'; clear sB)
  rw [List.nil_append, Nat.zero_add] at s8'
  have HS := Lib.hid s8'; clear s8'
  refine bodyPost_ret (v := .tuple #[.slice p9 out c9, .int .i64 0]) (by simp [results, Tryz.results79, go_sem]) rfl ?_
  have s8 := HS.out
  refine ⟨p9, c9, rfl, ?_⟩
  have s9 := hmShut (custom := custom) (s8.f : Sat W0 w9 (hmSes wide s c gb key out msg (row p9 c9 1 out (u8s (T.take out)) :: ledO p (noteN rs (evK wide) (evS wide) (endN wide msg.length)) :: L)))
  simp only [MKind.ek, MKind.es, MKind.fin]
  exact s9.f
 | cm =>
  obtain ⟨b, gb, c, s1⟩ := cmOpen s0
  clear s0
  obtain ⟨_, hkl⟩ := hf4
  have z0 := s1.lt (by simp [dCm])
  have c0 := s1.at 1 rfl
  have hsm := cmSumM (pv := ptrO p) (b := b) (c := c) (L := seg true s 0 (dCm b gb ++ [.int .u8 (MKind.cm.alg : Int), .int .i64 (out : Int)]) :: seg true gb 0 [.pointer (some ⟨b, 0, none⟩)] :: L) p rs key msg rfl hkl (by omega) (by omega) s1.f
  have htag : MKind.cm.tag key custom out msg = (cmTag (aesEnc key.length (expand key)) (cmK1 key) (cmK2 key) (cmSt key msg)).take out := rfl
  obtain ⟨T, hT⟩ : ∃ T, T = cmTag (aesEnc key.length (expand key)) (cmK1 key) (cmK2 key) (cmSt key msg) := ⟨_, rfl⟩
  rw [← hT] at hsm htag
  rw [htag] at htl ⊢
  simp only [MKind.most] at hf2
  have HN := Lib.hid (And.intro hno (And.intro hsm htl)); clear hno hsm htl s1 hf3 hkl hR1 hR2 hnb hT htag
  go_enter Tryz.func79, Tryz.ntmps79
  go_wp2_with fail
  refine HN.out.1.mono ?_
  rintro e w1 ⟨rfl, rfl⟩
  go_wp2_with fail
  refine HN.out.2.1.mono ?_
  rintro e w2 ⟨g, rfl, s2⟩
  clear c0 z0
  have s3 := bytesOf s2
  clear s2
  have s4 := bytesTake out s3
  have s5 : Sat W0 w2 (seg true s 0 (dCm b gb ++ [.int .u8 (MKind.cm.alg : Int), .int .i64 (out : Int)]) :: bytes true (some ⟨g, 0, none⟩) (T.take out) :: ledO p (note rs 5 (key.length : Int) 1) :: cmM b c key msg (seg true gb 0 [.pointer (some ⟨b, 0, none⟩)] :: L)) := s4.f
  clear s3 s4
  have c6 := s5.at 6 rfl
  have z6 := s5.lt (by simp [dCm])
  have HL := Lib.hid HN.out.2.2
  have sA := (s5.alloc #[] 5).rowFull (n := 0) (xs := u8s []) rfl (by decide)
  have sB : Sat W0 (w2.alloc (.cells #[] 5)) (row (some ⟨w2.heap.size, 0, none⟩) 0 1 0 (u8s []) :: bytes true (some ⟨g, 0, none⟩) (T.take out) :: seg true s 0 (dCm b gb ++ [.int .u8 (MKind.cm.alg : Int), .int .i64 (out : Int)]) :: ledO p (note rs 5 (key.length : Int) 1) :: cmM b c key msg (seg true gb 0 [.pointer (some ⟨b, 0, none⟩)] :: L)) := sA.f
  clear sA s5
  go_wp2_with (at_builtin; refine wpl_app8 rfl (.tmp 23) (.tmp 29) rfl rfl rfl sB HN.out.2.2 (by omega) ?_; intro p9 c9 w9 s8'; clear sB)
  rw [List.nil_append, Nat.zero_add] at s8'
  have HS := Lib.hid s8'; clear s8'
  refine bodyPost_ret (v := .tuple #[.slice p9 out c9, .int .i64 0]) (by simp [results, Tryz.results79, go_sem]) rfl ?_
  have s8 := HS.out
  refine ⟨p9, c9, rfl, ?_⟩
  have s9 := cmShut (custom := custom) (s8.f : Sat W0 w9 (cmSes s b gb c key out msg (row p9 c9 1 out (u8s (T.take out)) :: ledO p (note rs 5 (key.length : Int) 1) :: L)))
  simp only [MKind.ek, MKind.es, MKind.fin]
  rw [← noteN_one']
  exact s9.f
 | km large xof =>
  obtain ⟨c, gb, go, gx, g, s1⟩ := kmOpen s0
  clear s0
  have z0 := s1.lt (by simp [dKm])
  have c0 := s1.at 1 rfl
  have sb : Sat W0 w (seg true gb 0 [.pointer (some ⟨c, 0, none⟩)] :: []) := s1.f
  have so : Sat W0 w (seg true go 0 [.int .i64 (out : Int)] :: []) := s1.f
  have sx : Sat W0 w (seg true gx 0 [.bool xof] :: []) := s1.f
  have cb := sb.at 0 rfl
  have co := so.at 0 rfl
  have cx := sx.at 0 rfl
  have zb := sb.lt (by simp)
  have zo := so.lt (by simp)
  have zx := sx.lt (by simp)
  have hkl := (kmPre_len (krt large) (krt_pos large) key custom).1
  simp only [MKind.most] at hf2
  have hsm := kmSum (pv := ptrO p) (nv := .int .i64 (out : Int)) (xv := .bool xof) (c := c) (g := g) (L := seg true s 0 (dKm c gb go gx ++ [.int .u8 ((MKind.km large xof).alg : Int), .int .i64 (out : Int)]) :: seg true gb 0 [.pointer (some ⟨c, 0, none⟩)] :: seg true go 0 [.int .i64 (out : Int)] :: seg true gx 0 [.bool xof] :: L) p rs (kmPre (krt large) key custom ++ msg) out xof rfl rfl rfl (kst_ok large) hf1 hf2 (by omega) (by omega) s1.f
  have hen : kmEnd (krt large) (kmPre (krt large) key custom ++ msg) out (kmBits xof out) = (MKind.km large xof).fin msg.length out := by
   unfold kmEnd
   rw [List.length_append, Nat.add_assoc, kmDiv hkl (krt_pos large)]
   rfl
  rw [hen] at hsm
  have htag : (MKind.km large xof).tag key custom out msg = kmTag (krt large) (kmPre (krt large) key custom ++ msg) out (kmBits xof out) := rfl
  obtain ⟨T, hT⟩ : ∃ T, T = kmTag (krt large) (kmPre (krt large) key custom ++ msg) out (kmBits xof out) := ⟨_, rfl⟩
  rw [← hT] at hsm htag
  rw [htag] at htl ⊢
  have htk : T.take out = T := List.take_of_length_le (by omega)
  rw [← htk] at htl hsm ⊢
  have hsm := kmClosed p rfl cb co cx zb zo zx hsm
  have HN := Lib.hid (And.intro hno (And.intro hsm htl)); clear hno hsm htl s1 hf3 hf4 hR1 hR2 hnb hT htag hkl hen htk sb so sx cb co cx zb zo zx
  go_enter Tryz.func79, Tryz.ntmps79
  go_wp2_with fail
  refine HN.out.1.mono ?_
  rintro e w1 ⟨rfl, rfl⟩
  go_wp2_with fail
  refine HN.out.2.1.mono ?_
  rintro e w2 ⟨q0, rfl, s2⟩
  clear c0 z0
  have s3 := bytesOf s2
  clear s2
  have s5 : Sat W0 w2 (seg true s 0 (dKm c gb go gx ++ [.int .u8 ((MKind.km large xof).alg : Int), .int .i64 (out : Int)]) :: bytes true (some ⟨q0, 0, none⟩) (T.take out) :: ledO p (noteN rs 3 200 ((MKind.km large xof).fin msg.length out)) :: seg true gb 0 [.pointer (some ⟨c, 0, none⟩)] :: seg true go 0 [.int .i64 (out : Int)] :: seg true gx 0 [.bool xof] :: kmS c g (kst large) (krt large) (kmPre (krt large) key custom ++ msg) L) := s3.f
  clear s3
  have c6 := s5.at 6 rfl
  have z6 := s5.lt (by simp [dKm])
  have sA := (s5.alloc #[] 5).rowFull (n := 0) (xs := u8s []) rfl (by decide)
  have sB : Sat W0 (w2.alloc (.cells #[] 5)) (row (some ⟨w2.heap.size, 0, none⟩) 0 1 0 (u8s []) :: bytes true (some ⟨q0, 0, none⟩) (T.take out) :: seg true s 0 (dKm c gb go gx ++ [.int .u8 ((MKind.km large xof).alg : Int), .int .i64 (out : Int)]) :: ledO p (noteN rs 3 200 ((MKind.km large xof).fin msg.length out)) :: seg true gb 0 [.pointer (some ⟨c, 0, none⟩)] :: seg true go 0 [.int .i64 (out : Int)] :: seg true gx 0 [.bool xof] :: kmS c g (kst large) (krt large) (kmPre (krt large) key custom ++ msg) L) := sA.f
  clear sA s5
  go_wp2_with (at_builtin; refine wpl_app8 rfl (.tmp 23) (.tmp 29) rfl rfl rfl sB HN.out.2.2 (by omega) ?_; intro p9 c9 w9 s8'; clear sB)
  rw [List.nil_append, Nat.zero_add] at s8'
  have HS := Lib.hid s8'; clear s8'
  refine bodyPost_ret (v := .tuple #[.slice p9 out c9, .int .i64 0]) (by simp [results, Tryz.results79, go_sem]) rfl ?_
  have s8 := HS.out
  refine ⟨p9, c9, rfl, ?_⟩
  have s9 := kmShut (s8.f : Sat W0 w9 (kmSes large xof s c gb go gx g key custom out msg (row p9 c9 1 out (u8s (T.take out)) :: ledO p (noteN rs 3 200 ((MKind.km large xof).fin msg.length out)) :: L)))
  simp only [MKind.ek, MKind.es]
  exact s9.f
end Go.Proofs.YtbefjaodpbgpcaaGreat
