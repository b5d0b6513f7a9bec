/- Hm5, Mac1, Mac2, Mac3, Mac4: texts that lie apart elsewhere, as one; each under the conditions that it names. -/
import Derived.Test.YtbefjaodpbgpcaaGreatGH
import Derived.Test.YtbefjaodpbgpcaaGreatGG
import Derived.Test.YtbefjaodpbgpcaaGreatHA
import Derived.Test.YtbefjaodpbgpcaaGreatGK
import Derived.Test.YtbefjaodpbgpcaaGreatGI
set_option linter.unusedVariables false
set_option linter.unusedSimpArgs false
set_option maxRecDepth 100000
set_option maxHeartbeats 16000000
namespace Go.Proofs.YtbefjaodpbgpcaaGreat
open Go.RowKit Go.Sep Go.Bv Go.Sha
def leftW (wide : Bool) (b1 b2 b3 : Nat) (k msg : List Byte) : Nat → List Assn → List Assn
 | 0, L => dst wide b1 (xorKey wide k 54 ++ msg) :: dst wide b2 (xorKey wide k 92) :: dst wide b3 (xorKey wide k 54) :: L
 | 1, L => dst wide b2 (xorKey wide k 92) :: dst wide b3 (xorKey wide k 54) :: L
 | 2, L => dst wide b3 (xorKey wide k 54) :: L
 | _, L => L
theorem hmacWipe {W0 w : World} {L : List Assn} {c : Nat} {pv : Value} (wide : Bool) (p : Option Nat) (rs : List Run3) (k msg : List Byte) (hp : pv = ptrO p) (hmb : msg.length ≤ 2000000000000000000) (hb : tot rs + 1 ≤ 4611686018427387904) (hl : rs.length ≤ 4294967296) (hs : Sat W0 w (ledO p rs :: mac wide c k msg :: L)) :
  Calls Tryz.prog 124 #[.pointer (some ⟨c, 0, none⟩), pv] w fun e w' => e = .returned (.int .i64 0) ∧ Sat W0 w' (ledO p (note rs 8 (3 * fsz wide : Nat) 1) :: L) := by
 subst hp
 have hfo := hmacForm (c := c) (L := ledO p rs :: L) wide k msg hmb hs.f
 obtain ⟨b1, b2, b3, s0⟩ := macOpen (hs.f : Sat W0 w (mac wide c k msg :: ledO p rs :: L))
 clear hs
 have hi := macIs wide s0
 have hnt := fun (w : World) (X : List Assn) (s : Sat W0 w (ledO p rs :: X)) => noteOne p rs 8 ((3 * fsz wide : Nat) : Int) s hb hl
 clear hb hl hmb s0
 cases wide
 ·skip
  go_enter Tryz.func124, Tryz.ntmps124
  go_wp2_with fail
  refine hi.mono ?_
  rintro e w' ⟨rfl, rfl⟩
  clear hi
  go_wp2_with fail
  refine hfo.mono ?_
  rintro e w1 ⟨q, cq, rfl, s1⟩
  clear hfo
  go_wp2_with fail
  refine (hnt _ (mac false c k msg :: L) s1.f).mono ?_
  rintro e w2 ⟨rfl, s2'⟩
  clear s1 hnt
  obtain ⟨b1, b2, b3, s2⟩ := macOpen (s2'.f : Sat W0 w2 (mac false c k msg :: ledO p (note rs 8 (3 * fsz false : Nat) 1) :: L))
  clear s2'
  have hst := hmacStates false s2
  simp only [ifv] at hst
  go_wp2_with fail
  refine hst.mono ?_
  rintro e w3 ⟨rfl, s3'⟩
  clear hst s2
  have s3 : Sat W0 w3 (leftW false b1 b2 b3 k msg 0 (seg true c 0 [.int .i64 (hsz false : Int), ifv false b1, ifv false b2, ifv false b3] :: ledO p (note rs 8 (3 * fsz false : Nat) 1) :: L)) := (s3'.pick [1, 2, 3, 0])
  clear s3'
  go_wp2
  go_loopw [18] (fun t18 wr => ∃ i : Nat, i ≤ 3 ∧ t18 = .int .i64 (i : Int) ∧ Sat W0 wr (leftW false b1 b2 b3 k msg i (seg true c 0 [.int .i64 (hsz false : Int), ifv false b1, ifv false b2, ifv false b3] :: ledO p (note rs 8 (3 * fsz false : Nat) 1) :: L))) (fun t18 _ => 3 - (intOf t18).toNat)
  case atStart => exact ⟨0, by omega, rfl, s3⟩
  case round =>
   clear s3
   obtain ⟨i, hi, rfl, s⟩ := hrel
   have hc : i = 0 ∨ i = 1 ∨ i = 2 ∨ i = 3 := by omega
   rcases hc with rfl | rfl | rfl | rfl
   ·simp only [leftW] at s
    go_wp2_with fail
    refine (dWipe false (b := b1) none [] _ (by decide) (by decide) s.emp).mono ?_
    rintro e w4 ⟨rfl, s4⟩
    go_wp2
    go_roundw
    case rel => exact ⟨1, by omega, rfl, (s4.drop 0).drop 0⟩
    case measure => simp [intOf]
   ·simp only [leftW] at s
    go_wp2_with fail
    refine (dWipe false (b := b2) none [] _ (by decide) (by decide) s.emp).mono ?_
    rintro e w4 ⟨rfl, s4⟩
    go_wp2
    go_roundw
    case rel => exact ⟨2, by omega, rfl, (s4.drop 0).drop 0⟩
    case measure => simp [intOf]
   ·simp only [leftW] at s
    go_wp2_with fail
    refine (dWipe false (b := b3) none [] _ (by decide) (by decide) s.emp).mono ?_
    rintro e w4 ⟨rfl, s4⟩
    go_wp2
    go_roundw
    case rel => exact ⟨3, by omega, rfl, (s4.drop 0).drop 0⟩
    case measure => simp [intOf]
   ·simp only [leftW] at s
    have f0 := s.fr 0 (by simp)
    have f1 := s.fr 1 (by simp)
    have f2 := s.fr 2 (by simp)
    have f3 := s.fr 3 (by simp)
    have c0 := s.at 0 rfl
    have c1 := s.at 1 rfl
    have c2 := s.at 2 rfl
    have c3 := s.at 3 rfl
    have z0 := s.lt (by simp)
    have st2 := ((((s.store (i := 0) (by simp) (.int .i64 0) (q := 0) rfl).store (i := 1) (by simp) .nilIface (q := 1) rfl).store (i := 2) (by simp) .nilIface (q := 2) rfl).store (i := 3) (by simp) .nilIface (q := 3) rfl).tail
    have HS := Lib.hid st2; clear st2 s
    go_wp2_with fail
    go_ret
    exact ⟨rfl, HS.out⟩
 ·skip
  go_enter Tryz.func124, Tryz.ntmps124
  go_wp2_with fail
  refine hi.mono ?_
  rintro e w' ⟨rfl, rfl⟩
  clear hi
  go_wp2_with fail
  refine hfo.mono ?_
  rintro e w1 ⟨q, cq, rfl, s1⟩
  clear hfo
  go_wp2_with fail
  refine (hnt _ (mac true c k msg :: L) s1.f).mono ?_
  rintro e w2 ⟨rfl, s2'⟩
  clear s1 hnt
  obtain ⟨b1, b2, b3, s2⟩ := macOpen (s2'.f : Sat W0 w2 (mac true c k msg :: ledO p (note rs 8 (3 * fsz true : Nat) 1) :: L))
  clear s2'
  have hst := hmacStates true s2
  simp only [ifv] at hst
  go_wp2_with fail
  refine hst.mono ?_
  rintro e w3 ⟨rfl, s3'⟩
  clear hst s2
  have s3 : Sat W0 w3 (leftW true b1 b2 b3 k msg 0 (seg true c 0 [.int .i64 (hsz true : Int), ifv true b1, ifv true b2, ifv true b3] :: ledO p (note rs 8 (3 * fsz true : Nat) 1) :: L)) := (s3'.pick [1, 2, 3, 0])
  clear s3'
  go_wp2
  go_loopw [18] (fun t18 wr => ∃ i : Nat, i ≤ 3 ∧ t18 = .int .i64 (i : Int) ∧ Sat W0 wr (leftW true b1 b2 b3 k msg i (seg true c 0 [.int .i64 (hsz true : Int), ifv true b1, ifv true b2, ifv true b3] :: ledO p (note rs 8 (3 * fsz true : Nat) 1) :: L))) (fun t18 _ => 3 - (intOf t18).toNat)
  case atStart => exact ⟨0, by omega, rfl, s3⟩
  case round =>
   clear s3
   obtain ⟨i, hi, rfl, s⟩ := hrel
   have hc : i = 0 ∨ i = 1 ∨ i = 2 ∨ i = 3 := by omega
   rcases hc with rfl | rfl | rfl | rfl
   ·simp only [leftW] at s
    go_wp2_with fail
    refine (dWipe true (b := b1) none [] _ (by decide) (by decide) s.emp).mono ?_
    rintro e w4 ⟨rfl, s4⟩
    go_wp2
    go_roundw
    case rel => exact ⟨1, by omega, rfl, (s4.drop 0).drop 0⟩
    case measure => simp [intOf]
   ·simp only [leftW] at s
    go_wp2_with fail
    refine (dWipe true (b := b2) none [] _ (by decide) (by decide) s.emp).mono ?_
    rintro e w4 ⟨rfl, s4⟩
    go_wp2
    go_roundw
    case rel => exact ⟨2, by omega, rfl, (s4.drop 0).drop 0⟩
    case measure => simp [intOf]
   ·simp only [leftW] at s
    go_wp2_with fail
    refine (dWipe true (b := b3) none [] _ (by decide) (by decide) s.emp).mono ?_
    rintro e w4 ⟨rfl, s4⟩
    go_wp2
    go_roundw
    case rel => exact ⟨3, by omega, rfl, (s4.drop 0).drop 0⟩
    case measure => simp [intOf]
   ·simp only [leftW] at s
    have f0 := s.fr 0 (by simp)
    have f1 := s.fr 1 (by simp)
    have f2 := s.fr 2 (by simp)
    have f3 := s.fr 3 (by simp)
    have c0 := s.at 0 rfl
    have c1 := s.at 1 rfl
    have c2 := s.at 2 rfl
    have c3 := s.at 3 rfl
    have z0 := s.lt (by simp)
    have st2 := ((((s.store (i := 0) (by simp) (.int .i64 0) (q := 0) rfl).store (i := 1) (by simp) .nilIface (q := 1) rfl).store (i := 2) (by simp) .nilIface (q := 2) rfl).store (i := 3) (by simp) .nilIface (q := 3) rfl).tail
    have HS := Lib.hid st2; clear st2 s
    go_wp2_with fail
    go_ret
    exact ⟨rfl, HS.out⟩
end Go.Proofs.YtbefjaodpbgpcaaGreat
namespace Go.Aes
theorem cblocks_diff (l n : Nat) : cblocks (cwait 0 l) n = (l + n - 1) / 16 - (l - 1) / 16 := by
 unfold cblocks cwait
 by_cases h : 0 + l = 0
 ·rw [if_pos h]
  have : l = 0 := by omega
  subst this
  simp
 ·rw [if_neg h]; omega
end Go.Aes
namespace Go.Proofs.YtbefjaodpbgpcaaGreat
open Go.RowKit Go.Sep Go.Bv Go.Kec Go.Aes Go.Sha
inductive MKind
 | hm (wide : Bool)
 | cm
 | km (large xof : Bool)
def kst (large : Bool) : Nat := if large then 256 else 128
def krt (large : Bool) : Nat := if large then 136 else 168
theorem kst_ok (large : Bool) : kmOk (kst large) (krt large) := by cases large <;> (unfold kmOk kst krt; simp)
theorem krt_pos (large : Bool) : 0 < krt large := by cases large <;> decide
def MKind.alg : MKind → Nat
 | .hm false => 1
 | .hm true => 2
 | .cm => 3
 | .km false false => 4
 | .km true false => 5
 | .km false true => 6
 | .km true true => 7
def MKind.most : MKind → Nat
 | .hm wide => hsz wide
 | .cm => 16
 | .km _ _ => 64
def MKind.fits (K : MKind) (key custom : List Byte) (out : Nat) : Prop :=
 1 ≤ out ∧ out ≤ K.most ∧ key.length ≤ 100000000 ∧ (match K with | .hm _ => custom = [] | .cm => custom = [] ∧ (key.length = 16 ∨ key.length = 24 ∨ key.length = 32) | .km _ _ => custom.length ≤ 64)
def MKind.ek : MKind → Int
 | .hm wide => evK wide
 | .cm => 5
 | .km _ _ => 3
def MKind.es (kl : Nat) : MKind → Int
 | .hm wide => evS wide
 | .cm => (kl : Int)
 | .km _ _ => 200
def MKind.blk : MKind → Nat → Nat
 | .hm wide, n => n / bsz wide
 | .cm, n => (n - 1) / 16
 | .km large _, n => n / krt large
theorem MKind.blk_le (K : MKind) (n : Nat) : K.blk n ≤ n := by
 cases K with
 | hm wide => exact Nat.div_le_self _ _
 | cm => exact Nat.le_trans (Nat.div_le_self _ _) (Nat.sub_le _ _)
 | km large xof => exact Nat.div_le_self _ _
def cmSt (key msg : List Byte) : CSt := cfold (aesEnc key.length (expand key)) (nought16, nought16, 0) msg
def MKind.tag (K : MKind) (key custom : List Byte) (out : Nat) (msg : List Byte) : List Byte :=
 match K with
 | .hm wide => (hmac wide key msg).take out
 | .cm => (cmTag (aesEnc key.length (expand key)) (cmK1 key) (cmK2 key) (cmSt key msg)).take out
 | .km large xof => kmTag (krt large) (kmPre (krt large) key custom ++ msg) out (kmBits xof out)
def MKind.fin (K : MKind) (n out : Nat) : Nat :=
 match K with
 | .hm wide => endN wide n
 | .cm => 1
 | .km large xof => ((n + (rightB (kmBits xof out)).length) / krt large - n / krt large) + 1
def MKind.beg (K : MKind) (kl cl : Nat) (rs : List Run3) : List Run3 :=
 match K with
 | .hm wide => noteN rs (evK wide) (evS wide) (keyN wide kl)
 | .cm => note (note rs 4 (kl : Int) 1) 5 (kl : Int) 1
 | .km large _ => noteN rs 3 200 ((kmPre (krt large) (List.replicate kl 0) (List.replicate cl 0)).length / krt large)
theorem padB_len_of (a b : List Byte) (r : Nat) (h : a.length = b.length) : (padB a r).length = (padB b r).length := by
 unfold padB
 simp only [List.length_append, List.length_replicate, h]
theorem strB_len_of (a b : List Byte) (h : a.length = b.length) : (strB a).length = (strB b).length := by rw [strB_len, strB_len, h]
theorem kmPre_len_of (r : Nat) (key custom key' custom' : List Byte) (h : key.length = key'.length) (h' : custom.length = custom'.length) : (kmPre r key custom).length = (kmPre r key' custom').length := by
 unfold kmPre
 rw [List.length_append, List.length_append, padB_len_of _ (strB key') r (strB_len_of _ _ h), padB_len_of _ (strB nameK ++ strB custom') r (by rw [List.length_append, List.length_append, strB_len_of _ _ h'])]
def MKind.form (K : MKind) (key custom msg : List Byte) : List Byte :=
 match K with
 | .hm wide => macForm wide (blockKey wide key) msg
 | .cm => cmForm key.length (expand key) (cmK1 key) (cmK2 key) (cmSt key msg).1 (cmSt key msg).2.1 (cmSt key msg).2.2
 | .km large _ => spForm (spState (krt large) (kmPre (krt large) key custom ++ msg)).1 (spState (krt large) (kmPre (krt large) key custom ++ msg)).2 false
def MKind.formN (K : MKind) (kl : Nat) : Nat :=
 match K with
 | .hm wide => 3 * fsz wide
 | .cm => 16 * (kl / 4 + 7) + 65
 | .km _ _ => 203
def dHm (c gb : Nat) : List Value := [.func (.func 122) #[.pointer (some ⟨c, 0, none⟩)] #[], .func (.func 123) #[.pointer (some ⟨c, 0, none⟩)] #[], .func (.func 126) #[] #[.pointer (some ⟨gb, 0, none⟩)], .func (.func 124) #[.pointer (some ⟨c, 0, none⟩)] #[], .func (.func 125) #[.pointer (some ⟨c, 0, none⟩)] #[]]
def dCm (c gb : Nat) : List Value := [.func (.func 131) #[.pointer (some ⟨c, 0, none⟩)] #[], .func (.func 132) #[.pointer (some ⟨c, 0, none⟩)] #[], .func (.func 135) #[] #[.pointer (some ⟨gb, 0, none⟩)], .func (.func 133) #[.pointer (some ⟨c, 0, none⟩)] #[], .func (.func 134) #[.pointer (some ⟨c, 0, none⟩)] #[]]
def dKm (c gb go gx : Nat) : List Value := [.func (.func 142) #[.pointer (some ⟨c, 0, none⟩)] #[], .func (.func 145) #[] #[.pointer (some ⟨gb, 0, none⟩), .pointer (some ⟨go, 0, none⟩), .pointer (some ⟨gx, 0, none⟩)], .func (.func 147) #[] #[.pointer (some ⟨gb, 0, none⟩), .pointer (some ⟨go, 0, none⟩), .pointer (some ⟨gx, 0, none⟩)], .func (.func 143) #[.pointer (some ⟨c, 0, none⟩)] #[], .func (.func 144) #[.pointer (some ⟨c, 0, none⟩)] #[]]
theorem Tryz.size_does : (Tryz.prog.info? 162).map (·.size) = some 5 := by kernel_rfl
theorem ofHm {W0 w : World} {L : List Assn} {c : Nat} (hs : Sat W0 w L) :
  Calls Tryz.prog 108 #[.pointer (some ⟨c, 0, none⟩)] w fun e w' => ∃ gb, e = .returned (.agg (dHm c gb).toArray) ∧ Sat W0 w' (seg true gb 0 [.pointer (some ⟨c, 0, none⟩)] :: L) := by
 go_enter Tryz.func108, Tryz.ntmps108
 go_wp2_with fail
 have s1 := hs.alloc #[.pointer (some ⟨c, 0, none⟩)] 173
 have s2 : Sat W0 _ (seg true (w.heap.size + 1) 0 (dHm c w.heap.size) :: _) := s1.allocAt (dHm c w.heap.size).toArray 162 (q := w.heap.size + 1) (by simp)
 have hr := run_loadVar_agg (P := Tryz.prog) (ty := 162) Tryz.underlying162 rfl Tryz.size_does s2 0 0 rfl (Nat.le_refl 5)
 refine bodyPost_ret (v := .agg (dHm c w.heap.size).toArray) ?_ rfl ⟨w.heap.size, rfl, s2.drop 0⟩
 simp [results, Tryz.results108, asAddr]; exact hr
theorem ofCm {W0 w : World} {L : List Assn} {c : Nat} (hs : Sat W0 w L) :
  Calls Tryz.prog 110 #[.pointer (some ⟨c, 0, none⟩)] w fun e w' => ∃ gb, e = .returned (.agg (dCm c gb).toArray) ∧ Sat W0 w' (seg true gb 0 [.pointer (some ⟨c, 0, none⟩)] :: L) := by
 go_enter Tryz.func110, Tryz.ntmps110
 go_wp2_with fail
 have s1 := hs.alloc #[.pointer (some ⟨c, 0, none⟩)] 179
 have s2 : Sat W0 _ (seg true (w.heap.size + 1) 0 (dCm c w.heap.size) :: _) := s1.allocAt (dCm c w.heap.size).toArray 162 (q := w.heap.size + 1) (by simp)
 have hr := run_loadVar_agg (P := Tryz.prog) (ty := 162) Tryz.underlying162 rfl Tryz.size_does s2 0 0 rfl (Nat.le_refl 5)
 refine bodyPost_ret (v := .agg (dCm c w.heap.size).toArray) ?_ rfl ⟨w.heap.size, rfl, s2.drop 0⟩
 simp [results, Tryz.results110, asAddr]; exact hr
theorem ofKm {W0 w : World} {L : List Assn} {c out : Nat} {ov xv : Value} (xof : Bool) (ho : ov = .int .i64 (out : Int)) (hx : xv = .bool xof) (hs : Sat W0 w L) :
  Calls Tryz.prog 112 #[.pointer (some ⟨c, 0, none⟩), ov, xv] w fun e w' => ∃ gb go gx, e = .returned (.agg (dKm c gb go gx).toArray) ∧ Sat W0 w' (seg true gb 0 [.pointer (some ⟨c, 0, none⟩)] :: seg true go 0 [.int .i64 (out : Int)] :: seg true gx 0 [.bool xof] :: L) := by
 subst ho hx
 go_enter Tryz.func112, Tryz.ntmps112
 go_wp2_with fail
 have s1 := hs.alloc #[.pointer (some ⟨c, 0, none⟩)] 183
 have s2 : Sat W0 _ (seg true (w.heap.size + 1) 0 [.int .i64 (out : Int)] :: _) := s1.allocAt #[.int .i64 (out : Int)] 3 (q := w.heap.size + 1) (by simp)
 have s3 : Sat W0 _ (seg true (w.heap.size + 2) 0 [.bool xof] :: _) := s2.allocAt #[.bool xof] 4 (q := w.heap.size + 2) (by simp)
 have s4 : Sat W0 _ (seg true (w.heap.size + 3) 0 (dKm c w.heap.size (w.heap.size + 1) (w.heap.size + 2)) :: _) := s3.allocAt (dKm c w.heap.size (w.heap.size + 1) (w.heap.size + 2)).toArray 162 (q := w.heap.size + 3) (by simp)
 have hr := run_loadVar_agg (P := Tryz.prog) (ty := 162) Tryz.underlying162 rfl Tryz.size_does s4 0 0 rfl (Nat.le_refl 5)
 have s5 := s4.tail
 refine bodyPost_ret (v := .agg (dKm c w.heap.size (w.heap.size + 1) (w.heap.size + 2)).toArray) ?_ rfl ⟨w.heap.size, w.heap.size + 1, w.heap.size + 2, rfl, s5.f⟩
 simp [results, Tryz.results112, asAddr]; exact hr
abbrev cmM (b c : Nat) (key msg : List Byte) (L : List Assn) : List Assn := cmS b (.pointer (some ⟨c, 0, none⟩)) (cmK1 key) (cmK2 key) (cmSt key msg).1 (cmSt key msg).2.1 (cmSt key msg).2.2 (cipS c key.length (expand key) L)
def cmKey (key : List Byte) : Prop := key.length = 16 ∨ key.length = 24 ∨ key.length = 32
theorem expand_240 {key : List Byte} (h : cmKey key) : (expand key).length = 240 := by
 unfold cmKey at h
 exact expand_len key (key.length / 4) (by omega) (by omega) (by omega)
theorem cmSt_inv {key : List Byte} (h : cmKey key) (msg : List Byte) : (cmSt key msg).1.length = 16 ∧ (cmSt key msg).2.1.length = 16 ∧ (cmSt key msg).2.2 = cwait 0 msg.length := by
 have hk := h
 unfold cmKey at hk
 exact cfold_inv _ (fun x hx => aesEnc_len _ _ _ (expand_240 h) hx (by omega)) msg nought16 nought16 0 rfl rfl (by decide)
theorem cwait_le (n l : Nat) : cwait n l ≤ 16 := by unfold cwait; split <;> omega
theorem cmSt_append (key m p : List Byte) : cmSt key (m ++ p) = cfold (aesEnc key.length (expand key)) (cmSt key m) p := cfold_append _ _ m p
end Go.Proofs.YtbefjaodpbgpcaaGreat
namespace Go.Proofs.YtbefjaodpbgpcaaGreat
open Go.RowKit Go.Sep Go.Bv Go.Kec Go.Aes Go.Sha
def MKind.cust : MKind → Bool
 | .km _ _ => true
 | _ => false
def MKind.keyF : MKind → Nat
 | .cm => 107
 | _ => 106
def kindV (K : MKind) : Value := .agg #[.int .u8 (K.alg : Int), .int .i64 (K.most : Int), .bool K.cust, .func (.func K.keyF) #[] #[]]
def kindL (K : MKind) : List Value := [.int .u8 (K.alg : Int), .int .i64 (K.most : Int), .bool K.cust, .func (.func K.keyF) #[] #[]]
theorem Tryz.size_kind : (Tryz.prog.info? 157).map (·.size) = some 4 := by kernel_rfl
theorem macOf {W0 w : World} {L : List Assn} {av : Value} (K : MKind) (ha : av = .int .u8 (K.alg : Int)) (hs : Sat W0 w L) :
  Calls Tryz.prog 89 #[av] w fun e w' => e = .returned (.tuple #[kindV K, .int .i64 0]) ∧ Sat W0 w' L := by
 subst ha
 rcases K with (wide | wide) | _ | ⟨large | large, xof | xof⟩
 ·simp only [MKind.alg]
  go_enter Tryz.func89, Tryz.ntmps89
  go_wp2_with fail
  have s2 := (hs.alloc (kindL (.hm false)).toArray 157).alloc (kindL (.hm false)).toArray 157
  have s3 : Sat W0 _ (seg true w.heap.size 0 (kindL (.hm false)) :: _) := s2.pull 1
  have hr := run_loadVar_agg (P := Tryz.prog) (ty := 157) Tryz.underlying157 rfl Tryz.size_kind s3 0 0 rfl (Nat.le_refl 4)
  refine bodyPost_ret (v := .tuple #[kindV (.hm false), .int .i64 0]) ?_ rfl ⟨rfl, s3.tail.tail⟩
  have hr2 : Sem.run Tryz.prog (loadVar 157 ⟨w.heap.size, 0, none⟩) _ = Result.ok (kindV (.hm false)) _ := hr
  simp [results, Tryz.results89, asAddr]
  erw [hr2]
  rfl
 ·simp only [MKind.alg]
  go_enter Tryz.func89, Tryz.ntmps89
  go_wp2_with fail
  have s2 := (hs.alloc (kindL (.hm true)).toArray 157).alloc (kindL (.hm true)).toArray 157
  have s3 : Sat W0 _ (seg true w.heap.size 0 (kindL (.hm true)) :: _) := s2.pull 1
  have hr := run_loadVar_agg (P := Tryz.prog) (ty := 157) Tryz.underlying157 rfl Tryz.size_kind s3 0 0 rfl (Nat.le_refl 4)
  refine bodyPost_ret (v := .tuple #[kindV (.hm true), .int .i64 0]) ?_ rfl ⟨rfl, s3.tail.tail⟩
  have hr2 : Sem.run Tryz.prog (loadVar 157 ⟨w.heap.size, 0, none⟩) _ = Result.ok (kindV (.hm true)) _ := hr
  simp [results, Tryz.results89, asAddr]
  erw [hr2]
  rfl
 ·simp only [MKind.alg]
  go_enter Tryz.func89, Tryz.ntmps89
  go_wp2_with fail
  have s2 := (hs.alloc (kindL .cm).toArray 157).alloc (kindL .cm).toArray 157
  have s3 : Sat W0 _ (seg true w.heap.size 0 (kindL .cm) :: _) := s2.pull 1
  have hr := run_loadVar_agg (P := Tryz.prog) (ty := 157) Tryz.underlying157 rfl Tryz.size_kind s3 0 0 rfl (Nat.le_refl 4)
  refine bodyPost_ret (v := .tuple #[kindV .cm, .int .i64 0]) ?_ rfl ⟨rfl, s3.tail.tail⟩
  have hr2 : Sem.run Tryz.prog (loadVar 157 ⟨w.heap.size, 0, none⟩) _ = Result.ok (kindV .cm) _ := hr
  simp [results, Tryz.results89, asAddr]
  erw [hr2]
  rfl
 ·simp only [MKind.alg]
  go_enter Tryz.func89, Tryz.ntmps89
  go_wp2_with fail
  have s2 := (hs.alloc (kindL (.km false false)).toArray 157).alloc (kindL (.km false false)).toArray 157
  have s3 : Sat W0 _ (seg true w.heap.size 0 (kindL (.km false false)) :: _) := s2.pull 1
  have hr := run_loadVar_agg (P := Tryz.prog) (ty := 157) Tryz.underlying157 rfl Tryz.size_kind s3 0 0 rfl (Nat.le_refl 4)
  refine bodyPost_ret (v := .tuple #[kindV (.km false false), .int .i64 0]) ?_ rfl ⟨rfl, s3.tail.tail⟩
  have hr2 : Sem.run Tryz.prog (loadVar 157 ⟨w.heap.size, 0, none⟩) _ = Result.ok (kindV (.km false false)) _ := hr
  simp [results, Tryz.results89, asAddr]
  erw [hr2]
  rfl
 ·simp only [MKind.alg]
  go_enter Tryz.func89, Tryz.ntmps89
  go_wp2_with fail
  have s2 := (hs.alloc (kindL (.km false true)).toArray 157).alloc (kindL (.km false true)).toArray 157
  have s3 : Sat W0 _ (seg true w.heap.size 0 (kindL (.km false true)) :: _) := s2.pull 1
  have hr := run_loadVar_agg (P := Tryz.prog) (ty := 157) Tryz.underlying157 rfl Tryz.size_kind s3 0 0 rfl (Nat.le_refl 4)
  refine bodyPost_ret (v := .tuple #[kindV (.km false true), .int .i64 0]) ?_ rfl ⟨rfl, s3.tail.tail⟩
  have hr2 : Sem.run Tryz.prog (loadVar 157 ⟨w.heap.size, 0, none⟩) _ = Result.ok (kindV (.km false true)) _ := hr
  simp [results, Tryz.results89, asAddr]
  erw [hr2]
  rfl
 ·simp only [MKind.alg]
  go_enter Tryz.func89, Tryz.ntmps89
  go_wp2_with fail
  have s2 := (hs.alloc (kindL (.km true false)).toArray 157).alloc (kindL (.km true false)).toArray 157
  have s3 : Sat W0 _ (seg true w.heap.size 0 (kindL (.km true false)) :: _) := s2.pull 1
  have hr := run_loadVar_agg (P := Tryz.prog) (ty := 157) Tryz.underlying157 rfl Tryz.size_kind s3 0 0 rfl (Nat.le_refl 4)
  refine bodyPost_ret (v := .tuple #[kindV (.km true false), .int .i64 0]) ?_ rfl ⟨rfl, s3.tail.tail⟩
  have hr2 : Sem.run Tryz.prog (loadVar 157 ⟨w.heap.size, 0, none⟩) _ = Result.ok (kindV (.km true false)) _ := hr
  simp [results, Tryz.results89, asAddr]
  erw [hr2]
  rfl
 ·simp only [MKind.alg]
  go_enter Tryz.func89, Tryz.ntmps89
  go_wp2_with fail
  have s2 := (hs.alloc (kindL (.km true true)).toArray 157).alloc (kindL (.km true true)).toArray 157
  have s3 : Sat W0 _ (seg true w.heap.size 0 (kindL (.km true true)) :: _) := s2.pull 1
  have hr := run_loadVar_agg (P := Tryz.prog) (ty := 157) Tryz.underlying157 rfl Tryz.size_kind s3 0 0 rfl (Nat.le_refl 4)
  refine bodyPost_ret (v := .tuple #[kindV (.km true true), .int .i64 0]) ?_ rfl ⟨rfl, s3.tail.tail⟩
  have hr2 : Sem.run Tryz.prog (loadVar 157 ⟨w.heap.size, 0, none⟩) _ = Result.ok (kindV (.km true true)) _ := hr
  simp [results, Tryz.results89, asAddr]
  erw [hr2]
  rfl
end Go.Proofs.YtbefjaodpbgpcaaGreat
namespace Go.Proofs.YtbefjaodpbgpcaaGreat
open Go.RowKit Go.Sep Go.Bv Go.Kec Go.Aes Go.Sha
def doesL (K : MKind) (q : Nat × Nat × Nat × Nat × Nat) : List Value :=
 match K with
 | .hm wide => dHm q.1 q.2.1
 | .cm => dCm q.1 q.2.1
 | .km large xof => dKm q.1 q.2.1 q.2.2.1 q.2.2.2.1
def restL (K : MKind) (q : Nat × Nat × Nat × Nat × Nat) (key custom : List Byte) (out : Nat) (msg : List Byte) : List Assn :=
 match K with
 | .hm wide => seg true q.2.1 0 [.pointer (some ⟨q.1, 0, none⟩)] :: mac wide q.1 (blockKey wide key) msg :: []
 | .cm => seg true q.2.1 0 [.pointer (some ⟨q.1, 0, none⟩)] :: cmM q.1 q.2.2.1 key msg []
 | .km large xof => seg true q.2.1 0 [.pointer (some ⟨q.1, 0, none⟩)] :: seg true q.2.2.1 0 [.int .i64 (out : Int)] :: seg true q.2.2.2.1 0 [.bool xof] :: kmS q.1 q.2.2.2.2 (kst large) (krt large) (kmPre (krt large) key custom ++ msg) []
def sesT (K : MKind) (out : Nat) : List Value := [.int .u8 (K.alg : Int), .int .i64 (out : Int)]
def sesL (K : MKind) (s : Nat) (q : Nat × Nat × Nat × Nat × Nat) (key custom : List Byte) (out : Nat) (msg : List Byte) : List Assn :=
 seg true s 0 (doesL K q ++ sesT K out) :: restL K q key custom out msg
def ses (K : MKind) (s : Nat) (key custom : List Byte) (out : Nat) (msg : List Byte) : Assn := fun h => ∃ q, big (sesL K s q key custom out msg) h
theorem sesOpen {W0 w : World} {L : List Assn} {K : MKind} {s out : Nat} {key custom msg : List Byte} (h : Sat W0 w (ses K s key custom out msg :: L)) : ∃ q, Sat W0 w (sesL K s q key custom out msg ++ L) := by
 obtain ⟨q, h⟩ := h.exOpen
 exact ⟨q, h.bigOpen⟩
theorem sesShut {W0 w : World} {L : List Assn} {K : MKind} {s out : Nat} {key custom msg : List Byte} (q : Nat × Nat × Nat × Nat × Nat) (h : Sat W0 w (sesL K s q key custom out msg ++ L)) : Sat W0 w (ses K s key custom out msg :: L) :=
 Sat.exShut (A := fun q => big (sesL K s q key custom out msg)) q h.bigShut
abbrev hmSes (wide : Bool) (s c gb : Nat) (key : List Byte) (out : Nat) (msg : List Byte) (L : List Assn) : List Assn := seg true s 0 (dHm c gb ++ [.int .u8 ((MKind.hm wide).alg : Int), .int .i64 (out : Int)]) :: seg true gb 0 [.pointer (some ⟨c, 0, none⟩)] :: mac wide c (blockKey wide key) msg :: L
abbrev cmSes (s b gb c : Nat) (key : List Byte) (out : Nat) (msg : List Byte) (L : List Assn) : List Assn := seg true s 0 (dCm b gb ++ [.int .u8 (MKind.cm.alg : Int), .int .i64 (out : Int)]) :: seg true gb 0 [.pointer (some ⟨b, 0, none⟩)] :: cmM b c key msg L
abbrev kmSes (large xof : Bool) (s c gb go gx g : Nat) (key custom : List Byte) (out : Nat) (msg : List Byte) (L : List Assn) : List Assn := seg true s 0 (dKm c gb go gx ++ [.int .u8 ((MKind.km large xof).alg : Int), .int .i64 (out : Int)]) :: seg true gb 0 [.pointer (some ⟨c, 0, none⟩)] :: seg true go 0 [.int .i64 (out : Int)] :: seg true gx 0 [.bool xof] :: kmS c g (kst large) (krt large) (kmPre (krt large) key custom ++ msg) L
theorem hmOpen {W0 w : World} {L : List Assn} {wide : Bool} {s out : Nat} {key custom msg : List Byte} (h : Sat W0 w (ses (.hm wide) s key custom out msg :: L)) : ∃ c gb, Sat W0 w (hmSes wide s c gb key out msg L) := by
 obtain ⟨q, h⟩ := sesOpen h; exact ⟨_, _, h⟩
theorem hmShut {W0 w : World} {L : List Assn} {wide : Bool} {s out c gb : Nat} {key custom msg : List Byte} (h : Sat W0 w (hmSes wide s c gb key out msg L)) : Sat W0 w (ses (.hm wide) s key custom out msg :: L) := sesShut (c, gb, 0, 0, 0) h
theorem cmOpen {W0 w : World} {L : List Assn} {s out : Nat} {key custom msg : List Byte} (h : Sat W0 w (ses .cm s key custom out msg :: L)) : ∃ b gb c, Sat W0 w (cmSes s b gb c key out msg L) := by
 obtain ⟨q, h⟩ := sesOpen h; exact ⟨_, _, _, h⟩
theorem cmShut {W0 w : World} {L : List Assn} {s out b gb c : Nat} {key custom msg : List Byte} (h : Sat W0 w (cmSes s b gb c key out msg L)) : Sat W0 w (ses .cm s key custom out msg :: L) := sesShut (b, gb, c, 0, 0) h
theorem kmOpen {W0 w : World} {L : List Assn} {large xof : Bool} {s out : Nat} {key custom msg : List Byte} (h : Sat W0 w (ses (.km large xof) s key custom out msg :: L)) : ∃ c gb go gx g, Sat W0 w (kmSes large xof s c gb go gx g key custom out msg L) := by
 obtain ⟨q, h⟩ := sesOpen h; exact ⟨_, _, _, _, _, h⟩
theorem kmShut {W0 w : World} {L : List Assn} {large xof : Bool} {s out c gb go gx g : Nat} {key custom msg : List Byte} (h : Sat W0 w (kmSes large xof s c gb go gx g key custom out msg L)) : Sat W0 w (ses (.km large xof) s key custom out msg :: L) := sesShut (c, gb, go, gx, g) h
def Roomy (rs : List Run3) : Prop := tot rs ≤ 1000000000000000 ∧ rs.length ≤ 1000000
theorem beg_tot (K : MKind) (kl cl : Nat) (rs : List Run3) (hk : kl ≤ 100000000) (hc : cl ≤ 64) : tot (K.beg kl cl rs) ≤ tot rs + 200000000 ∧ (K.beg kl cl rs).length ≤ rs.length + 2 := by
 cases K with
 | hm wide =>
  simp only [MKind.beg]
  rw [tot_noteN]
  have := noteN_len rs (evK wide) (evS wide) (keyN wide kl)
  refine ⟨?_, by omega⟩
  unfold keyN
  by_cases h : bsz wide < kl
  ·rw [if_pos h]; unfold padN roomN; cases wide <;> simp only [bsz] <;> omega
  ·rw [if_neg h]; omega
 | cm =>
  simp only [MKind.beg]
  rw [tot_note, tot_note]
  have h1 := note_len rs 4 (kl : Int) 1
  have h2 := note_len (note rs 4 (kl : Int) 1) 5 (kl : Int) 1
  omega
 | km large xof =>
  simp only [MKind.beg]
  rw [tot_noteN]
  have := noteN_len rs 3 200 ((kmPre (krt large) (List.replicate kl 0) (List.replicate cl 0)).length / krt large)
  refine ⟨?_, by omega⟩
  have h := (kmPre_len (krt large) (krt_pos large) (List.replicate kl 0) (List.replicate cl 0)).2
  rw [List.length_replicate, List.length_replicate] at h
  have hd := Nat.div_le_self (kmPre (krt large) (List.replicate kl 0) (List.replicate cl 0)).length (krt large)
  have hr : krt large ≤ 168 := by cases large <;> decide
  omega
theorem macAny1 (w : World) (n : Nat) : Calls Tryz.prog 106 #[.int .i64 (n : Int)] w fun e w' => e = .returned (.bool true) ∧ w' = w := by
 have h0 : (0 : Int) ≤ (n : Int) := by omega
 go_enter Tryz.func106, Tryz.ntmps106
 go_wp2
 go_ret
 exact ⟨rfl, rfl⟩
theorem macAes (w : World) (n : Nat) (h : n = 16 ∨ n = 24 ∨ n = 32) : Calls Tryz.prog 107 #[.int .i64 (n : Int)] w fun e w' => e = .returned (.bool true) ∧ w' = w := by
 rcases h with rfl | rfl | rfl
 all_goals
  go_enter Tryz.func107, Tryz.ntmps107
  go_wp2
  go_ret
  exact ⟨rfl, rfl⟩
theorem zero_does (w : World) : (zeroValue 162).run Tryz.prog w = .ok (.agg [Value.nilFunc, .nilFunc, .nilFunc, .nilFunc, .nilFunc].toArray) w := by kernel_rfl
theorem dHm_one (c gb : Nat) : ∀ v ∈ dHm c gb, v.oneCell' = true := by
 intro v hv
 simp only [dHm, List.mem_cons, List.not_mem_nil, or_false] at hv
 rcases hv with rfl | rfl | rfl | rfl | rfl <;> rfl
theorem dCm_one (c gb : Nat) : ∀ v ∈ dCm c gb, v.oneCell' = true := by
 intro v hv
 simp only [dCm, List.mem_cons, List.not_mem_nil, or_false] at hv
 rcases hv with rfl | rfl | rfl | rfl | rfl <;> rfl
theorem dKm_one (c gb go gx : Nat) : ∀ v ∈ dKm c gb go gx, v.oneCell' = true := by
 intro v hv
 simp only [dKm, List.mem_cons, List.not_mem_nil, or_false] at hv
 rcases hv with rfl | rfl | rfl | rfl | rfl <;> rfl
theorem kmPre_noughts (r : Nat) (key custom : List Byte) : (kmPre r key custom).length = (kmPre r (List.replicate key.length 0) (List.replicate custom.length 0)).length := kmPre_len_of r _ _ _ _ (by simp) (by simp)
theorem macBegun {W0 w : World} {L : List Assn} {m m2 : Bool} {pk pc : Option Addr} {nk ck n cap out : Nat} {pv av : Value} (K : MKind) (p : Option Nat) (rs : List Run3) (key custom : List Byte) (hp : pv = ptrO p) (ha : av = .int .u8 (K.alg : Int)) (hf : K.fits key custom out) (hR : Roomy rs) (hnk : key.length = nk) (hck : nk ≤ ck) (hckm : ck ≤ maxLen) (hn : custom.length = n) (hcap : n ≤ cap) (hcm : cap ≤ maxLen)
  (hs : Sat W0 w (ledO p rs :: bytes m pk key :: bytes m2 pc custom :: L)) :
  Calls Tryz.prog 90 #[pv, av, .slice pk nk ck, .slice pc n cap, .int .i64 (out : Int)] w fun e w' => ∃ q, e = .returned (.tuple #[.agg (doesL K q).toArray, .int .i64 0]) ∧ Sat W0 w' (restL K q key custom out [] ++ (ledO p (K.beg nk n rs) :: bytes m pk key :: bytes m2 pc custom :: L)) := by
 subst hp ha
 obtain ⟨hR1, hR2⟩ := hR
 obtain ⟨hf1, hf2, hf3, hf4⟩ := hf
 rw [hnk] at hf3
 rcases K with (wide | wide) | _ | ⟨large, xof⟩
 ·simp only at hf4
  have hnew := fun (w : World) (X : List Assn) (s : Sat W0 w (ledO p rs :: bytes m pk key :: X)) => hmacNewF (pv := ptrO p) (av := .int .u8 (algN false)) false p rs key hnk rfl rfl hck hckm (by omega) (by omega) s
  simp only [algN] at hnew
  have HN := Lib.hid hnew; clear hnew hck hckm hcap hcm hR1 hR2 hf4
  simp only [MKind.alg]
  go_enter Tryz.func90, Tryz.ntmps90
  go_wp2_with (refine wpl_alloc_agg rfl 162 rfl hs _ (zero_does _) ?_; intro w2 gt s2 _; clear hs)
  refine (HN.out _ (seg true gt 0 [Value.nilFunc, .nilFunc, .nilFunc, .nilFunc, .nilFunc] :: bytes m2 pc custom :: L) s2.f).mono ?_
  rintro e w3 ⟨c, rfl, s3⟩
  clear s2
  go_wp2_with fail
  refine (ofHm (c := c) s3).mono ?_
  rintro e w5 ⟨gb, rfl, s5⟩
  clear s3
  have s6 : Sat W0 w5 (seg true gt 0 [Value.nilFunc, .nilFunc, .nilFunc, .nilFunc, .nilFunc] :: seg true gb 0 [.pointer (some ⟨c, 0, none⟩)] :: mac false c (blockKey false key) [] :: ledO p (noteN rs (evK false) (evS false) (keyN false nk)) :: bytes m pk key :: bytes m2 pc custom :: L) := s5.f
  clear s5
  go_wp2_with (refine wpl_store_agg rfl rfl 162 (.tmp 10) (.tmp 35) rfl (cs := dHm c gb) s6 0 0 Tryz.size_does rfl rfl rfl (Nat.le_refl 5) (dHm_one c gb) ?_; intro w7 s7; rw [setL_all _ _ (by rfl)] at s7; clear s6)
  have hr := run_loadVar_agg (P := Tryz.prog) (ty := 162) Tryz.underlying162 rfl Tryz.size_does s7 0 0 rfl (Nat.le_refl 5)
  have hr2 : Sem.run Tryz.prog (loadVar 162 ⟨gt, 0, none⟩) w7 = Result.ok (.agg (dHm c gb).toArray) w7 := hr
  have HS := Lib.hid s7.tail; clear s7 hr
  refine bodyPost_ret (v := .tuple #[.agg (dHm c gb).toArray, .int .i64 0]) ?_ rfl ⟨(c, gb, 0, 0, 0), rfl, HS.out⟩
  simp [results, Tryz.results90, asAddr, hr2]
 ·simp only at hf4
  have hnew := fun (w : World) (X : List Assn) (s : Sat W0 w (ledO p rs :: bytes m pk key :: X)) => hmacNewF (pv := ptrO p) (av := .int .u8 (algN true)) true p rs key hnk rfl rfl hck hckm (by omega) (by omega) s
  simp only [algN] at hnew
  have HN := Lib.hid hnew; clear hnew hck hckm hcap hcm hR1 hR2 hf4
  simp only [MKind.alg]
  go_enter Tryz.func90, Tryz.ntmps90
  go_wp2_with (refine wpl_alloc_agg rfl 162 rfl hs _ (zero_does _) ?_; intro w2 gt s2 _; clear hs)
  refine (HN.out _ (seg true gt 0 [Value.nilFunc, .nilFunc, .nilFunc, .nilFunc, .nilFunc] :: bytes m2 pc custom :: L) s2.f).mono ?_
  rintro e w3 ⟨c, rfl, s3⟩
  clear s2
  go_wp2_with fail
  refine (ofHm (c := c) s3).mono ?_
  rintro e w5 ⟨gb, rfl, s5⟩
  clear s3
  have s6 : Sat W0 w5 (seg true gt 0 [Value.nilFunc, .nilFunc, .nilFunc, .nilFunc, .nilFunc] :: seg true gb 0 [.pointer (some ⟨c, 0, none⟩)] :: mac true c (blockKey true key) [] :: ledO p (noteN rs (evK true) (evS true) (keyN true nk)) :: bytes m pk key :: bytes m2 pc custom :: L) := s5.f
  clear s5
  go_wp2_with (refine wpl_store_agg rfl rfl 162 (.tmp 10) (.tmp 35) rfl (cs := dHm c gb) s6 0 0 Tryz.size_does rfl rfl rfl (Nat.le_refl 5) (dHm_one c gb) ?_; intro w7 s7; rw [setL_all _ _ (by rfl)] at s7; clear s6)
  have hr := run_loadVar_agg (P := Tryz.prog) (ty := 162) Tryz.underlying162 rfl Tryz.size_does s7 0 0 rfl (Nat.le_refl 5)
  have hr2 : Sem.run Tryz.prog (loadVar 162 ⟨gt, 0, none⟩) w7 = Result.ok (.agg (dHm c gb).toArray) w7 := hr
  have HS := Lib.hid s7.tail; clear s7 hr
  refine bodyPost_ret (v := .tuple #[.agg (dHm c gb).toArray, .int .i64 0]) ?_ rfl ⟨(c, gb, 0, 0, 0), rfl, HS.out⟩
  simp [results, Tryz.results90, asAddr, hr2]
 ·simp only at hf4
  obtain ⟨hcu, hkl⟩ := hf4
  have hnew := fun (w : World) (X : List Assn) (s : Sat W0 w (ledO p rs :: bytes m pk key :: X)) => cmacNew (pv := ptrO p) p rs key rfl hnk (by omega) hck hckm (by omega) (by omega) s
  have HN := Lib.hid hnew; clear hnew hck hckm hcap hcm hR1 hR2
  have hfin : ∀ {wx X b c}, Sat W0 wx (cmS b (.pointer (some ⟨c, 0, none⟩)) (cmK1 key) (cmK2 key) nought16 nought16 0 (cipS c nk (expand key) X)) → Sat W0 wx (cmM b c key [] X) := fun h => by unfold cmM; rw [hnk]; exact h
  have HF := Lib.hid (And.intro hcu @hfin); clear hcu hfin hkl
  simp only [MKind.alg]
  go_enter Tryz.func90, Tryz.ntmps90
  go_wp2_with (refine wpl_alloc_agg rfl 162 rfl hs _ (zero_does _) ?_; intro w2 gt s2 _; clear hs)
  refine (HN.out _ (seg true gt 0 [Value.nilFunc, .nilFunc, .nilFunc, .nilFunc, .nilFunc] :: bytes m2 pc custom :: L) s2.f).mono ?_
  rintro e w3 ⟨b, c, rfl, s3⟩
  clear s2
  have s4 := HF.out.2 s3
  clear s3
  go_wp2_with fail
  refine (ofCm (c := b) s4).mono ?_
  rintro e w5 ⟨gb, rfl, s5⟩
  clear s4
  have s6 : Sat W0 w5 (seg true gt 0 [Value.nilFunc, .nilFunc, .nilFunc, .nilFunc, .nilFunc] :: seg true gb 0 [.pointer (some ⟨b, 0, none⟩)] :: cmM b c key [] (ledO p (note (note rs 4 (nk : Int) 1) 5 (nk : Int) 1) :: bytes m pk key :: bytes m2 pc custom :: L)) := s5.f
  clear s5
  go_wp2_with (refine wpl_store_agg rfl rfl 162 (.tmp 10) (.tmp 49) rfl (cs := dCm b gb) s6 0 0 Tryz.size_does rfl rfl rfl (Nat.le_refl 5) (dCm_one b gb) ?_; intro w7 s7; rw [setL_all _ _ (by rfl)] at s7; clear s6)
  have hr := run_loadVar_agg (P := Tryz.prog) (ty := 162) Tryz.underlying162 rfl Tryz.size_does s7 0 0 rfl (Nat.le_refl 5)
  have hr2 : Sem.run Tryz.prog (loadVar 162 ⟨gt, 0, none⟩) w7 = Result.ok (.agg (dCm b gb).toArray) w7 := hr
  have HS := Lib.hid s7.tail; clear s7 hr
  refine bodyPost_ret (v := .tuple #[.agg (dCm b gb).toArray, .int .i64 0]) ?_ rfl ⟨(b, gb, c, 0, 0), rfl, HS.out⟩
  simp [results, Tryz.results90, asAddr, hr2]
 ·simp only at hf4
  have hst := kst_ok large
  have hnew := fun (w : World) (X : List Assn) (s : Sat W0 w (ledO p rs :: bytes m pk key :: bytes m2 pc custom :: X)) => kmNew (pv := ptrO p) (sv := .int .i64 (kst large : Int)) p rs key custom rfl rfl hst hnk hck hckm hf3 hn hcap hcm (by omega) (by omega) (by omega) s
  rw [kmPre_noughts, hnk, hn] at hnew
  have HN := Lib.hid hnew; clear hnew hck hckm hcap hcm hR1 hR2 hst hf4
  cases large <;> cases xof
  all_goals
   simp only [MKind.alg]
   simp only [kst] at HN
   go_enter Tryz.func90, Tryz.ntmps90
   go_wp2_with (refine wpl_alloc_agg rfl 162 rfl hs _ (zero_does _) ?_; intro w2 gt s2 _; clear hs)
   refine (HN.out _ (seg true gt 0 [Value.nilFunc, .nilFunc, .nilFunc, .nilFunc, .nilFunc] :: L) s2.f).mono ?_
   rintro e w3 ⟨c, g, rfl, s3⟩
   clear s2
   go_wp2_with fail
   refine (ofKm (c := c) (out := out) _ rfl rfl s3).mono ?_
   rintro e w5 ⟨gb, go, gx, rfl, s5⟩
   clear s3
   have s6 : Sat W0 w5 (seg true gt 0 [Value.nilFunc, .nilFunc, .nilFunc, .nilFunc, .nilFunc] :: seg true gb 0 [.pointer (some ⟨c, 0, none⟩)] :: seg true go 0 [.int .i64 (out : Int)] :: seg true gx 0 [.bool _] :: kmS c g _ _ (kmPre _ key custom) (ledO p (noteN rs 3 200 _) :: bytes m pk key :: bytes m2 pc custom :: L)) := s5.f
   clear s5
   go_wp2_with (refine wpl_store_agg rfl rfl 162 (.tmp 10) (.tmp 72) rfl (cs := dKm c gb go gx) s6 0 0 Tryz.size_does rfl rfl rfl (Nat.le_refl 5) (dKm_one c gb go gx) ?_; intro w7 s7; rw [setL_all _ _ (by rfl)] at s7; clear s6)
   have hr := run_loadVar_agg (P := Tryz.prog) (ty := 162) Tryz.underlying162 rfl Tryz.size_does s7 0 0 rfl (Nat.le_refl 5)
   have hr2 : Sem.run Tryz.prog (loadVar 162 ⟨gt, 0, none⟩) w7 = Result.ok (.agg (dKm c gb go gx).toArray) w7 := hr
   have HS := Lib.hid s7.tail; clear s7 hr
   refine bodyPost_ret (v := .tuple #[.agg (dKm c gb go gx).toArray, .int .i64 0]) ?_ rfl ⟨(c, gb, go, gx, g), rfl, ?_⟩
   ·simp [results, Tryz.results90, asAddr, hr2]
   ·have s8 := HS.out
    simp only [restL, List.append_nil]
    exact s8
end Go.Proofs.YtbefjaodpbgpcaaGreat
namespace Go.Proofs.YtbefjaodpbgpcaaGreat
open Go.RowKit Go.Sep Go.Bv Go.Kec Go.Aes Go.Sha
theorem doesL_five (K : MKind) (q : Nat × Nat × Nat × Nat × Nat) : ∃ d0 d1 d2 d3 d4 : Value, doesL K q = [d0, d1, d2, d3, d4] ∧ d0.oneCell' = true ∧ d1.oneCell' = true ∧ d2.oneCell' = true ∧ d3.oneCell' = true ∧ d4.oneCell' = true := by
 cases K <;> exact ⟨_, _, _, _, _, rfl, rfl, rfl, rfl, rfl, rfl⟩
def MKind.keyOk (K : MKind) (n : Nat) : Bool :=
 match K with
 | .cm => n == 16 || n == 24 || n == 32
 | _ => true
theorem macAesB (w : World) (n : Nat) : Calls Tryz.prog 107 #[.int .i64 (n : Int)] w fun e w' => e = .returned (.bool (n == 16 || n == 24 || n == 32)) ∧ w' = w := by
 by_cases h : n = 16 ∨ n = 24 ∨ n = 32
 ·have e : (n == 16 || n == 24 || n == 32) = true := by simp only [Bool.or_eq_true, beq_iff_eq]; omega
  rw [e]
  exact macAes w n h
 ·have e : (n == 16 || n == 24 || n == 32) = false := by simp only [Bool.or_eq_false_iff, beq_eq_false_iff_ne]; omega
  rw [e]
  have e1 : ((n : Int) == 16) = false := by rw [beq_eq_false_iff_ne]; omega
  have e2 : ((n : Int) == 24) = false := by rw [beq_eq_false_iff_ne]; omega
  have e3 : ((n : Int) == 32) = false := by rw [beq_eq_false_iff_ne]; omega
  clear h e
  go_enter Tryz.func107, Tryz.ntmps107
  go_wp2
  go_ret
  exact ⟨rfl, rfl⟩
theorem macKeyF (K : MKind) (w : World) (n : Nat) : Calls Tryz.prog K.keyF #[.int .i64 (n : Int)] w fun e w' => e = .returned (.bool (K.keyOk n)) ∧ w' = w := by
 cases K with
 | hm wide => exact macAny1 w n
 | cm => exact macAesB w n
 | km large xof => exact macAny1 w n
theorem funcNil (kf : Nat) (w : World) : (binOp .eql 155 (.func (.func kf) #[] #[]) .nilFunc).run Tryz.prog w = .ok (.bool false) w := by kernel_rfl
theorem keyF_call (K : MKind) (x : Value) (w : World) : (callFunc K.keyF #[x]).run Tryz.prog w = .ok (.enter K.keyF #[x]) w := by
 cases K with
 | hm wide => exact (by kernel_rfl : (callFunc 106 #[x]).run Tryz.prog w = .ok (.enter 106 #[x]) w)
 | cm => exact (by kernel_rfl : (callFunc 107 #[x]).run Tryz.prog w = .ok (.enter 107 #[x]) w)
 | km large xof => exact (by kernel_rfl : (callFunc 106 #[x]).run Tryz.prog w = .ok (.enter 106 #[x]) w)
theorem build_ses5 (d0 d1 d2 d3 d4 : Value) (a o : Int) (w : World) : (Instr.build 166 #[(0, .agg #[d0, d1, d2, d3, d4]), (1, .int .u8 a), (2, .int .i64 o)]).run Tryz.prog w = .ok (.agg #[d0, d1, d2, d3, d4, .int .u8 a, .int .i64 o]) w := by kernel_rfl
theorem build_ses (K : MKind) (q : Nat × Nat × Nat × Nat × Nat) (a o : Int) (w : World) : (Instr.build 166 #[(0, .agg (doesL K q).toArray), (1, .int .u8 a), (2, .int .i64 o)]).run Tryz.prog w = .ok (.agg (doesL K q ++ [Value.int .u8 a, Value.int .i64 o]).toArray) w := by
 obtain ⟨d0, d1, d2, d3, d4, hd, _⟩ := doesL_five K q
 rw [hd]
 exact build_ses5 d0 d1 d2 d3 d4 a o w
theorem doesL_len (K : MKind) (q : Nat × Nat × Nat × Nat × Nat) : (doesL K q).length = 5 := by cases K <;> rfl
theorem doesL_one (K : MKind) (q : Nat × Nat × Nat × Nat × Nat) : ∀ v ∈ doesL K q, v.oneCell' = true := by
 cases K with
 | hm wide => exact dHm_one _ _
 | cm => exact dCm_one _ _
 | km large xof => exact dKm_one _ _ _ _
def MKind.code (K : MKind) (kl cl : Nat) (out : Int) : Int :=
 if K.keyOk kl = false then 7 else if 0 < cl ∧ K.cust = false then 2 else if 64 < cl then 9 else if out < 1 ∨ (K.most : Int) < out then 11 else 0
theorem macBegin {W0 w : World} {L : List Assn} {m m2 : Bool} {pk pc : Option Addr} {nk ck n cap out : Nat} {pv av ov : Value} (K : MKind) (p : Option Nat) (rs : List Run3) (key custom : List Byte) (hp : pv = ptrO p) (ha : av = .int .u8 (K.alg : Int)) (ho : ov = .int .i64 (out : Int)) (hf : K.fits key custom out) (hR : Roomy rs) (hnk : key.length = nk) (hck : nk ≤ ck) (hckm : ck ≤ maxLen) (hn : custom.length = n) (hcap : n ≤ cap) (hcm : cap ≤ maxLen)
  (hs : Sat W0 w (ledO p rs :: bytes m pk key :: bytes m2 pc custom :: L)) :
  Calls Tryz.prog 73 #[pv, av, .slice pk nk ck, .slice pc n cap, ov] w fun e w' => ∃ s, e = .returned (.tuple #[.pointer (some ⟨s, 0, none⟩), .int .i64 0]) ∧ Sat W0 w' (ses K s key custom out [] :: ledO p (K.beg nk n rs) :: bytes m pk key :: bytes m2 pc custom :: L) := by
 subst hp ha ho
 have hof := fun (w : World) (X : List Assn) (s : Sat W0 w X) => macOf K rfl s
 have hkf := fun w => macKeyF K w nk
 have hcf := fun w => keyF_call K (.int .i64 (nk : Int)) w
 have hbg := fun (w : World) (s : Sat W0 w (ledO p rs :: bytes m pk key :: bytes m2 pc custom :: L)) => macBegun (pv := ptrO p) (av := .int .u8 (K.alg : Int)) K p rs key custom rfl rfl hf hR hnk hck hckm hn hcap hcm s
 have hcase : n = 0 ∨ K.cust = true := by
  obtain ⟨_, _, _, h4⟩ := hf
  cases K with
  | hm wide => simp only at h4; subst h4; exact .inl hn.symm
  | cm => simp only at h4; obtain ⟨rfl, _⟩ := h4; exact .inl hn.symm
  | km large xof => exact .inr rfl
 have hn64 : n ≤ 64 := by
  obtain ⟨_, _, _, h4⟩ := hf
  cases K with
  | hm wide => simp only at h4; subst h4; rw [← hn]; exact Nat.zero_le _
  | cm => simp only at h4; obtain ⟨rfl, _⟩ := h4; rw [← hn]; exact Nat.zero_le _
  | km large xof => simp only at h4; rw [hn] at h4; exact h4
 have hko : K.keyOk nk = true := by
  obtain ⟨_, _, _, h4⟩ := hf
  cases K with
  | hm wide => rfl
  | cm => simp only at h4; rw [hnk] at h4; simp only [MKind.keyOk, Bool.or_eq_true, beq_iff_eq]; omega
  | km large xof => rfl
 rw [hko] at hkf
 obtain ⟨ho1, ho2, _, _⟩ := hf
 have g1 : (1 : Int) ≤ (out : Int) := by omega
 have g2 : (out : Int) ≤ (K.most : Int) := by omega
 have g3 : (n : Int) ≤ 64 := by omega
 obtain ⟨al, hal⟩ : ∃ al : Nat, al = K.alg := ⟨_, rfl⟩
 obtain ⟨mo, hmo⟩ : ∃ mo : Nat, mo = K.most := ⟨_, rfl⟩
 obtain ⟨cu, hcu⟩ : ∃ cu : Bool, cu = K.cust := ⟨_, rfl⟩
 obtain ⟨kf, hkf'⟩ : ∃ kf : Nat, kf = K.keyF := ⟨_, rfl⟩
 have hkv : kindV K = .agg #[.int .u8 (al : Int), .int .i64 (mo : Int), .bool cu, .func (.func kf) #[] #[]] := by rw [hal, hmo, hcu, hkf']; rfl
 rw [hkv] at hof
 rw [← hkf'] at hkf hcf
 rw [← hal] at hof hbg ⊢
 rw [← hmo] at g2
 rw [← hcu] at hcase
 have hend : sesT K out = [.int .u8 (al : Int), .int .i64 (out : Int)] := by rw [hal]; rfl
 have HN := Lib.hid (And.intro hof (And.intro hkf (And.intro hbg hend))); clear hof hkf hbg hend hko hkv hkf' hcu hmo hal hR hnk hck hckm hn hcap hcm ho1 ho2 hn64
 have key0 : n = 0 ∨ 0 < n := by omega
 have hfn := fun w => funcNil kf w
 rcases key0 with rfl | hn0
 ·clear hcase
  go_enter Tryz.func73, Tryz.ntmps73
  go_wp2_with fail
  refine (HN.out.1 _ _ hs).mono ?_
  rintro e w1 ⟨rfl, s1⟩
  clear hs
  go_wp2_with fail
  refine (HN.out.2.1 _).mono ?_
  rintro e w2 ⟨rfl, rfl⟩
  go_wp2_with fail
  refine (HN.out.2.2.1 _ (s1.alloc' _)).mono ?_
  rintro e w3 ⟨q, rfl, s3⟩
  clear s1
  have HD := Lib.hid (And.intro (doesL_len K q) (And.intro (doesL_one K q) (fun w => build_ses K q al out w)))
  obtain ⟨D, hD⟩ : ∃ D, D = doesL K q := ⟨_, rfl⟩
  rw [← hD] at HD ⊢
  have HQ := Lib.hid hD; clear hD
  go_wp2_with (first | (refine wpl_alloc_agg rfl 162 rfl s3 _ (zero_does _) ?_; intro w4 gt s4 _; clear s3) | (refine wpl_store_agg rfl rfl 162 (.tmp 14) (.tmp 65) rfl (cs := D) s4 0 0 (by rw [HD.out.1]; exact Tryz.size_does) rfl rfl rfl (by rw [HD.out.1]; exact Nat.le_refl 5) HD.out.2.1 ?_; intro w5 s5; rw [setL_all _ _ (by rw [HD.out.1]; rfl)] at s5; clear s4) | (refine wpl_load_agg rfl 162 (.tmp 14) rfl Tryz.underlying162 rfl Tryz.size_does s5 0 0 rfl rfl (by rw [HD.out.1]; exact Nat.le_refl 5) ?_; rw [List.drop_zero, List.take_of_length_le (by rw [HD.out.1]; exact Nat.le_refl 5)]) | (refine wpl_build rfl 166 rfl (.agg (D ++ [Value.int .u8 (al : Int), Value.int .i64 (out : Int)]).toArray) (by simp only [List.map_toArray, List.map_cons, List.map_nil]; exact HD.out.2.2 _) ?_) | (refine wpl_box rfl 166 (.tmp 73) rfl (D ++ [Value.int .u8 (al : Int), Value.int .i64 (out : Int)]) rfl s5 ?_; intro w6 s s6 _))
  rw [← HN.out.2.2.2, HQ.out] at s6
  have s7 : Sat W0 w6 (sesL K s q key custom out [] ++ (ledO p (K.beg nk _ rs) :: bytes m pk key :: bytes m2 pc custom :: L)) := s6.drop (1 + 0)
  have HS := Lib.hid (sesShut q s7); clear s7 s6
  exact bodyPost_ret (v := .tuple #[.pointer (some ⟨s, 0, none⟩), .int .i64 0]) (by simp [results, Tryz.results73, go_sem]) rfl ⟨s, rfl, HS.out⟩
 ·have hcu : cu = true := by rcases hcase with h | h; omega; exact h
  subst hcu
  clear hcase
  have g4 : (0 : Int) < (n : Int) := by omega
  go_enter Tryz.func73, Tryz.ntmps73
  go_wp2_with fail
  refine (HN.out.1 _ _ hs).mono ?_
  rintro e w1 ⟨rfl, s1⟩
  clear hs
  go_wp2_with fail
  refine (HN.out.2.1 _).mono ?_
  rintro e w2 ⟨rfl, rfl⟩
  go_wp2_with fail
  refine (HN.out.2.2.1 _ (s1.alloc' _)).mono ?_
  rintro e w3 ⟨q, rfl, s3⟩
  clear s1
  have HD := Lib.hid (And.intro (doesL_len K q) (And.intro (doesL_one K q) (fun w => build_ses K q al out w)))
  obtain ⟨D, hD⟩ : ∃ D, D = doesL K q := ⟨_, rfl⟩
  rw [← hD] at HD ⊢
  have HQ := Lib.hid hD; clear hD
  go_wp2_with (first | (refine wpl_alloc_agg rfl 162 rfl s3 _ (zero_does _) ?_; intro w4 gt s4 _; clear s3) | (refine wpl_store_agg rfl rfl 162 (.tmp 14) (.tmp 65) rfl (cs := D) s4 0 0 (by rw [HD.out.1]; exact Tryz.size_does) rfl rfl rfl (by rw [HD.out.1]; exact Nat.le_refl 5) HD.out.2.1 ?_; intro w5 s5; rw [setL_all _ _ (by rw [HD.out.1]; rfl)] at s5; clear s4) | (refine wpl_load_agg rfl 162 (.tmp 14) rfl Tryz.underlying162 rfl Tryz.size_does s5 0 0 rfl rfl (by rw [HD.out.1]; exact Nat.le_refl 5) ?_; rw [List.drop_zero, List.take_of_length_le (by rw [HD.out.1]; exact Nat.le_refl 5)]) | (refine wpl_build rfl 166 rfl (.agg (D ++ [Value.int .u8 (al : Int), Value.int .i64 (out : Int)]).toArray) (by simp only [List.map_toArray, List.map_cons, List.map_nil]; exact HD.out.2.2 _) ?_) | (refine wpl_box rfl 166 (.tmp 73) rfl (D ++ [Value.int .u8 (al : Int), Value.int .i64 (out : Int)]) rfl s5 ?_; intro w6 s s6 _))
  rw [← HN.out.2.2.2, HQ.out] at s6
  have s7 : Sat W0 w6 (sesL K s q key custom out [] ++ (ledO p (K.beg nk _ rs) :: bytes m pk key :: bytes m2 pc custom :: L)) := s6.drop (1 + 0)
  have HS := Lib.hid (sesShut q s7); clear s7 s6
  exact bodyPost_ret (v := .tuple #[.pointer (some ⟨s, 0, none⟩), .int .i64 0]) (by simp [results, Tryz.results73, go_sem]) rfl ⟨s, rfl, HS.out⟩
end Go.Proofs.YtbefjaodpbgpcaaGreat
