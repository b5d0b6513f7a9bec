/- Aes3, Aes4, CmacM, Cmac, Cmac2: texts that lie apart elsewhere, as one; each under the conditions that it names. -/
import Derived.Test.YtbefjaodpbgpcaaGreatAes2
import Derived.Test.YtbefjaodpbgpcaaGreatGG
import Derived.Test.YtbefjaodpbgpcaaGreatGQ
import Derived.Test.YtbefjaodpbgpcaaGreatGI
set_option linter.unusedVariables false
set_option linter.unusedSimpArgs false
set_option maxRecDepth 100000
set_option maxHeartbeats 16000000
namespace Go.Proofs.YtbefjaodpbgpcaaGreat
open Go.RowKit Go.Sep Go.Bv Go.Aes
theorem Tryz.size_cip : (Tryz.prog.info? 241).map (·.size) = some 241 := by kernel_rfl
def cipZero : List Value := .int .i64 0 :: u8s nought240
theorem zero_cip (w : World) : (zeroValue 241).run Tryz.prog w = .ok (.agg cipZero.toArray) w := by kernel_rfl
theorem build_cip0 (w : World) : (Instr.build 241 #[]).run Tryz.prog w = .ok (.agg cipZero.toArray) w := by kernel_rfl
def cipCells (n : Int) (E : List Byte) : List Value := .int .i64 n :: u8s E
theorem build_cip (n : Int) (E : List Byte) (hE : E.length = 240) (w : World) : (Instr.build 241 #[(0, .int .i64 n), (1, .agg (u8s E).toArray)]).run Tryz.prog w = .ok (.agg (cipCells n E).toArray) w := by
 have hu : Tryz.prog.underlying 241 = _ := Tryz.underlying241
 have hf := foldl_set (u8s E) 0 1 (#[.int .i64 n] ++ (u8s nought240).toArray)
 have hs : setL (.int .i64 n :: u8s nought240) 1 (u8s E) = .int .i64 n :: u8s E := by
  have := setL_mid [.int .i64 n] (u8s nought240) [] (u8s E) (by rw [u8s_len, u8s_len, hE, nought240_len])
  simpa using this
 refine run_build_struct hu (zero_cip w) (places := #[(0, 1), (1, 240)]) (by kernel_rfl) ?_
 have hzl : cipZero.toArray.size = 241 := by rw [List.size_toArray]; unfold cipZero; rw [List.length_cons, u8s_len, nought240_len]
 rw [fill_one (off := 0) (size := 1) rfl rfl (by rw [hzl]; decide), fill_one (off := 1) (size := 240) rfl (by show (u8s E).toArray.size = 240; rw [List.size_toArray, u8s_len, hE]) (by rw [List.size_toArray, length_setL, Array.length_toList, hzl]; decide), Instr.fill]
 have e0 : setL cipZero.toArray.toList 0 (Value.int .i64 n).cells.toList = .int .i64 n :: u8s nought240 := rfl
 have e1 : (Value.agg (u8s E).toArray).cells.toList = u8s E := rfl
 rw [e0, e1]
 show some (setL (.int .i64 n :: u8s nought240) 1 (u8s E)).toArray = some (Value.int .i64 n :: u8s E).toArray
 rw [hs]
theorem aesNew {W0 w : World} {L : List Assn} {m : Bool} {pk : Option Addr} {n cap : Nat} {pv : Value} (p : Option Nat) (rs : List Run3) (key : List Byte) (k : Nat) (hp : pv = ptrO p) (hn : key.length = n) (hk : n = 4 * k) (hk3 : n = 16 ∨ n = 24 ∨ n = 32) (hc : n ≤ cap) (hcm : cap ≤ maxLen) (hb : tot rs + 1 ≤ 4611686018427387904) (hl : rs.length ≤ 4294967296) (hs : Sat W0 w (ledO p rs :: bytes m pk key :: L)) :
  Calls Tryz.prog 128 #[pv, .slice pk n cap] w fun e w' => ∃ c, e = .returned (.tuple #[.pointer (some ⟨c, 0, none⟩), .int .i64 0]) ∧ Sat W0 w' (cipS c n (expand key) (ledO p (note rs 4 (n : Int) 1) :: bytes m pk key :: L)) := by
 subst hp
 have hex := fun (w : World) (L : List Assn) (s : Sat W0 w (bytes m pk key :: L)) => aesExpanded (cap := cap) key k hn hk (by omega) (by omega) hc hcm s
 have hel : (expand key).length = 240 := expand_len key k (by omega) (by omega) (by omega)
 obtain ⟨E, hE⟩ : ∃ E, E = expand key := ⟨_, rfl⟩
 rw [← hE] at hex hel ⊢
 have hno := fun (w : World) (s : Sat W0 w (ledO p rs :: bytes m pk key :: L)) => noteOne p rs 4 (n : Int) s hb hl
 have HN := Lib.hid (And.intro hex (And.intro hel hno)); clear hex hel hno hE hn hk hb hl hc hcm
 have hbd := fun w => build_cip (n : Int) E HN.out.2.1 w
 have hor : (((n : Int) != 16) = false) ∨ (((n : Int) != 16) = true ∧ ((n : Int) != 24) = false) ∨ (((n : Int) != 16) = true ∧ ((n : Int) != 24) = true ∧ ((n : Int) != 32) = false) := by
  rcases hk3 with h | h | h
  ·exact .inl (by simp [h])
  ·exact .inr (.inl ⟨by simp [h], by simp [h]⟩)
  ·exact .inr (.inr ⟨by simp [h], by simp [h], by simp [h]⟩)
 clear hk3
 rcases hor with b1 | ⟨b1, b2⟩ | ⟨b1, b2, b3⟩
 all_goals
  go_enter Tryz.func128, Tryz.ntmps128
  go_wp2_with fail
  refine (HN.out.2.2 _ hs).mono ?_
  rintro e w1 ⟨rfl, s1⟩
  clear hs
  go_wp2_with fail
  refine (HN.out.1 _ _ s1.g).mono ?_
  rintro e w2 ⟨rfl, s2⟩
  clear s1
  go_wp2_with (first | (refine wpl_build rfl 241 rfl (.agg (cipCells _ E).toArray) (by simp only [List.map_toArray, List.map_cons, List.map_nil]; exact hbd _) ?_) | (refine wpl_box rfl 241 (.tmp 28) rfl (cipCells _ E) rfl s2 ?_; intro w3 c s3 _))
  have s4 := Sat.part (xs := [_]) (ys := u8s E) s3 (q := 1) rfl
  have HS := Lib.hid s4; clear s4 s3 s2
  refine bodyPost_ret (v := .tuple #[.pointer (some ⟨c, 0, none⟩), .int .i64 0]) (by simp [results, Tryz.results128, go_sem]) rfl ⟨c, rfl, ?_⟩
  have s5 := HS.out
  exact s5.f
end Go.Proofs.YtbefjaodpbgpcaaGreat
namespace Go.Proofs.YtbefjaodpbgpcaaGreat
open Go.RowKit Go.Sep Go.Bv Go.Aes
theorem cipCells_len (n : Int) (E : List Byte) (h : E.length = 240) : (cipCells n E).length = 241 := by unfold cipCells; rw [List.length_cons, u8s_len, h]
theorem cipCells_one (n : Int) (E : List Byte) : ∀ u ∈ cipCells n E, u.oneCell' = true := by
 intro u hu
 unfold cipCells at hu
 rcases List.mem_cons.1 hu with rfl | hu
 ·rfl
 ·exact u8s_one _ u hu
theorem cipJoin {W0 w : World} {L : List Assn} {c kl : Nat} {ks : List Byte} (h : Sat W0 w (cipS c kl ks L)) : Sat W0 w (seg true c 0 (cipCells kl ks) :: L) := Sat.join (xs := [.int .i64 (kl : Int)]) h (by simp)
theorem cipPart {W0 w : World} {L : List Assn} {c kl : Nat} {ks : List Byte} (h : Sat W0 w (seg true c 0 (cipCells kl ks) :: L)) : Sat W0 w (cipS c kl ks L) := Sat.part (xs := [.int .i64 (kl : Int)]) (ys := u8s ks) h (by simp)
theorem cipZero_len : cipZero.length = 241 := by unfold cipZero; rw [List.length_cons, u8s_len, nought240_len]
theorem aesClone {W0 w : World} {L : List Assn} {c kl : Nat} (ks : List Byte) (hks : ks.length = 240) (hk0 : 0 < kl) (hs : Sat W0 w (cipS c kl ks L)) :
  Calls Tryz.prog 170 #[.pointer (some ⟨c, 0, none⟩)] w fun e w' => ∃ d, e = .returned (.tuple #[.pointer (some ⟨d, 0, none⟩), .int .i64 0]) ∧ Sat W0 w' (cipS d kl ks (cipS c kl ks L)) := by
 have hm := aesMade hk0 hs
 have sj := cipJoin hs
 clear hs
 have z0 := sj.lt (by rw [cipCells_len _ _ hks]; decide)
 obtain ⟨cs, hcs⟩ : ∃ cs, cs = cipCells kl ks := ⟨_, rfl⟩
 have hl : cs.length = 241 := by rw [hcs]; exact cipCells_len _ _ hks
 have h1 : ∀ u ∈ cs, u.oneCell' = true := by rw [hcs]; exact cipCells_one _ _
 have ht : (cs.drop 0).take 241 = cs := by rw [List.drop_zero]; exact List.take_of_length_le (by omega)
 rw [← hcs] at sj
 have HN := Lib.hid (And.intro hm (And.intro hl (And.intro h1 (And.intro ht hcs)))); clear hm hl h1 ht hcs hks hk0
 go_enter Tryz.func170, Tryz.ntmps170
 go_wp2_with fail
 refine HN.out.1.mono ?_
 rintro e w1 ⟨rfl, rfl⟩
 go_wp2_with (first | (refine wpl_load_agg rfl 241 (.tmp 9) rfl Tryz.underlying241 rfl Tryz.size_cip sj 0 0 rfl rfl (by rw [HN.out.2.1]; exact Nat.le_refl _) ?_; rw [HN.out.2.2.2.1]) | (refine wpl_alloc_agg rfl 241 rfl sj _ (zero_cip _) ?_; intro w2 d s2 _) | (refine wpl_store_agg rfl rfl 241 (.tmp 4) (.tmp 10) rfl (cs := cs) s2 0 0 (by rw [HN.out.2.1]; exact Tryz.size_cip) rfl rfl rfl (by rw [HN.out.2.1, cipZero_len]; decide) HN.out.2.2.1 ?_; intro w3 s3; rw [setL_all _ _ (by rw [HN.out.2.1, cipZero_len])] at s3))
 have s4 : Sat W0 w3 (cipS d kl ks (cipS c kl ks L)) := by
  rw [HN.out.2.2.2.2] at s3
  have t1 := cipPart s3
  have t2 := cipPart (show Sat W0 w3 (seg true c 0 (cipCells kl ks) :: cipS d kl ks L) from t1.f)
  exact t2.f
 have HS := Lib.hid s4; clear s4 s3 s2 sj
 refine bodyPost_ret (v := .tuple #[.pointer (some ⟨d, 0, none⟩), .int .i64 0]) (by simp [results, Tryz.results170, go_sem]) rfl ⟨d, rfl, HS.out⟩
theorem aesWipe {W0 w : World} {L : List Assn} {c kl : Nat} {pv : Value} (p : Option Nat) (rs : List Run3) (ks : List Byte) (hp : pv = ptrO p) (hks : ks.length = 240) (hk0 : 0 < kl) (hk : kl ≤ 32) (hb : tot rs + 1 ≤ 4611686018427387904) (hl : rs.length ≤ 4294967296) (hs : Sat W0 w (ledO p rs :: cipS c kl ks L)) :
  Calls Tryz.prog 168 #[.pointer (some ⟨c, 0, none⟩), pv] w fun e w' => e = .returned (.int .i64 0) ∧ Sat W0 w' (ledO p (note rs 8 (16 * ((kl / 4 + 7 : Nat) : Int)) 1) :: L) := by
 subst hp
 obtain ⟨R, hR⟩ : ∃ R, R = kl / 4 + 6 := ⟨_, rfl⟩
 have hR14 : R ≤ 14 := by omega
 have hR1 : kl / 4 + 7 = R + 1 := by omega
 rw [hR1]
 have hrd := aesRounds hk (hs.f : Sat W0 w (seg true c 0 [.int .i64 (kl : Int)] :: []))
 rw [← hR] at hrd
 have hm := aesMade hk0 (hs.f : Sat W0 w (seg true c 0 [.int .i64 (kl : Int)] :: []))
 have sj := cipJoin (show Sat W0 w (cipS c kl ks (ledO p rs :: L)) from hs.f)
 clear hs
 have hcl := cipCells_len (kl : Int) ks hks
 obtain ⟨cs, hcs⟩ : ∃ cs, cs = cipCells kl ks := ⟨_, rfl⟩
 rw [← hcs] at sj hcl
 have ho : ∀ u ∈ cipZero, u.oneCell' = true := cipCells_one 0 nought240
 have HN := Lib.hid (And.intro hm (And.intro hrd (And.intro hcl (And.intro hb (And.intro hl ho))))); clear hm hrd hcl hb hl ho hcs hks hk0 hR hR1 hk
 go_enter Tryz.func168, Tryz.ntmps168
 go_wp2_with fail
 refine HN.out.1.mono ?_
 rintro e w1 ⟨rfl, rfl⟩
 go_wp2_with fail
 refine HN.out.2.1.mono ?_
 rintro e w2 ⟨rfl, rfl⟩
 go_wp2_with fail
 refine (noteOne p rs 8 _ (by first | exact sj.g) HN.out.2.2.2.1 HN.out.2.2.2.2.1).mono ?_
 rintro e w3 ⟨rfl, s3'⟩
 have s3 : Sat W0 w3 (seg true c 0 cs :: ledO p (note rs 8 _ 1) :: L) := s3'.f
 clear s3' sj
 have z0 := s3.lt (by rw [HN.out.2.2.1]; decide)
 go_wp2_with (first | (refine wpl_build rfl 241 rfl (.agg cipZero.toArray) (build_cip0 _) ?_) | (refine wpl_store_agg rfl rfl 241 (.tmp 17) (.tmp 16) rfl (cs := cipZero) s3 0 0 (by rw [cipZero_len]; exact Tryz.size_cip) rfl rfl rfl (by rw [cipZero_len, HN.out.2.2.1]; decide) HN.out.2.2.2.2.2 ?_; intro w4 s4))
 refine bodyPost_ret (v := .int .i64 0) (by simp [results, Tryz.results168, go_sem]) rfl ⟨rfl, ?_⟩
 have s5 := s4.tail
 exact s5
theorem aesForm {W0 w : World} {L : List Assn} {c kl : Nat} (ks : List Byte) (hks : ks.length = 240) (hk0 : 0 < kl) (hk : kl ≤ 32) (hs : Sat W0 w (cipS c kl ks L)) :
  Calls Tryz.prog 169 #[.pointer (some ⟨c, 0, none⟩)] w fun e w' => ∃ q d, e = .returned (.slice q (16 * (kl / 4 + 7)) d) ∧ Sat W0 w' (row q d 1 (16 * (kl / 4 + 7)) (u8s (ks.take (16 * (kl / 4 + 7)))) :: cipS c kl ks L) := by
 obtain ⟨R, hR⟩ : ∃ R, R = kl / 4 + 6 := ⟨_, rfl⟩
 have hR14 : R ≤ 14 := by omega
 have hR1 : kl / 4 + 7 = R + 1 := by omega
 obtain ⟨r1, hr1⟩ : ∃ r1, r1 = R + 1 := ⟨_, rfl⟩
 rw [hR1, ← hr1]
 have hrd := fun (w : World) (X : List Assn) (s : Sat W0 w (seg true c 0 [.int .i64 (kl : Int)] :: X)) => aesRounds hk s
 rw [← hR] at hrd
 have hm := aesMade hk0 hs
 have z0 := hs.lt (by simp)
 have e1 : IntKind.i64.wrap ((R : Int) + 1) = (r1 : Int) := by rw [IntKind.wrap_i64]; omega
 have hr15 : r1 ≤ 15 := by omega
 have hsl := fun w => run_sliceTo (P := Tryz.prog) (T := 238) (U := 210) Tryz.underlying238 Tryz.size_b16 c 1 r1 (by omega) (by decide) w
 have HN := Lib.hid (And.intro hm (And.intro hrd hks)); clear hm hrd hks hk0 hR hR1 hk hr1
 go_enter Tryz.func169, Tryz.ntmps169
 go_wp2_with fail
 refine HN.out.1.mono ?_
 rintro e w1 ⟨rfl, rfl⟩
 go_wp2_with fail
 go_quiet ((go_at_call 163; exact Calls.quiet_of_same (HN.out.2.1 _ _ ((hs.drewN _).f : Sat W0 _ (seg true c 0 [.int .i64 (kl : Int)] :: [])))))
 go_wp2_with fail
 have s2 := (hs.drewN nq).rowNil 1
 obtain ⟨w2, hw2⟩ : ∃ w2, w2 = w1.drewN nq := ⟨_, rfl⟩
 rw [← hw2] at s2 ⊢
 clear hw2 hs
 go_loopw [3, 17] (fun t3 t17 wr => ∃ (i : Nat) (q : Option Addr) (d : Nat), i ≤ r1 ∧ t17 = .int .i64 (i : Int) ∧ t3 = .slice q (16 * i) d ∧ Sat W0 wr (row q d 1 (16 * i) (u8s (ks.take (16 * i))) :: cipS c kl ks L)) (fun _ t17 _ => r1 - (intOf t17).toNat)
 case atStart => exact ⟨0, none, 0, by omega, rfl, rfl, s2⟩
 case round =>
  clear s2
  obtain ⟨i, q, d, hi, rfl, rfl, s⟩ := hrel
  by_cases hlt : i < r1
  ·have hkl : (rkey ks i).length = 16 := rkey_len ks i HN.out.2.2 (by omega)
   have htk : ks.take (16 * i) ++ rkey ks i = ks.take (16 * i + 16) := by unfold rkey; rw [Nat.mul_comm, ← List.take_add]
   obtain ⟨V, hV⟩ : ∃ V, V = rkey ks i := ⟨_, rfl⟩
   have hV2 : (ks.drop (i * 16)).take 16 = V := hV.symm
   rw [← hV] at hkl htk
   have HV := Lib.hid (And.intro hkl (And.intro htk hV2)); clear hkl htk hV2 hV
   have hsa := fun g w => run_sliceAll (P := Tryz.prog) (T := 210) (U := 5) Tryz.underlying210 (by kernel_rfl) g 0 w
   go_wp2_with (first | (refine wpl_ld8 (k := i * 16) rfl (.tmp 19) rfl Tryz.underlying210 Tryz.size_b16 (s.pull 2) rfl (by omega) (by rw [HN.out.2.2]; omega) ?_; rw [HV.out.2.2]) | (refine wpl_al16 rfl rfl s ?_; intro w3 g s3 _) | (refine wpl_st8a rfl rfl (.tmp 5) (.tmp 20) rfl s3 Tryz.size_b16 rfl rfl HV.out.1 nought16_len ?_; intro w4 s4; have s5 : Sat W0 w4 (row q d 1 (16 * i) (u8s (ks.take (16 * i))) :: bytes true (some ⟨g, 0, none⟩) V :: cipS c kl ks L) := (bytesOf s4).pull 1) | (at_builtin; refine wpl_app8 rfl (.tmp 21) (.tmp 22) rfl rfl rfl s5 HV.out.1 (by omega) ?_; intro p9 c9 w9 s9; rw [HV.out.2.1] at s9))
   go_roundw
   case rel => exact ⟨i + 1, p9, c9, by omega, by go_num, rfl, s9.drop 1⟩
   case measure => simp [intOf]; omega
  ·obtain rfl : i = r1 := by omega
   go_wp2
   go_ret
   exact ⟨q, d, rfl, s⟩
end Go.Proofs.YtbefjaodpbgpcaaGreat
namespace Go.Aes
open Go.Bv Go.Sep
def dblAt (b : List Byte) (i : Nat) : Byte := if i < 15 then (b.getD i 0 <<< 1) ||| (b.getD (i + 1) 0 >>> 7) else b.getD i 0 <<< 1
def dblTo (b : List Byte) (n : Nat) : List Byte := (List.range 16).map fun i => if i < n then dblAt b i else 0
def dbl (b : List Byte) : List Byte := (dblTo b 16).set 15 ((b.getD 15 0 <<< 1) ^^^ (135 &&& -(b.getD 0 0 >>> 7)))
theorem dblTo_len (b : List Byte) (n : Nat) : (dblTo b n).length = 16 := by simp [dblTo]
theorem dbl_len (b : List Byte) : (dbl b).length = 16 := by simp [dbl, dblTo]
theorem dblTo_zero (b : List Byte) : dblTo b 0 = List.replicate 16 0 := by
 apply List.ext_getElem
 ·simp [dblTo]
 ·intro j h1 h2
  simp only [dblTo, List.getElem_map, List.getElem_range, List.getElem_replicate]
  rw [if_neg (by omega)]
theorem dblTo_set (b : List Byte) (n : Nat) : (dblTo b n).set n (dblAt b n) = dblTo b (n + 1) := by
 apply List.ext_getElem
 ·simp [dblTo]
 ·intro j h1 h2
  rw [List.getElem_set]
  by_cases e : n = j
  ·subst e
   simp [dblTo]
  ·rw [if_neg e]
   simp only [dblTo, List.getElem_map, List.getElem_range]
   by_cases h3 : j < n
   ·rw [if_pos h3, if_pos (by omega)]
   ·rw [if_neg h3, if_neg (by omega)]
theorem dblTo_get (b : List Byte) : (dblTo b 16).getD 15 0 = b.getD 15 0 <<< 1 := by simp [dblTo, dblAt]
abbrev CSt := List Byte × List Byte × Nat
def z16 : List Byte := List.replicate 16 0
def cstep (E : List Byte → List Byte) (s : CSt) (x : Byte) : CSt :=
 if s.2.2 = 16 then (E (xorL s.1 s.2.1), z16.set 0 x, 1) else (s.1, s.2.1.set s.2.2 x, s.2.2 + 1)
def cfold (E : List Byte → List Byte) (s : CSt) (p : List Byte) : CSt := p.foldl (cstep E) s
theorem cfold_nil (E : List Byte → List Byte) (s : CSt) : cfold E s [] = s := rfl
theorem cfold_append (E : List Byte → List Byte) (s : CSt) (p q : List Byte) : cfold E s (p ++ q) = cfold E (cfold E s p) q := by simp [cfold]
theorem putB_nil (B : List Byte) (k : Nat) (h : k ≤ B.length) : putB B k [] = B := by simp [putB]
theorem putB_cons (B : List Byte) (k : Nat) (x : Byte) (C : List Byte) (h : k + (x :: C).length ≤ B.length) : putB (B.set k x) (k + 1) C = putB B k (x :: C) := by
 simp only [List.length_cons] at h
 unfold putB
 rw [List.take_succ_eq_append_getElem (by rw [List.length_set]; omega), List.take_set_of_le (Nat.le_refl _), List.getElem_set_self, List.drop_set_of_lt (by omega)]
 simp only [List.length_cons, List.append_assoc, List.singleton_append, List.cons_append, List.nil_append]
 rw [show k + 1 + C.length = k + (C.length + 1) by omega]
theorem cfold_room (E : List Byte → List Byte) : ∀ (p : List Byte) (ch wt : List Byte) (n : Nat), n + p.length ≤ 16 → wt.length = 16 → cfold E (ch, wt, n) p = (ch, putB wt n p, n + p.length)
 | [], ch, wt, n, h, hw => by rw [cfold_nil, putB_nil _ _ (by simp at h; omega)]; rfl
 | x :: p, ch, wt, n, h, hw => by
  simp only [List.length_cons] at h
  have hs : cstep E (ch, wt, n) x = (ch, wt.set n x, n + 1) := by unfold cstep; rw [if_neg (by simp only; omega)]
  have ih := cfold_room E p ch (wt.set n x) (n + 1) (by omega) (by rw [List.length_set, hw])
  show cfold E (cstep E (ch, wt, n) x) p = _
  rw [hs, ih, putB_cons _ _ _ _ (by simp only [List.length_cons]; omega)]
  simp only [List.length_cons]
  rw [show n + 1 + p.length = n + (p.length + 1) by omega]
theorem cfold_full (E : List Byte → List Byte) (p : List Byte) (ch wt : List Byte) (hp : p ≠ []) : cfold E (ch, wt, 16) p = cfold E (E (xorL ch wt), z16, 0) p := by
 match p, hp with
 | x :: p, _ =>
  show cfold E (cstep E (ch, wt, 16) x) p = cfold E (cstep E (E (xorL ch wt), z16, 0) x) p
  congr 1
def cwait (n l : Nat) : Nat := if n + l = 0 then 0 else (n + l - 1) % 16 + 1
def cblocks (n l : Nat) : Nat := (n + l - 1) / 16
end Go.Aes
namespace Go.Proofs.YtbefjaodpbgpcaaGreat
open Go.RowKit Go.Sep Go.Bv Go.Aes
theorem cmacXored {W0 w : World} {L : List Assn} {av bv : Value} (B K : List Byte) (hav : av = .agg (u8s B).toArray) (hbv : bv = .agg (u8s K).toArray) (hB : B.length = 16) (hK : K.length = 16) (hs : Sat W0 w L) :
  Calls Tryz.prog 167 #[av, bv] w fun e w' => e = .returned (.agg (u8s (xorL B K)).toArray) ∧ Sat W0 w' L := by
 subst hav hbv
 have hfin : xorTo B K 16 = xorL B K := xorTo_all B K 16 hB hK
 have hst : xorTo B K 0 = B := xorTo_zero B K
 have HN := Lib.hid (And.intro hB (And.intro hK (And.intro hfin hst))); clear hB hK hfin hst
 go_enter Tryz.func167, Tryz.ntmps167
 go_wp2_with (first | (refine wpl_box rfl 210 (.tmp 0) rfl (u8s B) rfl hs ?_; intro w1 gb s1 _; clear hs) | (refine wpl_box rfl 210 (.tmp 1) rfl (u8s K) rfl s1 ?_; intro w2 gk s2 _; clear s1) | (refine wpl_al16 rfl rfl s2 ?_; intro w3 gr s3 _; clear s2))
 have s4 : Sat W0 w3 (seg true gb 0 (u8s (xorTo B K 0)) :: seg true gk 0 (u8s K) :: seg true gr 0 (u8s nought16) :: L) := by rw [HN.out.2.2.2]; exact s3.f
 clear s3
 go_loopw [6] (fun t6 wr => ∃ i : Nat, i ≤ 16 ∧ t6 = .int .i64 (i : Int) ∧ Sat W0 wr (seg true gb 0 (u8s (xorTo B K i)) :: seg true gk 0 (u8s K) :: seg true gr 0 (u8s nought16) :: L)) (fun t6 _ => 16 - (intOf t6).toNat)
 case atStart => exact ⟨0, by omega, rfl, s4⟩
 case round =>
  clear s4
  obtain ⟨i, hi, rfl, s⟩ := hrel
  by_cases hlt : i < 16
  ·have hxl := (xorTo_len B K i).trans HN.out.1
   have cb := s.at i (u8s_get _ i (by rw [hxl]; exact hlt))
   rw [xorTo_get B K i (by rw [HN.out.1]; exact hlt)] at cb
   have fb := s.fr i (by rw [u8s_len, hxl]; exact hlt)
   have zb := s.lt (by rw [u8s_len, hxl]; decide)
   have sk : Sat W0 _ (seg true gk 0 (u8s K) :: _) := s.pull 1
   have ck := sk.at i (u8s_get K i (by rw [HN.out.2.1]; exact hlt))
   have zk := sk.lt (by rw [u8s_len, HN.out.2.1]; decide)
   obtain ⟨x, hxx⟩ : ∃ x, x = B.getD i 0 := ⟨_, rfl⟩
   obtain ⟨y, hyy⟩ : ∃ y, y = K.getD i 0 := ⟨_, rfl⟩
   rw [← hxx] at cb
   rw [← hyy] at ck
   have HX := Lib.hid (And.intro hxx (And.intro hyy hxl)); clear hxx hyy hxl sk
   go_wp2_with fail
   refine wp_region_quiet_tail_lit 7 (by kernel_rfl) (by kernel_rfl) ?_
   simp only [List.take_succ_cons, List.take_zero, List.drop_succ_cons, List.drop_zero]
   repeat (go_big_quiet_step (fail))
   refine wpQuiet_nil ?_
   rintro _ ⟨nq, rfl⟩
   go_wp2
   go_roundw
   case rel =>
    refine ⟨i + 1, by omega, by go_num, ?_⟩
    have st := (s.drewN nq).store (i := i) (by rw [u8s_len, HX.out.2.2]; exact hlt) (.int .u8 (v8 (x ^^^ y))) (q := i) (by simp)
    rw [u8s_set, HX.out.1, HX.out.2.1, xorTo_set, ← HX.out.1, ← HX.out.2.1, ← vxor8] at st
    exact st
   case measure => simp [intOf]; omega
  ·obtain rfl : i = 16 := by omega
   rw [HN.out.2.2.1] at s
   have hRl : (xorL B K).length = 16 := by rw [xorL_len _ _ (by rw [HN.out.1, HN.out.2.1])]; exact HN.out.1
   obtain ⟨R, hR⟩ : ∃ R, R = xorL B K := ⟨_, rfl⟩
   rw [← hR] at s hRl
   have HR := Lib.hid (And.intro hR hRl); clear hR hRl
   go_wp2_with (first | (refine wpl_ld8a rfl (.tmp 2) rfl Tryz.underlying210 Tryz.size_b16 s rfl HR.out.2 ?_) | (refine wpl_st8a rfl rfl (.tmp 4) (.tmp 18) rfl (s.pull 2 : Sat W0 _ (seg true gr 0 (u8s nought16) :: _)) Tryz.size_b16 rfl rfl HR.out.2 nought16_len ?_; intro w9 s9))
   refine bodyPost_ret (v := .agg (u8s R).toArray) ?_ rfl ⟨by rw [HR.out.1], ((s9.drop 0).drop 0).drop 0⟩
   ·have hr := run_ret8 Tryz.underlying210 Tryz.size_b16 s9 HR.out.2
    simp [results, Tryz.results167, asAddr]; exact hr
theorem vand8_135 (x : BitVec 8) : bits .and .u8 135 (v8 x) = v8 (135 &&& x) := vand8 135 x
theorem cmacDouble {W0 w : World} {L : List Assn} {bv : Value} (B : List Byte) (hbv : bv = .agg (u8s B).toArray) (hB : B.length = 16) (hs : Sat W0 w L) :
  Calls Tryz.prog 130 #[bv] w fun e w' => e = .returned (.agg (u8s (dbl B)).toArray) ∧ Sat W0 w' L := by
 subst hbv
 have hst : dblTo B 0 = nought16 := dblTo_zero B
 have HN := Lib.hid (And.intro hB hst); clear hB hst
 go_enter Tryz.func130, Tryz.ntmps130
 go_wp2_with (first | (refine wpl_box rfl 210 (.tmp 0) rfl (u8s B) rfl hs ?_; intro w1 gb s1 _; clear hs) | (refine wpl_al16 rfl rfl s1 ?_; intro w2 gr s2 _; clear s1) | (refine wpl_al16 rfl rfl s2 ?_; intro w3 go s3 _; clear s2))
 have s4 : Sat W0 w3 (seg true go 0 (u8s (dblTo B 0)) :: seg true gb 0 (u8s B) :: seg true gr 0 (u8s nought16) :: L) := by rw [HN.out.2]; exact s3.f
 clear s3
 go_loopw [5] (fun t5 wr => ∃ i : Nat, i ≤ 16 ∧ t5 = .int .i64 (i : Int) ∧ Sat W0 wr (seg true go 0 (u8s (dblTo B i)) :: seg true gb 0 (u8s B) :: seg true gr 0 (u8s nought16) :: L)) (fun t5 _ => 16 - (intOf t5).toNat)
 case atStart => exact ⟨0, by omega, rfl, s4⟩
 case round =>
  clear s4
  obtain ⟨i, hi, rfl, s⟩ := hrel
  have hDl := dblTo_len B i
  have zo := s.lt (by rw [u8s_len, hDl]; decide)
  have sb : Sat W0 _ (seg true gb 0 (u8s B) :: _) := s.pull 1
  have zb := sb.lt (by rw [u8s_len, HN.out.1]; decide)
  by_cases hlt : i < 16
  ·have co := s.at i (u8s_get _ i (by rw [hDl]; exact hlt))
   have fo := s.fr i (by rw [u8s_len, hDl]; exact hlt)
   have cb := sb.at i (u8s_get B i (by rw [HN.out.1]; exact hlt))
   obtain ⟨x, hx⟩ : ∃ x, x = B.getD i 0 := ⟨_, rfl⟩
   obtain ⟨y, hy⟩ : ∃ y, y = (dblTo B i).getD i 0 := ⟨_, rfl⟩
   rw [← hx] at cb
   rw [← hy] at co
   have st1 := s.store (i := i) (by rw [u8s_len, hDl]; exact hlt) (.int .u8 (v8 (x <<< 1))) (q := i) (by simp)
   have co2 := st1.at i (v := .int .u8 (v8 (x <<< 1))) (by rw [List.getElem?_set_self (by rw [u8s_len, hDl]; exact hlt)])
   have fo2 := st1.fr i (by rw [List.length_set, u8s_len, hDl]; exact hlt)
   by_cases h15 : i < 15
   ·have hnx : dblAt B i = (x <<< 1) ||| (B.getD (i + 1) 0 >>> 7) := by rw [hx]; exact if_pos h15
    have sb1 : Sat W0 _ (seg true gb 0 (u8s B) :: _) := st1.pull 1
    have cb1 := sb1.at (i + 1) (u8s_get B (i + 1) (by rw [HN.out.1]; omega))
    obtain ⟨x1, hx1⟩ : ∃ x, x = B.getD (i + 1) 0 := ⟨_, rfl⟩
    rw [← hx1] at cb1 hnx
    have e1 : IntKind.i64.wrap ((i : Int) + 1) = ((i + 1 : Nat) : Int) := by rw [IntKind.wrap_i64]; omega
    have hi1 : i + 1 < 16 := by omega
    rw [← vshl8_1] at co2 cb1 fo2
    have HX := Lib.hid (And.intro hnx (And.intro hDl st1)); clear hnx hDl hx hx1 hy sb sb1 st1
    go_wp2_with fail
    refine wp_region_quiet_tail_lit 9 (by kernel_rfl) (by kernel_rfl) ?_
    simp only [List.take_succ_cons, List.take_zero, List.drop_succ_cons, List.drop_zero]
    repeat (go_big_quiet_step (fail))
    refine wpQuiet_nil ?_
    rintro _ ⟨nq, rfl⟩
    go_wp2
    go_roundw
    case rel =>
     obtain ⟨hnx, hDl, st1⟩ := HX.out
     refine ⟨i + 1, by omega, by go_num, ?_⟩
     have st := (st1.drewN nq).store (i := i) (by rw [List.length_set, u8s_len, hDl]; exact hlt) (.int .u8 (v8 ((x <<< 1) ||| (x1 >>> 7)))) (q := i) (by simp)
     rw [List.set_set, u8s_set, ← hnx, dblTo_set] at st
     rw [hnx, ← vor8, ← vshr8_7, ← vshl8_1] at st
     exact st
    case measure => simp [intOf]; omega
   ·have hnx : dblAt B i = x <<< 1 := by rw [hx]; exact if_neg h15
    have HX := Lib.hid (And.intro hnx (And.intro hDl st1)); clear hnx hDl hx hy sb st1 co2 fo2
    go_wp2
    go_roundw
    case rel =>
     obtain ⟨hnx, hDl, st1⟩ := HX.out
     refine ⟨i + 1, by omega, by go_num, ?_⟩
     rw [u8s_set, ← hnx, dblTo_set, hnx, ← vshl8_1] at st1
     exact st1
    case measure => simp [intOf]; omega
  ·obtain rfl : i = 16 := by omega
   have co := s.at 15 (u8s_get _ 15 (by rw [hDl]; decide))
   rw [dblTo_get] at co
   have fo := s.fr 15 (by rw [u8s_len, hDl]; decide)
   have cb := sb.at 0 (u8s_get B 0 (by rw [HN.out.1]; decide))
   have hnx : dbl B = (dblTo B 16).set 15 ((B.getD 15 0 <<< 1) ^^^ (135 &&& -(B.getD 0 0 >>> 7))) := rfl
   obtain ⟨x, hx⟩ : ∃ x, x = B.getD 0 0 := ⟨_, rfl⟩
   obtain ⟨y, hy⟩ : ∃ y, y = B.getD 15 0 <<< 1 := ⟨_, rfl⟩
   rw [← hx] at cb hnx
   rw [← hy] at co hnx
   have st := s.store (i := 15) (by rw [u8s_len, hDl]; decide) (.int .u8 (v8 (y ^^^ (135 &&& -(x >>> 7))))) (q := 15) (by simp)
   rw [u8s_set, ← hnx] at st
   have hRl := dbl_len B
   obtain ⟨R, hR⟩ : ∃ R, R = dbl B := ⟨_, rfl⟩
   rw [← hR] at st hRl
   have hw : bits .xor .u8 (v8 y) (bits .and .u8 135 (-(v8 x / 128) % 256)) = v8 (y ^^^ (135 &&& -(x >>> 7))) := by rw [vshr8_7, vneg8, vand8_135, vxor8]; rfl
   rw [← hw] at st
   have HR := Lib.hid (And.intro hR (And.intro hRl st)); clear hR hRl hnx hx hy hDl sb st s hw
   have hp := HR.out.2.2
   go_wp2_with (first | (refine wpl_ld8a rfl (.tmp 3) rfl Tryz.underlying210 Tryz.size_b16 hp rfl HR.out.2.1 ?_) | (refine wpl_st8a rfl rfl (.tmp 2) (.tmp 36) rfl (hp.pull 2 : Sat W0 _ (seg true gr 0 (u8s nought16) :: _)) Tryz.size_b16 rfl rfl HR.out.2.1 nought16_len ?_; intro w9 s9))
   refine bodyPost_ret (v := .agg (u8s R).toArray) ?_ rfl ⟨by rw [HR.out.1], ((s9.drop 0).drop 0).drop 0⟩
   ·have hr := run_ret8 Tryz.underlying210 Tryz.size_b16 s9 HR.out.2.1
    simp [results, Tryz.results130, asAddr]; exact hr
end Go.Proofs.YtbefjaodpbgpcaaGreat
namespace Go.Proofs.YtbefjaodpbgpcaaGreat
open Go.RowKit Go.Sep Go.Bv Go.Aes
theorem satLt {W0 w : World} {L : List Assn} {m : Bool} {b o : Nat} {vs : List Value} (h : Sat W0 w (seg m b o vs :: L)) (hl : 0 < vs.length) : b < w.heap.size := World.block_lt_of_cell? w _ (h.cell (i := 0) (v := vs[0]) (by simp [hl]))
theorem Tryz.size_cm : (Tryz.prog.info? 212).map (·.size) = some 66 := by kernel_rfl
def cmAll (pv : Value) (k1 k2 ch wt : List Byte) (n : Nat) : List Value := [pv] ++ (u8s k1 ++ (u8s k2 ++ (u8s ch ++ (u8s wt ++ [.int .i64 (n : Int)]))))
abbrev cmS (b : Nat) (pv : Value) (k1 k2 ch wt : List Byte) (n : Nat) (L : List Assn) : List Assn :=
 seg true b 0 [pv] :: seg true b 1 (u8s k1) :: seg true b 17 (u8s k2) :: seg true b 33 (u8s ch) :: seg true b 49 (u8s wt) :: seg true b 65 [.int .i64 (n : Int)] :: L
theorem cmPart {W0 w : World} {L : List Assn} {b n : Nat} {pv : Value} {k1 k2 ch wt : List Byte} (h1 : k1.length = 16) (h2 : k2.length = 16) (h3 : ch.length = 16) (h4 : wt.length = 16) (h : Sat W0 w (seg true b 0 (cmAll pv k1 k2 ch wt n) :: L)) : Sat W0 w (cmS b pv k1 k2 ch wt n L) := by
 have s1 := Sat.part h (q := 1) rfl
 have s2 := Sat.part (show Sat W0 w (seg true b 1 (u8s k1 ++ (u8s k2 ++ (u8s ch ++ (u8s wt ++ [.int .i64 (n : Int)])))) :: seg true b 0 [pv] :: L) from s1.pull 1) (q := 17) (by rw [u8s_len, h1])
 have s3 := Sat.part (show Sat W0 w (seg true b 17 (u8s k2 ++ (u8s ch ++ (u8s wt ++ [.int .i64 (n : Int)]))) :: seg true b 1 (u8s k1) :: seg true b 0 [pv] :: L) from s2.pull 1) (q := 33) (by rw [u8s_len, h2])
 have s4 := Sat.part (show Sat W0 w (seg true b 33 (u8s ch ++ (u8s wt ++ [.int .i64 (n : Int)])) :: seg true b 17 (u8s k2) :: seg true b 1 (u8s k1) :: seg true b 0 [pv] :: L) from s3.pull 1) (q := 49) (by rw [u8s_len, h3])
 have s5 := Sat.part (show Sat W0 w (seg true b 49 (u8s wt ++ [.int .i64 (n : Int)]) :: seg true b 33 (u8s ch) :: seg true b 17 (u8s k2) :: seg true b 1 (u8s k1) :: seg true b 0 [pv] :: L) from s4.pull 1) (q := 65) (by rw [u8s_len, h4])
 exact s5.f
theorem cmJoin {W0 w : World} {L : List Assn} {b n : Nat} {pv : Value} {k1 k2 ch wt : List Byte} (h1 : k1.length = 16) (h2 : k2.length = 16) (h3 : ch.length = 16) (h4 : wt.length = 16) (h : Sat W0 w (cmS b pv k1 k2 ch wt n L)) : Sat W0 w (seg true b 0 (cmAll pv k1 k2 ch wt n) :: L) := by
 have t5 := Sat.join (show Sat W0 w (seg true b 49 (u8s wt) :: seg true b 65 [.int .i64 (n : Int)] :: seg true b 0 [pv] :: seg true b 1 (u8s k1) :: seg true b 17 (u8s k2) :: seg true b 33 (u8s ch) :: L) from h.f) (by rw [u8s_len, h4])
 have t4 := Sat.join (show Sat W0 w (seg true b 33 (u8s ch) :: seg true b 49 (u8s wt ++ [.int .i64 (n : Int)]) :: seg true b 0 [pv] :: seg true b 1 (u8s k1) :: seg true b 17 (u8s k2) :: L) from t5.f) (by rw [u8s_len, h3])
 have t3 := Sat.join (show Sat W0 w (seg true b 17 (u8s k2) :: seg true b 33 (u8s ch ++ (u8s wt ++ [.int .i64 (n : Int)])) :: seg true b 0 [pv] :: seg true b 1 (u8s k1) :: L) from t4.f) (by rw [u8s_len, h2])
 have t2 := Sat.join (show Sat W0 w (seg true b 1 (u8s k1) :: seg true b 17 (u8s k2 ++ (u8s ch ++ (u8s wt ++ [.int .i64 (n : Int)]))) :: seg true b 0 [pv] :: L) from t3.f) (by rw [u8s_len, h1])
 exact Sat.join (show Sat W0 w (seg true b 0 [pv] :: seg true b 1 (u8s k1 ++ (u8s k2 ++ (u8s ch ++ (u8s wt ++ [.int .i64 (n : Int)])))) :: L) from t2.f) rfl
theorem cmAll_len {pv : Value} {k1 k2 ch wt : List Byte} {n : Nat} (h1 : k1.length = 16) (h2 : k2.length = 16) (h3 : ch.length = 16) (h4 : wt.length = 16) : (cmAll pv k1 k2 ch wt n).length = 66 := by
 unfold cmAll
 simp only [List.length_append, u8s_len, h1, h2, h3, h4, List.length_cons, List.length_nil]
theorem build_cm (c : Nat) (w : World) : (Instr.build 212 #[(0, .pointer (some ⟨c, 0, none⟩))]).run Tryz.prog w = .ok (.agg (cmAll (.pointer (some ⟨c, 0, none⟩)) nought16 nought16 nought16 nought16 0).toArray) w := by kernel_rfl
theorem build_cm0 (w : World) : (Instr.build 212 #[]).run Tryz.prog w = .ok (.agg (cmAll (.pointer none) nought16 nought16 nought16 nought16 0).toArray) w := by kernel_rfl
theorem zero_cm (w : World) : (zeroValue 212).run Tryz.prog w = .ok (.agg (cmAll (.pointer none) nought16 nought16 nought16 nought16 0).toArray) w := by kernel_rfl
theorem aesEncryptF {W0 w : World} {L : List Assn} {c kl : Nat} {pv bv : Value} (p : Option Nat) (rs : List Run3) (ks B : List Byte) (hp : pv = ptrO p) (hbv : bv = .agg (u8s B).toArray) (hks : ks.length = 240) (hB : B.length = 16) (hk0 : 0 < kl) (hk : kl ≤ 32) (hb : tot rs + 1 ≤ 4611686018427387904) (hl : rs.length ≤ 4294967296) (hs : Sat W0 w (ledO p rs :: cipS c kl ks L)) :
  Calls Tryz.prog 129 #[.pointer (some ⟨c, 0, none⟩), pv, bv] w fun e w' => e = .returned (.tuple #[.agg (u8s (aesEnc kl ks B)).toArray, .int .i64 0]) ∧ Sat W0 w' (ledO p (note rs 5 (kl : Int) 1) :: cipS c kl ks L) := by
 subst hbv
 exact aesEncrypt p rs ks B hp hks hB hk0 hk hb hl hs
def cmTop (key : List Byte) : List Byte := aesEnc key.length (expand key) nought16
def cmK1 (key : List Byte) : List Byte := dbl (cmTop key)
def cmK2 (key : List Byte) : List Byte := dbl (cmK1 key)
theorem cmacMade {W0 w : World} {L : List Assn} {b c : Nat} (hs : Sat W0 w (seg true b 0 [.pointer (some ⟨c, 0, none⟩)] :: L)) : Calls Tryz.prog 166 #[.pointer (some ⟨b, 0, none⟩)] w fun e w' => e = .returned (.bool true) ∧ w' = w := by
 have c0 := hs.at 0 rfl
 have z0 := hs.lt (by simp)
 go_enter Tryz.func166, Tryz.ntmps166
 go_wp2
 go_ret
 exact ⟨rfl, rfl⟩
theorem cmacNew {W0 w : World} {L : List Assn} {m : Bool} {pk : Option Addr} {n cap : Nat} {pv : Value} (p : Option Nat) (rs : List Run3) (key : List Byte) (hp : pv = ptrO p) (hn : key.length = n) (hk3 : n = 16 ∨ n = 24 ∨ n = 32) (hc : n ≤ cap) (hcm : cap ≤ maxLen) (hb : tot rs + 2 ≤ 4611686018427387904) (hl : rs.length + 1 ≤ 4294967296) (hs : Sat W0 w (ledO p rs :: bytes m pk key :: L)) :
  Calls Tryz.prog 109 #[pv, .slice pk n cap] w fun e w' => ∃ b c, e = .returned (.tuple #[.pointer (some ⟨b, 0, none⟩), .int .i64 0]) ∧ Sat W0 w' (cmS b (.pointer (some ⟨c, 0, none⟩)) (cmK1 key) (cmK2 key) nought16 nought16 0 (cipS c n (expand key) (ledO p (note (note rs 4 (n : Int) 1) 5 (n : Int) 1) :: bytes m pk key :: L))) := by
 subst hp
 have hnw := fun (w : World) (s : Sat W0 w (ledO p rs :: bytes m pk key :: L)) => aesNew (cap := cap) p rs key (n / 4) rfl hn (by omega) hk3 hc hcm (by omega) (by omega) s
 have hel : (expand key).length = 240 := expand_len key (n / 4) (by omega) (by omega) (by omega)
 have htop : cmTop key = aesEnc n (expand key) nought16 := by unfold cmTop; rw [hn]
 have htl : (cmTop key).length = 16 := by rw [htop]; exact aesEnc_len n _ _ hel rfl (by omega)
 have h1l : (cmK1 key).length = 16 := dbl_len _
 have h2l : (cmK2 key).length = 16 := dbl_len _
 have h1e : dbl (cmTop key) = cmK1 key := rfl
 have h2e : dbl (cmK1 key) = cmK2 key := rfl
 obtain ⟨E, hE⟩ : ∃ E, E = expand key := ⟨_, rfl⟩
 obtain ⟨T, hT⟩ : ∃ T, T = cmTop key := ⟨_, rfl⟩
 obtain ⟨K1, hK1⟩ : ∃ K, K = cmK1 key := ⟨_, rfl⟩
 obtain ⟨K2, hK2⟩ : ∃ K, K = cmK2 key := ⟨_, rfl⟩
 rw [← hE] at hnw hel htop
 rw [← hT] at htop htl h1e
 rw [← hK1] at h1l h1e h2e
 rw [← hK2] at h2l h2e
 rw [← hE, ← hK1, ← hK2]
 have hkl : n ≤ 32 := by omega
 have hk0 : 0 < n := by omega
 have hnl := fun (rs : List Run3) (k s : Int) => note_len rs k s 1
 have htn := tot_note rs 4 (n : Int) 1
 have hln := note_len rs 4 (n : Int) 1
 obtain ⟨rs1, hrs⟩ : ∃ r, r = note rs 4 (n : Int) 1 := ⟨_, rfl⟩
 rw [← hrs] at hnw htn hln ⊢
 have HN := Lib.hid (And.intro hnw (And.intro hel (And.intro htop (And.intro htl (And.intro h1l (And.intro h2l (And.intro h1e (And.intro h2e (And.intro hkl (And.intro hk0 (And.intro (show tot rs1 + 1 ≤ 4611686018427387904 by omega) (show rs1.length ≤ 4294967296 by omega)))))))))))); clear hnw hel htop htl h1l h2l h1e h2e hkl hk0 hk3 hn hc hcm hb hl hE hT hK1 hK2 hnl htn hln hrs
 go_enter Tryz.func109, Tryz.ntmps109
 go_wp2_with fail
 refine (HN.out.1 _ hs).mono ?_
 rintro e w1 ⟨c, rfl, s1⟩
 clear hs
 have hbc := fun w => build_cm c w
 go_wp2_with (first | (refine wpl_build rfl 212 rfl (.agg (cmAll (.pointer (some ⟨c, 0, none⟩)) nought16 nought16 nought16 nought16 0).toArray) (by simp only [List.map_toArray, List.map_cons, List.map_nil]; exact hbc _) ?_) | (refine wpl_box rfl 212 (.tmp 21) rfl (cmAll (.pointer (some ⟨c, 0, none⟩)) nought16 nought16 nought16 nought16 0) rfl s1 ?_; intro w2 b s2 _))
 have s3 := cmPart rfl rfl rfl rfl s2
 clear s2 s1
 refine (aesEncryptF p rs1 E nought16 rfl rfl HN.out.2.1 rfl HN.out.2.2.2.2.2.2.2.2.2.1 HN.out.2.2.2.2.2.2.2.2.1 HN.out.2.2.2.2.2.2.2.2.2.2.1 HN.out.2.2.2.2.2.2.2.2.2.2.2 s3.g).mono ?_
 rintro e w3 ⟨rfl, s4⟩
 clear s3
 rw [← HN.out.2.2.1]
 have s5 : Sat W0 w3 (cmS b (.pointer (some ⟨c, 0, none⟩)) nought16 nought16 nought16 nought16 0 (cipS c n E (ledO p (note rs1 5 (n : Int) 1) :: bytes m pk key :: L))) := s4.f
 clear s4
 have zb := s5.lt (by simp)
 go_wp2_with (first | (refine wpl_al16 rfl rfl s5 ?_; intro w4 gt s6 _) | (refine wpl_st8a rfl rfl (.tmp 9) (.tmp 28) rfl s6 Tryz.size_b16 rfl rfl HN.out.2.2.2.1 nought16_len ?_; intro w5 s7) | (refine wpl_ld8a rfl (.tmp 9) rfl Tryz.underlying210 Tryz.size_b16 s7 rfl HN.out.2.2.2.1 ?_))
 refine (cmacDouble T rfl HN.out.2.2.2.1 s7).mono ?_
 rintro e w6 ⟨rfl, s8⟩
 rw [HN.out.2.2.2.2.2.2.1]
 clear s5 s6 s7
 have s9 : Sat W0 w6 (seg true b 1 (u8s nought16) :: seg true b 0 [.pointer (some ⟨c, 0, none⟩)] :: seg true b 17 (u8s nought16) :: seg true b 33 (u8s nought16) :: seg true b 49 (u8s nought16) :: seg true b 65 [.int .i64 ((0 : Nat) : Int)] :: cipS c n E (ledO p (note rs1 5 (n : Int) 1) :: bytes m pk key :: L)) := (s8.drop 0).pull 1
 clear s8
 have zb6 := satLt s9 (by decide)
 clear zb
 go_wp2_with (first | (refine wpl_st8a rfl rfl (.tmp 34) (.tmp 32) rfl s9 Tryz.size_b16 rfl rfl HN.out.2.2.2.2.1 nought16_len ?_; intro w7 s10; have zb := satLt s10 (by rw [u8s_len, HN.out.2.2.2.2.1]; decide)) | (refine wpl_ld8a rfl (.tmp 38) rfl Tryz.underlying210 Tryz.size_b16 s10 rfl HN.out.2.2.2.2.1 ?_))
 refine (cmacDouble K1 rfl HN.out.2.2.2.2.1 s10).mono ?_
 rintro e w8 ⟨rfl, s11⟩
 rw [HN.out.2.2.2.2.2.2.2.1]
 clear s9 s10 zb zb6
 have s12 : Sat W0 w8 (seg true b 17 (u8s nought16) :: seg true b 1 (u8s K1) :: seg true b 0 [.pointer (some ⟨c, 0, none⟩)] :: seg true b 33 (u8s nought16) :: seg true b 49 (u8s nought16) :: seg true b 65 [.int .i64 ((0 : Nat) : Int)] :: cipS c n E (ledO p (note rs1 5 (n : Int) 1) :: bytes m pk key :: L)) := s11.pull 2
 clear s11
 have zb := satLt s12 (by decide)
 go_wp2_with (refine wpl_st8a rfl rfl (.tmp 42) (.tmp 40) rfl s12 Tryz.size_b16 rfl rfl HN.out.2.2.2.2.2.1 nought16_len ?_; intro w9 s13)
 have s14 := s13
 clear s12 s13
 have HS := Lib.hid s14; clear s14
 refine bodyPost_ret (v := .tuple #[.pointer (some ⟨b, 0, none⟩), .int .i64 0]) (by simp [results, Tryz.results109, go_sem]) rfl ⟨b, c, rfl, ?_⟩
 have s15 := HS.out
 exact s15.f
end Go.Proofs.YtbefjaodpbgpcaaGreat
