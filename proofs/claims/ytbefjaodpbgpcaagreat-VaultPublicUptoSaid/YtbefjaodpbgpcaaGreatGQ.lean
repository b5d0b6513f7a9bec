/- AesM, Gf8, Aes: texts that lie apart elsewhere, as one; each under the conditions that it names. -/
import Derived.Test.YtbefjaodpbgpcaaGreatGA
import Derived.Test.YtbefjaodpbgpcaaGreatGI
set_option linter.unusedVariables false
set_option linter.unusedSimpArgs false
set_option maxRecDepth 100000
set_option maxHeartbeats 16000000
namespace Go.Aes
open Go.Bv
def gstep (s : Byte × Byte × Byte) : Byte × Byte × Byte := (s.1 ^^^ (s.2.1 &&& -(s.2.2 &&& 1)), (s.2.1 <<< 1) ^^^ (27 &&& -(s.2.1 >>> 7)), s.2.2 >>> 1)
def giter (s : Byte × Byte × Byte) : Nat → Byte × Byte × Byte
 | 0 => s
 | n + 1 => gstep (giter s n)
def gmul (a b : Byte) : Byte := (giter (0, a, b) 8).1
def istep (s : Byte × Byte) : Byte × Byte := (gmul s.1 s.1, gmul s.2 (gmul s.1 s.1))
def iiter (s : Byte × Byte) : Nat → Byte × Byte
 | 0 => s
 | n + 1 => istep (iiter s n)
def ginv (a : Byte) : Byte := (iiter (a, 1) 7).2
def gbox (a : Byte) : Byte := ginv a ^^^ rotl (ginv a) 1 ^^^ rotl (ginv a) 2 ^^^ rotl (ginv a) 3 ^^^ rotl (ginv a) 4 ^^^ 99
example : gbox 0x53 = 0xed := by decide +kernel
def mixAt (m b : List Byte) (i : Nat) : Nat → Byte
 | 0 => 0
 | r + 1 => mixAt m b i r ^^^ gmul (m.getD ((r + 4 - i % 4) % 4) 0) (b.getD (i - i % 4 + r) 0)
def mix (m b : List Byte) : List Byte := (List.range 16).map fun i => mixAt m b i 4
def xorL (a b : List Byte) : List Byte := List.zipWith (· ^^^ ·) a b
theorem xorL_len (a b : List Byte) (h : a.length = b.length) : (xorL a b).length = a.length := by simp [xorL, h]
def xorTo (xs ys : List Byte) (j : Nat) : List Byte := (List.range xs.length).map fun i => if i < j then xs.getD i 0 ^^^ ys.getD i 0 else xs.getD i 0
theorem xorTo_len (xs ys : List Byte) (j : Nat) : (xorTo xs ys j).length = xs.length := by simp [xorTo]
theorem xorTo_get (xs ys : List Byte) (j : Nat) (h : j < xs.length) : (xorTo xs ys j).getD j 0 = xs.getD j 0 := by simp [xorTo, h]
theorem xorTo_set (xs ys : List Byte) (j : Nat) : (xorTo xs ys j).set j (xs.getD j 0 ^^^ ys.getD j 0) = xorTo xs ys (j + 1) := by
 apply List.ext_getElem
 ·simp [xorTo]
 ·intro i h1 h2
  simp only [xorTo, List.length_set, List.length_map, List.length_range] at h1
  rw [List.getElem_set]
  by_cases e : j = i
  ·subst e
   simp [xorTo]
  ·rw [if_neg e]
   simp only [xorTo, List.getElem_map, List.getElem_range]
   by_cases h3 : i < j
   ·rw [if_pos h3, if_pos (by omega)]
   ·rw [if_neg h3, if_neg (by omega)]
theorem xorTo_zero (xs ys : List Byte) : xorTo xs ys 0 = xs := by
 apply List.ext_getElem
 ·simp [xorTo]
 ·intro i h1 h2
  simp [xorTo, List.getElem?_eq_getElem h2]
theorem xorTo_all (xs ys : List Byte) (n : Nat) (h : xs.length = n) (h2 : ys.length = n) : xorTo xs ys n = xorL xs ys := by
 subst h
 apply List.ext_getElem
 ·simp [xorTo, xorL, h2]
 ·intro i h1 h3
  have h4 : i < xs.length := by simpa [xorTo] using h1
  simp [xorTo, xorL, h4, List.getElem?_eq_getElem h4, List.getElem?_eq_getElem (show i < ys.length by omega)]
def rkey (ks : List Byte) (r : Nat) : List Byte := (ks.drop (r * 16)).take 16
theorem rkey_len (ks : List Byte) (r : Nat) (h : ks.length = 240) (hr : r ≤ 14) : (rkey ks r).length = 16 := by
 unfold rkey; rw [List.length_take, List.length_drop, h]; omega
def mixTo (m b : List Byte) (i r : Nat) : List Byte := (List.range 16).map fun j => if j < i then mixAt m b j 4 else if j = i then mixAt m b i r else 0
theorem mixTo_len (m b : List Byte) (i r : Nat) : (mixTo m b i r).length = 16 := by simp [mixTo]
theorem mixTo_get (m b : List Byte) (i r : Nat) (h : i < 16) : (mixTo m b i r).getD i 0 = mixAt m b i r := by simp [mixTo, h]
theorem mixTo_set (m b : List Byte) (i r : Nat) : (mixTo m b i r).set i (mixAt m b i (r + 1)) = mixTo m b i (r + 1) := by
 apply List.ext_getElem
 ·simp [mixTo]
 ·intro j h1 h2
  rw [List.getElem_set]
  by_cases e : i = j
  ·subst e
   simp [mixTo]
  ·rw [if_neg e]
   simp only [mixTo, List.getElem_map, List.getElem_range]
   by_cases h3 : j < i
   ·rw [if_pos h3, if_pos h3]
   ·rw [if_neg h3, if_neg h3, if_neg (by omega), if_neg (by omega)]
theorem mixTo_next (m b : List Byte) (i : Nat) : mixTo m b i 4 = mixTo m b (i + 1) 0 := by
 apply List.ext_getElem
 ·simp [mixTo]
 ·intro j h1 h2
  simp only [mixTo, List.getElem_map, List.getElem_range]
  by_cases h3 : j < i
  ·rw [if_pos h3, if_pos (by omega)]
  ·rw [if_neg h3]
   by_cases h4 : j = i
   ·subst h4; rw [if_pos rfl, if_pos (by omega)]
   ·rw [if_neg h4, if_neg (by omega)]
    by_cases h5 : j = i + 1
    ·subst h5; rw [if_pos rfl]; rfl
    ·rw [if_neg h5]
theorem mixTo_all (m b : List Byte) : mixTo m b 16 0 = mix m b := by
 apply List.ext_getElem
 ·simp [mixTo, mix]
 ·intro j h1 h2
  have : j < 16 := by simpa [mixTo] using h1
  simp [mixTo, mix, this]
theorem mixTo_zero (m b : List Byte) : mixTo m b 0 0 = List.replicate 16 0 := by
 apply List.ext_getElem
 ·simp [mixTo]
 ·intro j h1 h2
  simp only [mixTo, List.getElem_map, List.getElem_range, List.getElem_replicate]
  rw [if_neg (by omega)]
  by_cases h : j = 0
  ·rw [if_pos h]; rfl
  ·rw [if_neg h]
theorem mix_len (m b : List Byte) : (mix m b).length = 16 := by simp [mix]
def sub (b : List Byte) : List Byte := (List.range 16).map fun i => gbox (b.getD ((i + 4 * (i % 4)) % 16) 0)
def subTo (b : List Byte) (i : Nat) : List Byte := (List.range 16).map fun j => if j < i then gbox (b.getD ((j + 4 * (j % 4)) % 16) 0) else 0
theorem sub_len (b : List Byte) : (sub b).length = 16 := by simp [sub]
theorem subTo_len (b : List Byte) (i : Nat) : (subTo b i).length = 16 := by simp [subTo]
theorem subTo_zero (b : List Byte) : subTo b 0 = List.replicate 16 0 := by
 apply List.ext_getElem
 ·simp [subTo]
 ·intro j h1 h2
  simp only [subTo, List.getElem_map, List.getElem_range, List.getElem_replicate]
  rw [if_neg (by omega)]
theorem subTo_all (b : List Byte) : subTo b 16 = sub b := by
 apply List.ext_getElem
 ·simp [subTo, sub]
 ·intro j h1 h2
  have : j < 16 := by simpa [subTo] using h1
  simp [subTo, sub, this]
theorem subTo_set (b : List Byte) (i : Nat) : (subTo b i).set i (gbox (b.getD ((i + 4 * (i % 4)) % 16) 0)) = subTo b (i + 1) := by
 apply List.ext_getElem
 ·simp [subTo]
 ·intro j h1 h2
  rw [List.getElem_set]
  by_cases e : i = j
  ·subst e
   simp [subTo]
  ·rw [if_neg e]
   simp only [subTo, List.getElem_map, List.getElem_range]
   by_cases h3 : j < i
   ·rw [if_pos h3, if_pos (by omega)]
   ·rw [if_neg h3, if_neg (by omega)]
def encR (ks : List Byte) (R : Nat) (b : List Byte) : Nat → List Byte
 | 0 => xorL b (rkey ks 0)
 | n + 1 => xorL (if n + 1 < R then mix [2, 3, 1, 1] (sub (encR ks R b n)) else sub (encR ks R b n)) (rkey ks (n + 1))
def aesEnc (kl : Nat) (ks b : List Byte) : List Byte := encR ks (kl / 4 + 6) b (kl / 4 + 6)
theorem encR_len (ks : List Byte) (R : Nat) (b : List Byte) (hk : ks.length = 240) (hb : b.length = 16) : ∀ n, n ≤ 14 → (encR ks R b n).length = 16
 | 0, _ => by rw [encR, xorL_len _ _ (by rw [hb, rkey_len ks 0 hk (by decide)]), hb]
 | n + 1, h => by
  have h1 : (if n + 1 < R then mix [2, 3, 1, 1] (sub (encR ks R b n)) else sub (encR ks R b n)).length = 16 := by
   split
   ·exact mix_len _ _
   ·exact sub_len _
  rw [encR, xorL_len _ _ (by rw [h1, rkey_len ks _ hk (by omega)]), h1]
theorem aesEnc_len (kl : Nat) (ks b : List Byte) (hk : ks.length = 240) (hb : b.length = 16) (h : kl ≤ 32) : (aesEnc kl ks b).length = 16 := encR_len ks _ b hk hb _ (by omega)
def word (W : List Byte) (i : Nat) : List Byte := (W.drop (i * 4)).take 4
theorem word_len (W : List Byte) (i : Nat) (h : i * 4 + 4 ≤ W.length) : (word W i).length = 4 := by unfold word; rw [List.length_take, List.length_drop]; omega
def boxL (w : List Byte) : List Byte := w.map gbox
theorem boxL_len (w : List Byte) : (boxL w).length = w.length := by simp [boxL]
def kturn (t : List Byte) (x : Byte) : List Byte := [gbox (t.getD 1 0) ^^^ x, gbox (t.getD 2 0), gbox (t.getD 3 0), gbox (t.getD 0 0)]
def kword (k i : Nat) (t : List Byte) (x : Byte) : List Byte :=
 if i % k = 0 then kturn t x else if k = 8 ∧ i % 8 = 4 then boxL t else t
theorem kword_len (k i : Nat) (t : List Byte) (x : Byte) (h : t.length = 4) : (kword k i t x).length = 4 := by
 unfold kword
 split
 ·rfl
 ·split
  ·rw [boxL_len, h]
  ·exact h
def kx (k i : Nat) (x : Byte) : Byte := if i % k = 0 then gmul x 2 else x
def kiter (key : List Byte) (k : Nat) : Nat → List Byte × Byte
 | 0 => (key, 1)
 | n + 1 => ((kiter key k n).1 ++ xorL (word (kiter key k n).1 n) (kword k (k + n) (word (kiter key k n).1 (k + n - 1)) (kiter key k n).2), kx k (k + n) (kiter key k n).2)
theorem kiter_len (key : List Byte) (k : Nat) (h : key.length = 4 * k) (hk : 0 < k) : ∀ n, (kiter key k n).1.length = 4 * (k + n)
 | 0 => h
 | n + 1 => by
  have ih := kiter_len key k h hk n
  rw [kiter]
  simp only
  rw [List.length_append, ih, xorL_len _ _ (by rw [word_len _ _ (by omega), kword_len _ _ _ _ (word_len _ _ (by omega))]), word_len _ _ (by omega)]
  omega
def expand (key : List Byte) : List Byte := (kiter key (key.length / 4) (3 * (key.length / 4) + 28)).1 ++ List.replicate (240 - 4 * (4 * (key.length / 4) + 28)) 0
theorem expand_len (key : List Byte) (k : Nat) (h : key.length = 4 * k) (h4 : 4 ≤ k) (h8 : k ≤ 8) : (expand key).length = 240 := by
 unfold expand
 rw [show key.length / 4 = k by omega, List.length_append, kiter_len key k h (by omega), List.length_replicate]
 omega
theorem word_take (W : List Byte) (i : Nat) : W.take (i * 4) ++ word W i = W.take ((i + 1) * 4) := by
 unfold word
 rw [Nat.succ_mul, List.take_add]
end Go.Aes
namespace Go.Bv
theorem vneg8 (x : BitVec 8) : (-(v8 x)) % 256 = v8 (-x) := by
 unfold v8
 have h := BitVec.toNat_neg (x := x)
 have := x.isLt
 rw [h]
 omega
theorem vand8_1 (x : BitVec 8) : bits .and .u8 (v8 x) 1 = v8 (x &&& 1) := vand8 x 1
theorem vand8_27 (x : BitVec 8) : bits .and .u8 27 (v8 x) = v8 (27 &&& x) := vand8 27 x
theorem vxor8_99 (x : BitVec 8) : bits .xor .u8 (v8 x) 99 = v8 (x ^^^ 99) := vxor8 x 99
theorem vshl8 (x : BitVec 8) (n : Nat) : (v8 x * 2 ^ n) % 256 = v8 (x <<< n) := by
 unfold v8
 rw [BitVec.toNat_shiftLeft, Nat.shiftLeft_eq]; simp
theorem vshl8_1 (x : BitVec 8) : (v8 x * (2 : Int)) % (256 : Int) = v8 (x <<< 1) := vshl8 x 1
theorem vshr8 (x : BitVec 8) (n : Nat) : v8 x / 2 ^ n = v8 (x >>> n) := shr x n
theorem vshr8_1 (x : BitVec 8) : v8 x / (2 : Int) = v8 (x >>> 1) := shr x 1
theorem vshr8_7 (x : BitVec 8) : v8 x / (128 : Int) = v8 (x >>> 7) := shr x 7
end Go.Bv
namespace Go.Proofs.YtbefjaodpbgpcaaGreat
open Go.RowKit Go.Sep Go.Bv Go.Aes
theorem gf8Mul (w : World) (a b : Byte) : Calls Tryz.prog 188 #[.int .u8 (v8 a), .int .u8 (v8 b)] w fun e w' => e = .returned (.int .u8 (v8 (gmul a b))) ∧ w' = w := by
 go_enter Tryz.func188, Tryz.ntmps188
 go_wp2
 go_loopw [0, 1, 5, 6] (fun t0 t1 t5 t6 wr => ∃ (i : Nat) (p x y : Byte), i ≤ 8 ∧ giter (0, a, b) i = (p, x, y) ∧ t6 = .int .i64 (i : Int) ∧ t5 = .int .u8 (v8 p) ∧ t0 = .int .u8 (v8 x) ∧ t1 = .int .u8 (v8 y) ∧ wr = w) (fun _ _ _ t6 _ => 8 - (intOf t6).toNat)
 case atStart => exact ⟨0, 0, a, b, Nat.zero_le _, rfl, rfl, rfl, rfl, rfl, by simp⟩
 case round =>
  obtain ⟨i, p, x, y, hi, hg, rfl, rfl, rfl, rfl, rfl⟩ := hrel
  by_cases hlt : i < 8
  ·have HG := Lib.hid hg; clear hg
   go_wp2
   go_roundw
   case rel =>
    refine ⟨i + 1, (gstep (p, x, y)).1, (gstep (p, x, y)).2.1, (gstep (p, x, y)).2.2, by omega, ?_, by go_num, ?_, ?_, ?_, trivial⟩
    ·rw [giter, HG.out]
    ·rw [vand8_1, vneg8, vand8, vxor8]; rfl
    ·rw [vshl8_1, vshr8_7, vneg8, vand8_27, vxor8]; rfl
    ·rw [vshr8_1]; rfl
   case measure => simp [intOf]; omega
  ·obtain rfl : i = 8 := by omega
   go_wp2
   go_ret
   refine ⟨?_, rfl⟩
   unfold gmul
   rw [hg]
   rfl
theorem gf8Inv (w : World) (a : Byte) : Calls Tryz.prog 189 #[.int .u8 (v8 a)] w fun e w' => e = .returned (.int .u8 (v8 (ginv a))) ∧ w' = w := by
 have hM := fun x y : Byte => gf8Mul w x y
 have HM := Lib.hid hM; clear hM
 go_enter Tryz.func189, Tryz.ntmps189
 go_wp2
 go_loopw [0, 3, 4] (fun t0 t3 t4 wr => ∃ (i : Nat) (x p : Byte), i ≤ 7 ∧ iiter (a, 1) i = (x, p) ∧ t4 = .int .i64 (i : Int) ∧ t0 = .int .u8 (v8 x) ∧ t3 = .int .u8 (v8 p) ∧ wr = w) (fun _ _ t4 _ => 7 - (intOf t4).toNat)
 case atStart => exact ⟨0, a, 1, Nat.zero_le _, rfl, rfl, rfl, rfl, by simp⟩
 case round =>
  obtain ⟨i, x, p, hi, hg, rfl, rfl, rfl, rfl⟩ := hrel
  by_cases hlt : i < 7
  ·have HG := Lib.hid hg; clear hg
   go_wp2_with fail
   refine (HM.out x x).mono ?_
   rintro e w1 ⟨rfl, rfl⟩
   go_wp2_with fail
   refine (HM.out p (gmul x x)).mono ?_
   rintro e w2 ⟨rfl, rfl⟩
   go_wp2
   go_roundw
   case rel =>
    refine ⟨i + 1, gmul x x, gmul p (gmul x x), by omega, ?_, by go_num, rfl, rfl, trivial⟩
    rw [iiter, HG.out]; rfl
   case measure => simp [intOf]; omega
  ·obtain rfl : i = 7 := by omega
   go_wp2
   go_ret
   refine ⟨?_, rfl⟩
   unfold ginv
   rw [hg]
   rfl
theorem gf8turn (w : World) (a : Byte) (k : Nat) (h1 : 1 ≤ k) (h2 : k ≤ 7) : Calls Tryz.prog 190 #[.int .u8 (v8 a), .int .i64 (k : Int)] w fun e w' => e = .returned (.int .u8 (v8 (rotl a k))) ∧ ∃ n, w' = w.drewN n := by
 have e1 : IntKind.i64.wrap (8 - (k : Int)) = ((8 - k : Nat) : Int) := by rw [IntKind.wrap_i64]; omega
 have g1 : (0 : Int) ≤ (k : Int) := by omega
 have g2 : k < 8 := by omega
 have g3 : 8 - k < 8 := by omega
 go_enter Tryz.func190, Tryz.ntmps190
 go_wp2_with fail
 go_quiet (fail)
 go_wp2
 go_ret
 refine ⟨?_, _, rfl⟩
 show Ending.returned (Value.int .u8 (bits .or .u8 (v8 a * 2 ^ k % 256) (v8 a / 2 ^ (8 - k)))) = _
 rw [vshl8, vshr8, vor8]
 rfl
theorem gf8Box (w : World) (a : Byte) : Calls Tryz.prog 164 #[.int .u8 (v8 a)] w fun e w' => e = .returned (.int .u8 (v8 (gbox a))) ∧ ∃ n, w' = w.drewN n := by
 obtain ⟨y, hy⟩ : ∃ y, y = ginv a := ⟨_, rfl⟩
 have hI := gf8Inv w a
 rw [← hy] at hI
 have hfin : gbox a = y ^^^ rotl y 1 ^^^ rotl y 2 ^^^ rotl y 3 ^^^ rotl y 4 ^^^ 99 := by rw [hy]; rfl
 rw [hfin]
 have HI := Lib.hid hI; clear hI hy hfin
 go_enter Tryz.func164, Tryz.ntmps164
 go_wp2_with fail
 refine HI.out.mono ?_
 rintro e w1 ⟨rfl, rfl⟩
 go_wp2_with fail
 refine (gf8turn w1 y 1 (by decide) (by decide)).mono ?_
 rintro e w2 ⟨rfl, n2, rfl⟩
 go_wp2_with fail
 refine (gf8turn _ y 2 (by decide) (by decide)).mono ?_
 rintro e w3 ⟨rfl, n3, rfl⟩
 go_wp2_with fail
 refine (gf8turn _ y 3 (by decide) (by decide)).mono ?_
 rintro e w4 ⟨rfl, n4, rfl⟩
 go_wp2_with fail
 refine (gf8turn _ y 4 (by decide) (by decide)).mono ?_
 rintro e w5 ⟨rfl, n5, rfl⟩
 go_wp2
 go_ret
 refine ⟨?_, n2 + n3 + n4 + n5, by simp only [World.drewN_drewN, Nat.add_assoc]⟩
 show Ending.returned (Value.int .u8 (bits .xor .u8 (bits .xor .u8 (bits .xor .u8 (bits .xor .u8 (bits .xor .u8 (v8 y) (v8 (rotl y 1))) (v8 (rotl y 2))) (v8 (rotl y 3))) (v8 (rotl y 4))) 99)) = _
 rw [vxor8, vxor8, vxor8, vxor8, vxor8_99]
end Go.Proofs.YtbefjaodpbgpcaaGreat
namespace Go.Proofs.YtbefjaodpbgpcaaGreat
open Go.RowKit Go.Sep Go.Bv Go.Aes
theorem Tryz.size_b16 : (Tryz.prog.info? 210).map (·.size) = some 16 := by kernel_rfl
theorem Tryz.size_b4 : (Tryz.prog.info? 245).map (·.size) = some 4 := by kernel_rfl
def nought16 : List Byte := List.replicate 16 0
def nought4 : List Byte := List.replicate 4 0
theorem nought16_len : nought16.length = 16 := rfl
theorem nought4_len : nought4.length = 4 := rfl
theorem zero_b16 (w : World) : (zeroValue 210).run Tryz.prog w = .ok (.agg (u8s nought16).toArray) w := by kernel_rfl
theorem zero_b4 (w : World) : (zeroValue 245).run Tryz.prog w = .ok (.agg (u8s nought4).toArray) w := by kernel_rfl
theorem idx_b16 (B : List Byte) (hB : B.length = 16) (i : Nat) (hi : i < 16) (w : World) : (Instr.index 210 (.agg (u8s B).toArray) (.int .i64 (i : Int))).run Tryz.prog w = .ok (.int .u8 (v8 (B.getD i 0))) w :=
 run_idx8 (U := 5) Tryz.underlying210 (by kernel_rfl) (fun w => by simp [go_sem]) B hB i hi w
section
variable {W0 w : World} {L : List Assn} {ops : Array Oper} {rest : List Oper} {o : Oper} {a : Act} {Q : Exit → Act → World → Prop}
theorem wpl_al16 (hgd : o.guard = none) (ho : o.op = .alloc 210) (hs : Sat W0 w L)
  (h : ∀ w' g, Sat W0 w' (seg true g 0 (u8s nought16) :: L) → g < w'.heap.size → wpList Tryz.prog ops Q rest (a.put o.dst (.pointer (some ⟨g, 0, none⟩))) w') : wpList Tryz.prog ops Q (o :: rest) a w :=
 wpl_alloc_agg hgd 210 ho hs _ (zero_b16 _) h
end
abbrev cipS (c kl : Nat) (ks : List Byte) (L : List Assn) : List Assn := seg true c 0 [.int .i64 (kl : Int)] :: seg true c 1 (u8s ks) :: L
theorem aesMade {W0 w : World} {L : List Assn} {c kl : Nat} (hk : 0 < kl) (hs : Sat W0 w (seg true c 0 [.int .i64 (kl : Int)] :: L)) : Calls Tryz.prog 161 #[.pointer (some ⟨c, 0, none⟩)] w fun e w' => e = .returned (.bool true) ∧ w' = w := by
 have c0 := hs.at 0 rfl
 have z0 := hs.lt (by simp)
 have hd : decide ((0 : Int) < (kl : Int)) = true := by simp; omega
 go_enter Tryz.func161, Tryz.ntmps161
 go_wp2
 go_ret
 exact ⟨rfl, rfl⟩
theorem aesRounds {W0 w : World} {L : List Assn} {c kl : Nat} (hk : kl ≤ 32) (hs : Sat W0 w (seg true c 0 [.int .i64 (kl : Int)] :: L)) : Calls Tryz.prog 163 #[.pointer (some ⟨c, 0, none⟩)] w fun e w' => e = .returned (.int .i64 ((kl / 4 + 6 : Nat) : Int)) ∧ w' = w := by
 have c0 := hs.at 0 rfl
 have z0 := hs.lt (by simp)
 have e1 : (kl : Int) / 4 = ((kl / 4 : Nat) : Int) := by omega
 have e2 : (kl : Int).tdiv 4 = ((kl / 4 : Nat) : Int) := by rw [Int.tdiv_eq_ediv_of_nonneg (by omega)]; exact e1
 obtain ⟨d, hd⟩ : ∃ d, d = kl / 4 := ⟨_, rfl⟩
 rw [← hd] at e1 e2 ⊢
 have hd2 : d ≤ 8 := by omega
 have Hd := Lib.hid hd; clear hd
 go_enter Tryz.func163, Tryz.ntmps163
 go_wp2
 go_ret
 exact ⟨by first | rfl | (congr 2; omega) | trace_state, rfl⟩
theorem aesWith {W0 w : World} {L : List Assn} {c kl : Nat} (ks B : List Byte) (r : Nat) (hks : ks.length = 240) (hB : B.length = 16) (hr : r ≤ 14) (hs : Sat W0 w (cipS c kl ks L)) :
  Calls Tryz.prog 162 #[.pointer (some ⟨c, 0, none⟩), .agg (u8s B).toArray, .int .i64 (r : Int)] w fun e w' => e = .returned (.agg (u8s (xorL B (rkey ks r))).toArray) ∧ Sat W0 w' (cipS c kl ks L) := by
 obtain ⟨K, hK⟩ : ∃ K, K = rkey ks r := ⟨_, rfl⟩
 have hKl : K.length = 16 := by rw [hK]; exact rkey_len ks r hks hr
 have hKd : (ks.drop (r * 16)).take 16 = K := hK.symm
 rw [← hK]
 have hfin : xorTo B K 16 = xorL B K := xorTo_all B K 16 hB hKl
 have hst : xorTo B K 0 = B := xorTo_zero B K
 have z0 := hs.lt (by simp)
 have HN := Lib.hid (And.intro hks (And.intro hB (And.intro hKl (And.intro hKd (And.intro hfin hst))))); clear hks hB hKl hKd hfin hst hK
 go_enter Tryz.func162, Tryz.ntmps162
 go_wp2_with (first | (refine wpl_box rfl 210 (.tmp 1) rfl (u8s B) rfl hs ?_; intro w1 gb s1 _; clear hs) | (refine wpl_al16 rfl rfl s1 ?_; intro w2 gr s2 _; clear s1) | (refine wpl_ld8 (k := r * 16) rfl (.tmp 13) rfl Tryz.underlying210 Tryz.size_b16 (s2.pull 3) rfl rfl (by rw [HN.out.1]; omega) ?_; rw [HN.out.2.2.2.1]))
 have s3 : Sat W0 w2 (seg true gb 0 (u8s (xorTo B K 0)) :: seg true gr 0 (u8s nought16) :: cipS c kl ks L) := by rw [HN.out.2.2.2.2.2]; exact s2.pull 1
 clear s2
 go_loopw [15] (fun t15 wr => ∃ i : Nat, i ≤ 16 ∧ t15 = .int .i64 (i : Int) ∧ Sat W0 wr (seg true gb 0 (u8s (xorTo B K i)) :: seg true gr 0 (u8s nought16) :: cipS c kl ks L)) (fun t15 _ => 16 - (intOf t15).toNat)
 case atStart => exact ⟨0, by omega, rfl, s3⟩
 case round =>
  clear s3
  obtain ⟨i, hi, rfl, s⟩ := hrel
  by_cases hlt : i < 16
  ·have hx := idx_b16 K HN.out.2.2.1 i hlt
   have hxl := (xorTo_len B K i).trans HN.out.2.1
   have cb := s.at i (u8s_get _ i (by rw [hxl]; exact hlt))
   rw [xorTo_get B K i (by rw [HN.out.2.1]; exact hlt)] at cb
   have fb := s.fr i (by rw [u8s_len, hxl]; exact hlt)
   have zb := s.lt (by rw [u8s_len, hxl]; decide)
   obtain ⟨x, hxx⟩ : ∃ x, x = B.getD i 0 := ⟨_, rfl⟩
   obtain ⟨y, hyy⟩ : ∃ y, y = K.getD i 0 := ⟨_, rfl⟩
   rw [← hxx] at cb
   rw [← hyy] at hx
   have HX := Lib.hid (And.intro hxx (And.intro hyy hxl)); clear hxx hyy hxl
   go_wp2
   go_roundw
   case rel =>
    refine ⟨i + 1, by omega, by go_num, ?_⟩
    have st := s.store (i := i) (by rw [u8s_len, HX.out.2.2]; exact hlt) (.int .u8 (v8 (x ^^^ y))) (q := i) (by simp)
    rw [u8s_set, HX.out.1, HX.out.2.1, xorTo_set, ← HX.out.1, ← HX.out.2.1, ← vxor8] at st
    exact st
   case measure => simp [intOf]; omega
  ·obtain rfl : i = 16 := by omega
   rw [HN.out.2.2.2.2.1] at s
   have hRl : (xorL B K).length = 16 := by rw [xorL_len _ _ (by rw [HN.out.2.1, HN.out.2.2.1])]; exact HN.out.2.1
   obtain ⟨R, hR⟩ : ∃ R, R = xorL B K := ⟨_, rfl⟩
   rw [← hR] at s hRl
   have HR := Lib.hid (And.intro hR hRl); clear hR hRl
   go_wp2_with (first | (refine wpl_ld8a rfl (.tmp 4) rfl Tryz.underlying210 Tryz.size_b16 s rfl HR.out.2 ?_) | (refine wpl_st8a rfl rfl (.tmp 6) (.tmp 26) rfl (s.pull 1 : Sat W0 _ (seg true gr 0 (u8s nought16) :: _)) Tryz.size_b16 rfl rfl HR.out.2 nought16_len ?_; intro w9 s9))
   refine bodyPost_ret (v := .agg (u8s R).toArray) ?_ rfl ⟨by rw [HR.out.1], s9.drop 1 |>.drop 0⟩
   ·have hr := run_ret8 Tryz.underlying210 Tryz.size_b16 s9 HR.out.2
    simp [results, Tryz.results162, asAddr]; exact hr
theorem aesMixed {W0 w : World} {L : List Assn} (m B : List Byte) (hm : m.length = 4) (hB : B.length = 16) (hs : Sat W0 w L) :
  Calls Tryz.prog 165 #[.agg (u8s B).toArray, .agg (u8s m).toArray] w fun e w' => e = .returned (.agg (u8s (mix m B)).toArray) ∧ Sat W0 w' L := by
 have hfin := mixTo_all m B
 have hst : mixTo m B 0 0 = nought16 := mixTo_zero m B
 have HN := Lib.hid (And.intro hm (And.intro hB (And.intro hfin hst))); clear hm hB hfin hst
 go_enter Tryz.func165, Tryz.ntmps165
 go_wp2_with (first | (refine wpl_box rfl 210 (.tmp 0) rfl (u8s B) rfl hs ?_; intro w1 gb s1 _; clear hs) | (refine wpl_box rfl 245 (.tmp 1) rfl (u8s m) rfl s1 ?_; intro w2 gm s2 _; clear s1) | (refine wpl_al16 rfl rfl s2 ?_; intro w3 gr s3 _; clear s2) | (refine wpl_al16 rfl rfl s3 ?_; intro w4 go s4 _; clear s3))
 have s5 : Sat W0 w4 (seg true go 0 (u8s (mixTo m B 0 0)) :: seg true gr 0 (u8s nought16) :: seg true gm 0 (u8s m) :: seg true gb 0 (u8s B) :: L) := by rw [HN.out.2.2.2]; exact s4
 clear s4
 go_loopw [9] (fun t9 wr => ∃ i : Nat, i ≤ 16 ∧ t9 = .int .i64 (i : Int) ∧ Sat W0 wr (seg true go 0 (u8s (mixTo m B i 0)) :: seg true gr 0 (u8s nought16) :: seg true gm 0 (u8s m) :: seg true gb 0 (u8s B) :: L)) (fun t9 _ => 16 - (intOf t9).toNat)
 case atStart => exact ⟨0, by omega, rfl, s5⟩
 case round =>
  clear s5
  obtain ⟨i, hi, rfl, s⟩ := hrel
  by_cases hlt : i < 16
  ·obtain ⟨k, hk⟩ : ∃ k, k = i % 4 := ⟨_, rfl⟩
   obtain ⟨col, hcol⟩ : ∃ col, col = i - k := ⟨_, rfl⟩
   have hkm : (i : Int) % 4 = (k : Int) := by omega
   have hkt : (i : Int).tmod 4 = (k : Int) := by rw [Int.tmod_eq_emod_of_nonneg (by omega)]; exact hkm
   have hc : (i : Int) - (k : Int) = (col : Int) := by omega
   have hk4 : k < 4 := by omega
   have hc12 : col ≤ 12 := by omega
   have HK := Lib.hid (And.intro hk hcol); clear hk hcol
   go_wp2_with fail
   go_loopw [16] (fun t16 wr => ∃ r : Nat, r ≤ 4 ∧ t16 = .int .i64 (r : Int) ∧ Sat W0 wr (seg true go 0 (u8s (mixTo m B i r)) :: seg true gr 0 (u8s nought16) :: seg true gm 0 (u8s m) :: seg true gb 0 (u8s B) :: L)) (fun t16 _ => 4 - (intOf t16).toNat)
   case atStart => exact ⟨0, by omega, rfl, s⟩
   case round =>
    clear s
    obtain ⟨r, hr, rfl, s⟩ := hrel
    by_cases hrl : r < 4
    ·obtain ⟨q, hq⟩ : ∃ q, q = (r + 4 - k) % 4 := ⟨_, rfl⟩
     have e2 : IntKind.i64.wrap ((r : Int) - (k : Int)) = (r : Int) - (k : Int) := by rw [IntKind.wrap_i64]; omega
     have e3 : IntKind.i64.wrap ((r : Int) - (k : Int) + 4) = ((r + 4 - k : Nat) : Int) := by rw [IntKind.wrap_i64]; omega
     have e4 : ((r + 4 - k : Nat) : Int).tmod 4 = (q : Int) := by rw [Int.tmod_eq_emod_of_nonneg (by omega)]; omega
     have e5 : IntKind.i64.wrap ((col : Int) + (r : Int)) = ((col + r : Nat) : Int) := by rw [IntKind.wrap_i64]; omega
     have hq4 : q < 4 := by omega
     have hcr : col + r < 16 := by omega
     have co := s.at i (u8s_get _ i (by rw [mixTo_len]; exact hlt))
     rw [mixTo_get m B i r hlt] at co
     have fo := s.fr i (by rw [u8s_len, mixTo_len]; exact hlt)
     have zo := s.lt (by rw [u8s_len, mixTo_len]; decide)
     have sm : Sat W0 _ (seg true gm 0 (u8s m) :: _) := s.pull 2
     have cm := sm.at q (u8s_get m q (by rw [HN.out.1]; exact hq4))
     have zm := sm.lt (by rw [u8s_len, HN.out.1]; decide)
     have sb : Sat W0 _ (seg true gb 0 (u8s B) :: _) := s.pull 3
     have cb := sb.at (col + r) (u8s_get B (col + r) (by rw [HN.out.2.1]; exact hcr))
     have zb := sb.lt (by rw [u8s_len, HN.out.2.1]; decide)
     obtain ⟨xo, hxo⟩ : ∃ x, x = mixAt m B i r := ⟨_, rfl⟩
     obtain ⟨xm, hxm⟩ : ∃ x, x = m.getD q 0 := ⟨_, rfl⟩
     obtain ⟨xb, hxb⟩ : ∃ x, x = B.getD (col + r) 0 := ⟨_, rfl⟩
     rw [← hxo] at co
     rw [← hxm] at cm
     rw [← hxb] at cb
     have hnext : mixAt m B i (r + 1) = xo ^^^ gmul xm xb := by
      rw [mixAt, hxo, hxm, hxb, hq, HK.out.2, HK.out.1]
     have HX := Lib.hid hnext; clear hnext hxo hxm hxb hq sm sb
     go_wp2_with fail
     refine wp_region_quiet_tail_lit 18 (by kernel_rfl) (by kernel_rfl) ?_
     simp only [List.take_succ_cons, List.take_zero, List.drop_succ_cons, List.drop_zero]
     repeat (go_big_quiet_step ((go_at_call 188; exact Calls.quiet_of_same (gf8Mul _ xm xb))))
     refine wpQuiet_nil ?_
     rintro _ ⟨nq, rfl⟩
     go_wp2
     go_roundw
     case rel =>
      refine ⟨r + 1, by omega, by go_num, ?_⟩
      have st := (s.drewN nq).store (i := i) (by rw [u8s_len, mixTo_len]; exact hlt) (.int .u8 (v8 (xo ^^^ gmul xm xb))) (q := i) (by simp)
      rw [u8s_set, ← HX.out, mixTo_set, HX.out, ← vxor8] at st
      exact st
     case measure => simp [intOf]; omega
    ·obtain rfl : r = 4 := by omega
     rw [mixTo_next] at s
     go_wp2
     go_roundw
     case rel => exact ⟨i + 1, by omega, by go_num, s⟩
     case measure => simp [intOf]; omega
  ·obtain rfl : i = 16 := by omega
   rw [HN.out.2.2.1] at s
   have hRl : (mix m B).length = 16 := mix_len m B
   obtain ⟨R, hR⟩ : ∃ R, R = mix m B := ⟨_, rfl⟩
   rw [← hR] at s hRl
   have HR := Lib.hid (And.intro hR hRl); clear hR hRl
   go_wp2_with (first | (refine wpl_ld8a rfl (.tmp 5) rfl Tryz.underlying210 Tryz.size_b16 s rfl HR.out.2 ?_) | (refine wpl_st8a rfl rfl (.tmp 4) (.tmp 40) rfl (s.pull 1 : Sat W0 _ (seg true gr 0 (u8s nought16) :: _)) Tryz.size_b16 rfl rfl HR.out.2 nought16_len ?_; intro w9 s9))
   refine bodyPost_ret (v := .agg (u8s R).toArray) ?_ rfl ⟨by rw [HR.out.1], (((s9.drop 0).drop 0).drop 0).drop 0⟩
   ·have hr := run_ret8 Tryz.underlying210 Tryz.size_b16 s9 HR.out.2
    simp [results, Tryz.results165, asAddr]; exact hr
theorem aesWithF {W0 w : World} {L : List Assn} {c kl : Nat} {rv : Int} {bv : Value} (ks B : List Byte) (r : Nat) (hrv : rv = (r : Int)) (hbv : bv = .agg (u8s B).toArray) (hks : ks.length = 240) (hB : B.length = 16) (hr : r ≤ 14) (hs : Sat W0 w (cipS c kl ks L)) :
  Calls Tryz.prog 162 #[.pointer (some ⟨c, 0, none⟩), bv, .int .i64 rv] w fun e w' => e = .returned (.agg (u8s (xorL B (rkey ks r))).toArray) ∧ Sat W0 w' (cipS c kl ks L) := by
 subst hrv hbv
 exact aesWith ks B r hks hB hr hs
theorem aesMixedF {W0 w : World} {L : List Assn} {mv bv : Value} (m B : List Byte) (hmv : mv = .agg (u8s m).toArray) (hbv : bv = .agg (u8s B).toArray) (hm : m.length = 4) (hB : B.length = 16) (hs : Sat W0 w L) :
  Calls Tryz.prog 165 #[bv, mv] w fun e w' => e = .returned (.agg (u8s (mix m B)).toArray) ∧ Sat W0 w' L := by
 subst hmv hbv
 exact aesMixed m B hm hB hs
def mixRow : List Byte := [2, 3, 1, 1]
theorem aesEncrypt {W0 w : World} {L : List Assn} {c kl : Nat} {pv : Value} (p : Option Nat) (rs : List Run3) (ks B : List Byte) (hp : pv = ptrO p) (hks : ks.length = 240) (hB : B.length = 16) (hk0 : 0 < kl) (hk : kl ≤ 32) (hb : tot rs + 1 ≤ 4611686018427387904) (hl : rs.length ≤ 4294967296) (hs : Sat W0 w (ledO p rs :: cipS c kl ks L)) :
  Calls Tryz.prog 129 #[.pointer (some ⟨c, 0, none⟩), pv, .agg (u8s B).toArray] w fun e w' => e = .returned (.tuple #[.agg (u8s (aesEnc kl ks B)).toArray, .int .i64 0]) ∧ Sat W0 w' (ledO p (note rs 5 (kl : Int) 1) :: cipS c kl ks L) := by
 subst hp
 obtain ⟨R, hR⟩ : ∃ R, R = kl / 4 + 6 := ⟨_, rfl⟩
 have hrd := fun (w : World) (X : List Assn) (s : Sat W0 w (seg true c 0 [.int .i64 (kl : Int)] :: X)) => aesRounds hk s
 rw [← hR] at hrd
 have hR14 : R ≤ 14 := by omega
 have hR6 : 6 ≤ R := by omega
 have hE : aesEnc kl ks B = encR ks R B R := by rw [hR]; rfl
 have hel := encR_len ks R B hks hB
 have hE0 : xorL B (rkey ks 0) = encR ks R B 0 := rfl
 have hEn : ∀ n, xorL (if n + 1 < R then mix mixRow (sub (encR ks R B n)) else sub (encR ks R B n)) (rkey ks (n + 1)) = encR ks R B (n + 1) := fun n => rfl
 obtain ⟨E, hEd⟩ : ∃ E : Nat → List Byte, E = encR ks R B := ⟨_, rfl⟩
 rw [hE]
 rw [← hEd] at hel hE0 hEn ⊢
 have HN := Lib.hid (And.intro hks (And.intro hB (And.intro hk0 (And.intro hb (And.intro hl (And.intro hrd (And.intro hel (And.intro hE0 hEn)))))))); clear hks hB hk0 hb hl hrd hel hE0 hEn hE hEd hR hk
 go_enter Tryz.func129, Tryz.ntmps129
 go_wp2_with (first | (refine wpl_box rfl 210 (.tmp 2) rfl (u8s B) rfl hs ?_; intro w1 gb s1 _; clear hs) | (refine wpl_al16 rfl rfl s1 ?_; intro w2 gr s2 _; clear s1))
 refine (aesMade HN.out.2.2.1 s2.g).mono ?_
 rintro e w3 ⟨rfl, rfl⟩
 have hF : ∀ (wx : World) (X : List Assn), Sat W0 wx (seg true c 0 [.int .i64 (kl : Int)] :: X) → wx.cell? ⟨c, 0, none⟩ = some (.int .i64 (kl : Int)) ∧ c < wx.heap.size := fun wx X h => ⟨h.at 0 rfl, h.lt (by simp)⟩
 obtain ⟨c0, z0⟩ := hF _ _ (s2.f : Sat W0 w3 (seg true c 0 [.int .i64 (kl : Int)] :: []))
 clear hF
 go_wp2_with fail
 refine (noteOne p rs 5 (kl : Int) s2.g HN.out.2.2.2.1 HN.out.2.2.2.2.1).mono ?_
 rintro e w4 ⟨rfl, s4⟩
 clear s2 c0 z0
 have s5 : Sat W0 w4 (seg true gb 0 (u8s B) :: seg true gr 0 (u8s nought16) :: cipS c kl ks (ledO p (note rs 5 (kl : Int) 1) :: L)) := s4.f
 clear s4
 go_wp2_with (refine wpl_ld8a rfl (.tmp 5) rfl Tryz.underlying210 Tryz.size_b16 s5 rfl HN.out.2.1 ?_)
 refine (aesWithF ks B 0 rfl rfl HN.out.1 HN.out.2.1 (by decide) (show Sat W0 w4 (cipS c kl ks (seg true gb 0 (u8s B) :: seg true gr 0 (u8s nought16) :: ledO p (note rs 5 (kl : Int) 1) :: L)) from s5.f)).mono ?_
 rintro e w5 ⟨rfl, s6⟩
 clear s5
 rw [HN.out.2.2.2.2.2.2.2.1]
 have s7 : Sat W0 w5 (seg true gb 0 (u8s B) :: seg true gr 0 (u8s nought16) :: cipS c kl ks (ledO p (note rs 5 (kl : Int) 1) :: L)) := s6.f
 clear s6
 go_wp2_with (refine wpl_st8a rfl rfl (.tmp 5) (.tmp 24) rfl s7 Tryz.size_b16 rfl rfl (HN.out.2.2.2.2.2.2.1 0 (by decide)) HN.out.2.1 ?_; intro w6 s8; clear s7)
 go_loopw [8] (fun t8 wr => ∃ n : Nat, n ≤ R ∧ t8 = .int .i64 ((n : Int) + 1) ∧ Sat W0 wr (seg true gb 0 (u8s (E n)) :: seg true gr 0 (u8s nought16) :: cipS c kl ks (ledO p (note rs 5 (kl : Int) 1) :: L))) (fun t8 _ => R + 1 - (intOf t8).toNat)
 case atStart => exact ⟨0, by omega, rfl, s8⟩
 case round =>
  clear s8
  obtain ⟨n, hn, rfl, s⟩ := hrel
  by_cases hlt : n < R
  ·have g1 : (n : Int) + 1 ≤ (R : Int) := by omega
   go_wp2_with (first | (go_at_call 163; refine (HN.out.2.2.2.2.2.1 _ _ s.g).mono ?_; rintro e w' ⟨rfl, rfl⟩) | (refine wpl_al16 rfl rfl s ?_; intro w8 gs s9 _))
   have s10 : Sat W0 w8 (seg true gs 0 (u8s (subTo (E n) 0)) :: seg true gb 0 (u8s (E n)) :: seg true gr 0 (u8s nought16) :: cipS c kl ks (ledO p (note rs 5 (kl : Int) 1) :: L)) := by rw [show subTo (E n) 0 = nought16 from subTo_zero _]; exact s9
   clear s s9
   have hEl := HN.out.2.2.2.2.2.2.1 n (by omega)
   obtain ⟨F, hFd⟩ : ∃ F, F = E n := ⟨_, rfl⟩
   rw [← hFd] at s10 hEl
   have HF := Lib.hid (And.intro hFd hEl); clear hFd hEl
   go_loopw [31] (fun t31 wr => ∃ i : Nat, i ≤ 16 ∧ t31 = .int .i64 (i : Int) ∧ Sat W0 wr (seg true gs 0 (u8s (subTo F i)) :: seg true gb 0 (u8s F) :: seg true gr 0 (u8s nought16) :: cipS c kl ks (ledO p (note rs 5 (kl : Int) 1) :: L))) (fun t31 _ => 16 - (intOf t31).toNat)
   case atStart => exact ⟨0, by omega, rfl, s10⟩
   case round =>
    clear s10
    obtain ⟨i, hi, rfl, s⟩ := hrel
    by_cases hlt2 : i < 16
    ·obtain ⟨k, hk⟩ : ∃ k, k = i % 4 := ⟨_, rfl⟩
     obtain ⟨q, hq⟩ : ∃ q, q = (i + 4 * k) % 16 := ⟨_, rfl⟩
     have hkm : (i : Int) % 4 = (k : Int) := by omega
     have hkt : (i : Int).tmod 4 = (k : Int) := by rw [Int.tmod_eq_emod_of_nonneg (by omega)]; exact hkm
     have hqm : ((i : Int) + 4 * (k : Int)) % 16 = (q : Int) := by omega
     have hqt : ((i : Int) + 4 * (k : Int)).tmod 16 = (q : Int) := by rw [Int.tmod_eq_emod_of_nonneg (by omega)]; exact hqm
     have hq16 : q < 16 := by omega
     have hk4 : k < 4 := by omega
     have hset : (subTo F i).set i (gbox (F.getD q 0)) = subTo F (i + 1) := by rw [hq, hk]; exact subTo_set F i
     have cs := s.at i (u8s_get _ i (by rw [subTo_len]; exact hlt2))
     have fs := s.fr i (by rw [u8s_len, subTo_len]; exact hlt2)
     have zs := s.lt (by rw [u8s_len, subTo_len]; decide)
     have sb : Sat W0 _ (seg true gb 0 (u8s F) :: _) := s.pull 1
     have cb := sb.at q (u8s_get F q (by rw [HF.out.2]; exact hq16))
     have zb := sb.lt (by rw [u8s_len, HF.out.2]; decide)
     obtain ⟨x, hx⟩ : ∃ x, x = F.getD q 0 := ⟨_, rfl⟩
     obtain ⟨y, hy⟩ : ∃ y, y = (subTo F i).getD i 0 := ⟨_, rfl⟩
     rw [← hx] at cb hset
     rw [← hy] at cs
     have HX := Lib.hid hset; clear hset hx hy hq hk sb
     go_wp2_with fail
     refine (gf8Box _ x).mono ?_
     rintro e w9 ⟨rfl, nb, rfl⟩
     go_wp2
     go_roundw
     case rel =>
      refine ⟨i + 1, by omega, by go_num, ?_⟩
      have st := (s.drewN nb).store (i := i) (by rw [u8s_len, subTo_len]; exact hlt2) (.int .u8 (v8 (gbox x))) (q := i) (by simp)
      rw [u8s_set, HX.out] at st
      exact st
     case measure => simp [intOf]; omega
    ·obtain rfl : i = 16 := by omega
     rw [subTo_all] at s
     have hnx := HN.out.2.2.2.2.2.2.2.2 n
     rw [← HF.out.1] at hnx
     by_cases hmix : n + 1 < R
     ·have g2 : (n : Int) + 1 < (R : Int) := by omega
      rw [if_pos hmix] at hnx
      have hsl := sub_len F
      obtain ⟨S, hS⟩ : ∃ S, S = sub F := ⟨_, rfl⟩
      rw [← hS] at s hnx hsl
      have HS := Lib.hid (And.intro hnx hsl); clear hnx hsl hS
      go_wp2_with (first | (go_at_call 163; refine (HN.out.2.2.2.2.2.1 _ _ s.g).mono ?_; rintro e w' ⟨rfl, rfl⟩) | (refine wpl_ld8a rfl (.tmp 9) rfl Tryz.underlying210 Tryz.size_b16 s rfl HS.out.2 ?_))
      refine (aesMixedF mixRow S rfl rfl rfl HS.out.2 s).mono ?_
      rintro e w9 ⟨rfl, s11⟩
      clear s
      have hMl := mix_len mixRow S
      obtain ⟨M, hM⟩ : ∃ M, M = mix mixRow S := ⟨_, rfl⟩
      rw [← hM] at hMl ⊢
      have HM := Lib.hid (And.intro hM hMl); clear hM hMl
      go_wp2_with (first | (refine wpl_st8a rfl rfl (.tmp 9) (.tmp 52) rfl s11 Tryz.size_b16 rfl rfl HM.out.2 HS.out.2 ?_; intro w10 s12; clear s11) | (refine wpl_ld8a rfl (.tmp 9) rfl Tryz.underlying210 Tryz.size_b16 s12 rfl HM.out.2 ?_))
      refine (aesWithF ks M (n + 1) rfl rfl HN.out.1 HM.out.2 (by omega) (show Sat W0 w10 (cipS c kl ks (seg true gb 0 (u8s F) :: seg true gr 0 (u8s nought16) :: ledO p (note rs 5 (kl : Int) 1) :: L)) from s12.f)).mono ?_
      rintro e w11 ⟨rfl, s13⟩
      clear s12
      rw [HM.out.1, HS.out.1]
      have s14 : Sat W0 w11 (seg true gb 0 (u8s F) :: seg true gr 0 (u8s nought16) :: cipS c kl ks (ledO p (note rs 5 (kl : Int) 1) :: L)) := s13.f
      clear s13
      go_wp2_with (refine wpl_st8a rfl rfl (.tmp 5) (.tmp 56) rfl s14 Tryz.size_b16 rfl rfl (HN.out.2.2.2.2.2.2.1 (n + 1) (by omega)) HF.out.2 ?_; intro w12 s15; clear s14)
      go_roundw
      case rel => exact ⟨n + 1, by omega, by go_num, s15⟩
      case measure => simp [intOf]; omega
     ·have g2 : ¬ (n : Int) + 1 < (R : Int) := by omega
      rw [if_neg hmix] at hnx
      have hsl := sub_len F
      obtain ⟨S, hS⟩ : ∃ S, S = sub F := ⟨_, rfl⟩
      rw [← hS] at s hnx hsl
      have HS := Lib.hid (And.intro hnx hsl); clear hnx hsl hS
      go_wp2_with (first | (go_at_call 163; refine (HN.out.2.2.2.2.2.1 _ _ s.g).mono ?_; rintro e w' ⟨rfl, rfl⟩) | (refine wpl_ld8a rfl (.tmp 9) rfl Tryz.underlying210 Tryz.size_b16 s rfl HS.out.2 ?_))
      refine (aesWithF ks S (n + 1) rfl rfl HN.out.1 HS.out.2 (by omega) (show Sat W0 _ (cipS c kl ks (seg true gb 0 (u8s F) :: seg true gr 0 (u8s nought16) :: ledO p (note rs 5 (kl : Int) 1) :: L)) from s.f)).mono ?_
      rintro e w11 ⟨rfl, s13⟩
      clear s
      rw [HS.out.1]
      have s14 : Sat W0 w11 (seg true gb 0 (u8s F) :: seg true gr 0 (u8s nought16) :: cipS c kl ks (ledO p (note rs 5 (kl : Int) 1) :: L)) := s13.f
      clear s13
      go_wp2_with (refine wpl_st8a rfl rfl (.tmp 5) (.tmp 56) rfl s14 Tryz.size_b16 rfl rfl (HN.out.2.2.2.2.2.2.1 (n + 1) (by omega)) HF.out.2 ?_; intro w12 s15; clear s14)
      go_roundw
      case rel => exact ⟨n + 1, by omega, by go_num, s15⟩
      case measure => simp [intOf]; omega
  ·obtain rfl : n = R := by omega
   have g1 : ¬ (n : Int) + 1 ≤ (n : Int) := by omega
   have hEl := HN.out.2.2.2.2.2.2.1 n hR14
   obtain ⟨F, hFd⟩ : ∃ F, F = E n := ⟨_, rfl⟩
   rw [← hFd] at s hEl
   have HF := Lib.hid (And.intro hFd hEl); clear hFd hEl
   go_wp2_with (first | (go_at_call 163; refine (HN.out.2.2.2.2.2.1 _ _ s.g).mono ?_; rintro e w' ⟨rfl, rfl⟩) | (refine wpl_ld8a rfl (.tmp 5) rfl Tryz.underlying210 Tryz.size_b16 s rfl HF.out.2 ?_) | (refine wpl_st8a rfl rfl (.tmp 6) (.tmp 57) rfl (s.pull 1 : Sat W0 _ (seg true gr 0 (u8s nought16) :: _)) Tryz.size_b16 rfl rfl HF.out.2 nought16_len ?_; intro w9 s9))
   have s10 : Sat W0 w9 (seg true gr 0 (u8s F) :: seg true gb 0 (u8s F) :: cipS c kl ks (ledO p (note rs 5 (kl : Int) 1) :: L)) := s9
   refine bodyPost_ret (v := .tuple #[.agg (u8s F).toArray, .int .i64 0]) ?_ rfl ⟨by rw [HF.out.1], s10.f⟩
   have hr := run_ret8 Tryz.underlying210 Tryz.size_b16 s9 HF.out.2
   simp [results, Tryz.results129, asAddr, hr]
end Go.Proofs.YtbefjaodpbgpcaaGreat
