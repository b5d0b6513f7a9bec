
/- The field of 256 elements, the cipher's steps, the double of a block, as plain functions on bytes. No condition but what each names. -/
import Derived.Test.YtooolimpkafhaaaGreatGA
namespace Go.Aes
open Go.Bv
set_option linter.unusedVariables false
set_option linter.unusedSimpArgs false
/-- One of the eight steps of a product: what is gathered, one factor doubled, the other one halved. -/
def gstep (s : Byte × Byte × Byte) : Byte × Byte × Byte := (s.1 ^^^ (s.2.1 &&& -(s.2.2 &&& 1)), (s.2.1 <<< 1) ^^^ (27 &&& -(s.2.1 >>> 7)), s.2.2 >>> 1)
def giter (s : Byte × Byte × Byte) : Nat → Byte × Byte × Byte
  | 0 => s
  | n + 1 => gstep (giter s n)
def gmul (a b : Byte) : Byte := (giter (0, a, b) 8).1
def istep (s : Byte × Byte) : Byte × Byte := (gmul s.1 s.1, gmul s.2 (gmul s.1 s.1))
def iiter (s : Byte × Byte) : Nat → Byte × Byte
  | 0 => s
  | n + 1 => istep (iiter s n)
def ginv (a : Byte) : Byte := (iiter (a, 1) 7).2
def gbox (a : Byte) : Byte := ginv a ^^^ rotl (ginv a) 1 ^^^ rotl (ginv a) 2 ^^^ rotl (ginv a) 3 ^^^ rotl (ginv a) 4 ^^^ 99
example : gbox 0x53 = 0xed := by decide +kernel
/-- A row of four elements on a block's columns: the bytes of the outcome that are reckoned so far. -/
def mixAt (m b : List Byte) (i : Nat) : Nat → Byte
  | 0 => 0
  | r + 1 => mixAt m b i r ^^^ gmul (m.getD ((r + 4 - i % 4) % 4) 0) (b.getD (i - i % 4 + r) 0)
def mix (m b : List Byte) : List Byte := (List.range 16).map fun i => mixAt m b i 4
def xorL (a b : List Byte) : List Byte := List.zipWith (· ^^^ ·) a b
theorem xorL_len (a b : List Byte) (h : a.length = b.length) : (xorL a b).length = a.length := by simp [xorL, h]
/-- The first j bytes xored. -/
def xorTo (xs ys : List Byte) (j : Nat) : List Byte := (List.range xs.length).map fun i => if i < j then xs.getD i 0 ^^^ ys.getD i 0 else xs.getD i 0
theorem xorTo_len (xs ys : List Byte) (j : Nat) : (xorTo xs ys j).length = xs.length := by simp [xorTo]
theorem xorTo_get (xs ys : List Byte) (j : Nat) (h : j < xs.length) : (xorTo xs ys j).getD j 0 = xs.getD j 0 := by simp [xorTo, h]
theorem xorTo_set (xs ys : List Byte) (j : Nat) : (xorTo xs ys j).set j (xs.getD j 0 ^^^ ys.getD j 0) = xorTo xs ys (j + 1) := by
  apply List.ext_getElem
  · simp [xorTo]
  · intro i h1 h2
    simp only [xorTo, List.length_set, List.length_map, List.length_range] at h1
    rw [List.getElem_set]
    by_cases e : j = i
    · subst e
      simp [xorTo]
    · rw [if_neg e]
      simp only [xorTo, List.getElem_map, List.getElem_range]
      by_cases h3 : i < j
      · rw [if_pos h3, if_pos (by omega)]
      · rw [if_neg h3, if_neg (by omega)]
theorem xorTo_zero (xs ys : List Byte) : xorTo xs ys 0 = xs := by
  apply List.ext_getElem
  · simp [xorTo]
  · intro i h1 h2
    simp [xorTo, List.getElem?_eq_getElem h2]
theorem xorTo_all (xs ys : List Byte) (n : Nat) (h : xs.length = n) (h2 : ys.length = n) : xorTo xs ys n = xorL xs ys := by
  subst h
  apply List.ext_getElem
  · simp [xorTo, xorL, h2]
  · intro i h1 h3
    have h4 : i < xs.length := by simpa [xorTo] using h1
    simp [xorTo, xorL, h4, List.getElem?_eq_getElem h4, List.getElem?_eq_getElem (show i < ys.length by omega)]
/-- The n bytes of a round's key. -/
def rkey (ks : List Byte) (r : Nat) : List Byte := (ks.drop (r * 16)).take 16
theorem rkey_len (ks : List Byte) (r : Nat) (h : ks.length = 240) (hr : r ≤ 14) : (rkey ks r).length = 16 := by
  unfold rkey; rw [List.length_take, List.length_drop, h]; omega
/-- What is mixed so far: the bytes ahead of i, and r of the four products of byte i. -/
def mixTo (m b : List Byte) (i r : Nat) : List Byte := (List.range 16).map fun j => if j < i then mixAt m b j 4 else if j = i then mixAt m b i r else 0
theorem mixTo_len (m b : List Byte) (i r : Nat) : (mixTo m b i r).length = 16 := by simp [mixTo]
theorem mixTo_get (m b : List Byte) (i r : Nat) (h : i < 16) : (mixTo m b i r).getD i 0 = mixAt m b i r := by simp [mixTo, h]
theorem mixTo_set (m b : List Byte) (i r : Nat) : (mixTo m b i r).set i (mixAt m b i (r + 1)) = mixTo m b i (r + 1) := by
  apply List.ext_getElem
  · simp [mixTo]
  · intro j h1 h2
    rw [List.getElem_set]
    by_cases e : i = j
    · subst e
      simp [mixTo]
    · rw [if_neg e]
      simp only [mixTo, List.getElem_map, List.getElem_range]
      by_cases h3 : j < i
      · rw [if_pos h3, if_pos h3]
      · rw [if_neg h3, if_neg h3, if_neg (by omega), if_neg (by omega)]
theorem mixTo_next (m b : List Byte) (i : Nat) : mixTo m b i 4 = mixTo m b (i + 1) 0 := by
  apply List.ext_getElem
  · simp [mixTo]
  · intro j h1 h2
    simp only [mixTo, List.getElem_map, List.getElem_range]
    by_cases h3 : j < i
    · rw [if_pos h3, if_pos (by omega)]
    · rw [if_neg h3]
      by_cases h4 : j = i
      · subst h4; rw [if_pos rfl, if_pos (by omega)]
      · rw [if_neg h4, if_neg (by omega)]
        by_cases h5 : j = i + 1
        · subst h5; rw [if_pos rfl]; rfl
        · rw [if_neg h5]
theorem mixTo_all (m b : List Byte) : mixTo m b 16 0 = mix m b := by
  apply List.ext_getElem
  · simp [mixTo, mix]
  · intro j h1 h2
    have : j < 16 := by simpa [mixTo] using h1
    simp [mixTo, mix, this]
theorem mixTo_zero (m b : List Byte) : mixTo m b 0 0 = List.replicate 16 0 := by
  apply List.ext_getElem
  · simp [mixTo]
  · intro j h1 h2
    simp only [mixTo, List.getElem_map, List.getElem_range, List.getElem_replicate]
    rw [if_neg (by omega)]
    by_cases h : j = 0
    · rw [if_pos h]; rfl
    · rw [if_neg h]
theorem mix_len (m b : List Byte) : (mix m b).length = 16 := by simp [mix]
/-- A block's bytes through the box, its rows shifted; so far. -/
def sub (b : List Byte) : List Byte := (List.range 16).map fun i => gbox (b.getD ((i + 4 * (i % 4)) % 16) 0)
def subTo (b : List Byte) (i : Nat) : List Byte := (List.range 16).map fun j => if j < i then gbox (b.getD ((j + 4 * (j % 4)) % 16) 0) else 0
theorem sub_len (b : List Byte) : (sub b).length = 16 := by simp [sub]
theorem subTo_len (b : List Byte) (i : Nat) : (subTo b i).length = 16 := by simp [subTo]
theorem subTo_zero (b : List Byte) : subTo b 0 = List.replicate 16 0 := by
  apply List.ext_getElem
  · simp [subTo]
  · intro j h1 h2
    simp only [subTo, List.getElem_map, List.getElem_range, List.getElem_replicate]
    rw [if_neg (by omega)]
theorem subTo_all (b : List Byte) : subTo b 16 = sub b := by
  apply List.ext_getElem
  · simp [subTo, sub]
  · intro j h1 h2
    have : j < 16 := by simpa [subTo] using h1
    simp [subTo, sub, this]
theorem subTo_set (b : List Byte) (i : Nat) : (subTo b i).set i (gbox (b.getD ((i + 4 * (i % 4)) % 16) 0)) = subTo b (i + 1) := by
  apply List.ext_getElem
  · simp [subTo]
  · intro j h1 h2
    rw [List.getElem_set]
    by_cases e : i = j
    · subst e
      simp [subTo]
    · rw [if_neg e]
      simp only [subTo, List.getElem_map, List.getElem_range]
      by_cases h3 : j < i
      · rw [if_pos h3, if_pos (by omega)]
      · rw [if_neg h3, if_neg (by omega)]
/-- A block behind the first n of R rounds. -/
def encR (ks : List Byte) (R : Nat) (b : List Byte) : Nat → List Byte
  | 0 => xorL b (rkey ks 0)
  | n + 1 => xorL (if n + 1 < R then mix [2, 3, 1, 1] (sub (encR ks R b n)) else sub (encR ks R b n)) (rkey ks (n + 1))
def aesEnc (kl : Nat) (ks b : List Byte) : List Byte := encR ks (kl / 4 + 6) b (kl / 4 + 6)
theorem encR_len (ks : List Byte) (R : Nat) (b : List Byte) (hk : ks.length = 240) (hb : b.length = 16) : ∀ n, n ≤ 14 → (encR ks R b n).length = 16
  | 0, _ => by rw [encR, xorL_len _ _ (by rw [hb, rkey_len ks 0 hk (by decide)]), hb]
  | n + 1, h => by
    have h1 : (if n + 1 < R then mix [2, 3, 1, 1] (sub (encR ks R b n)) else sub (encR ks R b n)).length = 16 := by
      split
      · exact mix_len _ _
      · exact sub_len _
    rw [encR, xorL_len _ _ (by rw [h1, rkey_len ks _ hk (by omega)]), h1]
theorem aesEnc_len (kl : Nat) (ks b : List Byte) (hk : ks.length = 240) (hb : b.length = 16) (h : kl ≤ 32) : (aesEnc kl ks b).length = 16 := encR_len ks _ b hk hb _ (by omega)
/-- The words of a key's schedule, one behind the other. -/
def word (W : List Byte) (i : Nat) : List Byte := (W.drop (i * 4)).take 4
theorem word_len (W : List Byte) (i : Nat) (h : i * 4 + 4 ≤ W.length) : (word W i).length = 4 := by unfold word; rw [List.length_take, List.length_drop]; omega
def boxL (w : List Byte) : List Byte := w.map gbox
theorem boxL_len (w : List Byte) : (boxL w).length = w.length := by simp [boxL]
def kturn (t : List Byte) (x : Byte) : List Byte := [gbox (t.getD 1 0) ^^^ x, gbox (t.getD 2 0), gbox (t.getD 3 0), gbox (t.getD 0 0)]
def kword (k i : Nat) (t : List Byte) (x : Byte) : List Byte :=
  if i % k = 0 then kturn t x else if k = 8 ∧ i % 8 = 4 then boxL t else t
theorem kword_len (k i : Nat) (t : List Byte) (x : Byte) (h : t.length = 4) : (kword k i t x).length = 4 := by
  unfold kword
  split
  · rfl
  · split
    · rw [boxL_len, h]
    · exact h
def kx (k i : Nat) (x : Byte) : Byte := if i % k = 0 then gmul x 2 else x
def kiter (key : List Byte) (k : Nat) : Nat → List Byte × Byte
  | 0 => (key, 1)
  | n + 1 => ((kiter key k n).1 ++ xorL (word (kiter key k n).1 n) (kword k (k + n) (word (kiter key k n).1 (k + n - 1)) (kiter key k n).2), kx k (k + n) (kiter key k n).2)
theorem kiter_len (key : List Byte) (k : Nat) (h : key.length = 4 * k) (hk : 0 < k) : ∀ n, (kiter key k n).1.length = 4 * (k + n)
  | 0 => h
  | n + 1 => by
    have ih := kiter_len key k h hk n
    rw [kiter]
    simp only
    rw [List.length_append, ih, xorL_len _ _ (by rw [word_len _ _ (by omega), kword_len _ _ _ _ (word_len _ _ (by omega))]), word_len _ _ (by omega)]
    omega
def expand (key : List Byte) : List Byte := (kiter key (key.length / 4) (3 * (key.length / 4) + 28)).1 ++ List.replicate (240 - 4 * (4 * (key.length / 4) + 28)) 0
theorem expand_len (key : List Byte) (k : Nat) (h : key.length = 4 * k) (h4 : 4 ≤ k) (h8 : k ≤ 8) : (expand key).length = 240 := by
  unfold expand
  rw [show key.length / 4 = k by omega, List.length_append, kiter_len key k h (by omega), List.length_replicate]
  omega
theorem word_take (W : List Byte) (i : Nat) : W.take (i * 4) ++ word W i = W.take ((i + 1) * 4) := by
  unfold word
  rw [Nat.succ_mul, List.take_add]
end Go.Aes
