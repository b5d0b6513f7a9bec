
/- Layer 16's program: PBKDF2; under the conditions that each names. -/
import Derived.Test.YtooolimpkafhaaaGreatGG
namespace Go.Sha
open Go.Bv
def xorB (a b : List Byte) : List Byte := List.zipWith (· ^^^ ·) a b
def pbU (wide : Bool) (key u0 : List Byte) : Nat → List Byte
  | 0 => u0
  | n + 1 => hmac wide key (pbU wide key u0 n)
def pbOut (wide : Bool) (key u0 : List Byte) : Nat → List Byte
  | 0 => u0
  | n + 1 => xorB (pbOut wide key u0 n) (pbU wide key u0 (n + 1))
def pbFirst (wide : Bool) (key salt : List Byte) (i : Nat) : List Byte := hmac wide key (salt ++ layBE 4 (BitVec.ofNat 32 i))
/-- A block. -/
def pbBlock (wide : Bool) (key salt : List Byte) (count i : Nat) : List Byte := pbOut wide key (pbFirst wide key salt i) (count - 1)
/-- The first m blocks, one behind the other. -/
def pbMany (wide : Bool) (key salt : List Byte) (count : Nat) : Nat → List Byte
  | 0 => []
  | m + 1 => pbMany wide key salt count m ++ pbBlock wide key salt count (m + 1)
theorem hmac_len (wide : Bool) (key msg : List Byte) : (hmac wide key msg).length = hsz wide := hash_len _ _
theorem pbU_len (wide : Bool) (key u0 : List Byte) (h : u0.length = hsz wide) (n : Nat) : (pbU wide key u0 n).length = hsz wide := by
  cases n with
  | zero => exact h
  | succ n => exact hmac_len _ _ _
theorem pbOut_len (wide : Bool) (key u0 : List Byte) (h : u0.length = hsz wide) (n : Nat) : (pbOut wide key u0 n).length = hsz wide := by
  induction n with
  | zero => exact h
  | succ n ih => rw [pbOut, xorB, List.length_zipWith, ih, pbU_len wide key u0 h, Nat.min_self]
theorem pbBlock_len (wide : Bool) (key salt : List Byte) (count i : Nat) : (pbBlock wide key salt count i).length = hsz wide := pbOut_len _ _ _ (hmac_len _ _ _) _
theorem pbMany_len (wide : Bool) (key salt : List Byte) (count m : Nat) : (pbMany wide key salt count m).length = m * hsz wide := by
  induction m with
  | zero => simp [pbMany]
  | succ m ih => rw [pbMany, List.length_append, ih, pbBlock_len, Nat.succ_mul]
end Go.Sha
namespace Go.Proofs.YtooolimpkafhaaaGreat
open Go.RowKit Go.Sep Go.Bv Go.Sha
set_option linter.unusedVariables false
set_option linter.unusedSimpArgs false
/-- What is xored so far. -/
def xorUp (xs ys : List Byte) (j : Nat) : List Byte := (List.range xs.length).map fun i => if i < j then xs.getD i 0 ^^^ ys.getD i 0 else 0
theorem xorUp_len (xs ys : List Byte) (j : Nat) : (xorUp xs ys j).length = xs.length := by simp [xorUp]
theorem xorUp_set (xs ys : List Byte) (j : Nat) : (xorUp xs ys j).set j (xs.getD j 0 ^^^ ys.getD j 0) = xorUp xs ys (j + 1) := by
  apply List.ext_getElem
  · simp [xorUp]
  · intro i h1 h2
    simp only [xorUp, List.getElem_set, List.getElem_map, List.getElem_range]
    by_cases e : j = i
    · subst e; simp
    · rw [if_neg e]
      by_cases h : i < j
      · rw [if_pos h, if_pos (by omega)]
      · rw [if_neg h, if_neg (by omega)]
theorem xorUp_zero (xs ys : List Byte) : List.replicate xs.length (0 : Byte) = xorUp xs ys 0 := by
  apply List.ext_getElem <;> simp [xorUp]
theorem xorUp_all (xs ys : List Byte) (h : xs.length = ys.length) : xorUp xs ys xs.length = xorB xs ys := by
  apply List.ext_getElem
  · simp [xorUp, xorB, h]
  · intro i h1 h2
    have hi : i < xs.length := by simpa [xorUp] using h1
    have hy : i < ys.length := by omega
    simp [xorUp, xorB, hi, hy]
end Go.Proofs.YtooolimpkafhaaaGreat
