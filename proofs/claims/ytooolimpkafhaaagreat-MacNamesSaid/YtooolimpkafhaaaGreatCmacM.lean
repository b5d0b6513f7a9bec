
/- CMAC as plain functions on bytes: the double of a block, a message taken byte by byte. No condition but what each names. -/
import Derived.Test.YtooolimpkafhaaaGreatAesM
import Derived.Test.YtooolimpkafhaaaGreatAr8
namespace Go.Aes
open Go.Bv Go.Sep
set_option linter.unusedVariables false
set_option linter.unusedSimpArgs false
/-- The double of a block: what is shifted so far. -/
def dblAt (b : List Byte) (i : Nat) : Byte := if i < 15 then (b.getD i 0 <<< 1) ||| (b.getD (i + 1) 0 >>> 7) else b.getD i 0 <<< 1
def dblTo (b : List Byte) (n : Nat) : List Byte := (List.range 16).map fun i => if i < n then dblAt b i else 0
def dbl (b : List Byte) : List Byte := (dblTo b 16).set 15 ((b.getD 15 0 <<< 1) ^^^ (135 &&& -(b.getD 0 0 >>> 7)))
theorem dblTo_len (b : List Byte) (n : Nat) : (dblTo b n).length = 16 := by simp [dblTo]
theorem dbl_len (b : List Byte) : (dbl b).length = 16 := by simp [dbl, dblTo]
theorem dblTo_zero (b : List Byte) : dblTo b 0 = List.replicate 16 0 := by
  apply List.ext_getElem
  · simp [dblTo]
  · intro j h1 h2
    simp only [dblTo, List.getElem_map, List.getElem_range, List.getElem_replicate]
    rw [if_neg (by omega)]
theorem dblTo_set (b : List Byte) (n : Nat) : (dblTo b n).set n (dblAt b n) = dblTo b (n + 1) := by
  apply List.ext_getElem
  · simp [dblTo]
  · intro j h1 h2
    rw [List.getElem_set]
    by_cases e : n = j
    · subst e
      simp [dblTo]
    · rw [if_neg e]
      simp only [dblTo, List.getElem_map, List.getElem_range]
      by_cases h3 : j < n
      · rw [if_pos h3, if_pos (by omega)]
      · rw [if_neg h3, if_neg (by omega)]
theorem dblTo_get (b : List Byte) : (dblTo b 16).getD 15 0 = b.getD 15 0 <<< 1 := by simp [dblTo, dblAt]
/-- A mac's chain, what waits, how many bytes of it. -/
abbrev CSt := List Byte × List Byte × Nat
def z16 : List Byte := List.replicate 16 0
def cstep (E : List Byte → List Byte) (s : CSt) (x : Byte) : CSt :=
  if s.2.2 = 16 then (E (xorL s.1 s.2.1), z16.set 0 x, 1) else (s.1, s.2.1.set s.2.2 x, s.2.2 + 1)
def cfold (E : List Byte → List Byte) (s : CSt) (p : List Byte) : CSt := p.foldl (cstep E) s
theorem cfold_nil (E : List Byte → List Byte) (s : CSt) : cfold E s [] = s := rfl
theorem cfold_append (E : List Byte → List Byte) (s : CSt) (p q : List Byte) : cfold E s (p ++ q) = cfold E (cfold E s p) q := by simp [cfold]
theorem putB_nil (B : List Byte) (k : Nat) (h : k ≤ B.length) : putB B k [] = B := by simp [putB]
theorem putB_cons (B : List Byte) (k : Nat) (x : Byte) (C : List Byte) (h : k + (x :: C).length ≤ B.length) : putB (B.set k x) (k + 1) C = putB B k (x :: C) := by
  simp only [List.length_cons] at h
  unfold putB
  rw [List.take_succ_eq_append_getElem (by rw [List.length_set]; omega), List.take_set_of_le (Nat.le_refl _), List.getElem_set_self, List.drop_set_of_lt (by omega)]
  simp only [List.length_cons, List.append_assoc, List.singleton_append, List.cons_append, List.nil_append]
  rw [show k + 1 + C.length = k + (C.length + 1) by omega]
/-- Bytes for which there is room. -/
theorem cfold_room (E : List Byte → List Byte) : ∀ (p : List Byte) (ch wt : List Byte) (n : Nat), n + p.length ≤ 16 → wt.length = 16 → cfold E (ch, wt, n) p = (ch, putB wt n p, n + p.length)
  | [], ch, wt, n, h, hw => by rw [cfold_nil, putB_nil _ _ (by simp at h; omega)]; rfl
  | x :: p, ch, wt, n, h, hw => by
    simp only [List.length_cons] at h
    have hs : cstep E (ch, wt, n) x = (ch, wt.set n x, n + 1) := by unfold cstep; rw [if_neg (by simp only; omega)]
    have ih := cfold_room E p ch (wt.set n x) (n + 1) (by omega) (by rw [List.length_set, hw])
    show cfold E (cstep E (ch, wt, n) x) p = _
    rw [hs, ih, putB_cons _ _ _ _ (by simp only [List.length_cons]; omega)]
    simp only [List.length_cons]
    rw [show n + 1 + p.length = n + (p.length + 1) by omega]
/-- A full block is worked off as soon as a byte follows. -/
theorem cfold_full (E : List Byte → List Byte) (p : List Byte) (ch wt : List Byte) (hp : p ≠ []) : cfold E (ch, wt, 16) p = cfold E (E (xorL ch wt), z16, 0) p := by
  match p, hp with
  | x :: p, _ =>
    show cfold E (cstep E (ch, wt, 16) x) p = cfold E (cstep E (E (xorL ch wt), z16, 0) x) p
    congr 1
/-- How many bytes wait behind n that waited and l more; how many blocks were worked off. -/
def cwait (n l : Nat) : Nat := if n + l = 0 then 0 else (n + l - 1) % 16 + 1
def cblocks (n l : Nat) : Nat := (n + l - 1) / 16
end Go.Aes
