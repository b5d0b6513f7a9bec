
/- Layer 12's program: HMAC; under the conditions that each names. -/
import Derived.Test.YtlmababpmmhhoaaGreatWpm
namespace Go.Sha
open Go.Bv
/-- A block key, each byte xored with a number. -/
def xorKey (wide : Bool) (k : List Byte) (x : Byte) : List Byte := (List.range (bsz wide)).map fun i => k.getD i 0 ^^^ x
def blockKey (wide : Bool) (key : List Byte) : List Byte := if bsz wide < key.length then hash wide key else key
def hmac (wide : Bool) (key msg : List Byte) : List Byte := hash wide (xorKey wide (blockKey wide key) 92 ++ hash wide (xorKey wide (blockKey wide key) 54 ++ msg))
theorem xorKey_len (wide : Bool) (k : List Byte) (x : Byte) : (xorKey wide k x).length = bsz wide := by simp [xorKey]
theorem bsz_pos (wide : Bool) : 0 < bsz wide := by cases wide <;> decide
theorem bsz_le (wide : Bool) : bsz wide ≤ 128 := by cases wide <;> decide
theorem hsz_le (wide : Bool) : hsz wide ≤ bsz wide := by cases wide <;> decide
theorem blockKey_len (wide : Bool) (key : List Byte) : (blockKey wide key).length ≤ bsz wide := by
  unfold blockKey; split
  · rw [hash_len]; exact hsz_le wide
  · omega
end Go.Sha
namespace Go.Proofs.YtlmababpmmhhoaaGreat
open Go.RowKit Go.Sep Go.Bv Go.Sha
set_option linter.unusedVariables false
set_option linter.unusedSimpArgs false
/-- The key's bytes so far xored. -/
def xorPart (wide : Bool) (k : List Byte) (x : Byte) (j : Nat) : List Byte := (List.range (bsz wide)).map fun i => if i < j then k.getD i 0 ^^^ x else k.getD i 0
theorem xorPart_len (wide : Bool) (k : List Byte) (x : Byte) (j : Nat) : (xorPart wide k x j).length = bsz wide := by simp [xorPart]
theorem xorPart_get (wide : Bool) (k : List Byte) (x : Byte) (j : Nat) (h : j < bsz wide) : (xorPart wide k x j).getD j 0 = k.getD j 0 := by simp [xorPart, h]
theorem xorPart_set (wide : Bool) (k : List Byte) (x : Byte) (j : Nat) : (xorPart wide k x j).set j (k.getD j 0 ^^^ x) = xorPart wide k x (j + 1) := by
  apply List.ext_getElem
  · simp [xorPart]
  · intro i h1 h2
    simp only [xorPart, List.getElem_set, List.getElem_map, List.getElem_range]
    by_cases e : j = i
    · subst e; simp
    · rw [if_neg e]
      by_cases h : i < j
      · rw [if_pos h, if_pos (by omega)]
      · rw [if_neg h, if_neg (by omega)]
theorem xorPart_all (wide : Bool) (k : List Byte) (x : Byte) : xorPart wide k x (bsz wide) = xorKey wide k x := by
  unfold xorPart xorKey
  apply List.map_congr_left
  intro i hi
  rw [if_pos (List.mem_range.1 hi)]
theorem xorPart_none (wide : Bool) (k : List Byte) (x : Byte) (hk : k.length ≤ bsz wide) : setL (u8s (List.replicate (bsz wide) 0)) 0 (u8s k) = u8s (xorPart wide k x 0) := by
  apply List.ext_getElem?
  intro i
  rw [getElem?_setL _ _ _ _ (by rw [u8s_len, u8s_len, List.length_replicate]; omega)]
  simp only [u8s, xorPart, List.length_map, List.getElem?_map, Nat.sub_zero, Nat.zero_le, true_and, Nat.zero_add, List.getElem?_replicate]
  by_cases h1 : i < bsz wide
  · by_cases h2 : i < k.length
    · simp [h1, h2]
    · simp [h1, h2]
  · rw [if_neg (by omega)]
    simp [h1]
/-- A mac of a key (as its block key) behind a message. -/
def mac (wide : Bool) (c : Nat) (k msg : List Byte) : Assn := fun h => ∃ b : Nat × Nat × Nat, sep (seg true c 0 [.int .i64 (hsz wide : Int), ifv wide b.1, ifv wide b.2.1, ifv wide b.2.2]) (sep (dst wide b.1 (xorKey wide k 54 ++ msg)) (sep (dst wide b.2.1 (xorKey wide k 92)) (dst wide b.2.2 (xorKey wide k 54)))) h
/-- The same, its parts side by side. -/
abbrev macP (wide : Bool) (c b1 b2 b3 : Nat) (k msg : List Byte) (L : List Assn) : List Assn :=
  seg true c 0 [.int .i64 (hsz wide : Int), ifv wide b1, ifv wide b2, ifv wide b3] :: dst wide b1 (xorKey wide k 54 ++ msg) :: dst wide b2 (xorKey wide k 92) :: dst wide b3 (xorKey wide k 54) :: L
theorem macOpen {W0 w : World} {L : List Assn} {wide : Bool} {c : Nat} {k msg : List Byte} (h : Sat W0 w (mac wide c k msg :: L)) : ∃ b1 b2 b3, Sat W0 w (macP wide c b1 b2 b3 k msg L) := by
  obtain ⟨b, h⟩ := h.exOpen
  exact ⟨b.1, b.2.1, b.2.2, h.open4⟩
theorem macShut {W0 w : World} {L : List Assn} {wide : Bool} {c b1 b2 b3 : Nat} {k msg : List Byte} (h : Sat W0 w (macP wide c b1 b2 b3 k msg L)) : Sat W0 w (mac wide c k msg :: L) :=
  Sat.exShut (A := fun b : Nat × Nat × Nat => sep (seg true c 0 [.int .i64 (hsz wide : Int), ifv wide b.1, ifv wide b.2.1, ifv wide b.2.2]) (sep (dst wide b.1 (xorKey wide k 54 ++ msg)) (sep (dst wide b.2.1 (xorKey wide k 92)) (dst wide b.2.2 (xorKey wide k 54))))) (b1, b2, b3) h.shut4
/-- How many blocks New works on. -/
def keyN (wide : Bool) (n : Nat) : Nat := if bsz wide < n then padN wide n + 2 else 2
end Go.Proofs.YtlmababpmmhhoaaGreat
