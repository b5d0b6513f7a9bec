/- Layer 15's program: HKDF; under the conditions that each names. -/
import Derived.Test.YtmohabidfalhoaaRng
import Derived.Test.YtmohabidfalhoaaHm4
import Derived.RangeFuncNested
import Derived.RangeFuncBound
import Derived.Shelf.RegionOpen
import Derived.OwnWalkIn
import Derived.TacticsInMore
import Derived.LoopNIn
import Derived.LoopIn
namespace Go.Sha
open Go.Bv
/-- T(i): T(0) is empty. -/
def hkT (wide : Bool) (prk info : List Byte) : Nat → List Byte
  | 0 => []
  | i + 1 => hmac wide prk (hkT wide prk info i ++ info ++ [BitVec.ofNat 8 (i + 1)])
/-- The first i of them, one behind the other. -/
def hkOut (wide : Bool) (prk info : List Byte) : Nat → List Byte
  | 0 => []
  | i + 1 => hkOut wide prk info i ++ hkT wide prk info (i + 1)
/-- How many of them n bytes want. -/
def hkM (wide : Bool) (n : Nat) : Nat := (n + hsz wide - 1) / hsz wide
def hkdf (wide : Bool) (prk info : List Byte) (n : Nat) : List Byte := (hkOut wide prk info (hkM wide n)).take n
theorem hkT_len (wide : Bool) (prk info : List Byte) (i : Nat) : (hkT wide prk info i).length = if i = 0 then 0 else hsz wide := by
  cases i with
  | zero => rfl
  | succ i => exact hmac_len _ _ _
theorem hkOut_len (wide : Bool) (prk info : List Byte) (i : Nat) : (hkOut wide prk info i).length = i * hsz wide := by
  induction i with
  | zero => simp [hkOut]
  | succ i ih => rw [hkOut, List.length_append, ih, hkT_len, if_neg (by omega), Nat.succ_mul]
end Go.Sha
namespace Go.Proofs.Ytmohabidfalhoaa
open Go.RowKit Go.Sep Go.Bv Go.Sha
set_option linter.unusedVariables false
set_option linter.unusedSimpArgs false
/-- How many blocks of the hash a step of Expand takes: t bytes ahead, n of information. -/
def hkStep (wide : Bool) (t n : Nat) : Nat := (t + n + 1) / bsz wide + endN wide (t + n + 1)
def hkCnt (wide : Bool) (n : Nat) : Nat → Nat
  | 0 => 0
  | i + 1 => hkCnt wide n i + hkStep wide (if i = 0 then 0 else hsz wide) n
/-- How many blocks Expand takes. -/
def expN (wide : Bool) (k m n : Nat) : Nat := keyN wide k + hkCnt wide m (hkM wide n)
set_option maxHeartbeats 1000000 in
theorem hkMay {W0 w : World} {L : List Assn} (wide : Bool) (z : Int) (r : Int) (hr : r = if z < 0 then 2 else if 255 * (hsz wide : Int) < z then 9 else 0) (hs : Sat W0 w L) :
    Calls Try.prog 83 #[.int .u8 (algN wide), .int .i64 z] w fun e w' => e = .returned (.int .i64 r) ∧ Sat W0 w' L := by
  cases wide
  · skip
    go_enter Try.func83, Try.ntmps83
    go_wp2_with fail
    refine (dOf false hs).mono ?_
    rintro e w1 ⟨rfl, s1⟩
    have s2 := s1.alloc (hcells false).toArray 29
    have c1 := s2.at 1 rfl
    have z1 := s2.lt (by simp [hcells])
    simp only [hsz] at hr
    simp only [hcells] at c1 z1 ⊢
    by_cases h1 : z < 0
    · rw [if_pos h1] at hr
      subst hr
      go_wp2
      go_ret
      exact ⟨rfl, s2.tail⟩
    · rw [if_neg h1] at hr
      by_cases h2 : 8160 < z
      · have hr9 : r = 9 := by rw [hr]; exact if_pos (by omega)
        clear hr
        subst hr9
        go_wp2
        go_ret
        exact ⟨rfl, s2.tail⟩
      · have hr0 : r = 0 := by rw [hr]; exact if_neg (by omega)
        clear hr
        subst hr0
        go_wp2
        go_ret
        exact ⟨rfl, s2.tail⟩
  · skip
    go_enter Try.func83, Try.ntmps83
    go_wp2_with fail
    refine (dOf true hs).mono ?_
    rintro e w1 ⟨rfl, s1⟩
    have s2 := s1.alloc (hcells true).toArray 29
    have c1 := s2.at 1 rfl
    have z1 := s2.lt (by simp [hcells])
    simp only [hsz] at hr
    simp only [hcells] at c1 z1 ⊢
    by_cases h1 : z < 0
    · rw [if_pos h1] at hr
      subst hr
      go_wp2
      go_ret
      exact ⟨rfl, s2.tail⟩
    · rw [if_neg h1] at hr
      by_cases h2 : 16320 < z
      · have hr9 : r = 9 := by rw [hr]; exact if_pos (by omega)
        clear hr
        subst hr9
        go_wp2
        go_ret
        exact ⟨rfl, s2.tail⟩
      · have hr0 : r = 0 := by rw [hr]; exact if_neg (by omega)
        clear hr
        subst hr0
        go_wp2
        go_ret
        exact ⟨rfl, s2.tail⟩
set_option maxHeartbeats 1000000 in
theorem hkMayNone {W0 w : World} {L : List Assn} (a : Int) (h1 : ¬ a = 1) (h2 : ¬ a = 2) (v : Value) (hs : Sat W0 w L) :
    Calls Try.prog 83 #[.int .u8 a, v] w fun e w' => e = .returned (.int .i64 4) ∧ Sat W0 w' L := by
  go_enter Try.func83, Try.ntmps83
  go_wp2_with fail
  refine (dOfNone a h1 h2 hs).mono ?_
  rintro e w1 ⟨rfl, s1⟩
  simp only [hbare]
  go_wp2
  go_ret
  exact ⟨rfl, (s1.alloc _ _).tail⟩
set_option maxHeartbeats 1000000 in
theorem hkBlocks {W0 w : World} {L : List Assn} (pl pm ip : Option Addr) (ni ic : Nat) (hs : Sat W0 w L) :
    Calls Try.prog 84 #[.pointer pl, .pointer pm, .slice ip ni ic] w fun e w' => ∃ bl bm bi, e = .returned (.func (.func 101) #[] #[.pointer (some ⟨bm, 0, none⟩), .pointer (some ⟨bl, 0, none⟩), .pointer (some ⟨bi, 0, none⟩)]) ∧ Sat W0 w' (seg true bi 0 [.slice ip ni ic] :: seg true bm 0 [.pointer pm] :: seg true bl 0 [.pointer pl] :: L) := by
  have s := ((hs.allocAt #[.pointer pl] 44 rfl).allocAt #[.pointer pm] 76 (q := w.heap.size + 1) (by simp)).allocAt #[.slice ip ni ic] 39 (q := w.heap.size + 1 + 1) (by simp)
  go_enter Try.func84, Try.ntmps84
  go_wp2
  go_ret
  exact ⟨_, _, _, rfl, s⟩
end Go.Proofs.Ytmohabidfalhoaa
