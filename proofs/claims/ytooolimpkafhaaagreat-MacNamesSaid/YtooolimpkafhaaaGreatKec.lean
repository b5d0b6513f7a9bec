
/- Words, the lowest byte first; a word turned by any number; no condition but what each names. -/
import Derived.Test.YtooolimpkafhaaaGreatAr8
import Derived.Test.YtooolimpkafhaaaGreatGA
import Derived.Test.YtooolimpkafhaaaGreatGF
namespace Go.Kec
open Go.Bv
set_option linter.unusedVariables false
/-- The lowest byte first. -/
def layLE (x : BitVec 64) : List Byte := (List.range 8).map fun i => (x >>> (8 * i)).setWidth 8
def takeLE (b : List Byte) (n : Nat) : BitVec 64 := (List.range n).foldl (fun x i => x ||| ((b.getD i 0).setWidth 64 <<< (8 * i))) 0
theorem layLE_len (x : BitVec 64) : (layLE x).length = 8 := by simp [layLE]
theorem takeLE_succ (b : List Byte) (n : Nat) : takeLE b (n + 1) = takeLE b n ||| ((b.getD n 0).setWidth 64 <<< (8 * n)) := by simp [takeLE, List.range_succ]
end Go.Kec
namespace Go.Proofs.YtooolimpkafhaaaGreat
open Go.RowKit Go.Sep Go.Bv Go.Kec
set_option linter.unusedVariables false
set_option linter.unusedSimpArgs false
set_option maxHeartbeats 400000 in
theorem turn64k (w : World) (x : BitVec 64) (k : Nat) (hk : k < 1000) : Calls Tryz.prog 256 #[.int .u64 (v64 x), .int .i64 (k : Int)] w fun e w' => e = .returned (.int .u64 (v64 (rotl x (k % 64)))) ∧ ∃ n, w' = w.drewN n := by
  go_enter Tryz.func256, Tryz.ntmps256
  go_wp2_with (go_at_call 251; refine (width64 _).mono ?_; rintro e w' ⟨rfl, rfl⟩)
  go_quiet (fail)
  go_wp2
  go_ret
  refine ⟨ret_int ?_, _, rfl⟩
  show bits .or .u64 (v64 x * 2 ^ (k % 64) % 18446744073709551616) (v64 x / 2 ^ (64 - k % 64)) = _
  rw [vshl64, vshr64, vor64]
  rfl
theorem madeLE (x : BitVec 64) (i : Nat) (h : i < 8) : ((u8s ((List.range 8).map fun j => if j < i then (x >>> (8 * j)).setWidth 8 else 0)).set i (.int .u8 (v8 ((x >>> (8 * i)).setWidth 8)))) = u8s ((List.range 8).map fun j => if j < i + 1 then (x >>> (8 * j)).setWidth 8 else 0) := by
  rw [u8s_set]
  congr 1
  apply List.ext_getElem
  · simp
  · intro j h1 h2
    simp only [List.getElem_set, List.getElem_map, List.getElem_range]
    by_cases e : i = j
    · subst e; simp
    · rw [if_neg e]
      by_cases h : j < i
      · rw [if_pos h, if_pos (by omega)]
      · rw [if_neg h, if_neg (by omega)]
set_option maxHeartbeats 1000000 in
theorem layLE64 {W0 w : World} {L : List Assn} (x : BitVec 64) (hs : Sat W0 w L) :
    Calls Tryz.prog 232 #[.int .u64 (v64 x)] w fun e w' => ∃ g, e = .returned (.slice (some ⟨g, 0, none⟩) 8 8) ∧ Sat W0 w' (seg true g 0 (u8s (layLE x)) :: L) := by
  obtain ⟨i3, hi3, hz3, hs3, hb3⟩ := info_parts Tryz.info_u8
  have hm1 := fun w => run_make (P := Tryz.prog) w 23 5 i3 _ Tryz.underlying23 hi3 hz3 .i64 .i64 8 8 (by omega) (by omega) (by rw [hb3]; omega) (by omega)
  rw [hs3] at hm1
  clear hi3 hz3 hs3 hb3
  have hs0 := hs.make (.int .u8 0) 8 5
  rw [u8s_zero] at hs0
  go_enter Tryz.func232, Tryz.ntmps232
  go_wp2_with (go_at_call 251; refine (width64 _).mono ?_; rintro e w' ⟨rfl, rfl⟩)
  go_loopw [10] (fun t10 wr => ∃ i : Nat, i ≤ 8 ∧ t10 = .int .i64 i ∧ Sat W0 wr (seg true w.heap.size 0 (u8s ((List.range 8).map fun j => if j < i then (x >>> (8 * j)).setWidth 8 else 0)) :: L)) (fun t10 _ => 8 - (intOf t10).toNat)
  case atStart => exact ⟨0, by omega, rfl, hs0⟩
  case round =>
    obtain ⟨i, hi, rfl, hr⟩ := hrel
    by_cases hlt : i < 8
    · have c := hr.at i (u8s_get _ i (by simp; omega))
      have f := hr.fr i (by simp [u8s_len]; omega)
      go_wp2
      go_roundw
      case rel =>
        refine ⟨i + 1, by omega, by go_num, ?_⟩
        have hst := hr.store (i := i) (by simp [u8s_len]; omega) (.int .u8 (v8 ((x >>> (8 * i)).setWidth 8))) (q := i) (by simp)
        rw [madeLE x i hlt] at hst
        rw [← vlow64, ← vshr64] at hst
        exact hst
      case measure => simp [intOf]; omega
    · obtain rfl : i = 8 := by omega
      go_wp2
      go_ret
      exact ⟨_, rfl, hr⟩
set_option maxHeartbeats 1000000 in
theorem takeLE64 {W0 w : World} {L : List Assn} {m : Bool} {b o len cap : Nat} {bs : List Byte} (at_ : Nat) (hs : Sat W0 w (seg m b o (u8s bs) :: L)) (hl : bs.length = len) (h : at_ + 8 ≤ len) (hm : len ≤ 9223372036854775807) :
    Calls Tryz.prog 236 #[.slice (some ⟨b, o, none⟩) len cap, .int .i64 (at_ : Int)] w fun e w' => e = .returned (.int .u64 (v64 (takeLE (bs.drop at_) 8))) ∧ w = w' := by
  have hl' := Lib.hid hl; clear hl
  go_enter Tryz.func236, Tryz.ntmps236
  go_wp2_with (first | (go_at_call 251; refine (width64 _).mono ?_; rintro e w' ⟨rfl, rfl⟩) | (go_at_call 257; refine (within_yes _ _ _ _ at_ 8 (by omega) (by omega) hm (by omega)).mono ?_; rintro e w' ⟨rfl, rfl⟩))
  go_loop [5, 17] (fun t5 t17 => ∃ i : Nat, i ≤ 8 ∧ t17 = .int .i64 i ∧ t5 = .int .u64 (v64 (takeLE (bs.drop at_) i))) (fun _ t17 => 8 - (intOf t17).toNat)
  case atStart => exact ⟨0, by omega, rfl, rfl⟩
  case round =>
    obtain ⟨i, hi, rfl, rfl⟩ := hrel
    by_cases hlt : i < 8
    · have hat : at_ + i < bs.length := by have := hl'.out; omega
      have c := hs.cell (u8s_get bs (at_ + i) hat)
      have e : (bs.drop at_).getD i 0 = bs.getD (at_ + i) 0 := by simp [List.getElem?_drop]
      have e2 := takeLE_succ (bs.drop at_) i
      rw [e] at e2
      have E := Lib.hid e2; clear e e2
      go_wp2
      go_round
      case rel =>
        refine ⟨i + 1, by omega, by go_num, ?_⟩
        rw [E.out, ← vor64, ← vshl64w, ← vwide64w]
        simp [hat, IntKind.wrap_u64]
      case measure => simp [intOf]; omega
    · obtain rfl : i = 8 := by omega
      go_wp2
      go_ret
      exact ⟨rfl, rfl⟩
end Go.Proofs.YtooolimpkafhaaaGreat
