
/- The contracts of package word, and of the turnings of layers 5 and 6, of the program and of the document; each under the conditions that it names. -/
import Derived.Test.YtlmababpmmhhoaaGreatBv
import Derived.Test.YtlmababpmmhhoaaGreatRows
import Derived.Test.YtlmababpmmhhoaaGreatSep
import Derived.WalkKit
import Derived.WalkSpells
import Derived.WalkLawsBesides
import Derived.RegionTactic
import Derived.ChangeAlike
import Derived.BigRegion
import Derived.Deep.QuietTactic
import Derived.BigQuiet
namespace Go.Proofs.YtlmababpmmhhoaaGreat
open Go.RowKit Go.Sep Go.Bv
set_option linter.unusedVariables false
set_option linter.unusedSimpArgs false
theorem ret_int {k : IntKind} {a b : Int} (h : a = b) : Ending.returned (.int k a) = .returned (.int k b) := by rw [h]
theorem Tryz.info_u8 : (Tryz.prog.info? 5).map (fun i => (i.zero, i.size, i.bytes)) = some (some (.int .u8 0), 1, 1) := by kernel_rfl
set_option maxHeartbeats 400000 in
theorem within_yes (w : World) (a : Option Addr) (len cap : Nat) (at_ n : Nat) (hn : 0 < n) (h1 : at_ < len) (h2 : len ≤ 9223372036854775807) (h3 : n ≤ 8) : Calls Tryz.prog 95 #[.slice a len cap, .int .i64 (at_ : Int), .int .i64 (n : Int)] w fun e w' => e = .returned (.bool true) ∧ w = w' := by
  have h4 : (-(n : Int)) < (at_ : Int) := by omega
  go_enter Tryz.func95, Tryz.ntmps95
  go_wp2
  go_ret
  exact ⟨by simp [h1], rfl⟩
set_option maxHeartbeats 400000 in
theorem width32 (w : World) : Calls Tryz.prog 94 #[] w fun e w' => e = .returned (.int .i64 32) ∧ w = w' := by
  go_enter Tryz.func94, Tryz.ntmps94
  go_wp2
  go_ret
  exact ⟨rfl, rfl⟩
set_option maxHeartbeats 400000 in
theorem turn32 (w : World) (x : BitVec 32) (k : Nat) (hk : k < 32) : Calls Tryz.prog 96 #[.int .u32 (v32 x), .int .i64 (k : Int)] w fun e w' => e = .returned (.int .u32 (v32 (rotl x k))) ∧ ∃ n, w' = w.drewN n := by
  go_enter Tryz.func96, Tryz.ntmps96
  go_wp2_with (go_at_call 94; refine (width32 _).mono ?_; rintro e w' ⟨rfl, rfl⟩)
  go_quiet (fail)
  go_wp2
  go_ret
  refine ⟨ret_int ?_, _, rfl⟩
  show bits .or .u32 (v32 x * 2 ^ (k % 32) % 4294967296) (v32 x / 2 ^ (32 - k % 32)) = _
  rw [Nat.mod_eq_of_lt hk, vshl32, vshr32, vor32]
  rfl
set_option maxHeartbeats 1000000 in
theorem take32 {W0 w : World} {L : List Assn} {m : Bool} {b o len cap : Nat} {bs : List Byte} (at_ : Nat) (hs : Sat W0 w (seg m b o (u8s bs) :: L)) (hl : bs.length = len) (h : at_ + 4 ≤ len) (hm : len ≤ 9223372036854775807) :
    Calls Tryz.prog 82 #[.slice (some ⟨b, o, none⟩) len cap, .int .i64 (at_ : Int)] w fun e w' => e = .returned (.int .u32 (v32 (takeBE 32 ((bs.drop at_).take 4)))) ∧ w = w' := by
  have hl' := Lib.hid hl; clear hl
  go_enter Tryz.func82, Tryz.ntmps82
  go_wp2_with (first | (go_at_call 94; refine (width32 _).mono ?_; rintro e w' ⟨rfl, rfl⟩) | (go_at_call 95; refine (within_yes _ _ _ _ at_ 4 (by omega) (by omega) hm (by omega)).mono ?_; rintro e w' ⟨rfl, rfl⟩))
  go_loop [5, 17] (fun t5 t17 => ∃ i : Nat, i ≤ 4 ∧ t17 = .int .i64 i ∧ t5 = .int .u32 (v32 (takeBE 32 ((bs.drop at_).take i)))) (fun _ t17 => 4 - (intOf t17).toNat)
  case atStart => exact ⟨0, by omega, rfl, rfl⟩
  case round =>
    obtain ⟨i, hi, rfl, rfl⟩ := hrel
    by_cases hlt : i < 4
    · have hat : at_ + i < bs.length := by have := hl'.out; omega
      have c := hs.cell (u8s_get bs (at_ + i) hat)
      have e : (bs.drop at_).take (i + 1) = (bs.drop at_).take i ++ [bs.getD (at_ + i) 0] := by
        rw [List.take_succ_eq_append_getElem (by simp; omega)]
        simp [hat]
      have e2 := takeBE_snoc 32 ((bs.drop at_).take i) (bs.getD (at_ + i) 0)
      rw [← e] at e2
      have E := Lib.hid e2; clear e e2
      go_wp2
      go_round
      case rel =>
        refine ⟨i + 1, by omega, by go_num, ?_⟩
        rw [E.out, ← vor32, ← vwide32w, ← vshl32_8w]
        simp [hat, IntKind.wrap_u32]
      case measure => simp [intOf]; omega
    · obtain rfl : i = 4 := by omega
      go_wp2
      go_ret
      exact ⟨rfl, rfl⟩
theorem madeLay32 (x : BitVec 32) (i : Nat) (h : i < 4) : ((u8s ((List.range 4).map fun j => if j < i then (x >>> (8 * (4 - 1 - j))).setWidth 8 else 0)).set i (.int .u8 (v8 ((x >>> (8 * (4 - 1 - i))).setWidth 8)))) = u8s ((List.range 4).map fun j => if j < i + 1 then (x >>> (8 * (4 - 1 - j))).setWidth 8 else 0) := by
  rw [u8s_set]
  congr 1
  apply List.ext_getElem
  · simp
  · intro j h1 h2
    simp only [List.getElem_set, List.getElem_map, List.getElem_range]
    by_cases e : i = j
    · subst e; simp
    · rw [if_neg e]
      by_cases h : j < i
      · rw [if_pos h, if_pos (by omega)]
      · rw [if_neg h, if_neg (by omega)]
set_option maxHeartbeats 1000000 in
theorem lay32 {W0 w : World} {L : List Assn} (x : BitVec 32) (hs : Sat W0 w L) :
    Calls Tryz.prog 85 #[.int .u32 (v32 x)] w fun e w' => ∃ g, e = .returned (.slice (some ⟨g, 0, none⟩) 4 4) ∧ Sat W0 w' (seg true g 0 (u8s (layBE 4 x)) :: L) := by
  obtain ⟨i3, hi3, hz3, hs3, hb3⟩ := info_parts Tryz.info_u8
  have hm1 := fun w => run_make (P := Tryz.prog) w 41 5 i3 _ Tryz.underlying41 hi3 hz3 .i64 .i64 4 4 (by omega) (by omega) (by rw [hb3]; omega) (by omega)
  rw [hs3] at hm1
  clear hi3 hz3 hs3 hb3
  have hs0 := hs.make (.int .u8 0) 4 5
  rw [u8s_zero] at hs0
  go_enter Tryz.func85, Tryz.ntmps85
  go_wp2_with (go_at_call 94; refine (width32 _).mono ?_; rintro e w' ⟨rfl, rfl⟩)
  go_loopw [12] (fun t12 wr => ∃ i : Nat, i ≤ 4 ∧ t12 = .int .i64 i ∧ Sat W0 wr (seg true w.heap.size 0 (u8s ((List.range 4).map fun j => if j < i then (x >>> (8 * (4 - 1 - j))).setWidth 8 else 0)) :: L)) (fun t12 _ => 4 - (intOf t12).toNat)
  case atStart => exact ⟨0, by omega, rfl, hs0⟩
  case round =>
    obtain ⟨i, hi, rfl, hr⟩ := hrel
    by_cases hlt : i < 4
    · have c := hr.at i (u8s_get _ i (by simp; omega))
      have f := hr.fr i (by simp [u8s_len]; omega)
      have b1 : (8 : Int) * (4 - 1 - (i : Int)) = ((8 * (4 - 1 - i) : Nat) : Int) := by omega
      go_wp2
      go_roundw
      case rel =>
        refine ⟨i + 1, by omega, by go_num, ?_⟩
        have hst := hr.store (i := i) (by simp [u8s_len]; omega) (.int .u8 (v8 ((x >>> (8 * (4 - 1 - i))).setWidth 8))) (q := i) (by simp)
        rw [madeLay32 x i hlt] at hst
        rw [← vlow32, ← vshr32] at hst
        exact hst
      case measure => simp [intOf]; omega
    · obtain rfl : i = 4 := by omega
      go_wp2
      go_ret
      exact ⟨_, rfl, hr⟩
set_option maxHeartbeats 400000 in
theorem width64 (w : World) : Calls Tryz.prog 84 #[] w fun e w' => e = .returned (.int .i64 64) ∧ w = w' := by
  go_enter Tryz.func84, Tryz.ntmps84
  go_wp2
  go_ret
  exact ⟨rfl, rfl⟩
set_option maxHeartbeats 400000 in
theorem turn64 (w : World) (x : BitVec 64) (k : Nat) (hk : k < 64) : Calls Tryz.prog 97 #[.int .u64 (v64 x), .int .i64 (k : Int)] w fun e w' => e = .returned (.int .u64 (v64 (rotl x k))) ∧ ∃ n, w' = w.drewN n := by
  go_enter Tryz.func97, Tryz.ntmps97
  go_wp2_with (go_at_call 84; refine (width64 _).mono ?_; rintro e w' ⟨rfl, rfl⟩)
  go_quiet (fail)
  go_wp2
  go_ret
  refine ⟨ret_int ?_, _, rfl⟩
  show bits .or .u64 (v64 x * 2 ^ (k % 64) % 18446744073709551616) (v64 x / 2 ^ (64 - k % 64)) = _
  rw [Nat.mod_eq_of_lt hk, vshl64, vshr64, vor64]
  rfl
theorem tmod_neg_small (k : Nat) (h : k < 64) : (-(k : Int)).tmod 64 = -(k : Int) := by
  rw [Int.neg_tmod, Int.tmod_eq_emod_of_nonneg (by omega), Int.emod_eq_of_lt (by omega) (by omega)]
set_option maxHeartbeats 400000 in
theorem turn64n (w : World) (x : BitVec 64) (k : Nat) (h1 : 1 ≤ k) (h2 : k ≤ 63) : Calls Tryz.prog 97 #[.int .u64 (v64 x), .int .i64 (-(k : Int))] w fun e w' => e = .returned (.int .u64 (v64 (rotr x k))) ∧ ∃ n, w' = w.drewN n := by
  have e1 := tmod_neg_small k (by omega)
  have e2 : -(k : Int) + 64 = ((64 - k : Nat) : Int) := by omega
  have e3 : (-(k : Int)) < 0 := by omega
  go_enter Tryz.func97, Tryz.ntmps97
  go_wp2_with (go_at_call 84; refine (width64 _).mono ?_; rintro e w' ⟨rfl, rfl⟩)
  go_quiet (fail)
  go_wp2
  go_ret
  refine ⟨ret_int ?_, _, rfl⟩
  rw [← rotl_rotr x k (by omega), rotl, ← vor64, ← vshr64, ← vshl64w]
set_option maxHeartbeats 1000000 in
theorem take64 {W0 w : World} {L : List Assn} {m : Bool} {b o len cap : Nat} {bs : List Byte} (at_ : Nat) (hs : Sat W0 w (seg m b o (u8s bs) :: L)) (hl : bs.length = len) (h : at_ + 8 ≤ len) (hm : len ≤ 9223372036854775807) :
    Calls Tryz.prog 86 #[.slice (some ⟨b, o, none⟩) len cap, .int .i64 (at_ : Int)] w fun e w' => e = .returned (.int .u64 (v64 (takeBE 64 ((bs.drop at_).take 8)))) ∧ w = w' := by
  have hl' := Lib.hid hl; clear hl
  go_enter Tryz.func86, Tryz.ntmps86
  go_wp2_with (first | (go_at_call 84; refine (width64 _).mono ?_; rintro e w' ⟨rfl, rfl⟩) | (go_at_call 95; refine (within_yes _ _ _ _ at_ 8 (by omega) (by omega) hm (by omega)).mono ?_; rintro e w' ⟨rfl, rfl⟩))
  go_loop [5, 17] (fun t5 t17 => ∃ i : Nat, i ≤ 8 ∧ t17 = .int .i64 i ∧ t5 = .int .u64 (v64 (takeBE 64 ((bs.drop at_).take i)))) (fun _ t17 => 8 - (intOf t17).toNat)
  case atStart => exact ⟨0, by omega, rfl, rfl⟩
  case round =>
    obtain ⟨i, hi, rfl, rfl⟩ := hrel
    by_cases hlt : i < 8
    · have hat : at_ + i < bs.length := by have := hl'.out; omega
      have c := hs.cell (u8s_get bs (at_ + i) hat)
      have e : (bs.drop at_).take (i + 1) = (bs.drop at_).take i ++ [bs.getD (at_ + i) 0] := by
        rw [List.take_succ_eq_append_getElem (by simp; omega)]
        simp [hat]
      have e2 := takeBE_snoc 64 ((bs.drop at_).take i) (bs.getD (at_ + i) 0)
      rw [← e] at e2
      have E := Lib.hid e2; clear e e2
      go_wp2
      go_round
      case rel =>
        refine ⟨i + 1, by omega, by go_num, ?_⟩
        rw [E.out, ← vor64, ← vwide64w, ← vshl64_8w]
        simp [hat, IntKind.wrap_u64]
      case measure => simp [intOf]; omega
    · obtain rfl : i = 8 := by omega
      go_wp2
      go_ret
      exact ⟨rfl, rfl⟩
theorem madeLay64 (x : BitVec 64) (i : Nat) (h : i < 8) : ((u8s ((List.range 8).map fun j => if j < i then (x >>> (8 * (8 - 1 - j))).setWidth 8 else 0)).set i (.int .u8 (v8 ((x >>> (8 * (8 - 1 - i))).setWidth 8)))) = u8s ((List.range 8).map fun j => if j < i + 1 then (x >>> (8 * (8 - 1 - j))).setWidth 8 else 0) := by
  rw [u8s_set]
  congr 1
  apply List.ext_getElem
  · simp
  · intro j h1 h2
    simp only [List.getElem_set, List.getElem_map, List.getElem_range]
    by_cases e : i = j
    · subst e; simp
    · rw [if_neg e]
      by_cases h : j < i
      · rw [if_pos h, if_pos (by omega)]
      · rw [if_neg h, if_neg (by omega)]
set_option maxHeartbeats 1000000 in
theorem lay64 {W0 w : World} {L : List Assn} (x : BitVec 64) (hs : Sat W0 w L) :
    Calls Tryz.prog 70 #[.int .u64 (v64 x)] w fun e w' => ∃ g, e = .returned (.slice (some ⟨g, 0, none⟩) 8 8) ∧ Sat W0 w' (seg true g 0 (u8s (layBE 8 x)) :: L) := by
  obtain ⟨i3, hi3, hz3, hs3, hb3⟩ := info_parts Tryz.info_u8
  have hm1 := fun w => run_make (P := Tryz.prog) w 41 5 i3 _ Tryz.underlying41 hi3 hz3 .i64 .i64 8 8 (by omega) (by omega) (by rw [hb3]; omega) (by omega)
  rw [hs3] at hm1
  clear hi3 hz3 hs3 hb3
  have hs0 := hs.make (.int .u8 0) 8 5
  rw [u8s_zero] at hs0
  go_enter Tryz.func70, Tryz.ntmps70
  go_wp2_with (go_at_call 84; refine (width64 _).mono ?_; rintro e w' ⟨rfl, rfl⟩)
  go_loopw [12] (fun t12 wr => ∃ i : Nat, i ≤ 8 ∧ t12 = .int .i64 i ∧ Sat W0 wr (seg true w.heap.size 0 (u8s ((List.range 8).map fun j => if j < i then (x >>> (8 * (8 - 1 - j))).setWidth 8 else 0)) :: L)) (fun t12 _ => 8 - (intOf t12).toNat)
  case atStart => exact ⟨0, by omega, rfl, hs0⟩
  case round =>
    obtain ⟨i, hi, rfl, hr⟩ := hrel
    by_cases hlt : i < 8
    · have c := hr.at i (u8s_get _ i (by simp; omega))
      have f := hr.fr i (by simp [u8s_len]; omega)
      have b1 : (8 : Int) * (8 - 1 - (i : Int)) = ((8 * (8 - 1 - i) : Nat) : Int) := by omega
      go_wp2
      go_roundw
      case rel =>
        refine ⟨i + 1, by omega, by go_num, ?_⟩
        have hst := hr.store (i := i) (by simp [u8s_len]; omega) (.int .u8 (v8 ((x >>> (8 * (8 - 1 - i))).setWidth 8))) (q := i) (by simp)
        rw [madeLay64 x i hlt] at hst
        rw [← vlow64, ← vshr64] at hst
        exact hst
      case measure => simp [intOf]; omega
    · obtain rfl : i = 8 := by omega
      go_wp2
      go_ret
      exact ⟨_, rfl, hr⟩
set_option maxHeartbeats 400000 in
theorem right32 (w : World) (x : BitVec 32) (k : Nat) (h1 : 1 ≤ k) (h2 : k ≤ 31) : Calls Tryz.prog 83 #[.int .u32 (v32 x), .int .i64 (k : Int)] w fun e w' => e = .returned (.int .u32 (v32 (rotr x k))) ∧ ∃ n, w' = w.drewN n := by
  have b1 : (32 : Int) - (k : Int) = ((32 - k : Nat) : Int) := by omega
  have hc := turn32 w x (32 - k) (by omega)
  rw [rotl_rotr x k (by omega), ← b1] at hc
  clear b1
  go_enter Tryz.func83, Tryz.ntmps83
  go_wp2_with fail
  refine hc.mono ?_
  rintro e w' ⟨rfl, n, rfl⟩
  go_wp2
  go_ret
  exact ⟨rfl, n, rfl⟩
set_option maxHeartbeats 400000 in
theorem right64 (w : World) (x : BitVec 64) (k : Nat) (h1 : 1 ≤ k) (h2 : k ≤ 63) : Calls Tryz.prog 87 #[.int .u64 (v64 x), .int .i64 (k : Int)] w fun e w' => e = .returned (.int .u64 (v64 (rotr x k))) ∧ ∃ n, w' = w.drewN n := by
  have hc := turn64n w x k h1 h2
  go_enter Tryz.func87, Tryz.ntmps87
  go_wp2_with fail
  refine hc.mono ?_
  rintro e w' ⟨rfl, n, rfl⟩
  go_wp2
  go_ret
  exact ⟨rfl, n, rfl⟩
set_option maxHeartbeats 400000 in
theorem rright32 (w : World) (x : BitVec 32) (k : Nat) (h1 : 1 ≤ k) (h2 : k ≤ 31) : Calls Tryz.prog 99 #[.int .u32 (v32 x), .int .i64 (k : Int)] w fun e w' => e = .returned (.int .u32 (v32 (rotr x k))) ∧ ∃ n, w' = w.drewN n := by
  have b1 : ((32 - k : Nat) : Int) = (32 : Int) - (k : Int) := by omega
  go_enter Tryz.func99, Tryz.ntmps99
  go_wp2
  go_quiet (fail)
  go_wp2
  go_ret
  refine ⟨ret_int ?_, _, rfl⟩
  rw [rotr, ← vor32, ← vshr32, ← vshl32]
end Go.Proofs.YtlmababpmmhhoaaGreat
