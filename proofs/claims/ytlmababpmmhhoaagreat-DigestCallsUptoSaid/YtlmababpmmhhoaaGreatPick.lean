
/- The kit's Pick; under the conditions that it names. -/
import Derived.Test.YtlmababpmmhhoaaGreatLed
namespace Go.Proofs.YtlmababpmmhhoaaGreat
open Go.RowKit Go.Sep
set_option linter.unusedVariables false
set_option linter.unusedSimpArgs false
/-- A number from 0 to n - 1, out of any. -/
def pickM (i : Int) (n : Nat) : Nat := (if i.tmod n < 0 then i.tmod n + n else i.tmod n).toNat
theorem pickM_lt (i : Int) (n : Nat) (h : 0 < n) : pickM i n < n := by
  unfold pickM
  have h1 := Int.tmod_lt_of_pos i (show (0 : Int) < n by omega)
  have h2 : -(n : Int) < i.tmod n := by
    rcases Int.le_total 0 i with hi | hi
    · have := Int.tmod_nonneg (n : Int) hi; omega
    · have h3 := Int.tmod_lt_of_pos (-i) (show (0 : Int) < n by omega)
      rw [Int.neg_tmod] at h3; omega
  split <;> omega
set_option maxHeartbeats 1000000 in
theorem pickW (w : World) (i : Int) (n : Nat) (h : 0 < n) (hn : n ≤ 4294967296) : Calls Tryz.prog 21 #[.int .i64 i, .int .i64 (n : Int)] w fun e w' => e = .returned (.int .i64 (pickM i n : Int)) ∧ w = w' := by
  have h1 := Int.tmod_lt_of_pos i (show (0 : Int) < n by omega)
  have h2 : -(n : Int) < i.tmod n := by
    rcases Int.le_total 0 i with hi | hi
    · have := Int.tmod_nonneg (n : Int) hi; omega
    · have h3 := Int.tmod_lt_of_pos (-i) (show (0 : Int) < n by omega)
      rw [Int.neg_tmod] at h3; omega
  have h3 : pickM i n = (if i.tmod n < 0 then i.tmod n + n else i.tmod n).toNat := rfl
  obtain ⟨z, hz⟩ : ∃ z, z = i.tmod n := ⟨_, rfl⟩
  rw [← hz] at h1 h2 h3
  have hw : IntKind.i64.wrap z = z := by rw [IntKind.wrap_i64]; omega
  have hb : ((n : Int) == 0) = false := by simp; omega
  have hn0 : ¬ (n : Int) = 0 := by omega
  have hn1 : (0 : Int) < (n : Int) := by omega
  have hn2 : (n : Int) ≤ 4294967296 := by omega
  have hz2 : i.tmod n = z := hz.symm
  have H3 := Lib.hid h3; clear h3 hz
  by_cases hneg : z < 0
  · have hv : (pickM i n : Int) = z + n := by rw [H3.out, if_pos hneg]; omega
    have Hv := Lib.hid hv; clear hv
    go_enter Tryz.func21, Tryz.ntmps21
    go_wp2
    go_ret
    exact ⟨by rw [Hv.out]; rfl, rfl⟩
  · have hv : (pickM i n : Int) = z := by rw [H3.out, if_neg hneg]; omega
    have Hv := Lib.hid hv; clear hv
    go_enter Tryz.func21, Tryz.ntmps21
    go_wp2
    go_ret
    exact ⟨by rw [Hv.out]; rfl, rfl⟩
theorem pickG {w : World} {i nv : Int} (n : Nat) (hn : nv = (n : Int)) (h : 0 < n) (hb : n ≤ 4294967296) : Calls Tryz.prog 21 #[.int .i64 i, .int .i64 nv] w fun e w' => ∃ k : Nat, k < n ∧ e = .returned (.int .i64 (k : Int)) ∧ w = w' := by
  subst hn
  refine (pickW w i n h hb).mono ?_
  rintro e w' ⟨rfl, rfl⟩
  exact ⟨_, pickM_lt i n h, rfl, rfl⟩
end Go.Proofs.YtlmababpmmhhoaaGreat
