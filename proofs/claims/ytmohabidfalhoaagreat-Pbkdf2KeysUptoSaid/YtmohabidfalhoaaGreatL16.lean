
/- The helpers of layer 16's statements: alg, Pick, starts, awake; under the conditions that each names. -/
import Derived.Test.YtmohabidfalhoaaGreatPbk4
namespace Go.Proofs.YtmohabidfalhoaaGreat
open Go.RowKit Go.Sep Go.Bv Go.Sha
set_option linter.unusedVariables false
set_option linter.unusedSimpArgs false
theorem pbEx1 : ((pbMany false [112, 97, 115, 115, 119, 111, 114, 100] [115, 97, 108, 116] 1 (pbM false 32)).take 32).take 8 = [0x12, 0x0f, 0xb6, 0xcf, 0xfc, 0xf8, 0xb3, 0x2c] := by decide +kernel
theorem pbEx2 : ((pbMany false [112, 97, 115, 115, 119, 111, 114, 100] [115, 97, 108, 116] 2 (pbM false 32)).take 32).take 8 = [0xae, 0x4d, 0x0c, 0x95, 0xaf, 0x6b, 0x46, 0xd3] := by decide +kernel
theorem pbEx3 : ((pbMany true [112, 97, 115, 115, 119, 111, 114, 100] [115, 97, 108, 116] 1 (pbM true 64)).take 64).take 8 = [0x86, 0x7f, 0x70, 0xcf, 0x1a, 0xde, 0x02, 0xcf] := by decide +kernel
theorem pbEx4 : ((pbMany true [] [] 3 (pbM true 10)).take 10).take 10 = [0xba, 0x78, 0xa2, 0xc1, 0x8f, 0xe1, 0xf3, 0xcf, 0xff, 0xab] := by decide +kernel

/-- A number from 0 to n - 1, out of any. -/
def pickN (i : Int) (n : Nat) : Nat := (if i.tmod n < 0 then i.tmod n + n else i.tmod n).toNat
theorem pickN_lt (i : Int) (n : Nat) (h : 0 < n) : pickN i n < n := by
  unfold pickN
  have h1 := Int.tmod_lt_of_pos i (show (0 : Int) < n by omega)
  have h2 : -(n : Int) < i.tmod n := by
    rcases Int.le_total 0 i with hi | hi
    · have := Int.tmod_nonneg (n : Int) hi; omega
    · have h3 := Int.tmod_lt_of_pos (-i) (show (0 : Int) < n by omega)
      rw [Int.neg_tmod] at h3; omega
  split <;> omega
set_option maxHeartbeats 1000000 in
theorem pick16 (w : World) (i : Int) (n : Nat) (h : 0 < n) (hn : n ≤ 4294967296) : Calls Tryz.prog 31 #[.int .i64 i, .int .i64 (n : Int)] w fun e w' => e = .returned (.int .i64 (pickN i n : Int)) ∧ w = w' := by
  have h1 := Int.tmod_lt_of_pos i (show (0 : Int) < n by omega)
  have h2 : -(n : Int) < i.tmod n := by
    rcases Int.le_total 0 i with hi | hi
    · have := Int.tmod_nonneg (n : Int) hi; omega
    · have h3 := Int.tmod_lt_of_pos (-i) (show (0 : Int) < n by omega)
      rw [Int.neg_tmod] at h3; omega
  have h3 : pickN i n = (if i.tmod n < 0 then i.tmod n + n else i.tmod n).toNat := rfl
  obtain ⟨z, hz⟩ : ∃ z, z = i.tmod n := ⟨_, rfl⟩
  rw [← hz] at h1 h2 h3
  have hw : IntKind.i64.wrap z = z := by rw [IntKind.wrap_i64]; omega
  have hb : ((n : Int) == 0) = false := by simp; omega
  have hn0 : ¬ (n : Int) = 0 := by omega
  have hn1 : (0 : Int) < (n : Int) := by omega
  have hn2 : (n : Int) ≤ 4294967296 := by omega
  have hz2 : i.tmod n = z := hz.symm
  have H3 := Lib.hid h3; clear h3 hz
  by_cases hneg : z < 0
  · have hv : (pickN i n : Int) = z + n := by rw [H3.out, if_pos hneg]; omega
    have Hv := Lib.hid hv; clear hv
    go_enter Tryz.func31, Tryz.ntmps31
    go_wp2
    go_ret
    exact ⟨by rw [Hv.out]; rfl, rfl⟩
  · have hv : (pickN i n : Int) = z := by rw [H3.out, if_neg hneg]; omega
    have Hv := Lib.hid hv; clear hv
    go_enter Tryz.func31, Tryz.ntmps31
    go_wp2
    go_ret
    exact ⟨by rw [Hv.out]; rfl, rfl⟩
end Go.Proofs.YtmohabidfalhoaaGreat
