
/- The field of 256 elements, as the program reckons in it; under the conditions that each names. -/
import Derived.Test.YtooolimpkafhaaaGreatGA
import Derived.Test.YtooolimpkafhaaaGreatAesM
namespace Go.Bv
theorem vneg8 (x : BitVec 8) : (-(v8 x)) % 256 = v8 (-x) := by
  unfold v8
  have h := BitVec.toNat_neg (x := x)
  have := x.isLt
  rw [h]
  omega
theorem vneg8w (x : BitVec 8) : IntKind.u8.wrap (-(v8 x)) = v8 (-x) := by rw [IntKind.wrap_u8, vneg8]
theorem vand8_1 (x : BitVec 8) : bits .and .u8 (v8 x) 1 = v8 (x &&& 1) := vand8 x 1
theorem vand8_27 (x : BitVec 8) : bits .and .u8 27 (v8 x) = v8 (27 &&& x) := vand8 27 x
theorem vxor8_99 (x : BitVec 8) : bits .xor .u8 (v8 x) 99 = v8 (x ^^^ 99) := vxor8 x 99
theorem vshl8 (x : BitVec 8) (n : Nat) : (v8 x * 2 ^ n) % 256 = v8 (x <<< n) := by
  unfold v8
  rw [BitVec.toNat_shiftLeft, Nat.shiftLeft_eq]; simp
theorem vshl8w (x : BitVec 8) (n : Nat) : IntKind.u8.wrap (v8 x * 2 ^ n) = v8 (x <<< n) := by rw [IntKind.wrap_u8, vshl8]
theorem vshl8_1 (x : BitVec 8) : (v8 x * (2 : Int)) % (256 : Int) = v8 (x <<< 1) := vshl8 x 1
theorem vshr8 (x : BitVec 8) (n : Nat) : v8 x / 2 ^ n = v8 (x >>> n) := shr x n
theorem vshr8_1 (x : BitVec 8) : v8 x / (2 : Int) = v8 (x >>> 1) := shr x 1
theorem vshr8_7 (x : BitVec 8) : v8 x / (128 : Int) = v8 (x >>> 7) := shr x 7
theorem wrap_v8 (x : BitVec 8) : IntKind.u8.wrap (v8 x) = v8 x := by rw [IntKind.wrap_u8]; have := v8_bd x; omega
theorem mod_v8 (x : BitVec 8) : v8 x % 256 = v8 x := by have := v8_bd x; omega
end Go.Bv
namespace Go.Proofs.YtooolimpkafhaaaGreat
open Go.RowKit Go.Sep Go.Bv Go.Aes
set_option linter.unusedVariables false
set_option linter.unusedSimpArgs false
set_option maxHeartbeats 1000000 in
theorem gf8Mul (w : World) (a b : Byte) : Calls Tryz.prog 201 #[.int .u8 (v8 a), .int .u8 (v8 b)] w fun e w' => e = .returned (.int .u8 (v8 (gmul a b))) ∧ w' = w := by
  go_enter Tryz.func201, Tryz.ntmps201
  go_wp2
  go_loopw [0, 1, 5, 6] (fun t0 t1 t5 t6 wr => ∃ (i : Nat) (p x y : Byte), i ≤ 8 ∧ giter (0, a, b) i = (p, x, y) ∧ t6 = .int .i64 (i : Int) ∧ t5 = .int .u8 (v8 p) ∧ t0 = .int .u8 (v8 x) ∧ t1 = .int .u8 (v8 y) ∧ wr = w) (fun _ _ _ t6 _ => 8 - (intOf t6).toNat)
  case atStart => exact ⟨0, 0, a, b, Nat.zero_le _, rfl, rfl, rfl, rfl, rfl, by simp⟩
  case round =>
    obtain ⟨i, p, x, y, hi, hg, rfl, rfl, rfl, rfl, rfl⟩ := hrel
    by_cases hlt : i < 8
    · have HG := Lib.hid hg; clear hg
      go_wp2
      go_roundw
      case rel =>
        refine ⟨i + 1, (gstep (p, x, y)).1, (gstep (p, x, y)).2.1, (gstep (p, x, y)).2.2, by omega, ?_, by go_num, ?_, ?_, ?_, trivial⟩
        · rw [giter, HG.out]
        · rw [vand8_1, vneg8, vand8, vxor8]; rfl
        · rw [vshl8_1, vshr8_7, vneg8, vand8_27, vxor8]; rfl
        · rw [vshr8_1]; rfl
      case measure => simp [intOf]; omega
    · obtain rfl : i = 8 := by omega
      go_wp2
      go_ret
      refine ⟨?_, rfl⟩
      unfold gmul
      rw [hg]
      rfl
set_option maxHeartbeats 1000000 in
theorem gf8Inv (w : World) (a : Byte) : Calls Tryz.prog 202 #[.int .u8 (v8 a)] w fun e w' => e = .returned (.int .u8 (v8 (ginv a))) ∧ w' = w := by
  have hM := fun x y : Byte => gf8Mul w x y
  have HM := Lib.hid hM; clear hM
  go_enter Tryz.func202, Tryz.ntmps202
  go_wp2
  go_loopw [0, 3, 4] (fun t0 t3 t4 wr => ∃ (i : Nat) (x p : Byte), i ≤ 7 ∧ iiter (a, 1) i = (x, p) ∧ t4 = .int .i64 (i : Int) ∧ t0 = .int .u8 (v8 x) ∧ t3 = .int .u8 (v8 p) ∧ wr = w) (fun _ _ t4 _ => 7 - (intOf t4).toNat)
  case atStart => exact ⟨0, a, 1, Nat.zero_le _, rfl, rfl, rfl, rfl, by simp⟩
  case round =>
    obtain ⟨i, x, p, hi, hg, rfl, rfl, rfl, rfl⟩ := hrel
    by_cases hlt : i < 7
    · have HG := Lib.hid hg; clear hg
      go_wp2_with fail
      refine (HM.out x x).mono ?_
      rintro e w1 ⟨rfl, rfl⟩
      go_wp2_with fail
      refine (HM.out p (gmul x x)).mono ?_
      rintro e w2 ⟨rfl, rfl⟩
      go_wp2
      go_roundw
      case rel =>
        refine ⟨i + 1, gmul x x, gmul p (gmul x x), by omega, ?_, by go_num, rfl, rfl, trivial⟩
        rw [iiter, HG.out]; rfl
      case measure => simp [intOf]; omega
    · obtain rfl : i = 7 := by omega
      go_wp2
      go_ret
      refine ⟨?_, rfl⟩
      unfold ginv
      rw [hg]
      rfl
set_option maxHeartbeats 1000000 in
theorem gf8turn (w : World) (a : Byte) (k : Nat) (h1 : 1 ≤ k) (h2 : k ≤ 7) : Calls Tryz.prog 203 #[.int .u8 (v8 a), .int .i64 (k : Int)] w fun e w' => e = .returned (.int .u8 (v8 (rotl a k))) ∧ ∃ n, w' = w.drewN n := by
  have e1 : IntKind.i64.wrap (8 - (k : Int)) = ((8 - k : Nat) : Int) := by rw [IntKind.wrap_i64]; omega
  have g1 : (0 : Int) ≤ (k : Int) := by omega
  have g2 : k < 8 := by omega
  have g3 : 8 - k < 8 := by omega
  go_enter Tryz.func203, Tryz.ntmps203
  go_wp2_with fail
  go_quiet (fail)
  go_wp2
  go_ret
  refine ⟨?_, _, rfl⟩
  show Ending.returned (Value.int .u8 (bits .or .u8 (v8 a * 2 ^ k % 256) (v8 a / 2 ^ (8 - k)))) = _
  rw [vshl8, vshr8, vor8]
  rfl
set_option maxHeartbeats 1000000 in
theorem gf8Box (w : World) (a : Byte) : Calls Tryz.prog 158 #[.int .u8 (v8 a)] w fun e w' => e = .returned (.int .u8 (v8 (gbox a))) ∧ ∃ n, w' = w.drewN n := by
  obtain ⟨y, hy⟩ : ∃ y, y = ginv a := ⟨_, rfl⟩
  have hI := gf8Inv w a
  rw [← hy] at hI
  have hfin : gbox a = y ^^^ rotl y 1 ^^^ rotl y 2 ^^^ rotl y 3 ^^^ rotl y 4 ^^^ 99 := by rw [hy]; rfl
  rw [hfin]
  have HI := Lib.hid hI; clear hI hy hfin
  go_enter Tryz.func158, Tryz.ntmps158
  go_wp2_with fail
  refine HI.out.mono ?_
  rintro e w1 ⟨rfl, rfl⟩
  go_wp2_with fail
  refine (gf8turn w1 y 1 (by decide) (by decide)).mono ?_
  rintro e w2 ⟨rfl, n2, rfl⟩
  go_wp2_with fail
  refine (gf8turn _ y 2 (by decide) (by decide)).mono ?_
  rintro e w3 ⟨rfl, n3, rfl⟩
  go_wp2_with fail
  refine (gf8turn _ y 3 (by decide) (by decide)).mono ?_
  rintro e w4 ⟨rfl, n4, rfl⟩
  go_wp2_with fail
  refine (gf8turn _ y 4 (by decide) (by decide)).mono ?_
  rintro e w5 ⟨rfl, n5, rfl⟩
  go_wp2
  go_ret
  refine ⟨?_, n2 + n3 + n4 + n5, by simp only [World.drewN_drewN, Nat.add_assoc]⟩
  show Ending.returned (Value.int .u8 (bits .xor .u8 (bits .xor .u8 (bits .xor .u8 (bits .xor .u8 (bits .xor .u8 (v8 y) (v8 (rotl y 1))) (v8 (rotl y 2))) (v8 (rotl y 3))) (v8 (rotl y 4))) 99)) = _
  rw [vxor8, vxor8, vxor8, vxor8, vxor8_99]
end Go.Proofs.YtooolimpkafhaaaGreat
