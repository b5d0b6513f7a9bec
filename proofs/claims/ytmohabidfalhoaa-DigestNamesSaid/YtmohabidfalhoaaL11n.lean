/- DigestNames: chapter 11's numbers and examples hold; there is no argument. -/
import Derived.Test.YtmohabidfalhoaaL11
namespace Go.Proofs.Ytmohabidfalhoaa
open Go.RowKit Go.Sep Go.Bv Go.Sha
set_option linter.unusedVariables false
set_option linter.unusedSimpArgs false
set_option maxRecDepth 100000 in
set_option maxHeartbeats 8000000 in
theorem names_any (W : World) : Calls Try.prog 3 #[] W fun e W' => e = .returned (.bool true) ∧ Below W.heap.size W W' := by
  go_enter Try.func3, Try.ntmps3
  go_wp2
  go_loopw [1] (fun t1 wr => ∃ i : Nat, i ≤ 256 ∧ t1 = .int .i64 (i : Int) ∧ Sat W wr []) (fun t1 _ => 256 - (intOf t1).toNat)
  case atStart => exact ⟨0, by omega, rfl, Sat.nil W⟩
  case round =>
    obtain ⟨i, hi, rfl, s⟩ := hrel
    by_cases hlt : i < 256
    · by_cases h1 : i = 1
      · subst h1
        go_wp2_with fail
        refine (dOf false s).mono ?_
        rintro e w1 ⟨rfl, s1⟩
        simp only [hcells]
        have s2 := s1.alloc (hcells false).toArray 29
        obtain ⟨bx, hbx⟩ : ∃ bx, bx = w1.heap.size := ⟨_, rfl⟩
        rw [← hbx] at s2
        simp only [hcells] at s2
        go_wp2_with fail
        refine (rOf false s2).mono ?_
        rintro e w2 ⟨rfl, s3⟩
        rw [← hbx]
        clear hbx s2 s1 s
        have z := s3.lt (by simp)
        have c0 := s3.at 0 rfl
        have c1 := s3.at 1 rfl
        have c2 := s3.at 2 rfl
        have c3 := s3.at 3 rfl
        have c4 := s3.at 4 rfl
        have c5 := s3.at 5 rfl
        have c6 := s3.at 6 rfl
        have s4 := s3.alloc' (.cells (rcells false).toArray 34)
        have hw := whole11 false s4
        simp only [hcells, rcells] at hw ⊢
        go_wp2_with fail
        refine hw.mono ?_
        rintro e w3 ⟨rfl, s5⟩
        go_wp2
        go_roundw
        case rel => exact ⟨2, by omega, rfl, s5.tail⟩
        case measure => simp [intOf]
      · by_cases h2 : i = 2
        · subst h2
          go_wp2_with fail
          refine (dOf true s).mono ?_
          rintro e w1 ⟨rfl, s1⟩
          simp only [hcells]
          have s2 := s1.alloc (hcells true).toArray 29
          obtain ⟨bx, hbx⟩ : ∃ bx, bx = w1.heap.size := ⟨_, rfl⟩
          rw [← hbx] at s2
          simp only [hcells] at s2
          go_wp2_with fail
          refine (rOf true s2).mono ?_
          rintro e w2 ⟨rfl, s3⟩
          rw [← hbx]
          clear hbx s2 s1 s
          have z := s3.lt (by simp)
          have c0 := s3.at 0 rfl
          have c1 := s3.at 1 rfl
          have c2 := s3.at 2 rfl
          have c3 := s3.at 3 rfl
          have c4 := s3.at 4 rfl
          have c5 := s3.at 5 rfl
          have c6 := s3.at 6 rfl
          have s4 := s3.alloc' (.cells (rcells true).toArray 34)
          have hw := whole11 true s4
          simp only [hcells, rcells] at hw ⊢
          go_wp2_with fail
          refine hw.mono ?_
          rintro e w3 ⟨rfl, s5⟩
          go_wp2
          go_roundw
          case rel => exact ⟨3, by omega, rfl, s5.tail⟩
          case measure => simp [intOf]
        · have g1 : ¬ (i : Int) = 1 := by omega
          have g2 : ¬ (i : Int) = 2 := by omega
          go_wp2_with fail
          refine (dOfNone (i : Int) g1 g2 s).mono ?_
          rintro e w1 ⟨rfl, s1⟩
          simp only [hbare]
          have s2 := s1.alloc hbare.toArray 29
          obtain ⟨bx, hbx⟩ : ∃ bx, bx = w1.heap.size := ⟨_, rfl⟩
          rw [← hbx] at s2
          simp only [hbare] at s2
          go_wp2_with fail
          refine (rOfNone (i : Int) g1 g2 s2).mono ?_
          rintro e w2 ⟨rfl, s3⟩
          rw [← hbx]
          clear hbx s2 s1 s
          have z := s3.lt (by simp)
          have c0 := s3.at 0 rfl
          have c1 := s3.at 1 rfl
          have c2 := s3.at 2 rfl
          have c3 := s3.at 3 rfl
          have c4 := s3.at 4 rfl
          have c5 := s3.at 5 rfl
          have c6 := s3.at 6 rfl
          have s4 := s3.alloc' (.cells rbare.toArray 34)
          have hw := bare11 s4
          simp only [hbare, rbare] at hw ⊢
          go_wp2_with fail
          refine hw.mono ?_
          rintro e w3 ⟨rfl, s5⟩
          go_wp2
          go_roundw
          case rel => exact ⟨i + 1, by omega, by go_num, s5.tail⟩
          case measure => simp [intOf]; omega
    · obtain rfl : i = 256 := by omega
      go_wp2_with fail
      refine (dOfNone 3 (by decide) (by decide) s).mono ?_
      rintro e w1 ⟨rfl, s1⟩
      simp only [hbare]
      go_wp2_with fail
      refine (digSumNone 4 (by decide) (by decide) _ _ (s1.alloc' _)).mono ?_
      rintro e w2 ⟨rfl, s2⟩
      go_wp2_with fail
      refine (dOf true s2).mono ?_
      rintro e w3 ⟨rfl, s3⟩
      simp only [hcells]
      have s4 := s3.alloc (hcells true).toArray 29
      obtain ⟨bx, hbx⟩ : ∃ bx, bx = w3.heap.size := ⟨_, rfl⟩
      rw [← hbx] at s4
      simp only [hcells] at s4
      have hl := lives11 s4
      go_wp2_with fail
      refine hl.mono ?_
      rintro e w5 ⟨rfl, s5⟩
      rw [← hbx]
      clear hbx s4
      have c1 := s5.at 1 rfl
      have c2 := s5.at 2 rfl
      have c3 := s5.at 3 rfl
      have c4 := s5.at 4 rfl
      go_wp2
      go_ret
      exact ⟨rfl, s5.below⟩
end Go.Proofs.Ytmohabidfalhoaa
