
/- Keccak's first step of a round; under the conditions that each names. -/
import Derived.Test.YtooolimpkafhaaaGreatKec4
import Derived.Test.YtooolimpkafhaaaGreatGA
namespace Go.Kec
open Go.Bv Go.Sep
set_option linter.unusedVariables false
/-- The columns' sums, over the first n lanes. -/
def thC (A : List (BitVec 64)) : Nat → List (BitVec 64)
  | 0 => List.replicate 5 0
  | n + 1 => (thC A n).set (n % 5) ((thC A n).getD (n % 5) 0 ^^^ A.getD n 0)
def thTo (C A : List (BitVec 64)) : Nat → List (BitVec 64)
  | 0 => A
  | n + 1 => (thTo C A n).set n ((thTo C A n).getD n 0 ^^^ (C.getD ((n % 5 + 4) % 5) 0 ^^^ rotl (C.getD ((n % 5 + 1) % 5) 0) 1))
def theta (A : List (BitVec 64)) : List (BitVec 64) := thTo (thC A 25) A 25
theorem thC_len (A : List (BitVec 64)) : ∀ n, (thC A n).length = 5
  | 0 => rfl
  | n + 1 => by unfold thC; rw [List.length_set]; exact thC_len A n
theorem thTo_len (C A : List (BitVec 64)) : ∀ n, (thTo C A n).length = A.length
  | 0 => rfl
  | n + 1 => by unfold thTo; rw [List.length_set]; exact thTo_len C A n
end Go.Kec
namespace Go.Proofs.YtooolimpkafhaaaGreat
open Go.RowKit Go.Sep Go.Bv Go.Kec
set_option linter.unusedVariables false
set_option linter.unusedSimpArgs false
theorem zero_k5 (w : World) : (zeroValue 288).run Tryz.prog w = .ok (.agg (u64s (thC [] 0)).toArray) w := by kernel_rfl
theorem turn64_1 (w : World) (x : BitVec 64) : Calls Tryz.prog 256 #[.int .u64 (v64 x), .int .i64 1] w fun e w' => e = .returned (.int .u64 (v64 (rotl x 1))) ∧ ∃ n, w' = w.drewN n := turn64 w x 1 (by decide)
set_option maxRecDepth 100000 in
set_option maxHeartbeats 4000000 in
theorem kecTheta {W0 w : World} {L : List Assn} {g : Nat} (A : List (BitVec 64)) (hA : A.length = 25) (hs : Sat W0 w (seg true g 0 (u64s A) :: L)) :
    Calls Tryz.prog 234 #[.pointer (some ⟨g, 0, none⟩)] w fun e w' => e = .returned (.tuple #[]) ∧ Sat W0 w' (seg true g 0 (u64s (theta A)) :: L) := by
  have HN := Lib.hid hA; clear hA
  go_enter Tryz.func234, Tryz.ntmps234
  go_wp2_with (refine wpl_alloc_agg rfl 288 rfl hs _ (zero_k5 _) ?_; intro w2 gc s2 _; clear hs)
  have s3 : Sat W0 w2 (seg true gc 0 (u64s (thC A 0)) :: seg true g 0 (u64s A) :: L) := s2
  clear s2
  go_loopw [8] (fun t8 wr => ∃ i : Nat, i ≤ 25 ∧ t8 = .int .i64 (i : Int) ∧ Sat W0 wr (seg true gc 0 (u64s (thC A i)) :: seg true g 0 (u64s A) :: L)) (fun t8 _ => 25 - (intOf t8).toNat)
  case atStart => exact ⟨0, by omega, rfl, s3⟩
  case round =>
    clear s3
    obtain ⟨i, hi, rfl, s⟩ := hrel
    by_cases hlt : i < 25
    · have hCl := thC_len A i
      obtain ⟨r, hr⟩ : ∃ r, r = i % 5 := ⟨_, rfl⟩
      have hr5 : r < 5 := by omega
      have hnx : (thC A i).set r ((thC A i).getD r 0 ^^^ A.getD i 0) = thC A (i + 1) := by rw [hr]; rfl
      have sa : Sat W0 wr (seg true g 0 (u64s A) :: _) := s.pull 1
      have za := sa.lt (by rw [u64s_len, HN.out]; decide)
      have ca := sa.at i (u64s_get A i (by rw [HN.out]; exact hlt))
      have zc := s.lt (by rw [u64s_len, hCl]; decide)
      have cc := s.at r (u64s_get _ r (by rw [hCl]; exact hr5))
      have fc := s.fr r (by rw [u64s_len, hCl]; exact hr5)
      obtain ⟨x, hx⟩ : ∃ x, x = A.getD i 0 := ⟨_, rfl⟩
      obtain ⟨y, hy⟩ : ∃ y, y = (thC A i).getD r 0 := ⟨_, rfl⟩
      rw [← hx] at ca hnx
      rw [← hy] at cc hnx
      have e2 : (i : Int).tmod 5 = (r : Int) := by rw [Int.tmod_eq_emod_of_nonneg (by omega)]; omega
      have e2' : (i : Int) % 5 = (r : Int) := by omega
      have hi1 : IntKind.i64.wrap ((i : Int) + 1) = ((i + 1 : Nat) : Int) := by rw [IntKind.wrap_i64]; omega
      have HX := Lib.hid (And.intro hnx hCl); clear hnx hCl hx hy hr sa
      go_wp2_with fail
      go_quiet (fail)
      go_wp2_with fail
      go_roundw
      case rel =>
        refine ⟨i + 1, by omega, by go_num, ?_⟩
        have st := (s.drewN nq).store (i := r) (by rw [u64s_len, HX.out.2]; exact hr5) (.int .u64 (v64 (y ^^^ x))) (q := r) (by simp)
        rw [u64s_set, HX.out.1] at st
        rw [vxor64]
        exact st
      case measure => simp [intOf]; omega
    · obtain rfl : i = 25 := by omega
      obtain ⟨C, hC⟩ : ∃ C, C = thC A 25 := ⟨_, rfl⟩
      have hCl : C.length = 5 := by rw [hC]; exact thC_len A 25
      have hTh : theta A = thTo C A 25 := by rw [hC]; rfl
      rw [← hC] at s
      have s4 : Sat W0 wr (seg true g 0 (u64s (thTo C A 0)) :: seg true gc 0 (u64s C) :: L) := s.pull 1
      have HC := Lib.hid (And.intro hCl hTh); clear hCl hTh hC s
      go_wp2_with fail
      go_loopw [22] (fun t22 wr => ∃ i : Nat, i ≤ 25 ∧ t22 = .int .i64 (i : Int) ∧ Sat W0 wr (seg true g 0 (u64s (thTo C A i)) :: seg true gc 0 (u64s C) :: L)) (fun t22 _ => 25 - (intOf t22).toNat)
      case atStart => exact ⟨0, by omega, rfl, s4⟩
      case round =>
        clear s4
        obtain ⟨i, hi, rfl, s⟩ := hrel
        by_cases hlt : i < 25
        · have hDl := thTo_len C A i
          rw [HN.out] at hDl
          obtain ⟨r, hr⟩ : ∃ r, r = i % 5 := ⟨_, rfl⟩
          obtain ⟨r4, hr4⟩ : ∃ r4, r4 = r + 4 := ⟨_, rfl⟩
          obtain ⟨r1, hr1⟩ : ∃ r1, r1 = r + 1 := ⟨_, rfl⟩
          obtain ⟨p4, hp4⟩ : ∃ p4, p4 = r4 % 5 := ⟨_, rfl⟩
          obtain ⟨p1, hp1⟩ : ∃ p1, p1 = r1 % 5 := ⟨_, rfl⟩
          have h45 : p4 < 5 := by omega
          have h15 : p1 < 5 := by omega
          have hnx : (thTo C A i).set i ((thTo C A i).getD i 0 ^^^ (C.getD p4 0 ^^^ rotl (C.getD p1 0) 1)) = thTo C A (i + 1) := by rw [hp4, hp1, hr4, hr1, hr]; rfl
          have sc : Sat W0 wr (seg true gc 0 (u64s C) :: _) := s.pull 1
          have zc := sc.lt (by rw [u64s_len, HC.out.1]; decide)
          have c4 := sc.at p4 (u64s_get C p4 (by rw [HC.out.1]; exact h45))
          have c1 := sc.at p1 (u64s_get C p1 (by rw [HC.out.1]; exact h15))
          have za := s.lt (by rw [u64s_len, hDl]; decide)
          have ca := s.at i (u64s_get _ i (by rw [hDl]; exact hlt))
          have fa := s.fr i (by rw [u64s_len, hDl]; exact hlt)
          obtain ⟨x, hx⟩ : ∃ x, x = (thTo C A i).getD i 0 := ⟨_, rfl⟩
          obtain ⟨y, hy⟩ : ∃ y, y = C.getD p4 0 := ⟨_, rfl⟩
          obtain ⟨z, hz⟩ : ∃ z, z = C.getD p1 0 := ⟨_, rfl⟩
          rw [← hx] at ca hnx
          rw [← hy] at c4 hnx
          rw [← hz] at c1 hnx
          have e2 : (i : Int).tmod 5 = (r : Int) := by rw [Int.tmod_eq_emod_of_nonneg (by omega)]; omega
          have e2' : (i : Int) % 5 = (r : Int) := by omega
          have e4 : IntKind.i64.wrap ((r : Int) + 4) = (r4 : Int) := by rw [IntKind.wrap_i64]; omega
          have e1 : IntKind.i64.wrap ((r : Int) + 1) = (r1 : Int) := by rw [IntKind.wrap_i64]; omega
          have e5 : (r4 : Int).tmod 5 = (p4 : Int) := by rw [Int.tmod_eq_emod_of_nonneg (by omega)]; omega
          have e6 : (r1 : Int).tmod 5 = (p1 : Int) := by rw [Int.tmod_eq_emod_of_nonneg (by omega)]; omega
          have HX := Lib.hid (And.intro hnx hDl); clear hnx hDl hx hy hz hr hr4 hr1 hp4 hp1 sc
          go_wp2_with fail
          refine wp_region_quiet_tail_lit 19 (by kernel_rfl) (by kernel_rfl) ?_
          simp only [List.take_succ_cons, List.take_zero, List.drop_succ_cons, List.drop_zero]
          repeat (go_big_quiet_step ((go_at_call 256; exact Calls.quiet_of (turn64_1 _ z))))
          refine wpQuiet_nil ?_
          rintro _ ⟨nq, rfl⟩
          go_wp2_with fail
          have hi1 : IntKind.i64.wrap ((i : Int) + 1) = ((i + 1 : Nat) : Int) := by rw [IntKind.wrap_i64]; omega
          go_roundw
          case rel =>
            refine ⟨i + 1, by omega, by go_num, ?_⟩
            have st := (s.drewN nq).store (i := i) (by rw [u64s_len, HX.out.2]; exact hlt) (.int .u64 (v64 (x ^^^ (y ^^^ rotl z 1)))) (q := i) (by simp)
            rw [u64s_set, HX.out.1] at st
            rw [vxor64, vxor64]
            exact st
          case measure => simp [intOf]; omega
        · obtain rfl : i = 25 := by omega
          rw [← HC.out.2] at s
          have HS := Lib.hid s; clear s
          go_wp2_with fail
          exact bodyPost_end (results_none rfl _ _ _) rfl ⟨rfl, HS.out.drop 1⟩
end Go.Proofs.YtooolimpkafhaaaGreat
