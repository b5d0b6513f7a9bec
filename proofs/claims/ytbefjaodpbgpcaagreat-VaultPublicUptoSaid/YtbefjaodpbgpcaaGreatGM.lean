/- Kec5, Kec6, Kec7: texts that lie apart elsewhere, as one; each under the conditions that it names. -/
import Derived.Test.YtbefjaodpbgpcaaGreatGL
import Derived.Test.YtbefjaodpbgpcaaGreatGA
set_option linter.unusedVariables false
set_option linter.unusedSimpArgs false
set_option maxRecDepth 100000
set_option maxHeartbeats 16000000
namespace Go.Kec
open Go.Bv Go.Sep
def thC (A : List (BitVec 64)) : Nat → List (BitVec 64)
 | 0 => List.replicate 5 0
 | n + 1 => (thC A n).set (n % 5) ((thC A n).getD (n % 5) 0 ^^^ A.getD n 0)
def thTo (C A : List (BitVec 64)) : Nat → List (BitVec 64)
 | 0 => A
 | n + 1 => (thTo C A n).set n ((thTo C A n).getD n 0 ^^^ (C.getD ((n % 5 + 4) % 5) 0 ^^^ rotl (C.getD ((n % 5 + 1) % 5) 0) 1))
def theta (A : List (BitVec 64)) : List (BitVec 64) := thTo (thC A 25) A 25
theorem thC_len (A : List (BitVec 64)) : ∀ n, (thC A n).length = 5
 | 0 => rfl
 | n + 1 => by unfold thC; rw [List.length_set]; exact thC_len A n
theorem thTo_len (C A : List (BitVec 64)) : ∀ n, (thTo C A n).length = A.length
 | 0 => rfl
 | n + 1 => by unfold thTo; rw [List.length_set]; exact thTo_len C A n
end Go.Kec
namespace Go.Proofs.YtbefjaodpbgpcaaGreat
open Go.RowKit Go.Sep Go.Bv Go.Kec
theorem zero_k5 (w : World) : (zeroValue 293).run Tryz.prog w = .ok (.agg (u64s (thC [] 0)).toArray) w := by kernel_rfl
theorem turn64_1 (w : World) (x : BitVec 64) : Calls Tryz.prog 214 #[.int .u64 (v64 x), .int .i64 1] w fun e w' => e = .returned (.int .u64 (v64 (rotl x 1))) ∧ ∃ n, w' = w.drewN n := turn64 w x 1 (by decide)
theorem kecTheta {W0 w : World} {L : List Assn} {g : Nat} (A : List (BitVec 64)) (hA : A.length = 25) (hs : Sat W0 w (seg true g 0 (u64s A) :: L)) :
  Calls Tryz.prog 204 #[.pointer (some ⟨g, 0, none⟩)] w fun e w' => e = .returned (.tuple #[]) ∧ Sat W0 w' (seg true g 0 (u64s (theta A)) :: L) := by
 have HN := Lib.hid hA; clear hA
 go_enter Tryz.func204, Tryz.ntmps204
 go_wp2_with (refine wpl_alloc_agg rfl 293 rfl hs _ (zero_k5 _) ?_; intro w2 gc s2 _; clear hs)
 have s3 : Sat W0 w2 (seg true gc 0 (u64s (thC A 0)) :: seg true g 0 (u64s A) :: L) := s2
 clear s2
 go_loopw [8] (fun t8 wr => ∃ i : Nat, i ≤ 25 ∧ t8 = .int .i64 (i : Int) ∧ Sat W0 wr (seg true gc 0 (u64s (thC A i)) :: seg true g 0 (u64s A) :: L)) (fun t8 _ => 25 - (intOf t8).toNat)
 case atStart => exact ⟨0, by omega, rfl, s3⟩
 case round =>
  clear s3
  obtain ⟨i, hi, rfl, s⟩ := hrel
  by_cases hlt : i < 25
  ·have hCl := thC_len A i
   obtain ⟨r, hr⟩ : ∃ r, r = i % 5 := ⟨_, rfl⟩
   have hr5 : r < 5 := by omega
   have hnx : (thC A i).set r ((thC A i).getD r 0 ^^^ A.getD i 0) = thC A (i + 1) := by rw [hr]; rfl
   have sa : Sat W0 wr (seg true g 0 (u64s A) :: _) := s.pull 1
   have za := sa.lt (by rw [u64s_len, HN.out]; decide)
   have ca := sa.at i (u64s_get A i (by rw [HN.out]; exact hlt))
   have zc := s.lt (by rw [u64s_len, hCl]; decide)
   have cc := s.at r (u64s_get _ r (by rw [hCl]; exact hr5))
   have fc := s.fr r (by rw [u64s_len, hCl]; exact hr5)
   obtain ⟨x, hx⟩ : ∃ x, x = A.getD i 0 := ⟨_, rfl⟩
   obtain ⟨y, hy⟩ : ∃ y, y = (thC A i).getD r 0 := ⟨_, rfl⟩
   rw [← hx] at ca hnx
   rw [← hy] at cc hnx
   have e2 : (i : Int).tmod 5 = (r : Int) := by rw [Int.tmod_eq_emod_of_nonneg (by omega)]; omega
   have e2' : (i : Int) % 5 = (r : Int) := by omega
   have hi1 : IntKind.i64.wrap ((i : Int) + 1) = ((i + 1 : Nat) : Int) := by rw [IntKind.wrap_i64]; omega
   have HX := Lib.hid (And.intro hnx hCl); clear hnx hCl hx hy hr sa
   go_wp2_with fail
   go_quiet (fail)
   go_wp2_with fail
   go_roundw
   case rel =>
    refine ⟨i + 1, by omega, by go_num, ?_⟩
    have st := (s.drewN nq).store (i := r) (by rw [u64s_len, HX.out.2]; exact hr5) (.int .u64 (v64 (y ^^^ x))) (q := r) (by simp)
    rw [u64s_set, HX.out.1] at st
    rw [vxor64]
    exact st
   case measure => simp [intOf]; omega
  ·obtain rfl : i = 25 := by omega
   obtain ⟨C, hC⟩ : ∃ C, C = thC A 25 := ⟨_, rfl⟩
   have hCl : C.length = 5 := by rw [hC]; exact thC_len A 25
   have hTh : theta A = thTo C A 25 := by rw [hC]; rfl
   rw [← hC] at s
   have s4 : Sat W0 wr (seg true g 0 (u64s (thTo C A 0)) :: seg true gc 0 (u64s C) :: L) := s.pull 1
   have HC := Lib.hid (And.intro hCl hTh); clear hCl hTh hC s
   go_wp2_with fail
   go_loopw [22] (fun t22 wr => ∃ i : Nat, i ≤ 25 ∧ t22 = .int .i64 (i : Int) ∧ Sat W0 wr (seg true g 0 (u64s (thTo C A i)) :: seg true gc 0 (u64s C) :: L)) (fun t22 _ => 25 - (intOf t22).toNat)
   case atStart => exact ⟨0, by omega, rfl, s4⟩
   case round =>
    clear s4
    obtain ⟨i, hi, rfl, s⟩ := hrel
    by_cases hlt : i < 25
    ·have hDl := thTo_len C A i
     rw [HN.out] at hDl
     obtain ⟨r, hr⟩ : ∃ r, r = i % 5 := ⟨_, rfl⟩
     obtain ⟨r4, hr4⟩ : ∃ r4, r4 = r + 4 := ⟨_, rfl⟩
     obtain ⟨r1, hr1⟩ : ∃ r1, r1 = r + 1 := ⟨_, rfl⟩
     obtain ⟨p4, hp4⟩ : ∃ p4, p4 = r4 % 5 := ⟨_, rfl⟩
     obtain ⟨p1, hp1⟩ : ∃ p1, p1 = r1 % 5 := ⟨_, rfl⟩
     have h45 : p4 < 5 := by omega
     have h15 : p1 < 5 := by omega
     have hnx : (thTo C A i).set i ((thTo C A i).getD i 0 ^^^ (C.getD p4 0 ^^^ rotl (C.getD p1 0) 1)) = thTo C A (i + 1) := by rw [hp4, hp1, hr4, hr1, hr]; rfl
     have sc : Sat W0 wr (seg true gc 0 (u64s C) :: _) := s.pull 1
     have zc := sc.lt (by rw [u64s_len, HC.out.1]; decide)
     have c4 := sc.at p4 (u64s_get C p4 (by rw [HC.out.1]; exact h45))
     have c1 := sc.at p1 (u64s_get C p1 (by rw [HC.out.1]; exact h15))
     have za := s.lt (by rw [u64s_len, hDl]; decide)
     have ca := s.at i (u64s_get _ i (by rw [hDl]; exact hlt))
     have fa := s.fr i (by rw [u64s_len, hDl]; exact hlt)
     obtain ⟨x, hx⟩ : ∃ x, x = (thTo C A i).getD i 0 := ⟨_, rfl⟩
     obtain ⟨y, hy⟩ : ∃ y, y = C.getD p4 0 := ⟨_, rfl⟩
     obtain ⟨z, hz⟩ : ∃ z, z = C.getD p1 0 := ⟨_, rfl⟩
     rw [← hx] at ca hnx
     rw [← hy] at c4 hnx
     rw [← hz] at c1 hnx
     have e2 : (i : Int).tmod 5 = (r : Int) := by rw [Int.tmod_eq_emod_of_nonneg (by omega)]; omega
     have e2' : (i : Int) % 5 = (r : Int) := by omega
     have e4 : IntKind.i64.wrap ((r : Int) + 4) = (r4 : Int) := by rw [IntKind.wrap_i64]; omega
     have e1 : IntKind.i64.wrap ((r : Int) + 1) = (r1 : Int) := by rw [IntKind.wrap_i64]; omega
     have e5 : (r4 : Int).tmod 5 = (p4 : Int) := by rw [Int.tmod_eq_emod_of_nonneg (by omega)]; omega
     have e6 : (r1 : Int).tmod 5 = (p1 : Int) := by rw [Int.tmod_eq_emod_of_nonneg (by omega)]; omega
     have HX := Lib.hid (And.intro hnx hDl); clear hnx hDl hx hy hz hr hr4 hr1 hp4 hp1 sc
     go_wp2_with fail
     refine wp_region_quiet_tail_lit 19 (by kernel_rfl) (by kernel_rfl) ?_
     simp only [List.take_succ_cons, List.take_zero, List.drop_succ_cons, List.drop_zero]
     repeat (go_big_quiet_step ((go_at_call 214; exact Calls.quiet_of (turn64_1 _ z))))
     refine wpQuiet_nil ?_
     rintro _ ⟨nq, rfl⟩
     go_wp2_with fail
     have hi1 : IntKind.i64.wrap ((i : Int) + 1) = ((i + 1 : Nat) : Int) := by rw [IntKind.wrap_i64]; omega
     go_roundw
     case rel =>
      refine ⟨i + 1, by omega, by go_num, ?_⟩
      have st := (s.drewN nq).store (i := i) (by rw [u64s_len, HX.out.2]; exact hlt) (.int .u64 (v64 (x ^^^ (y ^^^ rotl z 1)))) (q := i) (by simp)
      rw [u64s_set, HX.out.1] at st
      rw [vxor64, vxor64]
      exact st
     case measure => simp [intOf]; omega
    ·obtain rfl : i = 25 := by omega
     rw [← HC.out.2] at s
     have HS := Lib.hid s; clear s
     go_wp2_with fail
     exact bodyPost_end (results_none rfl _ _ _) rfl ⟨rfl, HS.out.drop 1⟩
end Go.Proofs.YtbefjaodpbgpcaaGreat
namespace Go.Kec
open Go.Bv Go.Sep
def wkPos : Nat → Nat × Nat
 | 0 => (1, 0)
 | t + 1 => ((wkPos t).2, (2 * (wkPos t).1 + 3 * (wkPos t).2) % 5)
def wkTo (A : List (BitVec 64)) : Nat → List (BitVec 64)
 | 0 => lane0.set 0 (A.getD 0 0)
 | t + 1 => (wkTo A t).set ((wkPos (t + 1)).1 + 5 * (wkPos (t + 1)).2) (rotl (A.getD ((wkPos t).1 + 5 * (wkPos t).2) 0) ((t + 1) * (t + 2) / 2 % 64))
def walked (A : List (BitVec 64)) : List (BitVec 64) := wkTo A 24
theorem wkPos_lt : ∀ t, (wkPos t).1 < 5 ∧ (wkPos t).2 < 5
 | 0 => ⟨by decide, by decide⟩
 | t + 1 => ⟨(wkPos_lt t).2, Nat.mod_lt _ (by decide)⟩
theorem wkTo_len (A : List (BitVec 64)) : ∀ n, (wkTo A n).length = 25
 | 0 => by unfold wkTo; rw [List.length_set]; rfl
 | n + 1 => by unfold wkTo; rw [List.length_set]; exact wkTo_len A n
end Go.Kec
namespace Go.Proofs.YtbefjaodpbgpcaaGreat
open Go.RowKit Go.Sep Go.Bv Go.Kec
theorem kecWalk {W0 w : World} {L : List Assn} (A : List (BitVec 64)) (hA : A.length = 25) (hs : Sat W0 w L) :
  Calls Tryz.prog 205 #[.agg (u64s A).toArray] w fun e w' => e = .returned (.agg (u64s (walked A)).toArray) ∧ Sat W0 w' L := by
 have HN := Lib.hid hA; clear hA
 go_enter Tryz.func205, Tryz.ntmps205
 go_wp2_with (first | (refine wpl_box rfl 275 (.tmp 0) rfl (u64s A) rfl hs ?_; intro w1 gb s1 _; clear hs) | (refine wpl_alloc_agg rfl 275 rfl s1 _ (zero_ks _) ?_; intro w2 gr s2 _; clear s1) | (refine wpl_alloc_agg rfl 275 rfl s2 _ (zero_ks _) ?_; intro w3 go s3 _; clear s2; have z3 := s3.lt (by rw [u64s_len, lane0_len]; decide); have c3 := s3.at 0 (u64s_get lane0 0 (by rw [lane0_len]; decide)); have f3 := s3.fr 0 (by rw [u64s_len, lane0_len]; decide); have sb3 : Sat W0 w3 (seg true gb 0 (u64s A) :: _) := s3.pull 2; have cb3 := sb3.at 0 (u64s_get A 0 (by rw [HN.out]; decide)); have zb3 := sb3.lt (by rw [u64s_len, HN.out]; decide); clear sb3))
 have s4 : Sat W0 (w3.setCell ⟨go, 0, none⟩ (.int .u64 (v64 (A.getD 0 0)))) (seg true go 0 (u64s (wkTo A 0)) :: seg true gb 0 (u64s A) :: seg true gr 0 (u64s lane0) :: L) := by
  have st := s3.store (i := 0) (by rw [u64s_len, lane0_len]; decide) (.int .u64 (v64 (A.getD 0 0))) (q := 0) rfl
  rw [u64s_set] at st
  have st2 : Sat W0 (w3.setCell ⟨go, 0, none⟩ (.int .u64 (v64 (A.getD 0 0)))) (seg true go 0 (u64s (wkTo A 0)) :: seg true gr 0 (u64s lane0) :: seg true gb 0 (u64s A) :: L) := st
  exact st2.f
 clear s3
 go_loopw [4, 5, 12] (fun t4 t5 t12 wr => ∃ i : Nat, i ≤ 24 ∧ t12 = .int .i64 (i : Int) ∧ t4 = .int .i64 ((wkPos i).1 : Int) ∧ t5 = .int .i64 ((wkPos i).2 : Int) ∧ Sat W0 wr (seg true go 0 (u64s (wkTo A i)) :: seg true gb 0 (u64s A) :: seg true gr 0 (u64s lane0) :: L)) (fun _ _ t12 _ => 24 - (intOf t12).toNat)
 case atStart => exact ⟨0, by omega, rfl, rfl, rfl, s4⟩
 case round =>
  clear s4
  obtain ⟨i, hi, rfl, rfl, rfl, s⟩ := hrel
  by_cases hlt : i < 24
  ·have hDl := wkTo_len A i
   have hp := wkPos_lt i
   have hn := wkPos_lt (i + 1)
   have hx' : (wkPos (i + 1)).1 = (wkPos i).2 := rfl
   have hy' : (wkPos (i + 1)).2 = (2 * (wkPos i).1 + 3 * (wkPos i).2) % 5 := rfl
   have hnx : wkTo A (i + 1) = (wkTo A i).set ((wkPos (i + 1)).1 + 5 * (wkPos (i + 1)).2) (rotl (A.getD ((wkPos i).1 + 5 * (wkPos i).2) 0) ((i + 1) * (i + 2) / 2 % 64)) := rfl
   rw [hx', hy'] at hnx hn
   obtain ⟨x, hx⟩ : ∃ x, x = (wkPos i).1 := ⟨_, rfl⟩
   obtain ⟨y, hy⟩ : ∃ y, y = (wkPos i).2 := ⟨_, rfl⟩
   rw [← hx, ← hy] at hnx hp hn hy'
   rw [← hy] at hx'
   rw [← hx, ← hy]
   obtain ⟨x2, hx2⟩ : ∃ x2, x2 = 2 * x := ⟨_, rfl⟩
   obtain ⟨y3, hy3⟩ : ∃ y3, y3 = 3 * y := ⟨_, rfl⟩
   obtain ⟨sm, hsm⟩ : ∃ sm, sm = x2 + y3 := ⟨_, rfl⟩
   obtain ⟨ny, hny⟩ : ∃ ny, ny = sm % 5 := ⟨_, rfl⟩
   rw [← hx2, ← hy3, ← hsm, ← hny] at hnx hn hy'
   obtain ⟨n5, hn5⟩ : ∃ n5, n5 = 5 * ny := ⟨_, rfl⟩
   obtain ⟨q, hq⟩ : ∃ q, q = y + n5 := ⟨_, rfl⟩
   obtain ⟨y5, hy5⟩ : ∃ y5, y5 = 5 * y := ⟨_, rfl⟩
   obtain ⟨o, ho⟩ : ∃ o, o = x + y5 := ⟨_, rfl⟩
   obtain ⟨i1, hi1⟩ : ∃ i1, i1 = i + 1 := ⟨_, rfl⟩
   obtain ⟨i2, hi2⟩ : ∃ i2, i2 = i + 2 := ⟨_, rfl⟩
   obtain ⟨mm, hmm⟩ : ∃ mm, mm = i1 * i2 := ⟨_, rfl⟩
   obtain ⟨k, hk⟩ : ∃ k, k = mm / 2 := ⟨_, rfl⟩
   rw [← hn5, ← hq, ← hy5, ← ho, ← hi1, ← hi2, ← hmm, ← hk] at hnx
   have hmm6 : mm ≤ 650 := by rw [hmm]; exact Nat.mul_le_mul (show i1 ≤ 25 by omega) (show i2 ≤ 26 by omega)
   have hk1 : k < 1000 := by omega
   have hq25 : q < 25 := by omega
   have ho25 : o < 25 := by omega
   have a1 : IntKind.i64.wrap (2 * (x : Int)) = (x2 : Int) := by rw [IntKind.wrap_i64]; omega
   have a2 : IntKind.i64.wrap (3 * (y : Int)) = (y3 : Int) := by rw [IntKind.wrap_i64]; omega
   have a3 : IntKind.i64.wrap ((x2 : Int) + (y3 : Int)) = (sm : Int) := by rw [IntKind.wrap_i64]; omega
   have a4 : (sm : Int).tmod 5 = (ny : Int) := by rw [Int.tmod_eq_emod_of_nonneg (by omega)]; omega
   have a4' : (sm : Int) % 5 = (ny : Int) := by omega
   have a5 : IntKind.i64.wrap (5 * (ny : Int)) = (n5 : Int) := by rw [IntKind.wrap_i64]; omega
   have a6 : IntKind.i64.wrap ((y : Int) + (n5 : Int)) = (q : Int) := by rw [IntKind.wrap_i64]; omega
   have a7 : IntKind.i64.wrap (5 * (y : Int)) = (y5 : Int) := by rw [IntKind.wrap_i64]; omega
   have a8 : IntKind.i64.wrap ((x : Int) + (y5 : Int)) = (o : Int) := by rw [IntKind.wrap_i64]; omega
   have a9 : IntKind.i64.wrap ((i : Int) + 1) = (i1 : Int) := by rw [IntKind.wrap_i64]; omega
   have a10 : IntKind.i64.wrap ((i : Int) + 2) = (i2 : Int) := by rw [IntKind.wrap_i64]; omega
   have hmi : ((i1 : Int) * (i2 : Int)) = (mm : Int) := by rw [hmm]; exact (Int.natCast_mul i1 i2).symm
   have a11 : IntKind.i64.wrap ((i1 : Int) * (i2 : Int)) = (mm : Int) := by rw [hmi, IntKind.wrap_i64]; omega
   have a12 : (mm : Int).tdiv 2 = (k : Int) := by rw [Int.tdiv_eq_ediv_of_nonneg (by omega)]; omega
   have a12' : (mm : Int) / 2 = (k : Int) := by omega
   have a13 : wrap64 (k : Int) = (k : Int) := by
    have h : IntKind.i64.wrap (k : Int) = (k : Int) := by rw [IntKind.wrap_i64]; omega
    first | exact h | (unfold wrap64; omega) | (simp [wrap64]; omega) | (rw [← IntKind.wrap_i64]; exact h)
   have sb : Sat W0 wr (seg true gb 0 (u64s A) :: _) := s.pull 1
   have cb := sb.at o (u64s_get A o (by rw [HN.out]; exact ho25))
   have zb := sb.lt (by rw [u64s_len, HN.out]; decide)
   have zo := s.lt (by rw [u64s_len, hDl]; decide)
   have co := s.at q (u64s_get _ q (by rw [hDl]; exact hq25))
   have fo := s.fr q (by rw [u64s_len, hDl]; exact hq25)
   obtain ⟨v, hv⟩ : ∃ v, v = A.getD o 0 := ⟨_, rfl⟩
   obtain ⟨u, hu⟩ : ∃ u, u = (wkTo A i).getD q 0 := ⟨_, rfl⟩
   rw [← hv] at cb hnx
   rw [← hu] at co
   have htk := fun w => turn64k w v k hk1
   have HX := Lib.hid (And.intro hnx (And.intro hDl (And.intro htk (And.intro hx' (And.intro hy' hi1))))); clear hnx hDl htk hx' hy' hx hy hx2 hy3 hsm hny hn5 hq hy5 ho hi1 hi2 hmm hk hmm6 hmi hv hu sb hp hn hk1
   go_wp2_with fail
   refine (HX.out.2.2.1 _).mono ?_
   rintro e w5 ⟨rfl, nq, rfl⟩
   go_wp2_with fail
   go_roundw
   case rel =>
    refine ⟨i + 1, by omega, ?_, ?_, ?_, ?_⟩
    ·rw [← HX.out.2.2.2.2.2]
    ·rw [HX.out.2.2.2.1]
    ·rw [HX.out.2.2.2.2.1]
    ·have st := (s.drewN nq).store (i := q) (by rw [u64s_len, HX.out.2.1]; exact hq25) (.int .u64 (v64 (rotl v (k % 64)))) (q := q) (by simp)
     rw [u64s_set, ← HX.out.1, HX.out.2.2.2.2.2] at st
     exact st
   case measure =>
    have h9 := HX.out.2.2.2.2.2
    simp [intOf]
    omega
  ·obtain rfl : i = 24 := by omega
   obtain ⟨R, hR⟩ : ∃ R, R = walked A := ⟨_, rfl⟩
   have hRl : R.length = 25 := by rw [hR]; exact wkTo_len A 24
   have s6 : Sat W0 wr (seg true go 0 (u64s R) :: seg true gb 0 (u64s A) :: seg true gr 0 (u64s lane0) :: L) := by rw [hR]; exact s
   have s5 : Sat W0 wr (seg true gr 0 (u64s lane0) :: seg true go 0 (u64s R) :: seg true gb 0 (u64s A) :: L) := s6.pull 2
   have ht : ((u64s R).drop 0).take 25 = u64s R := by rw [List.drop_zero]; exact List.take_of_length_le (by rw [u64s_len]; omega)
   have HR := Lib.hid (And.intro hRl (And.intro ht hR)); clear hRl ht hR s
   go_wp2_with (first | (refine wpl_load_agg rfl 275 (.tmp 3) rfl Tryz.underlying275 rfl Tryz.size_ks s6 0 0 rfl rfl (by rw [u64s_len, HR.out.1]; exact Nat.le_refl _) ?_; rw [HR.out.2.1]) | (refine wpl_store_agg rfl rfl 275 (.tmp 2) (.tmp 43) rfl (cs := u64s R) s5 0 0 (by rw [u64s_len, HR.out.1]; exact Tryz.size_ks) rfl (by rfl) rfl (by rw [u64s_len, u64s_len, HR.out.1, lane0_len]; decide) (u64s_one _) ?_; intro w7 s7; rw [setL_all _ _ (by rw [u64s_len, u64s_len, HR.out.1, lane0_len])] at s7))
   refine bodyPost_ret (v := .agg (u64s R).toArray) ?_ rfl ⟨by rw [HR.out.2.2], ((s7.drop 0).drop 0).drop 0⟩
   have hr := run_ret64 Tryz.underlying275 Tryz.size_ks s7 HR.out.1
   simp [results, Tryz.results205, asAddr]; exact hr
end Go.Proofs.YtbefjaodpbgpcaaGreat
namespace Go.Kec
open Go.Bv Go.Sep
def chiTo (S B : List (BitVec 64)) : Nat → List (BitVec 64)
 | 0 => S
 | n + 1 => (chiTo S B n).set n (B.getD n 0 ^^^ (~~~(B.getD (n - n % 5 + (n + 1) % 5) 0) &&& B.getD (n - n % 5 + (n + 2) % 5) 0))
theorem chiTo_len (S B : List (BitVec 64)) : ∀ n, (chiTo S B n).length = S.length
 | 0 => rfl
 | n + 1 => by unfold chiTo; rw [List.length_set]; exact chiTo_len S B n
theorem theta_len (A : List (BitVec 64)) : (theta A).length = A.length := thTo_len _ A 25
theorem walked_len (A : List (BitVec 64)) : (walked A).length = 25 := wkTo_len A 24
def kround (S : List (BitVec 64)) (c : BitVec 64) : List (BitVec 64) := (chiTo (theta S) (walked (theta S)) 25).set 0 ((chiTo (theta S) (walked (theta S)) 25).getD 0 0 ^^^ c)
theorem kround_len (S : List (BitVec 64)) (c : BitVec 64) : (kround S c).length = S.length := by unfold kround; rw [List.length_set, chiTo_len, theta_len]
def kecN (S : List (BitVec 64)) : Nat → List (BitVec 64)
 | 0 => S
 | n + 1 => kround (kecN S n) (rcAll.getD n 0)
theorem kecN_len (S : List (BitVec 64)) : ∀ n, (kecN S n).length = S.length
 | 0 => rfl
 | n + 1 => by unfold kecN; rw [kround_len, kecN_len S n]
def kecF (S : List (BitVec 64)) : List (BitVec 64) := kecN S 24
theorem kecF_len (S : List (BitVec 64)) : (kecF S).length = S.length := kecN_len S 24
end Go.Kec
namespace Go.Proofs.YtbefjaodpbgpcaaGreat
open Go.RowKit Go.Sep Go.Bv Go.Kec
theorem kecPermute {W0 w : World} {L : List Assn} {pv : Value} (p : Option Nat) (rs : List Run3) (A : List (BitVec 64)) (hp : pv = ptrO p) (hA : A.length = 25) (hb : tot rs + 1 ≤ 4611686018427387904) (hl : rs.length ≤ 4294967296) (hs : Sat W0 w (ledO p rs :: L)) :
  Calls Tryz.prog 193 #[pv, .agg (u64s A).toArray] w fun e w' => e = .returned (.agg (u64s (kecF A)).toArray) ∧ Sat W0 w' (ledO p (note rs 3 200 1) :: L) := by
 subst hp
 have hR24 : rcAll.length = 24 := rcTo_len 24
 obtain ⟨RC, hRC⟩ : ∃ RC, RC = rcAll := ⟨_, rfl⟩
 rw [← hRC] at hR24
 have HN := Lib.hid (And.intro hA (And.intro hb (And.intro hl (And.intro hR24 hRC)))); clear hA hb hl hR24 hRC
 go_enter Tryz.func193, Tryz.ntmps193
 go_wp2_with (first | (refine wpl_box rfl 275 (.tmp 1) rfl (u64s A) rfl hs ?_; intro w1 gb s1 _; clear hs) | (refine wpl_alloc_agg rfl 275 rfl s1 _ (zero_ks _) ?_; intro w2 gr s2 _; clear s1))
 refine (noteOne p rs 3 200 (s2.f : Sat W0 w2 (ledO p rs :: seg true gr 0 (u64s lane0) :: seg true gb 0 (u64s A) :: L)) HN.out.2.1 HN.out.2.2.1).mono ?_
 rintro e w3 ⟨rfl, s3⟩
 clear s2
 go_wp2_with fail
 refine (kecConsts s3).mono ?_
 rintro e w4 ⟨rfl, s4'⟩
 clear s3
 have s4'' : Sat W0 w4 (seg true gb 0 (u64s A) :: seg true gr 0 (u64s lane0) :: ledO p (note rs 3 200 1) :: L) := s4'.f
 have s4 : Sat W0 w4 (seg true gb 0 (u64s (kecN A 0)) :: seg true gr 0 (u64s lane0) :: ledO p (note rs 3 200 1) :: L) := s4''
 clear s4' s4''
 rw [← HN.out.2.2.2.2]
 go_wp2_with fail
 go_loopw [14] (fun t14 wr => ∃ i : Nat, i ≤ 24 ∧ t14 = .int .i64 (i : Int) ∧ Sat W0 wr (seg true gb 0 (u64s (kecN A i)) :: seg true gr 0 (u64s lane0) :: ledO p (note rs 3 200 1) :: L)) (fun t14 _ => 24 - (intOf t14).toNat)
 case atStart => exact ⟨0, by omega, rfl, s4⟩
 case round =>
  clear s4
  obtain ⟨i, hi, rfl, s⟩ := hrel
  by_cases hlt : i < 24
  ·have hix := fun w => run_index_list (P := Tryz.prog) (t := 280) (e := 261) Tryz.underlying280 (by kernel_rfl) (fun w => by kernel_rfl) (u64s RC) (by rw [u64s_len, HN.out.2.2.2.1]) i hlt w
   have hgd : (u64s RC).getD i undef = .int .u64 (v64 (RC.getD i 0)) := by rw [List.getD_eq_getElem?_getD, u64s_get RC i (by rw [HN.out.2.2.2.1]; exact hlt)]; rfl
   obtain ⟨c, hc⟩ : ∃ c, c = RC.getD i 0 := ⟨_, rfl⟩
   rw [hgd, ← hc] at hix
   have hSl := kecN_len A i
   rw [HN.out.1] at hSl
   have hnx : kecN A (i + 1) = kround (kecN A i) c := by rw [hc, HN.out.2.2.2.2]; rfl
   obtain ⟨S, hS⟩ : ∃ S, S = kecN A i := ⟨_, rfl⟩
   rw [← hS] at hSl s hnx
   have hi1 : IntKind.i64.wrap ((i : Int) + 1) = ((i + 1 : Nat) : Int) := by rw [IntKind.wrap_i64]; omega
   have HX := Lib.hid (And.intro hnx hSl); clear hnx hSl hS hc hgd
   go_wp2_with fail
   refine (kecTheta S HX.out.2 s).mono ?_
   rintro e w5 ⟨rfl, s5⟩
   clear s
   have hTl := theta_len S
   rw [HX.out.2] at hTl
   obtain ⟨T, hT⟩ : ∃ T, T = theta S := ⟨_, rfl⟩
   rw [← hT] at s5 hTl
   have ht : ((u64s T).drop 0).take 25 = u64s T := by rw [List.drop_zero]; exact List.take_of_length_le (by rw [u64s_len]; omega)
   have hBl := walked_len T
   obtain ⟨B, hB⟩ : ∃ B, B = walked T := ⟨_, rfl⟩
   have hwk := kecWalk T hTl s5
   rw [← hB] at hBl hwk
   have hkr : kround S c = (chiTo T B 25).set 0 ((chiTo T B 25).getD 0 0 ^^^ c) := by rw [hB, hT]; rfl
   have HT := Lib.hid (And.intro hTl (And.intro ht (And.intro hBl (And.intro hkr hwk)))); clear hTl ht hBl hkr hwk hT hB
   go_wp2_with (refine wpl_load_agg rfl 275 (.tmp 3) rfl Tryz.underlying275 rfl Tryz.size_ks s5 0 0 rfl rfl (by rw [u64s_len, HT.out.1]; exact Nat.le_refl _) ?_; rw [HT.out.2.1])
   refine HT.out.2.2.2.2.mono ?_
   rintro e w6 ⟨rfl, s6⟩
   clear s5
   go_wp2_with (first | (refine wpl_alloc_agg rfl 275 rfl s6 _ (zero_ks _) ?_; intro w7 g7 s7 _; clear s6) | (refine wpl_store_agg rfl rfl 275 (.tmp 7) (.tmp 19) rfl (cs := u64s B) s7 0 0 (by rw [u64s_len, HT.out.2.2.1]; exact Tryz.size_ks) rfl (by rfl) rfl (by rw [u64s_len, u64s_len, HT.out.2.2.1, lane0_len]; decide) (u64s_one _) ?_; intro w8 s8; rw [setL_all _ _ (by rw [u64s_len, u64s_len, HT.out.2.2.1, lane0_len])] at s8; clear s7))
   have s9' : Sat W0 w8 (seg true gb 0 (u64s T) :: seg true g7 0 (u64s B) :: seg true gr 0 (u64s lane0) :: ledO p (note rs 3 200 1) :: L) := s8.f
   have s9 : Sat W0 w8 (seg true gb 0 (u64s (chiTo T B 0)) :: seg true g7 0 (u64s B) :: seg true gr 0 (u64s lane0) :: ledO p (note rs 3 200 1) :: L) := s9'
   clear s8 s9' hix
   go_loopw [20] (fun t20 wr => ∃ j : Nat, j ≤ 25 ∧ t20 = .int .i64 (j : Int) ∧ Sat W0 wr (seg true gb 0 (u64s (chiTo T B j)) :: seg true g7 0 (u64s B) :: seg true gr 0 (u64s lane0) :: ledO p (note rs 3 200 1) :: L)) (fun t20 _ => 25 - (intOf t20).toNat)
   case atStart => exact ⟨0, by omega, rfl, s9⟩
   case round =>
    clear s9
    obtain ⟨j, hj, rfl, s⟩ := hrel
    have hCl := chiTo_len T B j
    rw [HT.out.1] at hCl
    by_cases hlj : j < 25
    ·obtain ⟨r, hr⟩ : ∃ r, r = j % 5 := ⟨_, rfl⟩
     obtain ⟨o, ho⟩ : ∃ o, o = j - r := ⟨_, rfl⟩
     obtain ⟨j1, hj1⟩ : ∃ j1, j1 = j + 1 := ⟨_, rfl⟩
     obtain ⟨j2, hj2⟩ : ∃ j2, j2 = j + 2 := ⟨_, rfl⟩
     obtain ⟨m1, hm1⟩ : ∃ m1, m1 = j1 % 5 := ⟨_, rfl⟩
     obtain ⟨m2, hm2⟩ : ∃ m2, m2 = j2 % 5 := ⟨_, rfl⟩
     obtain ⟨q1, hq1⟩ : ∃ q1, q1 = o + m1 := ⟨_, rfl⟩
     obtain ⟨q2, hq2⟩ : ∃ q2, q2 = o + m2 := ⟨_, rfl⟩
     have hq125 : q1 < 25 := by omega
     have hq225 : q2 < 25 := by omega
     have hnx : (chiTo T B j).set j (B.getD j 0 ^^^ (~~~(B.getD q1 0) &&& B.getD q2 0)) = chiTo T B (j + 1) := by rw [hq1, hq2, hm1, hm2, hj1, hj2, ho, hr]; rfl
     have sb : Sat W0 wr (seg true g7 0 (u64s B) :: _) := s.pull 1
     have zb := sb.lt (by rw [u64s_len, HT.out.2.2.1]; decide)
     have b0 := sb.at j (u64s_get B j (by rw [HT.out.2.2.1]; exact hlj))
     have b1 := sb.at q1 (u64s_get B q1 (by rw [HT.out.2.2.1]; exact hq125))
     have b2 := sb.at q2 (u64s_get B q2 (by rw [HT.out.2.2.1]; exact hq225))
     have za := s.lt (by rw [u64s_len, hCl]; decide)
     have fa := s.fr j (by rw [u64s_len, hCl]; exact hlj)
     obtain ⟨xo, hxo⟩ : ∃ xo, xo = (chiTo T B j).getD j 0 := ⟨_, rfl⟩
     have ca := s.at j (u64s_get _ j (by rw [hCl]; exact hlj))
     obtain ⟨x, hx⟩ : ∃ x, x = B.getD j 0 := ⟨_, rfl⟩
     obtain ⟨y, hy⟩ : ∃ y, y = B.getD q1 0 := ⟨_, rfl⟩
     obtain ⟨z, hz⟩ : ∃ z, z = B.getD q2 0 := ⟨_, rfl⟩
     rw [← hxo] at ca
     rw [← hx] at b0 hnx
     rw [← hy] at b1 hnx
     rw [← hz] at b2 hnx
     have e2 : (j : Int).tmod 5 = (r : Int) := by rw [Int.tmod_eq_emod_of_nonneg (by omega)]; omega
     have e2' : (j : Int) % 5 = (r : Int) := by omega
     have e3 : IntKind.i64.wrap ((j : Int) - (r : Int)) = (o : Int) := by rw [IntKind.wrap_i64]; omega
     have e4 : IntKind.i64.wrap ((j : Int) + 1) = (j1 : Int) := by rw [IntKind.wrap_i64]; omega
     have e5 : IntKind.i64.wrap ((j : Int) + 2) = (j2 : Int) := by rw [IntKind.wrap_i64]; omega
     have e6 : (j1 : Int).tmod 5 = (m1 : Int) := by rw [Int.tmod_eq_emod_of_nonneg (by omega)]; omega
     have e7 : (j2 : Int).tmod 5 = (m2 : Int) := by rw [Int.tmod_eq_emod_of_nonneg (by omega)]; omega
     have e6' : (j1 : Int) % 5 = (m1 : Int) := by omega
     have e7' : (j2 : Int) % 5 = (m2 : Int) := by omega
     have e8 : IntKind.i64.wrap ((o : Int) + (m1 : Int)) = (q1 : Int) := by rw [IntKind.wrap_i64]; omega
     have e9 : IntKind.i64.wrap ((o : Int) + (m2 : Int)) = (q2 : Int) := by rw [IntKind.wrap_i64]; omega
     have HY := Lib.hid (And.intro hnx (And.intro hCl hj1)); clear hnx hCl hx hy hz hxo hr ho hj1 hj2 hm1 hm2 hq1 hq2 sb
     go_wp2_with fail
     refine wp_region_quiet_tail_lit 21 (by kernel_rfl) (by kernel_rfl) ?_
     simp only [List.take_succ_cons, List.take_zero, List.drop_succ_cons, List.drop_zero]
     repeat (go_big_quiet_step (fail))
     refine wpQuiet_nil ?_
     rintro _ ⟨nq, rfl⟩
     go_wp2_with fail
     go_roundw
     case rel =>
      refine ⟨j + 1, by omega, by rw [← HY.out.2.2], ?_⟩
      have st := (s.drewN nq).store (i := j) (by rw [u64s_len, HY.out.2.1]; exact hlj) (.int .u64 (v64 (x ^^^ (~~~y &&& z)))) (q := j) (by simp)
      rw [u64s_set, HY.out.1] at st
      rw [vnot64, vand64, vxor64]
      exact st
     case measure => have := HY.out.2.2; simp [intOf]; omega
    ·obtain rfl : j = 25 := by omega
     obtain ⟨X, hX⟩ : ∃ X, X = chiTo T B 25 := ⟨_, rfl⟩
     rw [← hX] at s hCl
     have za := s.lt (by rw [u64s_len, hCl]; decide)
     have ca := s.at 0 (u64s_get X 0 (by rw [hCl]; decide))
     have fa := s.fr 0 (by rw [u64s_len, hCl]; decide)
     have hfin : kecN A (i + 1) = X.set 0 (X.getD 0 0 ^^^ c) := by rw [HX.out.1, HT.out.2.2.2.1, hX]
     obtain ⟨x, hx⟩ : ∃ x, x = X.getD 0 0 := ⟨_, rfl⟩
     rw [← hx] at ca hfin
     have HY := Lib.hid (And.intro hfin hCl); clear hfin hCl hX hx
     go_wp2_with fail
     go_roundw
     case rel =>
      refine ⟨i + 1, by omega, by go_num, ?_⟩
      have st := s.store (i := 0) (by rw [u64s_len, HY.out.2]; decide) (.int .u64 (v64 (x ^^^ c))) (q := 0) (by simp)
      rw [u64s_set, ← HY.out.1] at st
      try simp only [vxor64]
      have st2 : Sat W0 _ (seg true gb 0 (u64s (kecN A (i + 1))) :: seg true g7 0 (u64s B) :: seg true gr 0 (u64s lane0) :: ledO p (note rs 3 200 1) :: L) := st
      exact st2.f
     case measure => simp [intOf]; omega
  ·obtain rfl : i = 24 := by omega
   obtain ⟨R, hR⟩ : ∃ R, R = kecF A := ⟨_, rfl⟩
   have hRl : R.length = 25 := by rw [hR, kecF_len]; exact HN.out.1
   have s6 : Sat W0 wr (seg true gb 0 (u64s R) :: seg true gr 0 (u64s lane0) :: ledO p (note rs 3 200 1) :: L) := by rw [hR]; exact s
   have s5 : Sat W0 wr (seg true gr 0 (u64s lane0) :: seg true gb 0 (u64s R) :: ledO p (note rs 3 200 1) :: L) := s6.pull 1
   have ht : ((u64s R).drop 0).take 25 = u64s R := by rw [List.drop_zero]; exact List.take_of_length_le (by rw [u64s_len]; omega)
   have HR := Lib.hid (And.intro hRl (And.intro ht hR)); clear hRl ht hR s
   go_wp2_with (first | (refine wpl_load_agg rfl 275 (.tmp 3) rfl Tryz.underlying275 rfl Tryz.size_ks s6 0 0 rfl rfl (by rw [u64s_len, HR.out.1]; exact Nat.le_refl _) ?_; rw [HR.out.2.1]) | (refine wpl_store_agg rfl rfl 275 (.tmp 4) (.tmp 56) rfl (cs := u64s R) s5 0 0 (by rw [u64s_len, HR.out.1]; exact Tryz.size_ks) rfl (by rfl) rfl (by rw [u64s_len, u64s_len, HR.out.1, lane0_len]; decide) (u64s_one _) ?_; intro w7 s7; rw [setL_all _ _ (by rw [u64s_len, u64s_len, HR.out.1, lane0_len])] at s7))
   refine bodyPost_ret (v := .agg (u64s R).toArray) ?_ rfl ⟨by rw [HR.out.2.2], (s7.drop 0).drop 0⟩
   have hr := run_ret64 Tryz.underlying275 Tryz.size_ks s7 HR.out.1
   simp [results, Tryz.results193, asAddr]; exact hr
end Go.Proofs.YtbefjaodpbgpcaaGreat
