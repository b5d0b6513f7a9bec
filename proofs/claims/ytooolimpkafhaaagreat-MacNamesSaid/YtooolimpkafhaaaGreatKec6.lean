
/- Keccak's second step of a round; under the conditions that each names. -/
import Derived.Test.YtooolimpkafhaaaGreatKec5
namespace Go.Kec
open Go.Bv Go.Sep
set_option linter.unusedVariables false
/-- The place of the lane that step t turns. -/
def wkPos : Nat → Nat × Nat
  | 0 => (1, 0)
  | t + 1 => ((wkPos t).2, (2 * (wkPos t).1 + 3 * (wkPos t).2) % 5)
def wkTo (A : List (BitVec 64)) : Nat → List (BitVec 64)
  | 0 => lane0.set 0 (A.getD 0 0)
  | t + 1 => (wkTo A t).set ((wkPos (t + 1)).1 + 5 * (wkPos (t + 1)).2) (rotl (A.getD ((wkPos t).1 + 5 * (wkPos t).2) 0) ((t + 1) * (t + 2) / 2 % 64))
def walked (A : List (BitVec 64)) : List (BitVec 64) := wkTo A 24
theorem wkPos_lt : ∀ t, (wkPos t).1 < 5 ∧ (wkPos t).2 < 5
  | 0 => ⟨by decide, by decide⟩
  | t + 1 => ⟨(wkPos_lt t).2, Nat.mod_lt _ (by decide)⟩
theorem wkTo_len (A : List (BitVec 64)) : ∀ n, (wkTo A n).length = 25
  | 0 => by unfold wkTo; rw [List.length_set]; rfl
  | n + 1 => by unfold wkTo; rw [List.length_set]; exact wkTo_len A n
end Go.Kec
namespace Go.Proofs.YtooolimpkafhaaaGreat
open Go.RowKit Go.Sep Go.Bv Go.Kec
set_option linter.unusedVariables false
set_option linter.unusedSimpArgs false
set_option maxRecDepth 100000 in
set_option maxHeartbeats 1000000 in
theorem kecWalk {W0 w : World} {L : List Assn} (A : List (BitVec 64)) (hA : A.length = 25) (hs : Sat W0 w L) :
    Calls Tryz.prog 235 #[.agg (u64s A).toArray] w fun e w' => e = .returned (.agg (u64s (walked A)).toArray) ∧ Sat W0 w' L := by
  have HN := Lib.hid hA; clear hA
  go_enter Tryz.func235, Tryz.ntmps235
  go_wp2_with (first | (refine wpl_box rfl 251 (.tmp 0) rfl (u64s A) rfl hs ?_; intro w1 gb s1 _; clear hs) | (refine wpl_alloc_agg rfl 251 rfl s1 _ (zero_ks _) ?_; intro w2 gr s2 _; clear s1) | (refine wpl_alloc_agg rfl 251 rfl s2 _ (zero_ks _) ?_; intro w3 go s3 _; clear s2; have z3 := s3.lt (by rw [u64s_len, lane0_len]; decide); have c3 := s3.at 0 (u64s_get lane0 0 (by rw [lane0_len]; decide)); have f3 := s3.fr 0 (by rw [u64s_len, lane0_len]; decide); have sb3 : Sat W0 w3 (seg true gb 0 (u64s A) :: _) := s3.pull 2; have cb3 := sb3.at 0 (u64s_get A 0 (by rw [HN.out]; decide)); have zb3 := sb3.lt (by rw [u64s_len, HN.out]; decide); clear sb3))
  have s4 : Sat W0 (w3.setCell ⟨go, 0, none⟩ (.int .u64 (v64 (A.getD 0 0)))) (seg true go 0 (u64s (wkTo A 0)) :: seg true gb 0 (u64s A) :: seg true gr 0 (u64s lane0) :: L) := by
    have st := s3.store (i := 0) (by rw [u64s_len, lane0_len]; decide) (.int .u64 (v64 (A.getD 0 0))) (q := 0) rfl
    rw [u64s_set] at st
    have st2 : Sat W0 (w3.setCell ⟨go, 0, none⟩ (.int .u64 (v64 (A.getD 0 0)))) (seg true go 0 (u64s (wkTo A 0)) :: seg true gr 0 (u64s lane0) :: seg true gb 0 (u64s A) :: L) := st
    exact (Sat.sub (st2) (by (repeat (first | with_reducible exact Fr.done | with_reducible exact Fr.nil | (with_reducible apply Fr.cons; (focus ((repeat (first | with_reducible exact Take.here | with_reducible apply Take.there)); done))) | with_reducible apply Fr.skip))))
  clear s3
  go_loopw [4, 5, 12] (fun t4 t5 t12 wr => ∃ i : Nat, i ≤ 24 ∧ t12 = .int .i64 (i : Int) ∧ t4 = .int .i64 ((wkPos i).1 : Int) ∧ t5 = .int .i64 ((wkPos i).2 : Int) ∧ Sat W0 wr (seg true go 0 (u64s (wkTo A i)) :: seg true gb 0 (u64s A) :: seg true gr 0 (u64s lane0) :: L)) (fun _ _ t12 _ => 24 - (intOf t12).toNat)
  case atStart => exact ⟨0, by omega, rfl, rfl, rfl, s4⟩
  case round =>
    clear s4
    obtain ⟨i, hi, rfl, rfl, rfl, s⟩ := hrel
    by_cases hlt : i < 24
    · have hDl := wkTo_len A i
      have hp := wkPos_lt i
      have hn := wkPos_lt (i + 1)
      have hx' : (wkPos (i + 1)).1 = (wkPos i).2 := rfl
      have hy' : (wkPos (i + 1)).2 = (2 * (wkPos i).1 + 3 * (wkPos i).2) % 5 := rfl
      have hnx : wkTo A (i + 1) = (wkTo A i).set ((wkPos (i + 1)).1 + 5 * (wkPos (i + 1)).2) (rotl (A.getD ((wkPos i).1 + 5 * (wkPos i).2) 0) ((i + 1) * (i + 2) / 2 % 64)) := rfl
      rw [hx', hy'] at hnx hn
      obtain ⟨x, hx⟩ : ∃ x, x = (wkPos i).1 := ⟨_, rfl⟩
      obtain ⟨y, hy⟩ : ∃ y, y = (wkPos i).2 := ⟨_, rfl⟩
      rw [← hx, ← hy] at hnx hp hn hy'
      rw [← hy] at hx'
      rw [← hx, ← hy]
      obtain ⟨x2, hx2⟩ : ∃ x2, x2 = 2 * x := ⟨_, rfl⟩
      obtain ⟨y3, hy3⟩ : ∃ y3, y3 = 3 * y := ⟨_, rfl⟩
      obtain ⟨sm, hsm⟩ : ∃ sm, sm = x2 + y3 := ⟨_, rfl⟩
      obtain ⟨ny, hny⟩ : ∃ ny, ny = sm % 5 := ⟨_, rfl⟩
      rw [← hx2, ← hy3, ← hsm, ← hny] at hnx hn hy'
      obtain ⟨n5, hn5⟩ : ∃ n5, n5 = 5 * ny := ⟨_, rfl⟩
      obtain ⟨q, hq⟩ : ∃ q, q = y + n5 := ⟨_, rfl⟩
      obtain ⟨y5, hy5⟩ : ∃ y5, y5 = 5 * y := ⟨_, rfl⟩
      obtain ⟨o, ho⟩ : ∃ o, o = x + y5 := ⟨_, rfl⟩
      obtain ⟨i1, hi1⟩ : ∃ i1, i1 = i + 1 := ⟨_, rfl⟩
      obtain ⟨i2, hi2⟩ : ∃ i2, i2 = i + 2 := ⟨_, rfl⟩
      obtain ⟨mm, hmm⟩ : ∃ mm, mm = i1 * i2 := ⟨_, rfl⟩
      obtain ⟨k, hk⟩ : ∃ k, k = mm / 2 := ⟨_, rfl⟩
      rw [← hn5, ← hq, ← hy5, ← ho, ← hi1, ← hi2, ← hmm, ← hk] at hnx
      have hmm6 : mm ≤ 650 := by rw [hmm]; exact Nat.mul_le_mul (show i1 ≤ 25 by omega) (show i2 ≤ 26 by omega)
      have hk1 : k < 1000 := by omega
      have hq25 : q < 25 := by omega
      have ho25 : o < 25 := by omega
      have a1 : IntKind.i64.wrap (2 * (x : Int)) = (x2 : Int) := by rw [IntKind.wrap_i64]; omega
      have a2 : IntKind.i64.wrap (3 * (y : Int)) = (y3 : Int) := by rw [IntKind.wrap_i64]; omega
      have a3 : IntKind.i64.wrap ((x2 : Int) + (y3 : Int)) = (sm : Int) := by rw [IntKind.wrap_i64]; omega
      have a4 : (sm : Int).tmod 5 = (ny : Int) := by rw [Int.tmod_eq_emod_of_nonneg (by omega)]; omega
      have a4' : (sm : Int) % 5 = (ny : Int) := by omega
      have a5 : IntKind.i64.wrap (5 * (ny : Int)) = (n5 : Int) := by rw [IntKind.wrap_i64]; omega
      have a6 : IntKind.i64.wrap ((y : Int) + (n5 : Int)) = (q : Int) := by rw [IntKind.wrap_i64]; omega
      have a7 : IntKind.i64.wrap (5 * (y : Int)) = (y5 : Int) := by rw [IntKind.wrap_i64]; omega
      have a8 : IntKind.i64.wrap ((x : Int) + (y5 : Int)) = (o : Int) := by rw [IntKind.wrap_i64]; omega
      have a9 : IntKind.i64.wrap ((i : Int) + 1) = (i1 : Int) := by rw [IntKind.wrap_i64]; omega
      have a10 : IntKind.i64.wrap ((i : Int) + 2) = (i2 : Int) := by rw [IntKind.wrap_i64]; omega
      have hmi : ((i1 : Int) * (i2 : Int)) = (mm : Int) := by rw [hmm]; exact (Int.natCast_mul i1 i2).symm
      have a11 : IntKind.i64.wrap ((i1 : Int) * (i2 : Int)) = (mm : Int) := by rw [hmi, IntKind.wrap_i64]; omega
      have a12 : (mm : Int).tdiv 2 = (k : Int) := by rw [Int.tdiv_eq_ediv_of_nonneg (by omega)]; omega
      have a12' : (mm : Int) / 2 = (k : Int) := by omega
      have a13 : wrap64 (k : Int) = (k : Int) := by
        have h : IntKind.i64.wrap (k : Int) = (k : Int) := by rw [IntKind.wrap_i64]; omega
        first | exact h | (unfold wrap64; omega) | (simp [wrap64]; omega) | (rw [← IntKind.wrap_i64]; exact h)
      have sb : Sat W0 wr (seg true gb 0 (u64s A) :: _) := s.pull 1
      have cb := sb.at o (u64s_get A o (by rw [HN.out]; exact ho25))
      have zb := sb.lt (by rw [u64s_len, HN.out]; decide)
      have zo := s.lt (by rw [u64s_len, hDl]; decide)
      have co := s.at q (u64s_get _ q (by rw [hDl]; exact hq25))
      have fo := s.fr q (by rw [u64s_len, hDl]; exact hq25)
      obtain ⟨v, hv⟩ : ∃ v, v = A.getD o 0 := ⟨_, rfl⟩
      obtain ⟨u, hu⟩ : ∃ u, u = (wkTo A i).getD q 0 := ⟨_, rfl⟩
      rw [← hv] at cb hnx
      rw [← hu] at co
      have htk := fun w => turn64k w v k hk1
      have HX := Lib.hid (And.intro hnx (And.intro hDl (And.intro htk (And.intro hx' (And.intro hy' hi1))))); clear hnx hDl htk hx' hy' hx hy hx2 hy3 hsm hny hn5 hq hy5 ho hi1 hi2 hmm hk hmm6 hmi hv hu sb hp hn hk1
      go_wp2_with fail
      refine (HX.out.2.2.1 _).mono ?_
      rintro e w5 ⟨rfl, nq, rfl⟩
      go_wp2_with fail
      go_roundw
      case rel =>
        refine ⟨i + 1, by omega, ?_, ?_, ?_, ?_⟩
        · rw [← HX.out.2.2.2.2.2]
        · rw [HX.out.2.2.2.1]
        · rw [HX.out.2.2.2.2.1]
        · have st := (s.drewN nq).store (i := q) (by rw [u64s_len, HX.out.2.1]; exact hq25) (.int .u64 (v64 (rotl v (k % 64)))) (q := q) (by simp)
          rw [u64s_set, ← HX.out.1, HX.out.2.2.2.2.2] at st
          exact st
      case measure =>
        have h9 := HX.out.2.2.2.2.2
        simp [intOf]
        omega
    · obtain rfl : i = 24 := by omega
      obtain ⟨R, hR⟩ : ∃ R, R = walked A := ⟨_, rfl⟩
      have hRl : R.length = 25 := by rw [hR]; exact wkTo_len A 24
      have s6 : Sat W0 wr (seg true go 0 (u64s R) :: seg true gb 0 (u64s A) :: seg true gr 0 (u64s lane0) :: L) := by rw [hR]; exact s
      have s5 : Sat W0 wr (seg true gr 0 (u64s lane0) :: seg true go 0 (u64s R) :: seg true gb 0 (u64s A) :: L) := s6.pull 2
      have ht : ((u64s R).drop 0).take 25 = u64s R := by rw [List.drop_zero]; exact List.take_of_length_le (by rw [u64s_len]; omega)
      have HR := Lib.hid (And.intro hRl (And.intro ht hR)); clear hRl ht hR s
      go_wp2_with (first | (refine wpl_load_agg rfl 251 (.tmp 3) rfl Tryz.underlying251 rfl Tryz.size_ks s6 0 0 rfl rfl (by rw [u64s_len, HR.out.1]; exact Nat.le_refl _) ?_; rw [HR.out.2.1]) | (refine wpl_store_agg rfl rfl 251 (.tmp 2) (.tmp 43) rfl (cs := u64s R) s5 0 0 (by rw [u64s_len, HR.out.1]; exact Tryz.size_ks) rfl (by rfl) rfl (by rw [u64s_len, u64s_len, HR.out.1, lane0_len]; decide) (u64s_one _) ?_; intro w7 s7; rw [setL_all _ _ (by rw [u64s_len, u64s_len, HR.out.1, lane0_len])] at s7))
      refine bodyPost_ret (v := .agg (u64s R).toArray) ?_ rfl ⟨by rw [HR.out.2.2], ((s7.drop 0).drop 0).drop 0⟩
      have hr := run_ret64 Tryz.underlying251 Tryz.size_ks s7 HR.out.1
      simp [results, Tryz.results235, asAddr]; exact hr
end Go.Proofs.YtooolimpkafhaaaGreat
