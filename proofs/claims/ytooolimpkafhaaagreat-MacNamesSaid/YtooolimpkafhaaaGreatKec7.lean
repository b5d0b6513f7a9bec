
/- Keccak's permutation; under the conditions that each names. -/
import Derived.Test.YtooolimpkafhaaaGreatKec3
import Derived.Test.YtooolimpkafhaaaGreatKec6
namespace Go.Kec
open Go.Bv Go.Sep
set_option linter.unusedVariables false
/-- The third step, over the first n lanes. -/
def chiTo (S B : List (BitVec 64)) : Nat → List (BitVec 64)
  | 0 => S
  | n + 1 => (chiTo S B n).set n (B.getD n 0 ^^^ (~~~(B.getD (n - n % 5 + (n + 1) % 5) 0) &&& B.getD (n - n % 5 + (n + 2) % 5) 0))
theorem chiTo_len (S B : List (BitVec 64)) : ∀ n, (chiTo S B n).length = S.length
  | 0 => rfl
  | n + 1 => by unfold chiTo; rw [List.length_set]; exact chiTo_len S B n
theorem theta_len (A : List (BitVec 64)) : (theta A).length = A.length := thTo_len _ A 25
theorem walked_len (A : List (BitVec 64)) : (walked A).length = 25 := wkTo_len A 24
/-- A round. -/
def kround (S : List (BitVec 64)) (c : BitVec 64) : List (BitVec 64) := (chiTo (theta S) (walked (theta S)) 25).set 0 ((chiTo (theta S) (walked (theta S)) 25).getD 0 0 ^^^ c)
theorem kround_len (S : List (BitVec 64)) (c : BitVec 64) : (kround S c).length = S.length := by unfold kround; rw [List.length_set, chiTo_len, theta_len]
def kecN (S : List (BitVec 64)) : Nat → List (BitVec 64)
  | 0 => S
  | n + 1 => kround (kecN S n) (rcAll.getD n 0)
theorem kecN_len (S : List (BitVec 64)) : ∀ n, (kecN S n).length = S.length
  | 0 => rfl
  | n + 1 => by unfold kecN; rw [kround_len, kecN_len S n]
def kecF (S : List (BitVec 64)) : List (BitVec 64) := kecN S 24
theorem kecF_len (S : List (BitVec 64)) : (kecF S).length = S.length := kecN_len S 24
end Go.Kec
namespace Go.Proofs.YtooolimpkafhaaaGreat
open Go.RowKit Go.Sep Go.Bv Go.Kec
set_option linter.unusedVariables false
set_option linter.unusedSimpArgs false
theorem vnot64k (x : BitVec 64) : bits .xor .u64 IntKind.u64.max (v64 x) = v64 (~~~x) := vnot64 x
set_option maxRecDepth 100000 in
set_option maxHeartbeats 8000000 in
theorem kecPermute {W0 w : World} {L : List Assn} {pv : Value} (p : Option Nat) (rs : List Run3) (A : List (BitVec 64)) (hp : pv = ptrO p) (hA : A.length = 25) (hb : tot rs + 1 ≤ 4611686018427387904) (hl : rs.length ≤ 4294967296) (hs : Sat W0 w (ledO p rs :: L)) :
    Calls Tryz.prog 206 #[pv, .agg (u64s A).toArray] w fun e w' => e = .returned (.agg (u64s (kecF A)).toArray) ∧ Sat W0 w' (ledO p (note rs 3 200 1) :: L) := by
  subst hp
  have hR24 : rcAll.length = 24 := rcTo_len 24
  obtain ⟨RC, hRC⟩ : ∃ RC, RC = rcAll := ⟨_, rfl⟩
  rw [← hRC] at hR24
  have HN := Lib.hid (And.intro hA (And.intro hb (And.intro hl (And.intro hR24 hRC)))); clear hA hb hl hR24 hRC
  go_enter Tryz.func206, Tryz.ntmps206
  go_wp2_with (first | (refine wpl_box rfl 251 (.tmp 1) rfl (u64s A) rfl hs ?_; intro w1 gb s1 _; clear hs) | (refine wpl_alloc_agg rfl 251 rfl s1 _ (zero_ks _) ?_; intro w2 gr s2 _; clear s1))
  refine (noteOne p rs 3 200 ((Sat.sub (s2) (by (repeat (first | with_reducible exact Fr.done | with_reducible exact Fr.nil | (with_reducible apply Fr.cons; (focus ((repeat (first | with_reducible exact Take.here | with_reducible apply Take.there)); done))) | with_reducible apply Fr.skip)))) : Sat W0 w2 (ledO p rs :: seg true gr 0 (u64s lane0) :: seg true gb 0 (u64s A) :: L)) HN.out.2.1 HN.out.2.2.1).mono ?_
  rintro e w3 ⟨rfl, s3⟩
  clear s2
  go_wp2_with fail
  refine (kecConsts s3).mono ?_
  rintro e w4 ⟨rfl, s4'⟩
  clear s3
  have s4'' : Sat W0 w4 (seg true gb 0 (u64s A) :: seg true gr 0 (u64s lane0) :: ledO p (note rs 3 200 1) :: L) := (Sat.sub (s4') (by (repeat (first | with_reducible exact Fr.done | with_reducible exact Fr.nil | (with_reducible apply Fr.cons; (focus ((repeat (first | with_reducible exact Take.here | with_reducible apply Take.there)); done))) | with_reducible apply Fr.skip))))
  have s4 : Sat W0 w4 (seg true gb 0 (u64s (kecN A 0)) :: seg true gr 0 (u64s lane0) :: ledO p (note rs 3 200 1) :: L) := s4''
  clear s4' s4''
  rw [← HN.out.2.2.2.2]
  go_wp2_with fail
  go_loopw [14] (fun t14 wr => ∃ i : Nat, i ≤ 24 ∧ t14 = .int .i64 (i : Int) ∧ Sat W0 wr (seg true gb 0 (u64s (kecN A i)) :: seg true gr 0 (u64s lane0) :: ledO p (note rs 3 200 1) :: L)) (fun t14 _ => 24 - (intOf t14).toNat)
  case atStart => exact ⟨0, by omega, rfl, s4⟩
  case round =>
    clear s4
    obtain ⟨i, hi, rfl, s⟩ := hrel
    by_cases hlt : i < 24
    · have hix := fun w => run_index_list (P := Tryz.prog) (t := 266) (e := 238) Tryz.underlying266 (by kernel_rfl) (fun w => by kernel_rfl) (u64s RC) (by rw [u64s_len, HN.out.2.2.2.1]) i hlt w
      have hgd : (u64s RC).getD i undef = .int .u64 (v64 (RC.getD i 0)) := by rw [List.getD_eq_getElem?_getD, u64s_get RC i (by rw [HN.out.2.2.2.1]; exact hlt)]; rfl
      obtain ⟨c, hc⟩ : ∃ c, c = RC.getD i 0 := ⟨_, rfl⟩
      rw [hgd, ← hc] at hix
      have hSl := kecN_len A i
      rw [HN.out.1] at hSl
      have hnx : kecN A (i + 1) = kround (kecN A i) c := by rw [hc, HN.out.2.2.2.2]; rfl
      obtain ⟨S, hS⟩ : ∃ S, S = kecN A i := ⟨_, rfl⟩
      rw [← hS] at hSl s hnx
      have hi1 : IntKind.i64.wrap ((i : Int) + 1) = ((i + 1 : Nat) : Int) := by rw [IntKind.wrap_i64]; omega
      have HX := Lib.hid (And.intro hnx hSl); clear hnx hSl hS hc hgd
      go_wp2_with fail
      refine (kecTheta S HX.out.2 s).mono ?_
      rintro e w5 ⟨rfl, s5⟩
      clear s
      have hTl := theta_len S
      rw [HX.out.2] at hTl
      obtain ⟨T, hT⟩ : ∃ T, T = theta S := ⟨_, rfl⟩
      rw [← hT] at s5 hTl
      have ht : ((u64s T).drop 0).take 25 = u64s T := by rw [List.drop_zero]; exact List.take_of_length_le (by rw [u64s_len]; omega)
      have hBl := walked_len T
      obtain ⟨B, hB⟩ : ∃ B, B = walked T := ⟨_, rfl⟩
      have hwk := kecWalk T hTl s5
      rw [← hB] at hBl hwk
      have hkr : kround S c = (chiTo T B 25).set 0 ((chiTo T B 25).getD 0 0 ^^^ c) := by rw [hB, hT]; rfl
      have HT := Lib.hid (And.intro hTl (And.intro ht (And.intro hBl (And.intro hkr hwk)))); clear hTl ht hBl hkr hwk hT hB
      go_wp2_with (refine wpl_load_agg rfl 251 (.tmp 3) rfl Tryz.underlying251 rfl Tryz.size_ks s5 0 0 rfl rfl (by rw [u64s_len, HT.out.1]; exact Nat.le_refl _) ?_; rw [HT.out.2.1])
      refine HT.out.2.2.2.2.mono ?_
      rintro e w6 ⟨rfl, s6⟩
      clear s5
      go_wp2_with (first | (refine wpl_alloc_agg rfl 251 rfl s6 _ (zero_ks _) ?_; intro w7 g7 s7 _; clear s6) | (refine wpl_store_agg rfl rfl 251 (.tmp 7) (.tmp 19) rfl (cs := u64s B) s7 0 0 (by rw [u64s_len, HT.out.2.2.1]; exact Tryz.size_ks) rfl (by rfl) rfl (by rw [u64s_len, u64s_len, HT.out.2.2.1, lane0_len]; decide) (u64s_one _) ?_; intro w8 s8; rw [setL_all _ _ (by rw [u64s_len, u64s_len, HT.out.2.2.1, lane0_len])] at s8; clear s7))
      have s9' : Sat W0 w8 (seg true gb 0 (u64s T) :: seg true g7 0 (u64s B) :: seg true gr 0 (u64s lane0) :: ledO p (note rs 3 200 1) :: L) := (Sat.sub (s8) (by (repeat (first | with_reducible exact Fr.done | with_reducible exact Fr.nil | (with_reducible apply Fr.cons; (focus ((repeat (first | with_reducible exact Take.here | with_reducible apply Take.there)); done))) | with_reducible apply Fr.skip))))
      have s9 : Sat W0 w8 (seg true gb 0 (u64s (chiTo T B 0)) :: seg true g7 0 (u64s B) :: seg true gr 0 (u64s lane0) :: ledO p (note rs 3 200 1) :: L) := s9'
      clear s8 s9' hix
      go_loopw [20] (fun t20 wr => ∃ j : Nat, j ≤ 25 ∧ t20 = .int .i64 (j : Int) ∧ Sat W0 wr (seg true gb 0 (u64s (chiTo T B j)) :: seg true g7 0 (u64s B) :: seg true gr 0 (u64s lane0) :: ledO p (note rs 3 200 1) :: L)) (fun t20 _ => 25 - (intOf t20).toNat)
      case atStart => exact ⟨0, by omega, rfl, s9⟩
      case round =>
        clear s9
        obtain ⟨j, hj, rfl, s⟩ := hrel
        have hCl := chiTo_len T B j
        rw [HT.out.1] at hCl
        by_cases hlj : j < 25
        · obtain ⟨r, hr⟩ : ∃ r, r = j % 5 := ⟨_, rfl⟩
          obtain ⟨o, ho⟩ : ∃ o, o = j - r := ⟨_, rfl⟩
          obtain ⟨j1, hj1⟩ : ∃ j1, j1 = j + 1 := ⟨_, rfl⟩
          obtain ⟨j2, hj2⟩ : ∃ j2, j2 = j + 2 := ⟨_, rfl⟩
          obtain ⟨m1, hm1⟩ : ∃ m1, m1 = j1 % 5 := ⟨_, rfl⟩
          obtain ⟨m2, hm2⟩ : ∃ m2, m2 = j2 % 5 := ⟨_, rfl⟩
          obtain ⟨q1, hq1⟩ : ∃ q1, q1 = o + m1 := ⟨_, rfl⟩
          obtain ⟨q2, hq2⟩ : ∃ q2, q2 = o + m2 := ⟨_, rfl⟩
          have hq125 : q1 < 25 := by omega
          have hq225 : q2 < 25 := by omega
          have hnx : (chiTo T B j).set j (B.getD j 0 ^^^ (~~~(B.getD q1 0) &&& B.getD q2 0)) = chiTo T B (j + 1) := by rw [hq1, hq2, hm1, hm2, hj1, hj2, ho, hr]; rfl
          have sb : Sat W0 wr (seg true g7 0 (u64s B) :: _) := s.pull 1
          have zb := sb.lt (by rw [u64s_len, HT.out.2.2.1]; decide)
          have b0 := sb.at j (u64s_get B j (by rw [HT.out.2.2.1]; exact hlj))
          have b1 := sb.at q1 (u64s_get B q1 (by rw [HT.out.2.2.1]; exact hq125))
          have b2 := sb.at q2 (u64s_get B q2 (by rw [HT.out.2.2.1]; exact hq225))
          have za := s.lt (by rw [u64s_len, hCl]; decide)
          have fa := s.fr j (by rw [u64s_len, hCl]; exact hlj)
          obtain ⟨xo, hxo⟩ : ∃ xo, xo = (chiTo T B j).getD j 0 := ⟨_, rfl⟩
          have ca := s.at j (u64s_get _ j (by rw [hCl]; exact hlj))
          obtain ⟨x, hx⟩ : ∃ x, x = B.getD j 0 := ⟨_, rfl⟩
          obtain ⟨y, hy⟩ : ∃ y, y = B.getD q1 0 := ⟨_, rfl⟩
          obtain ⟨z, hz⟩ : ∃ z, z = B.getD q2 0 := ⟨_, rfl⟩
          rw [← hxo] at ca
          rw [← hx] at b0 hnx
          rw [← hy] at b1 hnx
          rw [← hz] at b2 hnx
          have e2 : (j : Int).tmod 5 = (r : Int) := by rw [Int.tmod_eq_emod_of_nonneg (by omega)]; omega
          have e2' : (j : Int) % 5 = (r : Int) := by omega
          have e3 : IntKind.i64.wrap ((j : Int) - (r : Int)) = (o : Int) := by rw [IntKind.wrap_i64]; omega
          have e4 : IntKind.i64.wrap ((j : Int) + 1) = (j1 : Int) := by rw [IntKind.wrap_i64]; omega
          have e5 : IntKind.i64.wrap ((j : Int) + 2) = (j2 : Int) := by rw [IntKind.wrap_i64]; omega
          have e6 : (j1 : Int).tmod 5 = (m1 : Int) := by rw [Int.tmod_eq_emod_of_nonneg (by omega)]; omega
          have e7 : (j2 : Int).tmod 5 = (m2 : Int) := by rw [Int.tmod_eq_emod_of_nonneg (by omega)]; omega
          have e6' : (j1 : Int) % 5 = (m1 : Int) := by omega
          have e7' : (j2 : Int) % 5 = (m2 : Int) := by omega
          have e8 : IntKind.i64.wrap ((o : Int) + (m1 : Int)) = (q1 : Int) := by rw [IntKind.wrap_i64]; omega
          have e9 : IntKind.i64.wrap ((o : Int) + (m2 : Int)) = (q2 : Int) := by rw [IntKind.wrap_i64]; omega
          have HY := Lib.hid (And.intro hnx (And.intro hCl hj1)); clear hnx hCl hx hy hz hxo hr ho hj1 hj2 hm1 hm2 hq1 hq2 sb
          go_wp2_with fail
          refine wp_region_quiet_tail_lit 21 (by kernel_rfl) (by kernel_rfl) ?_
          simp only [List.take_succ_cons, List.take_zero, List.drop_succ_cons, List.drop_zero]
          repeat (go_big_quiet_step (fail))
          refine wpQuiet_nil ?_
          rintro _ ⟨nq, rfl⟩
          go_wp2_with fail
          go_roundw
          case rel =>
            refine ⟨j + 1, by omega, by rw [← HY.out.2.2], ?_⟩
            have st := (s.drewN nq).store (i := j) (by rw [u64s_len, HY.out.2.1]; exact hlj) (.int .u64 (v64 (x ^^^ (~~~y &&& z)))) (q := j) (by simp)
            rw [u64s_set, HY.out.1] at st
            rw [vnot64, vand64, vxor64]
            exact st
          case measure => have := HY.out.2.2; simp [intOf]; omega
        · obtain rfl : j = 25 := by omega
          obtain ⟨X, hX⟩ : ∃ X, X = chiTo T B 25 := ⟨_, rfl⟩
          rw [← hX] at s hCl
          have za := s.lt (by rw [u64s_len, hCl]; decide)
          have ca := s.at 0 (u64s_get X 0 (by rw [hCl]; decide))
          have fa := s.fr 0 (by rw [u64s_len, hCl]; decide)
          have hfin : kecN A (i + 1) = X.set 0 (X.getD 0 0 ^^^ c) := by rw [HX.out.1, HT.out.2.2.2.1, hX]
          obtain ⟨x, hx⟩ : ∃ x, x = X.getD 0 0 := ⟨_, rfl⟩
          rw [← hx] at ca hfin
          have HY := Lib.hid (And.intro hfin hCl); clear hfin hCl hX hx
          go_wp2_with fail
          go_roundw
          case rel =>
            refine ⟨i + 1, by omega, by go_num, ?_⟩
            have st := s.store (i := 0) (by rw [u64s_len, HY.out.2]; decide) (.int .u64 (v64 (x ^^^ c))) (q := 0) (by simp)
            rw [u64s_set, ← HY.out.1] at st
            try simp only [vxor64]
            have st2 : Sat W0 _ (seg true gb 0 (u64s (kecN A (i + 1))) :: seg true g7 0 (u64s B) :: seg true gr 0 (u64s lane0) :: ledO p (note rs 3 200 1) :: L) := st
            exact (Sat.sub (st2) (by (repeat (first | with_reducible exact Fr.done | with_reducible exact Fr.nil | (with_reducible apply Fr.cons; (focus ((repeat (first | with_reducible exact Take.here | with_reducible apply Take.there)); done))) | with_reducible apply Fr.skip))))
          case measure => simp [intOf]; omega
    · obtain rfl : i = 24 := by omega
      obtain ⟨R, hR⟩ : ∃ R, R = kecF A := ⟨_, rfl⟩
      have hRl : R.length = 25 := by rw [hR, kecF_len]; exact HN.out.1
      have s6 : Sat W0 wr (seg true gb 0 (u64s R) :: seg true gr 0 (u64s lane0) :: ledO p (note rs 3 200 1) :: L) := by rw [hR]; exact s
      have s5 : Sat W0 wr (seg true gr 0 (u64s lane0) :: seg true gb 0 (u64s R) :: ledO p (note rs 3 200 1) :: L) := s6.pull 1
      have ht : ((u64s R).drop 0).take 25 = u64s R := by rw [List.drop_zero]; exact List.take_of_length_le (by rw [u64s_len]; omega)
      have HR := Lib.hid (And.intro hRl (And.intro ht hR)); clear hRl ht hR s
      go_wp2_with (first | (refine wpl_load_agg rfl 251 (.tmp 3) rfl Tryz.underlying251 rfl Tryz.size_ks s6 0 0 rfl rfl (by rw [u64s_len, HR.out.1]; exact Nat.le_refl _) ?_; rw [HR.out.2.1]) | (refine wpl_store_agg rfl rfl 251 (.tmp 4) (.tmp 56) rfl (cs := u64s R) s5 0 0 (by rw [u64s_len, HR.out.1]; exact Tryz.size_ks) rfl (by rfl) rfl (by rw [u64s_len, u64s_len, HR.out.1, lane0_len]; decide) (u64s_one _) ?_; intro w7 s7; rw [setL_all _ _ (by rw [u64s_len, u64s_len, HR.out.1, lane0_len])] at s7))
      refine bodyPost_ret (v := .agg (u64s R).toArray) ?_ rfl ⟨by rw [HR.out.2.2], (s7.drop 0).drop 0⟩
      have hr := run_ret64 Tryz.underlying251 Tryz.size_ks s7 HR.out.1
      simp [results, Tryz.results206, asAddr]; exact hr
end Go.Proofs.YtooolimpkafhaaaGreat
