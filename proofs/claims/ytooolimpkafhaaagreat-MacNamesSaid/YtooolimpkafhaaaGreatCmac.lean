
/- CMAC: blocks xored and doubled, a mac begun; under the conditions that each names. -/
import Derived.Test.YtooolimpkafhaaaGreatCmacM
import Derived.Test.YtooolimpkafhaaaGreatAes4
namespace Go.Proofs.YtooolimpkafhaaaGreat
open Go.RowKit Go.Sep Go.Bv Go.Aes
set_option linter.unusedVariables false
set_option linter.unusedSimpArgs false
set_option maxRecDepth 100000 in
set_option maxHeartbeats 2000000 in
theorem cmacXored {W0 w : World} {L : List Assn} {av bv : Value} (B K : List Byte) (hav : av = .agg (u8s B).toArray) (hbv : bv = .agg (u8s K).toArray) (hB : B.length = 16) (hK : K.length = 16) (hs : Sat W0 w L) :
    Calls Tryz.prog 161 #[av, bv] w fun e w' => e = .returned (.agg (u8s (xorL B K)).toArray) ∧ Sat W0 w' L := by
  subst hav hbv
  have hfin : xorTo B K 16 = xorL B K := xorTo_all B K 16 hB hK
  have hst : xorTo B K 0 = B := xorTo_zero B K
  have HN := Lib.hid (And.intro hB (And.intro hK (And.intro hfin hst))); clear hB hK hfin hst
  go_enter Tryz.func161, Tryz.ntmps161
  go_wp2_with (first | (refine wpl_box rfl 158 (.tmp 0) rfl (u8s B) rfl hs ?_; intro w1 gb s1 _; clear hs) | (refine wpl_box rfl 158 (.tmp 1) rfl (u8s K) rfl s1 ?_; intro w2 gk s2 _; clear s1) | (refine wpl_al16 rfl rfl s2 ?_; intro w3 gr s3 _; clear s2))
  have s4 : Sat W0 w3 (seg true gb 0 (u8s (xorTo B K 0)) :: seg true gk 0 (u8s K) :: seg true gr 0 (u8s nought16) :: L) := by rw [HN.out.2.2.2]; exact (Sat.sub (s3) (by (repeat (first | with_reducible exact Fr.done | with_reducible exact Fr.nil | (with_reducible apply Fr.cons; (focus ((repeat (first | with_reducible exact Take.here | with_reducible apply Take.there)); done))) | with_reducible apply Fr.skip))))
  clear s3
  go_loopw [6] (fun t6 wr => ∃ i : Nat, i ≤ 16 ∧ t6 = .int .i64 (i : Int) ∧ Sat W0 wr (seg true gb 0 (u8s (xorTo B K i)) :: seg true gk 0 (u8s K) :: seg true gr 0 (u8s nought16) :: L)) (fun t6 _ => 16 - (intOf t6).toNat)
  case atStart => exact ⟨0, by omega, rfl, s4⟩
  case round =>
    clear s4
    obtain ⟨i, hi, rfl, s⟩ := hrel
    by_cases hlt : i < 16
    · have hxl := (xorTo_len B K i).trans HN.out.1
      have cb := s.at i (u8s_get _ i (by rw [hxl]; exact hlt))
      rw [xorTo_get B K i (by rw [HN.out.1]; exact hlt)] at cb
      have fb := s.fr i (by rw [u8s_len, hxl]; exact hlt)
      have zb := s.lt (by rw [u8s_len, hxl]; decide)
      have sk : Sat W0 _ (seg true gk 0 (u8s K) :: _) := s.pull 1
      have ck := sk.at i (u8s_get K i (by rw [HN.out.2.1]; exact hlt))
      have zk := sk.lt (by rw [u8s_len, HN.out.2.1]; decide)
      obtain ⟨x, hxx⟩ : ∃ x, x = B.getD i 0 := ⟨_, rfl⟩
      obtain ⟨y, hyy⟩ : ∃ y, y = K.getD i 0 := ⟨_, rfl⟩
      rw [← hxx] at cb
      rw [← hyy] at ck
      have HX := Lib.hid (And.intro hxx (And.intro hyy hxl)); clear hxx hyy hxl sk
      go_wp2_with fail
      refine wp_region_quiet_tail_lit 7 (by kernel_rfl) (by kernel_rfl) ?_
      simp only [List.take_succ_cons, List.take_zero, List.drop_succ_cons, List.drop_zero]
      repeat (go_big_quiet_step (fail))
      refine wpQuiet_nil ?_
      rintro _ ⟨nq, rfl⟩
      go_wp2
      go_roundw
      case rel =>
        refine ⟨i + 1, by omega, by go_num, ?_⟩
        have st := (s.drewN nq).store (i := i) (by rw [u8s_len, HX.out.2.2]; exact hlt) (.int .u8 (v8 (x ^^^ y))) (q := i) (by simp)
        rw [u8s_set, HX.out.1, HX.out.2.1, xorTo_set, ← HX.out.1, ← HX.out.2.1, ← vxor8] at st
        exact st
      case measure => simp [intOf]; omega
    · obtain rfl : i = 16 := by omega
      rw [HN.out.2.2.1] at s
      have hRl : (xorL B K).length = 16 := by rw [xorL_len _ _ (by rw [HN.out.1, HN.out.2.1])]; exact HN.out.1
      obtain ⟨R, hR⟩ : ∃ R, R = xorL B K := ⟨_, rfl⟩
      rw [← hR] at s hRl
      have HR := Lib.hid (And.intro hR hRl); clear hR hRl
      go_wp2_with (first | (refine wpl_ld8a rfl (.tmp 2) rfl Tryz.underlying158 Tryz.size_b16 s rfl HR.out.2 ?_) | (refine wpl_st8a rfl rfl (.tmp 4) (.tmp 18) rfl (s.pull 2 : Sat W0 _ (seg true gr 0 (u8s nought16) :: _)) Tryz.size_b16 rfl rfl HR.out.2 nought16_len ?_; intro w9 s9))
      refine bodyPost_ret (v := .agg (u8s R).toArray) ?_ rfl ⟨by rw [HR.out.1], ((s9.drop 0).drop 0).drop 0⟩
      · have hr := run_ret8 Tryz.underlying158 Tryz.size_b16 s9 HR.out.2
        simp [results, Tryz.results161, asAddr]; exact hr
theorem vshl8b (x : BitVec 8) : IntKind.u8.wrap (v8 x * (2 : Int)) = v8 (x <<< 1) := vshl8w x 1
theorem vand8_135 (x : BitVec 8) : bits .and .u8 135 (v8 x) = v8 (135 &&& x) := vand8 135 x
set_option maxRecDepth 100000 in
set_option maxHeartbeats 2000000 in
theorem cmacDouble {W0 w : World} {L : List Assn} {bv : Value} (B : List Byte) (hbv : bv = .agg (u8s B).toArray) (hB : B.length = 16) (hs : Sat W0 w L) :
    Calls Tryz.prog 102 #[bv] w fun e w' => e = .returned (.agg (u8s (dbl B)).toArray) ∧ Sat W0 w' L := by
  subst hbv
  have hst : dblTo B 0 = nought16 := dblTo_zero B
  have HN := Lib.hid (And.intro hB hst); clear hB hst
  go_enter Tryz.func102, Tryz.ntmps102
  go_wp2_with (first | (refine wpl_box rfl 158 (.tmp 0) rfl (u8s B) rfl hs ?_; intro w1 gb s1 _; clear hs) | (refine wpl_al16 rfl rfl s1 ?_; intro w2 gr s2 _; clear s1) | (refine wpl_al16 rfl rfl s2 ?_; intro w3 go s3 _; clear s2))
  have s4 : Sat W0 w3 (seg true go 0 (u8s (dblTo B 0)) :: seg true gb 0 (u8s B) :: seg true gr 0 (u8s nought16) :: L) := by rw [HN.out.2]; exact (Sat.sub (s3) (by (repeat (first | with_reducible exact Fr.done | with_reducible exact Fr.nil | (with_reducible apply Fr.cons; (focus ((repeat (first | with_reducible exact Take.here | with_reducible apply Take.there)); done))) | with_reducible apply Fr.skip))))
  clear s3
  go_loopw [5] (fun t5 wr => ∃ i : Nat, i ≤ 16 ∧ t5 = .int .i64 (i : Int) ∧ Sat W0 wr (seg true go 0 (u8s (dblTo B i)) :: seg true gb 0 (u8s B) :: seg true gr 0 (u8s nought16) :: L)) (fun t5 _ => 16 - (intOf t5).toNat)
  case atStart => exact ⟨0, by omega, rfl, s4⟩
  case round =>
    clear s4
    obtain ⟨i, hi, rfl, s⟩ := hrel
    have hDl := dblTo_len B i
    have zo := s.lt (by rw [u8s_len, hDl]; decide)
    have sb : Sat W0 _ (seg true gb 0 (u8s B) :: _) := s.pull 1
    have zb := sb.lt (by rw [u8s_len, HN.out.1]; decide)
    by_cases hlt : i < 16
    · have co := s.at i (u8s_get _ i (by rw [hDl]; exact hlt))
      have fo := s.fr i (by rw [u8s_len, hDl]; exact hlt)
      have cb := sb.at i (u8s_get B i (by rw [HN.out.1]; exact hlt))
      obtain ⟨x, hx⟩ : ∃ x, x = B.getD i 0 := ⟨_, rfl⟩
      obtain ⟨y, hy⟩ : ∃ y, y = (dblTo B i).getD i 0 := ⟨_, rfl⟩
      rw [← hx] at cb
      rw [← hy] at co
      have st1 := s.store (i := i) (by rw [u8s_len, hDl]; exact hlt) (.int .u8 (v8 (x <<< 1))) (q := i) (by simp)
      have co2 := st1.at i (v := .int .u8 (v8 (x <<< 1))) (by rw [List.getElem?_set_self (by rw [u8s_len, hDl]; exact hlt)])
      have fo2 := st1.fr i (by rw [List.length_set, u8s_len, hDl]; exact hlt)
      by_cases h15 : i < 15
      · have hnx : dblAt B i = (x <<< 1) ||| (B.getD (i + 1) 0 >>> 7) := by rw [hx]; exact if_pos h15
        have sb1 : Sat W0 _ (seg true gb 0 (u8s B) :: _) := st1.pull 1
        have cb1 := sb1.at (i + 1) (u8s_get B (i + 1) (by rw [HN.out.1]; omega))
        obtain ⟨x1, hx1⟩ : ∃ x, x = B.getD (i + 1) 0 := ⟨_, rfl⟩
        rw [← hx1] at cb1 hnx
        have e1 : IntKind.i64.wrap ((i : Int) + 1) = ((i + 1 : Nat) : Int) := by rw [IntKind.wrap_i64]; omega
        have hi1 : i + 1 < 16 := by omega
        rw [← vshl8_1] at co2 cb1 fo2
        have HX := Lib.hid (And.intro hnx (And.intro hDl st1)); clear hnx hDl hx hx1 hy sb sb1 st1
        go_wp2_with fail
        refine wp_region_quiet_tail_lit 9 (by kernel_rfl) (by kernel_rfl) ?_
        simp only [List.take_succ_cons, List.take_zero, List.drop_succ_cons, List.drop_zero]
        repeat (go_big_quiet_step (fail))
        refine wpQuiet_nil ?_
        rintro _ ⟨nq, rfl⟩
        go_wp2
        go_roundw
        case rel =>
          obtain ⟨hnx, hDl, st1⟩ := HX.out
          refine ⟨i + 1, by omega, by go_num, ?_⟩
          have st := (st1.drewN nq).store (i := i) (by rw [List.length_set, u8s_len, hDl]; exact hlt) (.int .u8 (v8 ((x <<< 1) ||| (x1 >>> 7)))) (q := i) (by simp)
          rw [List.set_set, u8s_set, ← hnx, dblTo_set] at st
          rw [hnx, ← vor8, ← vshr8_7, ← vshl8_1] at st
          exact st
        case measure => simp [intOf]; omega
      · have hnx : dblAt B i = x <<< 1 := by rw [hx]; exact if_neg h15
        have HX := Lib.hid (And.intro hnx (And.intro hDl st1)); clear hnx hDl hx hy sb st1 co2 fo2
        go_wp2
        go_roundw
        case rel =>
          obtain ⟨hnx, hDl, st1⟩ := HX.out
          refine ⟨i + 1, by omega, by go_num, ?_⟩
          rw [u8s_set, ← hnx, dblTo_set, hnx, ← vshl8_1] at st1
          exact st1
        case measure => simp [intOf]; omega
    · obtain rfl : i = 16 := by omega
      have co := s.at 15 (u8s_get _ 15 (by rw [hDl]; decide))
      rw [dblTo_get] at co
      have fo := s.fr 15 (by rw [u8s_len, hDl]; decide)
      have cb := sb.at 0 (u8s_get B 0 (by rw [HN.out.1]; decide))
      have hnx : dbl B = (dblTo B 16).set 15 ((B.getD 15 0 <<< 1) ^^^ (135 &&& -(B.getD 0 0 >>> 7))) := rfl
      obtain ⟨x, hx⟩ : ∃ x, x = B.getD 0 0 := ⟨_, rfl⟩
      obtain ⟨y, hy⟩ : ∃ y, y = B.getD 15 0 <<< 1 := ⟨_, rfl⟩
      rw [← hx] at cb hnx
      rw [← hy] at co hnx
      have st := s.store (i := 15) (by rw [u8s_len, hDl]; decide) (.int .u8 (v8 (y ^^^ (135 &&& -(x >>> 7))))) (q := 15) (by simp)
      rw [u8s_set, ← hnx] at st
      have hRl := dbl_len B
      obtain ⟨R, hR⟩ : ∃ R, R = dbl B := ⟨_, rfl⟩
      rw [← hR] at st hRl
      have hw : bits .xor .u8 (v8 y) (bits .and .u8 135 (-(v8 x / 128) % 256)) = v8 (y ^^^ (135 &&& -(x >>> 7))) := by rw [vshr8_7, vneg8, vand8_135, vxor8]; rfl
      rw [← hw] at st
      have HR := Lib.hid (And.intro hR (And.intro hRl st)); clear hR hRl hnx hx hy hDl sb st s hw
      have hp := HR.out.2.2
      go_wp2_with (first | (refine wpl_ld8a rfl (.tmp 3) rfl Tryz.underlying158 Tryz.size_b16 hp rfl HR.out.2.1 ?_) | (refine wpl_st8a rfl rfl (.tmp 2) (.tmp 36) rfl (hp.pull 2 : Sat W0 _ (seg true gr 0 (u8s nought16) :: _)) Tryz.size_b16 rfl rfl HR.out.2.1 nought16_len ?_; intro w9 s9))
      refine bodyPost_ret (v := .agg (u8s R).toArray) ?_ rfl ⟨by rw [HR.out.1], ((s9.drop 0).drop 0).drop 0⟩
      · have hr := run_ret8 Tryz.underlying158 Tryz.size_b16 s9 HR.out.2.1
        simp [results, Tryz.results102, asAddr]; exact hr
end Go.Proofs.YtooolimpkafhaaaGreat
