
/- The document's sha256 works a block into the words; each under the conditions that it names. -/
import Derived.Test.YtlmababpmmhhoaaGreatSha512b
import Derived.Test.YtlmababpmmhhoaaGreatWpm
namespace Go.Proofs.YtlmababpmmhhoaaGreat
open Go.RowKit Go.Sep Go.Bv Go.Sha
set_option linter.unusedVariables false
set_option linter.unusedSimpArgs false
theorem Tryz.size_a8u32 : (Tryz.prog.info? 103).map (·.size) = some 8 := by kernel_rfl
def nought8 : List (BitVec 32) := List.replicate 8 0
theorem nought8_len : nought8.length = 8 := rfl
theorem zero_a8u32 (w : World) : (zeroValue 103).run Tryz.prog w = .ok (.agg (u32s nought8).toArray) w := by kernel_rfl
theorem rright32i (w : World) (x : BitVec 32) (k : Int) (h1 : 1 ≤ k) (h2 : k ≤ 31) : Calls Tryz.prog 99 #[.int .u32 (v32 x), .int .i64 k] w fun e w' => e = .returned (.int .u32 (v32 (rotr x k.toNat))) ∧ ∃ n, w' = w.drewN n := by
  obtain ⟨n, rfl⟩ : ∃ n : Nat, k = n := ⟨k.toNat, by omega⟩
  rw [Int.toNat_natCast]
  exact rright32 w x n (by omega) (by omega)
set_option maxRecDepth 100000 in
set_option maxHeartbeats 1000000 in
theorem rtable256 {W0 w : World} {L : List Assn} (hs : Sat W0 w L) : Calls Tryz.prog 98 #[] w fun e w' => e = .returned (.agg (u32s K256).toArray) ∧ Sat W0 w' L := by
  go_enter Tryz.func98, Tryz.ntmps98
  go_wp2_with (first | (refine wpl_alloc_agg rfl 129 rfl hs _ (zero_a64u32 _) ?_; intro w1 g s1 _) | (refine wpl_store_agg rfl rfl 129 (.tmp 0) (.tmp 1) rfl (cs := u32s K256) s1 0 0 Tryz.size_a64u32 rfl (by rfl) rfl (by rw [u32s_len, u32s_len, K256_len, zero64_len]; decide) (u32s_one _) ?_; intro w2 s2))
  rw [setL_all _ _ (by rw [u32s_len, u32s_len, K256_len, zero64_len])] at s2
  refine bodyPost_ret (v := .agg (u32s K256).toArray) ?_ rfl ⟨rfl, s2.tail⟩
  have hr := run_loadVar_agg (P := Tryz.prog) (ty := 129) Tryz.underlying129 rfl Tryz.size_a64u32 s2 0 0 rfl (by simp [u32s_len, K256_len])
  rw [List.drop_zero, List.take_of_length_le (by simp [u32s_len, K256_len])] at hr
  simp [results, Tryz.results98, asAddr, hr]
theorem H256_len' : H256.length = 8 := by rfl
set_option maxRecDepth 100000 in
set_option maxHeartbeats 1000000 in
theorem rbegin256 {W0 w : World} {L : List Assn} (hs : Sat W0 w L) : Calls Tryz.prog 89 #[] w fun e w' => e = .returned (.agg (u32s H256).toArray) ∧ Sat W0 w' L := by
  go_enter Tryz.func89, Tryz.ntmps89
  go_wp2_with (first | (refine wpl_alloc_agg rfl 103 rfl hs _ (zero_a8u32 _) ?_; intro w1 g s1 _) | (refine wpl_store_agg rfl rfl 103 (.tmp 0) (.tmp 1) rfl (cs := u32s H256) s1 0 0 Tryz.size_a8u32 rfl (by rfl) rfl (by rw [u32s_len, u32s_len, H256_len', nought8_len]; decide) (u32s_one _) ?_; intro w2 s2))
  rw [setL_all _ _ (by rw [u32s_len, u32s_len, H256_len', nought8_len])] at s2
  refine bodyPost_ret (v := .agg (u32s H256).toArray) ?_ rfl ⟨rfl, s2.tail⟩
  have hr := run_loadVar_agg (P := Tryz.prog) (ty := 103) Tryz.underlying103 rfl Tryz.size_a8u32 s2 0 0 rfl (by simp [u32s_len, H256_len'])
  rw [List.drop_zero, List.take_of_length_le (by simp [u32s_len, H256_len'])] at hr
  simp [results, Tryz.results89, asAddr, hr]
/-- The schedule's first words. -/
def wk32 (blk : List Byte) (i : Nat) : List (BitVec 32) := if i ≤ 16 then (wordsOf 32 4 blk).take i else sched T256 (wordsOf 32 4 blk) (i - 16)
theorem wk32_len (blk : List Byte) (i : Nat) : (wk32 blk i).length = i := by
  unfold wk32; split
  · rw [List.length_take, wordsOf_len]; omega
  · rw [sched_len, wordsOf_len]; omega
theorem wk32_lo (blk : List Byte) (i : Nat) (h : i < 16) : wk32 blk (i + 1) = wk32 blk i ++ [takeBE 32 ((blk.drop (4 * i)).take 4)] := by
  unfold wk32
  rw [if_pos (by omega), if_pos (by omega), List.take_succ_eq_append_getElem (by rw [wordsOf_len]; exact h)]
  simp [wordsOf]
theorem wk32_hi (blk : List Byte) (i : Nat) (h : 16 ≤ i) : wk32 blk i = sched T256 (wordsOf 32 4 blk) (i - 16) := by
  unfold wk32; split
  · obtain rfl : i = 16 := by omega
    rw [List.take_of_length_le (by rw [wordsOf_len]; exact Nat.le_refl _)]; rfl
  · rfl
theorem wk32_ext (blk : List Byte) (i : Nat) (h : 16 ≤ i) : wk32 blk (i + 1) = wk32 blk i ++ [sml T256.s1 ((wk32 blk i).getD (i - 2) 0) + (wk32 blk i).getD (i - 7) 0 + sml T256.s0 ((wk32 blk i).getD (i - 15) 0) + (wk32 blk i).getD (i - 16) 0] := by
  have hl := wk32_len blk i
  rw [wk32_hi blk (i + 1) (by omega), show i + 1 - 16 = (i - 16) + 1 by omega, sched, ← wk32_hi blk i h, ext, hl]
theorem wpad32 (W : List (BitVec 32)) (x : BitVec 32) (i n : Nat) (h : W.length = i) (hn : i < n) : (W ++ List.replicate (n - i) 0).set i x = (W ++ [x]) ++ List.replicate (n - (i + 1)) 0 := by
  subst h
  rw [List.set_append_right _ _ (Nat.le_refl _), Nat.sub_self, show n - W.length = (n - (W.length + 1)) + 1 by omega, List.replicate_succ]
  simp
/-- The schedule while a word of it is being put together. -/
theorem wput32 (W : List (BitVec 32)) (x : BitVec 32) (i n : Nat) (h : W.length = i) (hn : i < n) : (W ++ x :: List.replicate (n - (i + 1)) 0).set i x = W ++ x :: List.replicate (n - (i + 1)) 0 := by
  subst h
  rw [List.set_append_right _ _ (Nat.le_refl _), Nat.sub_self, List.set_cons_zero]
theorem wput32' (W : List (BitVec 32)) (x y : BitVec 32) (i n : Nat) (h : W.length = i) : (W ++ x :: List.replicate (n - (i + 1)) 0).set i y = W ++ y :: List.replicate (n - (i + 1)) 0 := by
  subst h
  rw [List.set_append_right _ _ (Nat.le_refl _), Nat.sub_self, List.set_cons_zero]
theorem wnext32 (W : List (BitVec 32)) (i n : Nat) (hn : i < n) : W ++ List.replicate (n - i) 0 = W ++ (0 : BitVec 32) :: List.replicate (n - (i + 1)) 0 := by
  rw [show n - i = (n - (i + 1)) + 1 by omega, List.replicate_succ]
theorem vnot32m (x : BitVec 32) : bits .xor .u32 IntKind.u32.max (v32 x) = v32 (~~~x) := vnot32 x
theorem takeBE_nil (w : Nat) : takeBE w [] = 0 := rfl
theorem vtake32 (l : List Byte) (b : Byte) : bits .or .u32 (v32 (takeBE 32 l) * 256 % 4294967296) (v8 b % 4294967296) = v32 (takeBE 32 (l ++ [b])) := by
  rw [takeBE_snoc, show v32 (takeBE 32 l) * (256 : Int) % (4294967296 : Int) = v32 (takeBE 32 l <<< 8) from vshl32_8 _, vwide32m, vor32]
set_option maxRecDepth 100000 in
set_option maxHeartbeats 4000000 in
theorem rcomp256 {W0 w : World} {L : List Assn} {m : Bool} {bp op at_ n cap : Nat} (h : List (BitVec 32)) (P : List Byte) (hh : h.length = 8) (hP : P.length = n) (hat : at_ + 64 ≤ n) (hn : n ≤ 4611686018427387904)
    (hs : Sat W0 w (seg m bp op (u8s P) :: L)) :
    Calls Tryz.prog 90 #[.agg (u32s h).toArray, .slice (some ⟨bp, op, none⟩) n cap, .int .i64 (at_ : Int)] w fun e w' => e = .returned (.agg (u32s (comp256 h ((P.drop at_).take 64))).toArray) ∧ Sat W0 w' (seg m bp op (u8s P) :: L) := by
  obtain ⟨blk, hblk⟩ : ∃ blk, blk = (P.drop at_).take 64 := ⟨_, rfl⟩
  rw [← hblk]
  have hbl : blk.length = 64 := by rw [hblk, List.length_take, List.length_drop, hP]; omega
  have HB := Lib.hid (And.intro hblk (And.intro hbl (And.intro hh hP))); clear hblk hbl hh hP
  go_enter Tryz.func90, Tryz.ntmps90
  go_wp2_with (first | (refine wpl_box rfl 103 (.tmp 0) rfl (u32s h) rfl hs ?_; intro w1 gh s1 _; clear hs) | (refine wpl_alloc_agg rfl 103 rfl s1 _ (zero_a8u32 _) ?_; intro w3 gr s3 _; clear s1))
  refine (rtable256 s3).mono ?_
  rintro e w4 ⟨rfl, s4⟩
  clear s3
  go_wp2_with (first | (refine wpl_alloc_agg rfl 129 rfl s4 _ (zero_a64u32 _) ?_; intro w5 gk s5 _; clear s4) | (refine wpl_store_agg rfl rfl 129 (.tmp 7) (.tmp 18) rfl (cs := u32s K256) s5 0 0 Tryz.size_a64u32 rfl (by rfl) rfl (by rw [u32s_len, u32s_len, K256_len, zero64_len]; decide) (u32s_one _) ?_; intro w6 s6; rw [setL_all _ _ (by rw [u32s_len, u32s_len, K256_len, zero64_len])] at s6; clear s5) | (refine wpl_alloc_agg rfl 129 rfl s6 _ (zero_a64u32 _) ?_; intro w7 gw s7 _; clear s6))
  have s8 : Sat W0 w7 (seg true gw 0 (u32s (wk32 blk 0 ++ List.replicate (64 - 0) 0)) :: seg true gk 0 (u32s K256) :: seg true gr 0 (u32s nought8) :: seg true gh 0 (u32s h) :: seg m bp op (u8s P) :: L) := s7
  clear s7
  go_loopw [9] (fun t9 wr => ∃ t : Nat, t ≤ 64 ∧ t9 = .int .i64 (t : Int) ∧ Sat W0 wr (seg true gw 0 (u32s (wk32 blk t ++ List.replicate (64 - t) 0)) :: seg true gk 0 (u32s K256) :: seg true gr 0 (u32s nought8) :: seg true gh 0 (u32s h) :: seg m bp op (u8s P) :: L)) (fun t9 _ => 64 - (intOf t9).toNat)
  case atStart => exact ⟨0, by omega, rfl, s8⟩
  case round =>
    clear s8
    obtain ⟨t, ht, rfl, s⟩ := hrel
    by_cases hlt : t < 64
    · have hlen := wk32_len blk t
      by_cases h16 : t < 16
      · rw [wnext32 _ t 64 hlt] at s
        have Hl := Lib.hid hlen; clear hlen
        go_wp2_with fail
        go_loopw [10] (fun t10 wr => ∃ i : Nat, i ≤ 4 ∧ t10 = .int .i64 (i : Int) ∧ Sat W0 wr (seg true gw 0 (u32s (wk32 blk t ++ takeBE 32 ((blk.drop (4 * t)).take i) :: List.replicate (64 - (t + 1)) 0)) :: seg true gk 0 (u32s K256) :: seg true gr 0 (u32s nought8) :: seg true gh 0 (u32s h) :: seg m bp op (u8s P) :: L)) (fun t10 _ => 4 - (intOf t10).toNat)
        case atStart => exact ⟨0, by omega, rfl, by rw [List.take_zero, takeBE_nil]; exact s⟩
        case round =>
          clear s
          obtain ⟨i, hi, rfl, s⟩ := hrel
          by_cases hlt4 : i < 4
          · have sp : Sat W0 _ (seg m bp op (u8s P) :: _) := s.pull 4
            obtain ⟨j, hj⟩ : ∃ j, j = at_ + 4 * t + i := ⟨_, rfl⟩
            have cp := sp.cell (u8s_get P j (by rw [HB.out.2.2.2]; omega))
            have hvl : (u32s (wk32 blk t ++ takeBE 32 ((blk.drop (4 * t)).take i) :: List.replicate (64 - (t + 1)) 0)).length = 64 := by rw [u32s_len]; simp [Hl.out]; omega
            have cw := s.at t (u32s_at (i := t) (b := takeBE 32 ((blk.drop (4 * t)).take i)) (by rw [List.getElem?_append_right (by rw [Hl.out]; exact Nat.le_refl _), Hl.out, Nat.sub_self]; rfl))
            have fw := s.fr t (by rw [hvl]; exact hlt)
            obtain ⟨y, hy⟩ : ∃ y, y = P.getD j 0 := ⟨_, rfl⟩
            rw [← hy] at cp
            have e1 : (at_ : Int) + 4 * (t : Int) + (i : Int) = (j : Int) := by omega
            have e0 : (j : Int) < (n : Int) := by omega
            have hnext : (blk.drop (4 * t)).take (i + 1) = (blk.drop (4 * t)).take i ++ [y] := by
              have hd : 4 * t + i < blk.length := by rw [HB.out.2.1]; omega
              rw [List.take_succ_eq_append_getElem (by rw [List.length_drop]; omega), List.getElem_drop]
              congr 2
              rw [hy, List.getD_eq_getElem?_getD, List.getElem?_eq_getElem (by rw [HB.out.2.2.2]; omega)]
              simp only [HB.out.1, List.getElem_take, List.getElem_drop, Option.getD_some, hj, Nat.add_assoc]
            obtain ⟨X, hX⟩ : ∃ X, X = takeBE 32 ((blk.drop (4 * t)).take i) := ⟨_, rfl⟩
            have hv := vtake32 ((blk.drop (4 * t)).take i) y
            rw [← hnext, ← hX] at hv
            rw [← hX] at cw s hvl
            have HV := Lib.hid (And.intro hv hvl); clear hv hvl hnext hX hy hj
            go_wp2_with fail
            refine wp_region_quiet_tail_lit 16 (by kernel_rfl) (by kernel_rfl) ?_
            simp only [List.take_succ_cons, List.take_zero, List.drop_succ_cons, List.drop_zero]
            repeat (go_big_quiet_step (fail))
            refine wpQuiet_nil ?_
            rintro _ ⟨nq, rfl⟩
            go_wp2
            go_roundw
            case rel =>
              refine ⟨i + 1, by omega, by go_num, ?_⟩
              rw [HV.out.1]
              have st := fun n => (s.drewN n).store (i := t) (by rw [HV.out.2]; exact hlt) (.int .u32 (v32 (takeBE 32 ((blk.drop (4 * t)).take (i + 1))))) (q := t) (by simp)
              simp only [u32s_set, wput32' _ _ _ t 64 Hl.out] at st
              exact st _
            case measure => simp [intOf]; omega
          · obtain rfl : i = 4 := by omega
            have hn : wk32 blk t ++ takeBE 32 ((blk.drop (4 * t)).take 4) :: List.replicate (64 - (t + 1)) 0 = wk32 blk (t + 1) ++ List.replicate (64 - (t + 1)) 0 := by rw [wk32_lo blk t h16]; simp
            rw [hn] at s
            clear hn
            go_wp2
            go_roundw
            case rel => exact ⟨t + 1, by omega, by go_num, s⟩
            case measure => simp [intOf]; omega
      · have hvl : (wk32 blk t ++ List.replicate (64 - t) 0).length = 64 := by simp [hlen]; omega
        obtain ⟨xt, hxt⟩ : ∃ x, x = (wk32 blk t ++ List.replicate (64 - t) 0).getD t 0 := ⟨_, rfl⟩
        have ct := s.at t (u32s_get _ t (by omega))
        have ft := s.fr t (by rw [u32s_len]; omega)
        rw [← hxt] at ct
        clear hxt
        have Hv := Lib.hid (And.intro hlen hvl)
        have cell : ∀ j, 1 ≤ j → j ≤ 16 → World.cell? _ ⟨gw, t - j, none⟩ = some (.int .u32 (v32 ((wk32 blk t).getD (t - j) 0))) := fun j h1 h2 =>
            s.at (t - j) (u32s_at (by rw [List.getElem?_append_left (by omega)]; simp; rw [List.getElem?_eq_getElem (by omega)]; simp))
        obtain ⟨j15, hj15⟩ : ∃ j, j = t - 15 := ⟨_, rfl⟩
        obtain ⟨j2, hj2⟩ : ∃ j, j = t - 2 := ⟨_, rfl⟩
        obtain ⟨j7, hj7⟩ : ∃ j, j = t - 7 := ⟨_, rfl⟩
        obtain ⟨j16, hj16⟩ : ∃ j, j = t - 16 := ⟨_, rfl⟩
        have c15 := cell 15 (by omega) (by omega)
        have c2 := cell 2 (by omega) (by omega)
        have c7 := cell 7 (by omega) (by omega)
        have c16 := cell 16 (by omega) (by omega)
        have e15 : IntKind.i64.wrap ((t : Int) - 15) = (j15 : Int) := by rw [IntKind.wrap_i64]; omega
        have e2 : IntKind.i64.wrap ((t : Int) - 2) = (j2 : Int) := by rw [IntKind.wrap_i64]; omega
        have e7 : IntKind.i64.wrap ((t : Int) - 7) = (j7 : Int) := by rw [IntKind.wrap_i64]; omega
        have e16 : IntKind.i64.wrap ((t : Int) - 16) = (j16 : Int) := by rw [IntKind.wrap_i64]; omega
        have l15 : j15 < 64 := by omega
        have l2 : j2 < 64 := by omega
        have l7 : j7 < 64 := by omega
        have l16 : j16 < 64 := by omega
        rw [← hj15] at c15
        rw [← hj2] at c2
        rw [← hj7] at c7
        rw [← hj16] at c16
        obtain ⟨x15, hx15⟩ : ∃ x, x = (wk32 blk t).getD j15 0 := ⟨_, rfl⟩
        obtain ⟨x2, hx2⟩ : ∃ x, x = (wk32 blk t).getD j2 0 := ⟨_, rfl⟩
        obtain ⟨x7, hx7⟩ : ∃ x, x = (wk32 blk t).getD j7 0 := ⟨_, rfl⟩
        obtain ⟨x16, hx16⟩ : ∃ x, x = (wk32 blk t).getD j16 0 := ⟨_, rfl⟩
        rw [← hx15] at c15
        rw [← hx2] at c2
        rw [← hx7] at c7
        rw [← hx16] at c16
        have HX := Lib.hid (And.intro hj15 (And.intro hj2 (And.intro hj7 (And.intro hj16 (And.intro hx15 (And.intro hx2 (And.intro hx7 hx16))))))); clear hj15 hj2 hj7 hj16 hx15 hx2 hx7 hx16 hlen hvl cell
        go_wp2_with fail
        go_quiet ((go_at_call 99; exact Calls.quiet_of (rright32i _ _ _ (by omega) (by omega))))
        go_wp2_with fail
        go_quiet ((go_at_call 99; exact quietAdd (rright32i _ _ _ (by omega) (by omega))))
        go_wp2_with fail
        refine wp_region_quiet_tail_lit 14 (by kernel_rfl) (by kernel_rfl) ?_
        simp only [List.take_succ_cons, List.take_zero, List.drop_succ_cons, List.drop_zero]
        repeat (go_big_quiet_step (fail))
        refine wpQuiet_nil ?_
        rintro _ ⟨nq, rfl⟩
        go_wp2
        go_roundw
        case rel =>
          have hv := Hv.out
          obtain ⟨hj15, hj2, hj7, hj16, hx15, hx2, hx7, hx16⟩ := HX.out
          refine ⟨t + 1, by omega, by go_num, ?_⟩
          have hE : (bits .xor .u32 (bits .xor .u32 (v32 (rotr x2 17)) (v32 (rotr x2 19))) (v32 x2 / (1024 : Int)) + v32 x7 + bits .xor .u32 (bits .xor .u32 (v32 (rotr x15 7)) (v32 (rotr x15 18))) (v32 x15 / (8 : Int)) + v32 x16) % 4294967296 = v32 (sml T256.s1 x2 + x7 + sml T256.s0 x15 + x16) := by
            rw [vxor32, vxor32, xs10, xs3, sum32_4]; rfl
          have st := (s.store (i := t) (by rw [u32s_len, hv.2]; omega) (.int .u32 (v32 (sml T256.s1 x2 + x7 + sml T256.s0 x15 + x16))) (q := t) (by simp))
          rw [u32s_set, wpad32 _ _ t 64 hv.1 hlt, ← hE] at st
          rw [wk32_ext blk t (by omega), ← hj15, ← hj2, ← hj7, ← hj16, ← hx15, ← hx2, ← hx7, ← hx16]
          exact st.drewN _
        case measure => simp [intOf]; omega
    · obtain rfl : t = 64 := by omega
      obtain ⟨W, hW⟩ : ∃ W, W = sched T256 (wordsOf 32 4 blk) 48 := ⟨_, rfl⟩
      have hlen := wk32_len blk 64
      have hwk : wk32 blk 64 = W := by rw [wk32_hi blk 64 (by omega), hW]
      rw [hwk] at s hlen
      have s : Sat W0 _ (seg true gw 0 (u32s W) :: seg true gk 0 (u32s K256) :: seg true gr 0 (u32s nought8) :: seg true gh 0 (u32s h) :: seg m bp op (u8s P) :: L) := s.to (by simp)
      have HW := Lib.hid (And.intro hW hlen); clear hW hwk hlen
      have hz8 : 0 + (u32s h).length ≤ (u32s nought8).length := by rw [u32s_len, u32s_len, HB.out.2.2.1, nought8_len]; decide
      have hsz8 : (Tryz.prog.info? 103).map (·.size) = some (u32s h).length := by rw [u32s_len, HB.out.2.2.1]; exact Tryz.size_a8u32
      have ht8 : (u32s h).take 8 = u32s h := List.take_of_length_le (by rw [u32s_len, HB.out.2.2.1]; exact Nat.le_refl _)
      have HZ := Lib.hid (And.intro hz8 (And.intro hsz8 ht8)); clear hz8 hsz8 ht8
      have sh : Sat W0 _ (seg true gh 0 (u32s h) :: _) := s.pull 3
      go_wp2_with (first | (refine wpl_load_agg rfl 103 (.tmp 3) rfl Tryz.underlying103 rfl (n := 8) (by kernel_rfl) sh 0 0 rfl rfl (by rw [u32s_len, HB.out.2.2.1]; exact Nat.le_refl _) ?_) | (refine wpl_alloc_agg rfl 103 rfl sh _ (zero_a8u32 _) ?_; intro w7 gx s7 _; clear sh) | (refine wpl_store_agg rfl rfl 103 (.tmp 13) (.tmp 95) rfl (cs := u32s h) s7 0 0 HZ.out.2.1 rfl (show Value.agg (List.take 8 (u32s h)).toArray = Value.agg (u32s h).toArray by rw [HZ.out.2.2]) rfl HZ.out.1 (u32s_one _) ?_; intro w8 s8; clear s7))
      rw [setL_all _ _ (by rw [u32s_len, u32s_len, HB.out.2.2.1, nought8_len])] at s8
      obtain ⟨h0, h1, h2, h3, h4, h5, h6, h7, rfl⟩ : ∃ h0 h1 h2 h3 h4 h5 h6 h7, h = [h0, h1, h2, h3, h4, h5, h6, h7] := by
        match h, HB.out.2.2.1 with
        | [h0, h1, h2, h3, h4, h5, h6, h7], _ => exact ⟨_, _, _, _, _, _, _, _, rfl⟩
      have s10 : Sat W0 w8 (seg true gx 0 (u32s [h0, h1, h2, h3, h4, h5, h6, h7]) :: seg true gh 0 (u32s [h0, h1, h2, h3, h4, h5, h6, h7]) :: seg true gw 0 (u32s W) :: seg true gk 0 (u32s K256) :: seg true gr 0 (u32s nought8) :: seg m bp op (u8s P) :: L) := s8
      clear s8 s
      go_loopw [14] (fun t14 wq => ∃ (i : Nat) (a b' c d e f g' h' : BitVec 32), i ≤ 64 ∧ t14 = .int .i64 (i : Int) ∧ rounds T256 K256 W (h0, h1, h2, h3, h4, h5, h6, h7) i = (a, b', c, d, e, f, g', h') ∧ Sat W0 wq (seg true gx 0 (u32s [a, b', c, d, e, f, g', h']) :: seg true gh 0 (u32s [h0, h1, h2, h3, h4, h5, h6, h7]) :: seg true gw 0 (u32s W) :: seg true gk 0 (u32s K256) :: seg true gr 0 (u32s nought8) :: seg m bp op (u8s P) :: L)) (fun t14 _ => 64 - (intOf t14).toNat)
      case atStart => exact ⟨0, h0, h1, h2, h3, h4, h5, h6, h7, by omega, rfl, rfl, s10⟩
      case round =>
        clear s10
        obtain ⟨i, a, b', c, d, e, f, g', h', hi, rfl, hR, s⟩ := hrel
        by_cases hlt2 : i < 64
        · have sw : Sat W0 _ (seg true gw 0 (u32s W) :: _) := s.pull 2
          have sk : Sat W0 _ (seg true gk 0 (u32s K256) :: _) := s.pull 3
          have cw := sw.at i (u32s_get W i (by rw [HW.out.2]; exact hlt2))
          have ck := sk.at i (u32s_get K256 i (by rw [K256_len]; exact hlt2))
          obtain ⟨xk, hxk⟩ : ∃ x, x = K256.getD i 0 := ⟨_, rfl⟩
          obtain ⟨xw, hxw⟩ : ∃ x, x = W.getD i 0 := ⟨_, rfl⟩
          rw [← hxk] at ck
          rw [← hxw] at cw
          have HX := Lib.hid (And.intro hxk (And.intro hxw hR)); clear hxk hxw hR
          have d0 := s.at 0 rfl
          have d1 := s.at 1 rfl
          have d2 := s.at 2 rfl
          have d3 := s.at 3 rfl
          have d4 := s.at 4 rfl
          have d5 := s.at 5 rfl
          have d6 := s.at 6 rfl
          have d7 := s.at 7 rfl
          have f0 := s.fr 0 (by rw [u32s_len]; simp)
          have f1 := s.fr 1 (by rw [u32s_len]; simp)
          have f2 := s.fr 2 (by rw [u32s_len]; simp)
          have f3 := s.fr 3 (by rw [u32s_len]; simp)
          have f4 := s.fr 4 (by rw [u32s_len]; simp)
          have f5 := s.fr 5 (by rw [u32s_len]; simp)
          have f6 := s.fr 6 (by rw [u32s_len]; simp)
          have f7 := s.fr 7 (by rw [u32s_len]; simp)
          go_wp2_with fail
          go_quiet ((go_at_call 99; exact Calls.quiet_of (rright32i _ _ _ (by omega) (by omega))))
          simp only [vnot32m, vand32, vxor32, sum32_5, vadd32]
          go_wp2_with fail
          go_quiet ((go_at_call 99; exact quietAdd (rright32i _ _ _ (by omega) (by omega))))
          simp only [vnot32m, vand32, vxor32, sum32_5, vadd32]
          obtain ⟨y1, hy1⟩ : ∃ y, y = p1 T256 xk xw e f g' h' := ⟨_, rfl⟩
          obtain ⟨y2, hy2⟩ : ∃ y, y = q1 T256 a b' c := ⟨_, rfl⟩
          rw [show h' + (rotr e 6 ^^^ rotr e 11 ^^^ rotr e 25) + (e &&& f ^^^ ~~~e &&& g') + xk + xw = y1 from hy1.symm, show (rotr a 2 ^^^ rotr a 13 ^^^ rotr a 22) + (a &&& b' ^^^ a &&& c ^^^ b' &&& c) = y2 from hy2.symm]
          have HY := Lib.hid (And.intro hy1 hy2); clear hy1 hy2
          go_wp2_with fail
          go_roundw
          case rel =>
            obtain ⟨hxk, hxw, hR⟩ := HX.out
            simp only [vadd32]
            refine ⟨i + 1, y1 + y2, a, b', c, d + y1, e, f, g', by omega, by go_num, ?_, ?_⟩
            · rw [rounds, hR, ← hxk, ← hxw, HY.out.1, HY.out.2]; rfl
            · have st := fun n => ((((((((s.drewN n).store (i := 0) (by rw [u32s_len]; simp) (.int .u32 (v32 (y1 + y2))) (q := 0) rfl).store (i := 1) (by simp [u32s_len]) (.int .u32 (v32 a)) (q := 1) rfl).store (i := 2) (by simp [u32s_len]) (.int .u32 (v32 b')) (q := 2) rfl).store (i := 3) (by simp [u32s_len]) (.int .u32 (v32 c)) (q := 3) rfl).store (i := 4) (by simp [u32s_len]) (.int .u32 (v32 (d + y1))) (q := 4) rfl).store (i := 5) (by simp [u32s_len]) (.int .u32 (v32 e)) (q := 5) rfl).store (i := 6) (by simp [u32s_len]) (.int .u32 (v32 f)) (q := 6) rfl).store (i := 7) (by simp [u32s_len]) (.int .u32 (v32 g')) (q := 7) rfl
              exact st _
          case measure => simp [intOf]; omega
        · obtain rfl : i = 64 := by omega
          obtain ⟨S, hS⟩ : ∃ S, S = [a, b', c, d, e, f, g', h'] := ⟨_, rfl⟩
          have hSl : S.length = 8 := by rw [hS]; rfl
          rw [← hS] at s
          have hfin : upd32 [h0, h1, h2, h3, h4, h5, h6, h7] S 8 = comp256 [h0, h1, h2, h3, h4, h5, h6, h7] blk := by
            unfold comp256 comp
            rw [← HW.out.1]
            show _ = List.zipWith (· + ·) _ (listOf (rounds T256 K256 W (h0, h1, h2, h3, h4, h5, h6, h7) 64))
            rw [hR, hS]
            rfl
          have HF := Lib.hid (And.intro hfin hSl); clear hfin hSl hS hR
          go_wp2_with fail
          go_loopw [17] (fun t17 wq => ∃ i : Nat, i ≤ 8 ∧ t17 = .int .i64 (i : Int) ∧ Sat W0 wq (seg true gh 0 (u32s (upd32 [h0, h1, h2, h3, h4, h5, h6, h7] S i)) :: seg true gx 0 (u32s S) :: seg true gr 0 (u32s nought8) :: seg m bp op (u8s P) :: L)) (fun t17 _ => 8 - (intOf t17).toNat)
          case atStart => exact ⟨0, by omega, rfl, ((s.pick [1, 0]).drop 2).drop 2⟩
          case round =>
            clear s
            obtain ⟨i, hi, rfl, s⟩ := hrel
            by_cases hlt3 : i < 8
            · have sv : Sat W0 _ (seg true gx 0 (u32s S) :: _) := s.pull 1
              have ch := s.at i (u32s_get _ i (by rw [upd32_len]; exact hlt3))
              rw [upd32_get _ _ _ hlt3] at ch
              have fh := s.fr i (by rw [u32s_len, upd32_len]; exact hlt3)
              have cv := sv.at i (u32s_get S i (by rw [HF.out.2]; exact hlt3))
              obtain ⟨xh, hxh⟩ : ∃ x, x = [h0, h1, h2, h3, h4, h5, h6, h7].getD i 0 := ⟨_, rfl⟩
              obtain ⟨xs, hxs⟩ : ∃ x, x = S.getD i 0 := ⟨_, rfl⟩
              rw [← hxh] at ch
              rw [← hxs] at cv
              have HX := Lib.hid (And.intro hxh hxs); clear hxh hxs
              go_wp2_with fail
              refine wp_region_quiet_tail_lit 8 (by kernel_rfl) (by kernel_rfl) ?_
              simp only [List.take_succ_cons, List.take_zero, List.drop_succ_cons, List.drop_zero]
              repeat (go_big_quiet_step (fail))
              refine wpQuiet_nil ?_
              rintro _ ⟨nq, rfl⟩
              go_wp2
              go_roundw
              case rel =>
                obtain ⟨hxh, hxs⟩ := HX.out
                simp only [vadd32]
                refine ⟨i + 1, by omega, by go_num, ?_⟩
                have st := fun n => ((s.drewN n).store (i := i) (by rw [u32s_len, upd32_len]; exact hlt3) (.int .u32 (v32 (xh + xs))) (q := i) (by simp))
                rw [u32s_set, hxh, hxs, upd32_set _ _ _ hlt3, ← hxh, ← hxs] at st
                exact st _
              case measure => simp [intOf]; omega
            · obtain rfl : i = 8 := by omega
              rw [HF.out.1] at s
              obtain ⟨R, hR⟩ : ∃ R, R = comp256 [h0, h1, h2, h3, h4, h5, h6, h7] blk := ⟨_, rfl⟩
              have hRl : R.length = 8 := by rw [hR]; exact comp_len _ _ _ _ _ _ rfl
              rw [← hR] at s
              have sr : Sat W0 _ (seg true gr 0 (u32s nought8) :: _) := s.pull 2
              have hz8 : 0 + (u32s R).length ≤ (u32s nought8).length := by rw [u32s_len, u32s_len, hRl, nought8_len]; decide
              have hsz8 : (Tryz.prog.info? 103).map (·.size) = some (u32s R).length := by rw [u32s_len, hRl]; exact Tryz.size_a8u32
              have ht8 : (u32s R).take 8 = u32s R := List.take_of_length_le (by rw [u32s_len, hRl]; exact Nat.le_refl _)
              have HR := Lib.hid (And.intro hR (And.intro hRl (And.intro hz8 (And.intro hsz8 ht8)))); clear hR hRl hz8 hsz8 ht8
              go_wp2_with (first | (refine wpl_load_agg rfl 103 (.tmp 3) rfl Tryz.underlying103 rfl (n := 8) (by kernel_rfl) s 0 0 rfl rfl (by rw [u32s_len, HR.out.2.1]; exact Nat.le_refl _) ?_) | (refine wpl_store_agg rfl rfl 103 (.tmp 6) (.tmp 197) rfl (cs := u32s R) sr 0 0 HR.out.2.2.2.1 rfl (show Value.agg (List.take 8 (u32s R)).toArray = Value.agg (u32s R).toArray by rw [HR.out.2.2.2.2]) rfl HR.out.2.2.1 (u32s_one _) ?_; intro w12 s12))
              rw [setL_all _ _ (by rw [u32s_len, u32s_len, HR.out.2.1, nought8_len])] at s12
              refine bodyPost_ret (v := .agg (u32s R).toArray) ?_ rfl ⟨by rw [HR.out.1], ?_⟩
              · have hr := run_loadVar_agg (P := Tryz.prog) (ty := 103) Tryz.underlying103 rfl Tryz.size_a8u32 s12 0 0 rfl (by simp [u32s_len, HR.out.2.1])
                rw [List.drop_zero, List.take_of_length_le (by simp [u32s_len, HR.out.2.1])] at hr
                simp [results, Tryz.results90, asAddr]; exact hr
              · exact ((s12.drop 0).drop 0).drop 0
end Go.Proofs.YtlmababpmmhhoaaGreat
