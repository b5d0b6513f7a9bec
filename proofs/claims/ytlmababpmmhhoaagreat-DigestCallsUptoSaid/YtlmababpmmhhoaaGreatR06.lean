
/- The document's sha512 works a block into the words; each under the conditions that it names. -/
import Derived.Test.YtlmababpmmhhoaaGreatR05
namespace Go.Proofs.YtlmababpmmhhoaaGreat
open Go.RowKit Go.Sep Go.Bv Go.Sha
set_option linter.unusedVariables false
set_option linter.unusedSimpArgs false
set_option maxHeartbeats 400000 in
theorem rturn64n (w : World) (x : BitVec 64) (k : Nat) (h1 : 1 ≤ k) (h2 : k ≤ 63) : Calls Tryz.prog 102 #[.int .u64 (v64 x), .int .u64 (k : Int)] w fun e w' => e = .returned (.int .u64 (v64 (rotr x k))) ∧ w = w' := by
  have b1 : ((64 - k : Nat) : Int) = (64 : Int) - (k : Int) := by omega
  go_enter Tryz.func102, Tryz.ntmps102
  go_wp2
  go_ret
  refine ⟨ret_int ?_, rfl⟩
  rw [rotr, ← vor64, ← vshr64, ← vshl64w]
theorem rturn64 (w : World) (x : BitVec 64) (k : Int) (h1 : 1 ≤ k) (h2 : k ≤ 63) : Calls Tryz.prog 102 #[.int .u64 (v64 x), .int .u64 k] w fun e w' => e = .returned (.int .u64 (v64 (rotr x k.toNat))) ∧ w = w' := by
  obtain ⟨n, rfl⟩ : ∃ n : Nat, k = n := ⟨k.toNat, by omega⟩
  rw [Int.toNat_natCast]
  exact rturn64n w x n (by omega) (by omega)
theorem rturn64q (w : World) (x : BitVec 64) (k : Int) (h1 : 1 ≤ k) (h2 : k ≤ 63) : Calls Tryz.prog 102 #[.int .u64 (v64 x), .int .u64 k] w fun e w' => e = .returned (.int .u64 (v64 (rotr x k.toNat))) ∧ ∃ n, w' = w.drewN n := by
  refine (rturn64 w x k h1 h2).mono ?_
  rintro e w' ⟨rfl, rfl⟩
  exact ⟨rfl, 0, rfl⟩
set_option maxRecDepth 100000 in
set_option maxHeartbeats 1000000 in
theorem rkeys512 {W0 w : World} {L : List Assn} (hs : Sat W0 w L) : Calls Tryz.prog 100 #[] w fun e w' => e = .returned (.agg (u64s K512).toArray) ∧ Sat W0 w' L := by
  go_enter Tryz.func100, Tryz.ntmps100
  go_wp2_with (first | (refine wpl_build rfl 135 rfl (.agg (u64s K512).toArray) (by kernel_rfl) ?_) | (refine wpl_alloc_agg rfl 135 rfl hs _ (zero_a80u64 _) ?_; intro w1 g s1 _) | (refine wpl_store_agg rfl rfl 135 (.tmp 0) (.tmp 1) rfl (cs := u64s K512) s1 0 0 Tryz.size_a80u64 rfl (by rfl) rfl (by rw [u64s_len, u64s_len, K512_len', zero80_len]; decide) (u64s_one _) ?_; intro w2 s2))
  rw [setL_all _ _ (by rw [u64s_len, u64s_len, K512_len', zero80_len])] at s2
  refine bodyPost_ret (v := .agg (u64s K512).toArray) ?_ rfl ⟨rfl, s2.tail⟩
  have hr := run_loadVar_agg (P := Tryz.prog) (ty := 135) Tryz.underlying135 rfl Tryz.size_a80u64 s2 0 0 rfl (by simp [u64s_len, K512_len'])
  rw [List.drop_zero, List.take_of_length_le (by simp [u64s_len, K512_len'])] at hr
  simp [results, Tryz.results100, asAddr]
  exact hr
set_option maxRecDepth 100000 in
set_option maxHeartbeats 1000000 in
theorem rbegin512 {W0 w : World} {L : List Assn} (hs : Sat W0 w L) : Calls Tryz.prog 91 #[] w fun e w' => e = .returned (.agg (u64s H512).toArray) ∧ Sat W0 w' L := by
  go_enter Tryz.func91, Tryz.ntmps91
  go_wp2_with (first | (refine wpl_alloc_agg rfl 109 rfl hs _ (zero_a8u64 _) ?_; intro w1 g s1 _) | (refine wpl_store_agg rfl rfl 109 (.tmp 0) (.tmp 1) rfl (cs := u64s H512) s1 0 0 Tryz.size_a8u64 rfl (by rfl) rfl (by rw [u64s_len, u64s_len, H512_len', zero8_len]; decide) (u64s_one _) ?_; intro w2 s2))
  rw [setL_all _ _ (by rw [u64s_len, u64s_len, H512_len', zero8_len])] at s2
  refine bodyPost_ret (v := .agg (u64s H512).toArray) ?_ rfl ⟨rfl, s2.tail⟩
  have hr := run_loadVar_agg (P := Tryz.prog) (ty := 109) Tryz.underlying109 rfl Tryz.size_a8u64 s2 0 0 rfl (by simp [u64s_len, H512_len'])
  rw [List.drop_zero, List.take_of_length_le (by simp [u64s_len, H512_len'])] at hr
  simp [results, Tryz.results91, asAddr, hr]
theorem wput64' (W : List (BitVec 64)) (x y : BitVec 64) (i n : Nat) (h : W.length = i) : (W ++ x :: List.replicate (n - (i + 1)) 0).set i y = W ++ y :: List.replicate (n - (i + 1)) 0 := by
  subst h
  rw [List.set_append_right _ _ (Nat.le_refl _), Nat.sub_self, List.set_cons_zero]
theorem wnext64 (W : List (BitVec 64)) (i n : Nat) (hn : i < n) : W ++ List.replicate (n - i) 0 = W ++ (0 : BitVec 64) :: List.replicate (n - (i + 1)) 0 := by
  rw [show n - i = (n - (i + 1)) + 1 by omega, List.replicate_succ]
theorem vtake64 (l : List Byte) (b : Byte) : bits .or .u64 (IntKind.u64.wrap (v64 (takeBE 64 l) * 256)) (IntKind.u64.wrap (v8 b)) = v64 (takeBE 64 (l ++ [b])) := by
  rw [takeBE_snoc, show IntKind.u64.wrap (v64 (takeBE 64 l) * (256 : Int)) = v64 (takeBE 64 l <<< 8) from vshl64_8w _, vwide64w, vor64]
set_option maxRecDepth 100000 in
set_option maxHeartbeats 4000000 in
theorem rsched512 {W0 w : World} {L : List Assn} {m : Bool} {bp op cap : Nat} (blk : List Byte) (hb : blk.length = 128) (hs : Sat W0 w (seg m bp op (u8s blk) :: L)) :
    Calls Tryz.prog 101 #[.slice (some ⟨bp, op, none⟩) 128 cap] w fun e w' => e = .returned (.agg (u64s (sched T512 (wordsOf 64 8 blk) 64)).toArray) ∧ Sat W0 w' (seg m bp op (u8s blk) :: L) := by
  have HB := Lib.hid hb; clear hb
  go_enter Tryz.func101, Tryz.ntmps101
  go_wp2_with (first | (refine wpl_alloc_agg rfl 135 rfl hs _ (zero_a80u64 _) ?_; intro w3 gr s3 _; clear hs) | (refine wpl_alloc_agg rfl 135 rfl s3 _ (zero_a80u64 _) ?_; intro w7 gw s7 _; clear s3))
  have s8 : Sat W0 w7 (seg true gw 0 (u64s (wk blk 0 ++ List.replicate (80 - 0) 0)) :: seg true gr 0 (u64s zero80) :: seg m bp op (u8s blk) :: L) := s7
  clear s7
  go_loopw [4] (fun t4 wr => ∃ t : Nat, t ≤ 16 ∧ t4 = .int .i64 (t : Int) ∧ Sat W0 wr (seg true gw 0 (u64s (wk blk t ++ List.replicate (80 - t) 0)) :: seg true gr 0 (u64s zero80) :: seg m bp op (u8s blk) :: L)) (fun t4 _ => 16 - (intOf t4).toNat)
  case atStart => exact ⟨0, by omega, rfl, s8⟩
  case round =>
    clear s8
    obtain ⟨t, ht, rfl, s⟩ := hrel
    by_cases hlt : t < 16
    · have hlen := wk_len blk t
      rw [wnext64 _ t 80 (by omega)] at s
      have Hl := Lib.hid hlen; clear hlen
      go_wp2_with fail
      go_loopw [5] (fun t5 wr => ∃ i : Nat, i ≤ 8 ∧ t5 = .int .i64 (i : Int) ∧ Sat W0 wr (seg true gw 0 (u64s (wk blk t ++ takeBE 64 ((blk.drop (8 * t)).take i) :: List.replicate (80 - (t + 1)) 0)) :: seg true gr 0 (u64s zero80) :: seg m bp op (u8s blk) :: L)) (fun t5 _ => 8 - (intOf t5).toNat)
      case atStart => exact ⟨0, by omega, rfl, by rw [List.take_zero, takeBE_nil]; exact s⟩
      case round =>
        clear s
        obtain ⟨i, hi, rfl, s⟩ := hrel
        by_cases hlt4 : i < 8
        · have sp : Sat W0 _ (seg m bp op (u8s blk) :: _) := s.pull 2
          obtain ⟨j, hj⟩ : ∃ j, j = 8 * t + i := ⟨_, rfl⟩
          have cp := sp.cell (u8s_get blk j (by rw [HB.out]; omega))
          have hvl : (u64s (wk blk t ++ takeBE 64 ((blk.drop (8 * t)).take i) :: List.replicate (80 - (t + 1)) 0)).length = 80 := by rw [u64s_len]; simp [Hl.out]; omega
          have cw := s.at t (u64s_at (i := t) (b := takeBE 64 ((blk.drop (8 * t)).take i)) (by rw [List.getElem?_append_right (by rw [Hl.out]; exact Nat.le_refl _), Hl.out, Nat.sub_self]; rfl))
          have fw := s.fr t (by rw [hvl]; omega)
          obtain ⟨y, hy⟩ : ∃ y, y = blk.getD j 0 := ⟨_, rfl⟩
          rw [← hy] at cp
          have e1 : 8 * (t : Int) + (i : Int) = (j : Int) := by omega
          have e0 : (j : Int) < 128 := by omega
          have hnext : (blk.drop (8 * t)).take (i + 1) = (blk.drop (8 * t)).take i ++ [y] := by
            have hd : 8 * t + i < blk.length := by rw [HB.out]; omega
            rw [List.take_succ_eq_append_getElem (by rw [List.length_drop]; omega), List.getElem_drop]
            congr 2
            rw [hy, List.getD_eq_getElem?_getD, List.getElem?_eq_getElem (by rw [HB.out]; omega)]
            simp only [Option.getD_some, hj]
          obtain ⟨X, hX⟩ : ∃ X, X = takeBE 64 ((blk.drop (8 * t)).take i) := ⟨_, rfl⟩
          have hv := vtake64 ((blk.drop (8 * t)).take i) y
          rw [← hnext, ← hX] at hv
          rw [← hX] at cw s hvl
          have HV := Lib.hid (And.intro hv hvl); clear hv hvl hnext hX hy hj
          go_wp2_with fail
          refine wp_region_quiet_tail_lit 14 (by kernel_rfl) (by kernel_rfl) ?_
          simp only [List.take_succ_cons, List.take_zero, List.drop_succ_cons, List.drop_zero]
          repeat (go_big_quiet_step (fail))
          refine wpQuiet_nil ?_
          rintro _ ⟨nq, rfl⟩
          go_wp2
          go_roundw
          case rel =>
            refine ⟨i + 1, by omega, by go_num, ?_⟩
            rw [HV.out.1]
            have st := fun n => (s.drewN n).store (i := t) (by rw [HV.out.2]; omega) (.int .u64 (v64 (takeBE 64 ((blk.drop (8 * t)).take (i + 1))))) (q := t) (by simp)
            simp only [u64s_set, wput64' _ _ _ t 80 Hl.out] at st
            exact st _
          case measure => simp [intOf]; omega
        · obtain rfl : i = 8 := by omega
          have hn : wk blk t ++ takeBE 64 ((blk.drop (8 * t)).take 8) :: List.replicate (80 - (t + 1)) 0 = wk blk (t + 1) ++ List.replicate (80 - (t + 1)) 0 := by rw [wk_lo blk t hlt]; simp
          rw [hn] at s
          clear hn
          go_wp2
          go_roundw
          case rel => exact ⟨t + 1, by omega, by go_num, s⟩
          case measure => simp [intOf]; omega
    · obtain rfl : t = 16 := by omega
      rw [show ((16 : Nat) : Int) = 16 from rfl]
      go_wp2
      go_loopw [6] (fun t6 wr => ∃ t : Nat, 16 ≤ t ∧ t ≤ 80 ∧ t6 = .int .i64 (t : Int) ∧ Sat W0 wr (seg true gw 0 (u64s (wk blk t ++ List.replicate (80 - t) 0)) :: seg true gr 0 (u64s zero80) :: seg m bp op (u8s blk) :: L)) (fun t6 _ => 80 - (intOf t6).toNat)
      case atStart => exact ⟨16, by omega, by omega, rfl, s⟩
      case round =>
        clear s
        obtain ⟨t, h16, ht, rfl, s⟩ := hrel
        have hlen := wk_len blk t
        by_cases hlt : t < 80
        · have hvl : (wk blk t ++ List.replicate (80 - t) 0).length = 80 := by simp [hlen]; omega
          obtain ⟨xt, hxt⟩ : ∃ x, x = (wk blk t ++ List.replicate (80 - t) 0).getD t 0 := ⟨_, rfl⟩
          have ct := s.at t (u64s_get _ t (by omega))
          have ft := s.fr t (by rw [u64s_len]; omega)
          rw [← hxt] at ct
          clear hxt
          have Hv := Lib.hid (And.intro hlen hvl)
          have cell : ∀ j, 1 ≤ j → j ≤ 16 → World.cell? _ ⟨gw, t - j, none⟩ = some (.int .u64 (v64 ((wk blk t).getD (t - j) 0))) := fun j h1 h2 =>
              s.at (t - j) (u64s_at (by rw [List.getElem?_append_left (by omega)]; simp; rw [List.getElem?_eq_getElem (by omega)]; simp))
          obtain ⟨j15, hj15⟩ : ∃ j, j = t - 15 := ⟨_, rfl⟩
          obtain ⟨j2, hj2⟩ : ∃ j, j = t - 2 := ⟨_, rfl⟩
          obtain ⟨j7, hj7⟩ : ∃ j, j = t - 7 := ⟨_, rfl⟩
          obtain ⟨j16, hj16⟩ : ∃ j, j = t - 16 := ⟨_, rfl⟩
          have c15 := cell 15 (by omega) (by omega)
          have c2 := cell 2 (by omega) (by omega)
          have c7 := cell 7 (by omega) (by omega)
          have c16 := cell 16 (by omega) (by omega)
          have e15 : (t : Int) - 15 = (j15 : Int) := by omega
          have e2 : (t : Int) - 2 = (j2 : Int) := by omega
          have e7 : IntKind.i64.wrap ((t : Int) - 7) = (j7 : Int) := by rw [IntKind.wrap_i64]; omega
          have e16 : IntKind.i64.wrap ((t : Int) - 16) = (j16 : Int) := by rw [IntKind.wrap_i64]; omega
          have l15 : j15 < 80 := by omega
          have l2 : j2 < 80 := by omega
          have l7 : j7 < 80 := by omega
          have l16 : j16 < 80 := by omega
          rw [← hj15] at c15
          rw [← hj2] at c2
          rw [← hj7] at c7
          rw [← hj16] at c16
          obtain ⟨x15, hx15⟩ : ∃ x, x = (wk blk t).getD j15 0 := ⟨_, rfl⟩
          obtain ⟨x2, hx2⟩ : ∃ x, x = (wk blk t).getD j2 0 := ⟨_, rfl⟩
          obtain ⟨x7, hx7⟩ : ∃ x, x = (wk blk t).getD j7 0 := ⟨_, rfl⟩
          obtain ⟨x16, hx16⟩ : ∃ x, x = (wk blk t).getD j16 0 := ⟨_, rfl⟩
          rw [← hx15] at c15
          rw [← hx2] at c2
          rw [← hx7] at c7
          rw [← hx16] at c16
          have HX := Lib.hid (And.intro hj15 (And.intro hj2 (And.intro hj7 (And.intro hj16 (And.intro hx15 (And.intro hx2 (And.intro hx7 hx16))))))); clear hj15 hj2 hj7 hj16 hx15 hx2 hx7 hx16 hlen hvl cell
          go_wp2_with (go_at_call 102; refine (rturn64 _ _ _ (by omega) (by omega)).mono ?_; rintro e w' ⟨rfl, rfl⟩)
          refine wp_region_quiet_tail_lit 14 (by kernel_rfl) (by kernel_rfl) ?_
          simp only [List.take_succ_cons, List.take_zero, List.drop_succ_cons, List.drop_zero]
          repeat (go_big_quiet_step (fail))
          refine wpQuiet_nil ?_
          rintro _ ⟨nq, rfl⟩
          go_wp2
          go_roundw
          case rel =>
            have hv := Hv.out
            obtain ⟨hj15, hj2, hj7, hj16, hx15, hx2, hx7, hx16⟩ := HX.out
            refine ⟨t + 1, by omega, by omega, by go_num, ?_⟩
            have hE : IntKind.u64.wrap (IntKind.u64.wrap (IntKind.u64.wrap (bits .xor .u64 (bits .xor .u64 (v64 (rotr x2 19)) (v64 (rotr x2 61))) (v64 x2 / (64 : Int)) + v64 x7) + bits .xor .u64 (bits .xor .u64 (v64 (rotr x15 1)) (v64 (rotr x15 8))) (v64 x15 / (128 : Int))) + v64 x16) = v64 (sml T512.s1 x2 + x7 + sml T512.s0 x15 + x16) := by
              rw [vxor64, vxor64, ys6, ys7, vadd64w, vadd64w, vadd64w]; rfl
            have st := (s.store (i := t) (by rw [u64s_len, hv.2]; omega) (.int .u64 (v64 (sml T512.s1 x2 + x7 + sml T512.s0 x15 + x16))) (q := t) (by simp))
            rw [u64s_set, wpad64 _ _ t 80 hv.1 hlt, ← hE] at st
            rw [wk_ext blk t h16, ← hj15, ← hj2, ← hj7, ← hj16, ← hx15, ← hx2, ← hx7, ← hx16]
            exact st.drewN _
          case measure => simp [intOf]; omega
        · obtain rfl : t = 80 := by omega
          obtain ⟨W, hW⟩ : ∃ W, W = sched T512 (wordsOf 64 8 blk) 64 := ⟨_, rfl⟩
          have hwk : wk blk 80 = W := by rw [wk_hi blk 80 (by omega), hW]
          rw [hwk] at s hlen
          have s : Sat W0 _ (seg true gw 0 (u64s W) :: seg true gr 0 (u64s zero80) :: seg m bp op (u8s blk) :: L) := s.to (by simp)
          have sr : Sat W0 _ (seg true gr 0 (u64s zero80) :: _) := s.pull 1
          have hz : 0 + (u64s W).length ≤ (u64s zero80).length := by rw [u64s_len, u64s_len, hlen, zero80_len]; decide
          have hsz : (Tryz.prog.info? 135).map (·.size) = some (u64s W).length := by rw [u64s_len, hlen]; exact Tryz.size_a80u64
          have ht80 : (u64s W).take 80 = u64s W := List.take_of_length_le (by rw [u64s_len, hlen]; exact Nat.le_refl _)
          have HW := Lib.hid (And.intro hW (And.intro hlen (And.intro hz (And.intro hsz ht80)))); clear hW hwk hlen hz hsz ht80
          go_wp2_with (first | (refine wpl_load_agg rfl 135 (.tmp 3) rfl Tryz.underlying135 rfl (n := 80) (by kernel_rfl) s 0 0 rfl rfl (by rw [u64s_len, HW.out.2.1]; exact Nat.le_refl _) ?_) | (refine wpl_store_agg rfl rfl 135 (.tmp 2) (.tmp 77) rfl (cs := u64s W) sr 0 0 HW.out.2.2.2.1 rfl (show Value.agg (List.take 80 (u64s W)).toArray = Value.agg (u64s W).toArray by rw [HW.out.2.2.2.2]) rfl HW.out.2.2.1 (u64s_one _) ?_; intro w12 s12))
          rw [setL_all _ _ (by rw [u64s_len, u64s_len, HW.out.2.1, zero80_len])] at s12
          refine bodyPost_ret (v := .agg (u64s W).toArray) ?_ rfl ⟨by rw [HW.out.1], ?_⟩
          · have hr := run_loadVar_agg (P := Tryz.prog) (ty := 135) Tryz.underlying135 rfl Tryz.size_a80u64 s12 0 0 rfl (by simp [u64s_len, HW.out.2.1])
            rw [List.drop_zero, List.take_of_length_le (by simp [u64s_len, HW.out.2.1])] at hr
            simp [results, Tryz.results101, asAddr]; exact hr
          · exact s12.drop 0 |>.drop 0
set_option maxRecDepth 100000 in
set_option maxHeartbeats 4000000 in
theorem rcomp512 {W0 w : World} {L : List Assn} {m : Bool} {bp op cap : Nat} (h : List (BitVec 64)) (blk : List Byte) (hh : h.length = 8) (hb : blk.length = 128) (hs : Sat W0 w (seg m bp op (u8s blk) :: L)) :
    Calls Tryz.prog 92 #[.agg (u64s h).toArray, .slice (some ⟨bp, op, none⟩) 128 cap] w fun e w' => e = .returned (.agg (u64s (comp512 h blk)).toArray) ∧ Sat W0 w' (seg m bp op (u8s blk) :: L) := by
  have HB := Lib.hid (And.intro hb hh); clear hb hh
  go_enter Tryz.func92, Tryz.ntmps92
  go_wp2_with (first | (refine wpl_box rfl 109 (.tmp 0) rfl (u64s h) rfl hs ?_; intro w1 gh s1 _; clear hs) | (refine wpl_alloc_agg rfl 109 rfl s1 _ (zero_a8u64 _) ?_; intro w3 gr s3 _; clear s1))
  refine (rkeys512 s3).mono ?_
  rintro e w4 ⟨rfl, s4⟩
  clear s3
  go_wp2_with (first | (refine wpl_alloc_agg rfl 135 rfl s4 _ (zero_a80u64 _) ?_; intro w5 gk s5 _; clear s4) | (refine wpl_store_agg rfl rfl 135 (.tmp 5) (.tmp 14) rfl (cs := u64s K512) s5 0 0 Tryz.size_a80u64 rfl (by rfl) rfl (by rw [u64s_len, u64s_len, K512_len', zero80_len]; decide) (u64s_one _) ?_; intro w6 s6; rw [setL_all _ _ (by rw [u64s_len, u64s_len, K512_len', zero80_len])] at s6; clear s5))
  obtain ⟨W, hW⟩ : ∃ W, W = sched T512 (wordsOf 64 8 blk) 64 := ⟨_, rfl⟩
  have hWl : W.length = 80 := by rw [hW, sched_len, wordsOf_len]
  have hz80 : 0 + (u64s W).length ≤ (u64s zero80).length := by rw [u64s_len, u64s_len, hWl, zero80_len]; decide
  have hsz80 : (Tryz.prog.info? 135).map (·.size) = some (u64s W).length := by rw [u64s_len, hWl]; exact Tryz.size_a80u64
  have HW := Lib.hid (And.intro hW (And.intro hWl (And.intro hz80 hsz80))); clear hW hWl hz80 hsz80
  have s7 : Sat W0 w6 (seg m bp op (u8s blk) :: seg true gk 0 (u64s K512) :: seg true gr 0 (u64s zero8) :: seg true gh 0 (u64s h) :: L) := s6.pick [3]
  refine (rsched512 blk HB.out.1 s7).mono ?_
  rintro e w8 ⟨rfl, s8⟩
  clear s6 s7
  rw [← HW.out.1]
  have hz8 : 0 + (u64s h).length ≤ (u64s zero8).length := by rw [u64s_len, u64s_len, HB.out.2, zero8_len]; decide
  have hsz8 : (Tryz.prog.info? 109).map (·.size) = some (u64s h).length := by rw [u64s_len, HB.out.2]; exact Tryz.size_a8u64
  have ht8 : (u64s h).take 8 = u64s h := List.take_of_length_le (by rw [u64s_len, HB.out.2]; exact Nat.le_refl _)
  have HZ := Lib.hid (And.intro hz8 (And.intro hsz8 ht8)); clear hz8 hsz8 ht8
  go_wp2_with (first | (refine wpl_alloc_agg rfl 135 rfl s8 _ (zero_a80u64 _) ?_; intro w9 gw s9 _; clear s8) | (refine wpl_store_agg rfl rfl 135 (.tmp 6) (.tmp 16) rfl (cs := u64s W) s9 0 0 HW.out.2.2.2 rfl rfl rfl HW.out.2.2.1 (u64s_one _) ?_; intro w10 s10; rw [setL_all _ _ (by rw [u64s_len, u64s_len, HW.out.2.1, zero80_len])] at s10; clear s9) | (refine wpl_load_agg rfl 109 (.tmp 2) rfl Tryz.underlying109 rfl (n := 8) (by kernel_rfl) (show Sat W0 w10 (seg true gh 0 (u64s h) :: seg true gw 0 (u64s W) :: seg m bp op (u8s blk) :: seg true gk 0 (u64s K512) :: seg true gr 0 (u64s zero8) :: L) from s10.pull 4) 0 0 rfl rfl (by rw [u64s_len, HB.out.2]; exact Nat.le_refl _) ?_) | (refine wpl_alloc_agg rfl 109 rfl s10 _ (zero_a8u64 _) ?_; intro w11 gx s11 _; clear s10) | (refine wpl_store_agg rfl rfl 109 (.tmp 7) (.tmp 17) rfl (cs := u64s h) s11 0 0 HZ.out.2.1 rfl (show Value.agg (List.take 8 (u64s h)).toArray = Value.agg (u64s h).toArray by rw [HZ.out.2.2]) rfl HZ.out.1 (u64s_one _) ?_; intro w12 s12; clear s11))
  rw [setL_all _ _ (by rw [u64s_len, u64s_len, HB.out.2, zero8_len])] at s12
  obtain ⟨h0, h1, h2, h3, h4, h5, h6, h7, rfl⟩ : ∃ h0 h1 h2 h3 h4 h5 h6 h7, h = [h0, h1, h2, h3, h4, h5, h6, h7] := by
    match h, HB.out.2 with
    | [h0, h1, h2, h3, h4, h5, h6, h7], _ => exact ⟨_, _, _, _, _, _, _, _, rfl⟩
  have s13 : Sat W0 w12 (seg true gx 0 (u64s [h0, h1, h2, h3, h4, h5, h6, h7]) :: seg true gh 0 (u64s [h0, h1, h2, h3, h4, h5, h6, h7]) :: seg true gw 0 (u64s W) :: seg true gk 0 (u64s K512) :: seg true gr 0 (u64s zero8) :: seg m bp op (u8s blk) :: L) := s12.pick [0, 5, 1, 3, 4, 2]
  clear s12
  go_loopw [8] (fun t8 wq => ∃ (i : Nat) (a b' c d e f g' h' : BitVec 64), i ≤ 80 ∧ t8 = .int .i64 (i : Int) ∧ rounds T512 K512 W (h0, h1, h2, h3, h4, h5, h6, h7) i = (a, b', c, d, e, f, g', h') ∧ Sat W0 wq (seg true gx 0 (u64s [a, b', c, d, e, f, g', h']) :: seg true gh 0 (u64s [h0, h1, h2, h3, h4, h5, h6, h7]) :: seg true gw 0 (u64s W) :: seg true gk 0 (u64s K512) :: seg true gr 0 (u64s zero8) :: seg m bp op (u8s blk) :: L)) (fun t8 _ => 80 - (intOf t8).toNat)
  case atStart => exact ⟨0, h0, h1, h2, h3, h4, h5, h6, h7, by omega, rfl, rfl, s13⟩
  case round =>
    clear s13
    obtain ⟨i, a, b', c, d, e, f, g', h', hi, rfl, hR, s⟩ := hrel
    by_cases hlt2 : i < 80
    · have sw : Sat W0 _ (seg true gw 0 (u64s W) :: _) := s.pull 2
      have sk : Sat W0 _ (seg true gk 0 (u64s K512) :: _) := s.pull 3
      have cw := sw.at i (u64s_get W i (by rw [HW.out.2.1]; exact hlt2))
      have ck := sk.at i (u64s_get K512 i (by rw [K512_len']; exact hlt2))
      obtain ⟨xk, hxk⟩ : ∃ x, x = K512.getD i 0 := ⟨_, rfl⟩
      obtain ⟨xw, hxw⟩ : ∃ x, x = W.getD i 0 := ⟨_, rfl⟩
      rw [← hxk] at ck
      rw [← hxw] at cw
      have HX := Lib.hid (And.intro hxk (And.intro hxw hR)); clear hxk hxw hR
      have d0 := s.at 0 rfl
      have d1 := s.at 1 rfl
      have d2 := s.at 2 rfl
      have d3 := s.at 3 rfl
      have d4 := s.at 4 rfl
      have d5 := s.at 5 rfl
      have d6 := s.at 6 rfl
      have d7 := s.at 7 rfl
      have f0 := s.fr 0 (by rw [u64s_len]; simp)
      have f1 := s.fr 1 (by rw [u64s_len]; simp)
      have f2 := s.fr 2 (by rw [u64s_len]; simp)
      have f3 := s.fr 3 (by rw [u64s_len]; simp)
      have f4 := s.fr 4 (by rw [u64s_len]; simp)
      have f5 := s.fr 5 (by rw [u64s_len]; simp)
      have f6 := s.fr 6 (by rw [u64s_len]; simp)
      have f7 := s.fr 7 (by rw [u64s_len]; simp)
      go_wp2_with fail
      go_quiet ((go_at_call 102; exact Calls.quiet_of (rturn64q _ _ _ (by omega) (by omega))))
      simp only [vnot64m, vand64, vxor64, vadd64w]
      go_wp2_with fail
      go_quiet ((go_at_call 102; exact quietAdd (rturn64q _ _ _ (by omega) (by omega))))
      simp only [vnot64m, vand64, vxor64, vadd64w]
      obtain ⟨y1, hy1⟩ : ∃ y, y = p1 T512 xk xw e f g' h' := ⟨_, rfl⟩
      obtain ⟨y2, hy2⟩ : ∃ y, y = q1 T512 a b' c := ⟨_, rfl⟩
      rw [show h' + (rotr e 14 ^^^ rotr e 18 ^^^ rotr e 41) + (e &&& f ^^^ ~~~e &&& g') + xk + xw = y1 from hy1.symm, show (rotr a 28 ^^^ rotr a 34 ^^^ rotr a 39) + (a &&& b' ^^^ a &&& c ^^^ b' &&& c) = y2 from hy2.symm]
      have HY := Lib.hid (And.intro hy1 hy2); clear hy1 hy2
      go_wp2_with fail
      go_roundw
      case rel =>
        obtain ⟨hxk, hxw, hR⟩ := HX.out
        simp only [vadd64w, vadd64]
        refine ⟨i + 1, y1 + y2, a, b', c, d + y1, e, f, g', by omega, by go_num, ?_, ?_⟩
        · rw [rounds, hR, ← hxk, ← hxw, HY.out.1, HY.out.2]; rfl
        · have st := fun n => ((((((((s.drewN n).store (i := 0) (by rw [u64s_len]; simp) (.int .u64 (v64 (y1 + y2))) (q := 0) rfl).store (i := 1) (by simp [u64s_len]) (.int .u64 (v64 a)) (q := 1) rfl).store (i := 2) (by simp [u64s_len]) (.int .u64 (v64 b')) (q := 2) rfl).store (i := 3) (by simp [u64s_len]) (.int .u64 (v64 c)) (q := 3) rfl).store (i := 4) (by simp [u64s_len]) (.int .u64 (v64 (d + y1))) (q := 4) rfl).store (i := 5) (by simp [u64s_len]) (.int .u64 (v64 e)) (q := 5) rfl).store (i := 6) (by simp [u64s_len]) (.int .u64 (v64 f)) (q := 6) rfl).store (i := 7) (by simp [u64s_len]) (.int .u64 (v64 g')) (q := 7) rfl
          exact st _
      case measure => simp [intOf]; omega
    · obtain rfl : i = 80 := by omega
      obtain ⟨S, hS⟩ : ∃ S, S = [a, b', c, d, e, f, g', h'] := ⟨_, rfl⟩
      have hSl : S.length = 8 := by rw [hS]; rfl
      rw [← hS] at s
      have hfin : upd64 [h0, h1, h2, h3, h4, h5, h6, h7] S 8 = comp512 [h0, h1, h2, h3, h4, h5, h6, h7] blk := by
        unfold comp512 comp
        rw [← HW.out.1]
        show _ = List.zipWith (· + ·) _ (listOf (rounds T512 K512 W (h0, h1, h2, h3, h4, h5, h6, h7) 80))
        rw [hR, hS]
        rfl
      have HF := Lib.hid (And.intro hfin hSl); clear hfin hSl hS hR
      rw [show ((80 : Nat) : Int) = 80 from rfl]
      go_wp2_with fail
      go_loopw [13] (fun t13 wq => ∃ i : Nat, i ≤ 8 ∧ t13 = .int .i64 (i : Int) ∧ Sat W0 wq (seg true gh 0 (u64s (upd64 [h0, h1, h2, h3, h4, h5, h6, h7] S i)) :: seg true gx 0 (u64s S) :: seg true gr 0 (u64s zero8) :: seg m bp op (u8s blk) :: L)) (fun t13 _ => 8 - (intOf t13).toNat)
      case atStart => exact ⟨0, by omega, rfl, ((s.pick [1, 0]).drop 2).drop 2⟩
      case round =>
        clear s
        obtain ⟨i, hi, rfl, s⟩ := hrel
        by_cases hlt3 : i < 8
        · have sv : Sat W0 _ (seg true gx 0 (u64s S) :: _) := s.pull 1
          have ch := s.at i (u64s_get _ i (by rw [upd64_len]; exact hlt3))
          rw [upd64_get _ _ _ hlt3] at ch
          have fh := s.fr i (by rw [u64s_len, upd64_len]; exact hlt3)
          have cv := sv.at i (u64s_get S i (by rw [HF.out.2]; exact hlt3))
          obtain ⟨xh, hxh⟩ : ∃ x, x = [h0, h1, h2, h3, h4, h5, h6, h7].getD i 0 := ⟨_, rfl⟩
          obtain ⟨xs, hxs⟩ : ∃ x, x = S.getD i 0 := ⟨_, rfl⟩
          rw [← hxh] at ch
          rw [← hxs] at cv
          have HX := Lib.hid (And.intro hxh hxs); clear hxh hxs
          go_wp2_with fail
          refine wp_region_quiet_tail_lit 8 (by kernel_rfl) (by kernel_rfl) ?_
          simp only [List.take_succ_cons, List.take_zero, List.drop_succ_cons, List.drop_zero]
          repeat (go_big_quiet_step (fail))
          refine wpQuiet_nil ?_
          rintro _ ⟨nq, rfl⟩
          go_wp2
          go_roundw
          case rel =>
            obtain ⟨hxh, hxs⟩ := HX.out
            simp only [vadd64w]
            refine ⟨i + 1, by omega, by go_num, ?_⟩
            have st := fun n => ((s.drewN n).store (i := i) (by rw [u64s_len, upd64_len]; exact hlt3) (.int .u64 (v64 (xh + xs))) (q := i) (by simp))
            rw [u64s_set, hxh, hxs, upd64_set _ _ _ hlt3, ← hxh, ← hxs] at st
            exact st _
          case measure => simp [intOf]; omega
        · obtain rfl : i = 8 := by omega
          rw [HF.out.1] at s
          obtain ⟨R, hR⟩ : ∃ R, R = comp512 [h0, h1, h2, h3, h4, h5, h6, h7] blk := ⟨_, rfl⟩
          have hRl : R.length = 8 := by rw [hR]; exact comp_len _ _ _ _ _ _ rfl
          rw [← hR] at s
          have sr : Sat W0 _ (seg true gr 0 (u64s zero8) :: _) := s.pull 2
          have hz8 : 0 + (u64s R).length ≤ (u64s zero8).length := by rw [u64s_len, u64s_len, hRl, zero8_len]; decide
          have hsz8 : (Tryz.prog.info? 109).map (·.size) = some (u64s R).length := by rw [u64s_len, hRl]; exact Tryz.size_a8u64
          have ht8 : (u64s R).take 8 = u64s R := List.take_of_length_le (by rw [u64s_len, hRl]; exact Nat.le_refl _)
          have HR := Lib.hid (And.intro hR (And.intro hRl (And.intro hz8 (And.intro hsz8 ht8)))); clear hR hRl hz8 hsz8 ht8
          go_wp2_with (first | (refine wpl_load_agg rfl 109 (.tmp 2) rfl Tryz.underlying109 rfl (n := 8) (by kernel_rfl) s 0 0 rfl rfl (by rw [u64s_len, HR.out.2.1]; exact Nat.le_refl _) ?_) | (refine wpl_store_agg rfl rfl 109 (.tmp 4) (.tmp 111) rfl (cs := u64s R) sr 0 0 HR.out.2.2.2.1 rfl (show Value.agg (List.take 8 (u64s R)).toArray = Value.agg (u64s R).toArray by rw [HR.out.2.2.2.2]) rfl HR.out.2.2.1 (u64s_one _) ?_; intro w12 s12))
          rw [setL_all _ _ (by rw [u64s_len, u64s_len, HR.out.2.1, zero8_len])] at s12
          refine bodyPost_ret (v := .agg (u64s R).toArray) ?_ rfl ⟨by rw [HR.out.1], ?_⟩
          · have hr := run_loadVar_agg (P := Tryz.prog) (ty := 109) Tryz.underlying109 rfl Tryz.size_a8u64 s12 0 0 rfl (by simp [u64s_len, HR.out.2.1])
            rw [List.drop_zero, List.take_of_length_le (by simp [u64s_len, HR.out.2.1])] at hr
            simp [results, Tryz.results92, asAddr]; exact hr
          · exact ((s12.drop 0).drop 0).drop 0
end Go.Proofs.YtlmababpmmhhoaaGreat
