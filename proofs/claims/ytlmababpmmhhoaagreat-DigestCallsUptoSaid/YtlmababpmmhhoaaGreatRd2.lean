
/- The document's sha512: what is padded, the words, the bytes, the digest; each under the conditions that it names. -/
import Derived.Test.YtlmababpmmhhoaaGreatRd
import Derived.Test.YtlmababpmmhhoaaGreatCut
namespace Go.Proofs.YtlmababpmmhhoaaGreat
open Go.RowKit Go.Sep Go.Bv Go.Sha
set_option linter.unusedVariables false
set_option linter.unusedSimpArgs false
set_option maxRecDepth 100000 in
set_option maxHeartbeats 2000000 in
theorem rnumber64 {W0 w : World} {L : List Assn} {z : Int} (X : BitVec 64) (hz : z = v64 X) (hs : Sat W0 w L) :
    Calls Tryz.prog 77 #[.int .u64 z] w fun e w' => ∃ q c, e = .returned (.slice q 8 c) ∧ Sat W0 w' (row q c 1 8 (u8s (layBE 8 X)) :: L) := by
  subst hz
  go_enter Tryz.func77, Tryz.ntmps77
  go_wp2
  go_loopw [3, 4] (fun t3 t4 wr => ∃ (j : Nat) (q : Option Addr) (c : Nat), j ≤ 8 ∧ t4 = .int .i64 (7 - (j : Int)) ∧ t3 = .slice q j c ∧ Sat W0 wr (row q c 1 j (u8s ((layBE 8 X).take j)) :: L)) (fun _ t4 _ => (intOf t4 + 1).toNat)
  case atStart => exact ⟨0, none, 0, by omega, rfl, rfl, hs.rowNil 1⟩
  case round =>
    clear hs
    obtain ⟨j, q, c, hj, rfl, rfl, s⟩ := hrel
    by_cases hlt : j < 8
    · have g0 : (0 : Int) ≤ 7 - (j : Int) := by omega
      have g1 : (j : Int) ≤ 7 := by omega
      have b1 : (8 : Int) * (7 - (j : Int)) = ((8 * (7 - j) : Nat) : Int) := by omega
      go_wp2_with (at_builtin; refine wpl_app8 rfl (.tmp 9) (.tmp 16) rfl rfl rfl (byteIn (b := (X >>> (8 * (7 - j))).setWidth 8) (by rw [← vlow64, ← vshr64]) s) rfl (by omega) ?_; intro p9 c9 w9 s9)
      go_roundw
      case rel => exact ⟨j + 1, p9, c9, by omega, by rw [show (7 : Int) - (j : Int) - 1 = 7 - ((j + 1 : Nat) : Int) from by omega], rfl, by rw [layBE_take 8 X j hlt]; exact s9.drop 1⟩
      case measure => simp [intOf]; omega
    · obtain rfl : j = 8 := by omega
      have e1 : (layBE 8 X).take 8 = layBE 8 X := List.take_of_length_le (by rw [layBE_len]; exact Nat.le_refl _)
      rw [e1] at s
      go_wp2
      go_ret
      exact ⟨q, c, rfl, s⟩
set_option maxRecDepth 100000 in
set_option maxHeartbeats 2000000 in
theorem rlaid512 {W0 w : World} {L : List Assn} (h : List (BitVec 64)) (hh : h.length = 8) (hs : Sat W0 w L) :
    Calls Tryz.prog 78 #[.agg (u64s h).toArray] w fun e w' => ∃ q c, e = .returned (.slice q 64 c) ∧ Sat W0 w' (row q c 1 64 (u8s (laid 8 h)) :: L) := by
  have HH := Lib.hid hh; clear hh
  go_enter Tryz.func78, Tryz.ntmps78
  go_wp2_with (refine wpl_box rfl 109 (.tmp 0) rfl (u64s h) rfl hs ?_; intro w1 gh s1 _; clear hs)
  go_loopw [3, 4] (fun t3 t4 wr => ∃ (i : Nat) (q : Option Addr) (c : Nat), i ≤ 8 ∧ t4 = .int .i64 (i : Int) ∧ t3 = .slice q (i * 8) c ∧ Sat W0 wr (row q c 1 (i * 8) (u8s (laid 8 (h.take i))) :: seg true gh 0 (u64s h) :: L)) (fun _ t4 _ => 8 - (intOf t4).toNat)
  case atStart => exact ⟨0, none, 0, by omega, rfl, rfl, s1.rowNil 1⟩
  case round =>
    clear s1
    obtain ⟨i, q, c, hi, rfl, rfl, s⟩ := hrel
    by_cases hlt : i < 8
    · have sh : Sat W0 wr (seg true gh 0 (u64s h) :: _) := s.pull 1
      have ch := sh.at i (u64s_get _ i (by rw [HH.out]; exact hlt))
      have zh := sh.lt (by rw [u64s_len, HH.out]; decide)
      obtain ⟨X, hX⟩ : ∃ X, X = h.getD i 0 := ⟨_, rfl⟩
      rw [← hX] at ch
      have hn : laid 8 (h.take (i + 1)) = laid 8 (h.take i) ++ layBE 8 X := by
        rw [List.take_succ_eq_append_getElem (by rw [HH.out]; exact hlt), laid_snoc, hX, List.getD_eq_getElem?_getD, List.getElem?_eq_getElem (by rw [HH.out]; exact hlt)]
        rfl
      obtain ⟨k, hk⟩ : ∃ k, k = i * 8 := ⟨_, rfl⟩
      obtain ⟨B, hB⟩ : ∃ B, B = laid 8 (h.take i) := ⟨_, rfl⟩
      rw [← hk, ← hB] at s
      rw [← hk]
      rw [← hB] at hn
      have HN := Lib.hid (And.intro hn hk); clear hn hk hB hX
      have hkb : k ≤ 56 := by have := HN.out.2; omega
      go_wp2_with fail
      refine (rnumber64 X rfl s).mono ?_
      rintro e w2 ⟨q9, c9, rfl, s9⟩
      clear s sh ch zh
      obtain ⟨-, -, -, sA⟩ := rowBytes s9
      have sB : Sat W0 w2 (row q c 1 k (u8s B) :: bytes true q9 (layBE 8 X) :: seg true gh 0 (u64s h) :: L) := sA.pick [1]
      clear s9 sA
      go_wp2_with (at_builtin; refine wpl_app8 rfl (.tmp 9) (.tmp 13) rfl rfl rfl sB (layBE_len 8 X) (by omega) ?_; intro p8 c8 w8 s8)
      go_roundw
      case rel => exact ⟨i + 1, p8, c8, by omega, by go_num, by rw [show k + 8 = (i + 1) * 8 from by have := HN.out.2; omega], by rw [show (i + 1) * 8 = k + 8 from by have := HN.out.2; omega, HN.out.1]; exact s8.drop 1⟩
      case measure => simp [intOf]; omega
    · obtain rfl : i = 8 := by omega
      have e1 : h.take 8 = h := List.take_of_length_le (by rw [HH.out]; exact Nat.le_refl _)
      rw [e1] at s
      go_wp2
      go_ret
      exact ⟨q, c, rfl, s.drop 1⟩
set_option maxRecDepth 100000 in
set_option maxHeartbeats 4000000 in
theorem rwords512 {W0 w : World} {L : List Assn} {m : Bool} {bp op n cap : Nat} (P : List Byte) (hP : P.length = n) (hn : n ≤ 1000000000000) (hc : n ≤ cap) (hcm : cap ≤ maxLen) (hs0 : Sat W0 w (bytes m (some ⟨bp, op, none⟩) P :: L)) :
    Calls Tryz.prog 79 #[.slice (some ⟨bp, op, none⟩) n cap] w fun e w' => e = .returned (.agg (u64s (blocks512 H512 P (n / 128))).toArray) ∧ Sat W0 w' (bytes false (some ⟨bp, op, none⟩) P :: L) := by
  have hs := bytesRo hs0
  clear hs0
  have HP := Lib.hid hP; clear hP
  have hcm2 : cap ≤ 9223372036854775807 := hcm
  go_enter Tryz.func79, Tryz.ntmps79
  go_wp2_with (refine wpl_alloc_agg rfl 109 rfl hs _ (zero_a8u64 _) ?_; intro w1 gr s1 _; clear hs)
  refine (rbegin512 s1).mono ?_
  rintro e w2 ⟨rfl, s2⟩
  clear s1
  go_wp2_with (first | (refine wpl_alloc_agg rfl 109 rfl s2 _ (zero_a8u64 _) ?_; intro w3 gh s3 _; clear s2) | (refine wpl_store_agg rfl rfl 109 (.tmp 3) (.tmp 5) rfl (cs := u64s H512) s3 0 0 Tryz.size_a8u64 rfl rfl rfl (by rw [u64s_len, u64s_len, H512_len', zero8_len]; decide) (u64s_one _) ?_; intro w4 s4; rw [setL_all _ _ (by rw [u64s_len, u64s_len, H512_len', zero8_len])] at s4; clear s3))
  have s5 : Sat W0 w4 (seg true gh 0 (u64s (blocks512 H512 P 0)) :: seg true gr 0 (u64s zero8) :: bytes false (some ⟨bp, op, none⟩) P :: L) := s4
  clear s4
  go_loopw [4] (fun t4 wr => ∃ (i : Nat), i ≤ n / 128 ∧ t4 = .int .i64 (128 * (i : Int)) ∧ Sat W0 wr (seg true gh 0 (u64s (blocks512 H512 P i)) :: seg true gr 0 (u64s zero8) :: bytes false (some ⟨bp, op, none⟩) P :: L)) (fun t4 _ => n - (intOf t4).toNat)
  case atStart => exact ⟨0, Nat.zero_le _, rfl, s5⟩
  case round =>
    clear s5
    obtain ⟨i, hi, rfl, s⟩ := hrel
    obtain ⟨H, hH⟩ : ∃ H, H = blocks512 H512 P i := ⟨_, rfl⟩
    have hHl : H.length = 8 := by rw [hH]; exact blk_len (fun h b hh => comp_len _ _ _ _ _ _ hh) 128 _ _ _ rfl
    rw [← hH] at s
    have hz8 : 0 + (u64s H).length ≤ (u64s zero8).length := by rw [u64s_len, u64s_len, hHl, zero8_len]; decide
    have hsz8 : (Tryz.prog.info? 109).map (·.size) = some (u64s H).length := by rw [u64s_len, hHl]; exact Tryz.size_a8u64
    have ht8 : (u64s H).take 8 = u64s H := List.take_of_length_le (by rw [u64s_len, hHl]; exact Nat.le_refl _)
    have HR := Lib.hid (And.intro hH (And.intro hHl (And.intro hz8 (And.intro hsz8 ht8)))); clear hH hHl hz8 hsz8 ht8
    obtain ⟨a, ha⟩ : ∃ a, a = 128 * i := ⟨_, rfl⟩
    have ha2 : 128 * (i : Int) = (a : Int) := by omega
    rw [ha2]
    by_cases hlt : a + 128 ≤ n
    · have g1 : (a : Int) + 128 ≤ (n : Int) := by omega
      obtain ⟨blk, hblk⟩ : ∃ blk, blk = (P.drop a).take 128 := ⟨_, rfl⟩
      have hbl : blk.length = 128 := by rw [hblk, List.length_take, List.length_drop, HP.out]; omega
      have hR : blocks512 H512 P (i + 1) = comp512 H blk := by rw [HR.out.1, hblk, ha]; rfl
      obtain ⟨R, hR2⟩ : ∃ R, R = comp512 H blk := ⟨_, rfl⟩
      have hRl : R.length = 8 := by rw [hR2]; exact comp_len _ _ _ _ _ _ HR.out.2.1
      rw [← hR2] at hR
      have hsz9 : (Tryz.prog.info? 109).map (·.size) = some (u64s R).length := by rw [u64s_len, hRl]; exact Tryz.size_a8u64
      have hz9 : 0 + (u64s R).length ≤ (u64s H).length := by rw [u64s_len, u64s_len, hRl, HR.out.2.1]; decide
      have HS := Lib.hid (And.intro hR (And.intro hR2 (And.intro hRl (And.intro hsz9 (And.intro hz9 (And.intro ha (And.intro hblk hbl))))))); clear hR hR2 hRl hsz9 hz9 ha ha2 hblk hbl
      obtain ⟨h0, h1, h2, h3, h4, h5, h6, h7, hH8⟩ : ∃ h0 h1 h2 h3 h4 h5 h6 h7, H = [h0, h1, h2, h3, h4, h5, h6, h7] := by
        match H, HR.out.2.1 with
        | [h0, h1, h2, h3, h4, h5, h6, h7], _ => exact ⟨_, _, _, _, _, _, _, _, rfl⟩
      have sH : Sat W0 wr (seg true gh 0 (u64s [h0, h1, h2, h3, h4, h5, h6, h7]) :: _) := hH8 ▸ s
      have HH8 := Lib.hid hH8; clear hH8
      have d0 := sH.at 0 rfl
      have d1 := sH.at 1 rfl
      have d2 := sH.at 2 rfl
      have d3 := sH.at 3 rfl
      have d4 := sH.at 4 rfl
      have d5 := sH.at 5 rfl
      have d6 := sH.at 6 rfl
      have d7 := sH.at 7 rfl
      clear sH
      have g2 : (a : Int) ≤ (a : Int) + 128 := by omega
      have g3 : (a : Int) + 128 ≤ (cap : Int) := by omega
      go_wp2_with fail
      refine wp_region_quiet_tail_lit 6 (by kernel_rfl) (by kernel_rfl) ?_
      simp only [List.take_succ_cons, List.take_zero, List.drop_succ_cons, List.drop_zero]
      repeat (go_big_quiet_step (fail))
      refine wpQuiet_nil ?_
      rintro _ ⟨nq, rfl⟩
      have hne : P ≠ [] := by intro h; have := HP.out; rw [h] at this; simp at this; omega
      have sx : Sat W0 wr (bytes false (some ⟨bp, op + a, none⟩) blk :: bytes false (some ⟨bp, op, none⟩) P :: seg true gh 0 (u64s H) :: seg true gr 0 (u64s zero8) :: L) := by
        rw [HS.out.2.2.2.2.2.2.1]
        exact bytesTake 128 (bytesDropAny a (some ⟨bp, op + a, none⟩) (fun _ => rfl) (bytesDup (s.pull 2)))
      obtain ⟨bx, ox, hbx, sy⟩ := bytesCell sx (by intro h; have := HS.out.2.2.2.2.2.2.2; rw [h] at this; simp at this)
      obtain ⟨rfl, rfl⟩ : bp = bx ∧ op + a = ox := by simpa using hbx
      clear hbx sx hne
      go_wp2_with fail
      refine (rcomp512 [h0, h1, h2, h3, h4, h5, h6, h7] blk rfl HS.out.2.2.2.2.2.2.2 (sy.drewN nq)).mono ?_
      rintro e w5 ⟨rfl, s6⟩
      rw [← HH8.out, ← HS.out.2.1]
      have s7 : Sat W0 w5 (seg true gh 0 (u64s H) :: seg true gr 0 (u64s zero8) :: bytes false (some ⟨bp, op, none⟩) P :: L) := (s6.tail).pick [1, 2]
      clear s s6 sy
      go_wp2_with (refine wpl_store_agg rfl rfl 109 (.tmp 3) (.tmp 19) rfl (cs := u64s R) s7 0 0 HS.out.2.2.2.1 rfl rfl rfl HS.out.2.2.2.2.1 (u64s_one _) ?_; intro w8 s8; rw [setL_all _ _ (by rw [u64s_len, u64s_len, HS.out.2.2.1, HR.out.2.1]), ← HS.out.1] at s8)
      go_roundw
      case rel => exact ⟨i + 1, by have := HS.out.2.2.2.2.2.1; omega, by rw [show (a : Int) + 128 = 128 * ((i + 1 : Nat) : Int) from by have := HS.out.2.2.2.2.2.1; omega], s8⟩
      case measure => simp [intOf]; omega
    · have g1 : ¬ (a : Int) + 128 ≤ (n : Int) := by omega
      have hie : i = n / 128 := by omega
      have sr : Sat W0 wr (seg true gr 0 (u64s zero8) :: _) := s.pull 1
      have hab : a ≤ 1000000000000 := by omega
      have HI := Lib.hid hie; clear hie ha ha2 hi
      go_wp2_with (first | (refine wpl_load_agg rfl 109 (.tmp 3) rfl Tryz.underlying109 rfl (n := 8) (by kernel_rfl) s 0 0 rfl rfl (by rw [u64s_len, HR.out.2.1]; exact Nat.le_refl _) ?_) | (refine wpl_store_agg rfl rfl 109 (.tmp 2) (.tmp 20) rfl (cs := u64s H) sr 0 0 HR.out.2.2.2.1 rfl (show Value.agg (List.take 8 (u64s H)).toArray = Value.agg (u64s H).toArray by rw [HR.out.2.2.2.2]) rfl HR.out.2.2.1 (u64s_one _) ?_; intro w12 s12))
      rw [setL_all _ _ (by rw [u64s_len, u64s_len, HR.out.2.1, zero8_len])] at s12
      refine bodyPost_ret (v := .agg (u64s H).toArray) ?_ rfl ⟨by rw [HR.out.1, HI.out], ?_⟩
      · have hr := run_loadVar_agg (P := Tryz.prog) (ty := 109) Tryz.underlying109 rfl Tryz.size_a8u64 s12 0 0 rfl (by simp [u64s_len, HR.out.2.1])
        rw [List.drop_zero, List.take_of_length_le (by simp [u64s_len, HR.out.2.1])] at hr
        simp [results, Tryz.results79, asAddr]; exact hr
      · exact (s12.drop 0).drop 0
theorem pad512_ne (P : List Byte) : pad512 P ≠ [] := by intro h; have := congrArg List.length h; simp [pad512] at this
set_option maxRecDepth 100000 in
set_option maxHeartbeats 4000000 in
theorem rdigest512 {W0 w : World} {L : List Assn} {m : Bool} {pp : Option Addr} {n cap : Nat} (P : List Byte) (hP : P.length = n) (hn : n ≤ 1000000000) (hs : Sat W0 w (bytes m pp P :: L)) :
    Calls Tryz.prog 64 #[.slice pp n cap] w fun e w' => ∃ q c, e = .returned (.slice q 64 c) ∧ Sat W0 w' (row q c 1 64 (u8s (hash true P)) :: bytes m pp P :: L) := by
  obtain ⟨Z, hZ⟩ : ∃ Z, Z = (239 - n % 128) % 128 := ⟨_, rfl⟩
  have HP := Lib.hid hP; clear hP
  go_enter Tryz.func64, Tryz.ntmps64
  go_wp2_with (first | (at_builtin; refine wpl_app8 (xs := []) rfl (.tmp 4) (.tmp 5) rfl rfl rfl (hs.rowNil 1) HP.out (by omega) ?_; intro pa ca wa sa; rw [Nat.zero_add, List.nil_append] at sa; clear hs) | (at_builtin; refine wpl_app8 rfl (.tmp 7) (.tmp 8) rfl rfl rfl (byteIn (b := 128) (by rfl) sa) rfl (by omega) ?_; intro pb cb wb sb))
  have s1 : Sat W0 wb (row pb cb 1 (n + 1) (u8s (P ++ [128])) :: bytes m pp P :: L) := (by (repeat (first | with_reducible apply Sat.sub (sb) | with_reducible apply Sat.alloc' | with_reducible apply Sat.drew | with_reducible apply Sat.drewN)); (repeat (first | with_reducible exact Fr.done | with_reducible exact Fr.nil | (with_reducible apply Fr.cons; (focus ((repeat (first | with_reducible exact Take.here | with_reducible apply Take.there)); done))) | with_reducible apply Fr.skip)); done)
  clear sa sb
  go_loopw [3] (fun t3 wr => ∃ (j : Nat) (q : Option Addr) (c : Nat), j ≤ Z ∧ t3 = .slice q (n + 1 + j) c ∧ Sat W0 wr (row q c 1 (n + 1 + j) (u8s (P ++ 128 :: List.replicate j 0)) :: bytes m pp P :: L)) (fun t3 _ => n + 400 - (match t3 with | .slice _ l _ => l | _ => 0))
  case atStart => exact ⟨0, pb, cb, Nat.zero_le _, rfl, s1⟩
  case round =>
    clear s1
    obtain ⟨j, q, c, hj, rfl, s⟩ := hrel
    obtain ⟨k, hk⟩ : ∃ k, k = n + 1 + j := ⟨_, rfl⟩
    rw [← hk] at s ⊢
    by_cases hlt : j < Z
    · have g1 : ¬ (k : Int) % 128 = 112 := by omega
      have g2 : ¬ (k : Int).tmod 128 = 112 := by rw [Int.tmod_eq_emod_of_nonneg (by omega)]; exact g1
      have hkb : k ≤ 2000000000 := by omega
      have HK := Lib.hid (And.intro hk hZ); clear hk hZ
      go_wp2_with (at_builtin; refine wpl_app8 rfl (.tmp 14) (.tmp 15) rfl rfl rfl (byteIn (b := 0) (by rfl) s) rfl (by omega) ?_; intro p9 c9 w9 s9)
      go_roundw
      case rel => exact ⟨j + 1, p9, c9, by omega, by rw [show k + 1 = n + 1 + (j + 1) from by have := HK.out.1; omega], by rw [show n + 1 + (j + 1) = k + 1 from by have := HK.out.1; omega, show P ++ 128 :: List.replicate (j + 1) 0 = P ++ 128 :: List.replicate j 0 ++ [0] by rw [List.replicate_succ']; simp]; exact s9.drop 1⟩
      case measure => have := HK.out.1; have := HK.out.2; simp; omega
    · obtain rfl : j = Z := by omega
      have g1 : (k : Int) % 128 = 112 := by omega
      have g2 : (k : Int).tmod 128 = 112 := by rw [Int.tmod_eq_emod_of_nonneg (by omega)]; exact g1
      obtain ⟨X, hX⟩ : ∃ X : BitVec 64, X = BitVec.ofNat 64 (8 * n) := ⟨_, rfl⟩
      have hv : v64 X = 8 * (n : Int) := by rw [hX]; unfold v64; rw [BitVec.toNat_ofNat, Nat.mod_eq_of_lt (by omega)]; omega
      obtain ⟨B, hB⟩ : ∃ B, B = P ++ 128 :: List.replicate j 0 := ⟨_, rfl⟩
      rw [← hB] at s
      have hfin : B ++ List.replicate 8 0 ++ layBE 8 X = pad512 P := by
        rw [hB, hX, hZ, pad512, HP.out, ← List.replicate_append_replicate]; simp
      have hfl : (pad512 P).length = k + 8 + 8 := by rw [← hfin, List.length_append, List.length_append, layBE_len, hB]; simp [HP.out]; omega
      have HF := Lib.hid (And.intro hfin (And.intro hv hfl)); clear hfin hfl hv hB hX
      have hkb : k ≤ 2000000000 := by omega
      have hk0 : 0 < k := by omega
      clear hZ hk
      go_wp2_with (at_builtin; refine wpl_appz8 rfl (.tmp 17) (.const (.int .i64 8)) rfl 8 rfl rfl s hk0 (by decide) (by omega) ?_; intro p8 c8 w8 s8)
      refine (rnumber64 X HF.out.2.1.symm s8).mono ?_
      rintro e w9 ⟨q9, c9, rfl, s9⟩
      clear s s8
      obtain ⟨-, -, -, sA⟩ := rowBytes s9
      have sB : Sat W0 w9 (row p8 c8 1 (k + 8) (u8s (B ++ List.replicate 8 0)) :: bytes true q9 (layBE 8 X) :: bytes m pp P :: L) := sA.pick [1]
      clear s9 sA
      go_wp2_with (at_builtin; refine wpl_app8 rfl (.tmp 19) (.tmp 24) rfl rfl rfl sB (layBE_len 8 X) (by omega) ?_; intro p7 c7 w7 s7)
      rw [HF.out.1] at s7
      obtain ⟨D, hD⟩ : ∃ D, D = pad512 P := ⟨_, rfl⟩
      rw [← hD] at s7
      have hne : D ≠ [] := by rw [hD]; exact pad512_ne P
      obtain ⟨hDl, hc1, hc2, s6⟩ := rowBytes s7
      obtain ⟨b5, o5, rfl, s5⟩ := bytesCell s6 hne
      clear s6 s7 sB
      obtain ⟨H, hH⟩ : ∃ H, H = blocks512 H512 D (D.length / 128) := ⟨_, rfl⟩
      have hHl : H.length = 8 := by rw [hH]; exact blk_len (fun h b hh => comp_len _ _ _ _ _ _ hh) 128 _ _ _ rfl
      have HB := Lib.hid (And.intro hD (And.intro hH (And.intro hHl (And.intro hDl hc2)))); clear hD hH hHl hne hDl hc2
      refine (rwords512 D HB.out.2.2.2.1 (by omega) hc1 HB.out.2.2.2.2 (bytesOf s5)).mono ?_
      rintro e w4 ⟨rfl, s4⟩
      rw [← HB.out.2.2.2.1, ← HB.out.2.1]
      clear s5
      go_wp2_with fail
      refine (rlaid512 H HB.out.2.2.1 s4).mono ?_
      rintro e w3 ⟨q5, c5, rfl, s3⟩
      go_wp2
      go_ret
      refine ⟨q5, c5, rfl, ?_⟩
      have e1 : hash true P = laid 8 H := by rw [HB.out.2.1, HB.out.1]; rfl
      rw [e1]
      exact (by (repeat (first | with_reducible apply Sat.sub (s3) | with_reducible apply Sat.alloc' | with_reducible apply Sat.drew | with_reducible apply Sat.drewN)); (repeat (first | with_reducible exact Fr.done | with_reducible exact Fr.nil | (with_reducible apply Fr.cons; (focus ((repeat (first | with_reducible exact Take.here | with_reducible apply Take.there)); done))) | with_reducible apply Fr.skip)); done)
theorem rlast06 (w : World) (n : Nat) (h : n ≤ 1000000000) : Calls Tryz.prog 63 #[.int .i64 (n : Int)] w fun e w' => e = .returned (.int .i64 (((padN true n : Nat) : Int) - ((n / 128 : Nat) : Int))) ∧ w = w' := by
  by_cases hlt : n % 128 < 112
  · have g1 : (n : Int) % 128 < 112 := by omega
    have g2 : (n : Int).tmod 128 < 112 := by rw [Int.tmod_eq_emod_of_nonneg (by omega)]; exact g1
    have hv : ((padN true n : Nat) : Int) - ((n / 128 : Nat) : Int) = 1 := by simp only [padN, roomN, bsz]; omega
    rw [hv]
    clear hv
    go_enter Tryz.func63, Tryz.ntmps63
    go_wp2
    go_ret
    exact ⟨rfl, rfl⟩
  · have g1 : ¬ (n : Int) % 128 < 112 := by omega
    have g2 : ¬ (n : Int).tmod 128 < 112 := by rw [Int.tmod_eq_emod_of_nonneg (by omega)]; exact g1
    have hv : ((padN true n : Nat) : Int) - ((n / 128 : Nat) : Int) = 2 := by simp only [padN, roomN, bsz]; omega
    rw [hv]
    clear hv
    go_enter Tryz.func63, Tryz.ntmps63
    go_wp2
    go_ret
    exact ⟨rfl, rfl⟩
set_option maxHeartbeats 1000000 in
theorem rblocks06 {W0 w : World} {L : List Assn} {l : Nat} {nv : Int} (rs : List Run3) (n : Nat) (hv : nv = (n : Int)) (hs : Sat W0 w (rled l rs :: L)) (hb : tot rs + n ≤ 4611686018427387904) (hl : rs.length ≤ 4294967296) :
    Calls Tryz.prog 60 #[.pointer (some ⟨l, 0, none⟩), .int .i64 nv] w fun e w' => e = .returned (.tuple #[]) ∧ Sat W0 w' (rled l (noteN rs 2 128 n) :: L) := by
  have HB := Lib.hid (And.intro hv hb); clear hv hb
  go_enter Tryz.func60, Tryz.ntmps60
  go_wp2_with fail
  refine (rnoteN rs 2 128 n HB.out.1 hs HB.out.2 hl).mono ?_
  rintro e w1 ⟨rfl, s1⟩
  go_wp2
  exact bodyPost_end (results_none rfl _ _ _) rfl ⟨rfl, s1⟩
set_option maxHeartbeats 1000000 in
theorem rsum06 {W0 w : World} {L : List Assn} {m : Bool} {pp : Option Addr} {n cap l : Nat} (rs : List Run3) (P : List Byte) (hP : P.length = n) (hn : n ≤ 1000000000) (hb : tot rs + n + 1000 ≤ 4611686018427387904) (hl : rs.length ≤ 4294967296) (hs : Sat W0 w (rled l rs :: bytes m pp P :: L)) :
    Calls Tryz.prog 123 #[.pointer (some ⟨l, 0, none⟩), .slice pp n cap] w fun e w' => ∃ q c, e = .returned (.slice q 64 c) ∧ Sat W0 w' (row q c 1 64 (u8s (hash true P)) :: rled l (noteN rs 2 128 (padN true n)) :: bytes m pp P :: L) := by
  obtain ⟨N, hN⟩ : ∃ N, N = padN true n := ⟨_, rfl⟩
  have hNb : N ≤ n + 2 := by rw [hN]; simp only [padN, roomN, bsz]; omega
  have hl6 := rlast06 w n hn
  rw [← hN] at hl6 ⊢
  have HP := Lib.hid (And.intro hP (And.intro hb (And.intro hN hl6))); clear hP hb hN hl6
  have hd : (n : Int) / 128 = ((n / 128 : Nat) : Int) := by omega
  have hd2 : (n : Int).tdiv 128 = ((n / 128 : Nat) : Int) := by rw [Int.tdiv_eq_ediv_of_nonneg (by omega)]; exact hd
  obtain ⟨D, hD⟩ : ∃ D, D = n / 128 := ⟨_, rfl⟩
  rw [← hD] at hd hd2
  have HD := Lib.hid hD; clear hD
  go_enter Tryz.func123, Tryz.ntmps123
  go_wp2_with fail
  refine HP.out.2.2.2.mono ?_
  rintro e w1 ⟨rfl, rfl⟩
  rw [← HD.out]
  have hDb : D ≤ 1000000000 := by rw [HD.out]; omega
  go_wp2_with fail
  refine (rblocks06 rs N (by omega) hs (by have := HP.out.2.1; omega) hl).mono ?_
  rintro e w2 ⟨rfl, s2⟩
  clear hs
  go_wp2_with fail
  refine (rdigest512 P HP.out.1 hn (by (repeat (first | with_reducible apply Sat.sub (s2) | with_reducible apply Sat.alloc' | with_reducible apply Sat.drew | with_reducible apply Sat.drewN)); (repeat (first | with_reducible exact Fr.done | with_reducible exact Fr.nil | (with_reducible apply Fr.cons; (focus ((repeat (first | with_reducible exact Take.here | with_reducible apply Take.there)); done))) | with_reducible apply Fr.skip)); done)).mono ?_
  rintro e w4 ⟨q4, c4, rfl, s4⟩
  clear s2
  go_wp2
  go_ret
  exact ⟨q4, c4, rfl, (by (repeat (first | with_reducible apply Sat.sub (s4) | with_reducible apply Sat.alloc' | with_reducible apply Sat.drew | with_reducible apply Sat.drewN)); (repeat (first | with_reducible exact Fr.done | with_reducible exact Fr.nil | (with_reducible apply Fr.cons; (focus ((repeat (first | with_reducible exact Take.here | with_reducible apply Take.there)); done))) | with_reducible apply Fr.skip)); done)⟩
end Go.Proofs.YtlmababpmmhhoaaGreat
