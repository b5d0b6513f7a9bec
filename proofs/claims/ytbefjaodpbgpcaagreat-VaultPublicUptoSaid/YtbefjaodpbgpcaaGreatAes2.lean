
import Derived.Test.YtbefjaodpbgpcaaGreatGQ
import Derived.Test.YtbefjaodpbgpcaaGreatGA
set_option linter.unusedVariables false
set_option linter.unusedSimpArgs false
set_option maxRecDepth 100000
set_option maxHeartbeats 16000000
namespace Go.Proofs.YtbefjaodpbgpcaaGreat
open Go.RowKit Go.Sep Go.Bv Go.Aes
theorem Tryz.size_w60 : (Tryz.prog.info? 267).map (·.size) = some 240 := by kernel_rfl
theorem Tryz.size_k15 : (Tryz.prog.info? 238).map (·.size) = some 240 := by kernel_rfl
def nought240 : List Byte := List.replicate 240 0
theorem nought240_len : nought240.length = 240 := List.length_replicate
theorem zero_w60 (w : World) : (zeroValue 267).run Tryz.prog w = .ok (.agg (u8s nought240).toArray) w := by kernel_rfl
theorem zero_k15 (w : World) : (zeroValue 238).run Tryz.prog w = .ok (.agg (u8s nought240).toArray) w := by kernel_rfl
theorem idx_w60 (W : List Byte) (hW : W.length = 240) (i : Nat) (hi : i < 60) (w : World) : (Instr.index 267 (.agg (u8s W).toArray) (.int .i64 (i : Int))).run Tryz.prog w = .ok (.agg (u8s (word W i)).toArray) w := by
 have := run_index_part (P := Tryz.prog) (T := 267) (e := 245) (m := 4) Tryz.underlying267 Tryz.size_b4 (fun w => by simp [go_sem]) (u8s W) (by rw [u8s_len, hW]) i hi w
 rw [u8s_drop, u8s_take] at this
 exact this
section
variable {W0 w : World} {L : List Assn} {ops : Array Oper} {rest : List Oper} {o : Oper} {a : Act} {Q : Exit → Act → World → Prop}
theorem wpl_al4 (hgd : o.guard = none) (ho : o.op = .alloc 245) (hs : Sat W0 w L)
  (h : ∀ w' g, Sat W0 w' (seg true g 0 (u8s nought4) :: L) → g < w'.heap.size → wpList Tryz.prog ops Q rest (a.put o.dst (.pointer (some ⟨g, 0, none⟩))) w') : wpList Tryz.prog ops Q (o :: rest) a w :=
 wpl_alloc_agg hgd 245 ho hs _ (zero_b4 _) h
end
theorem gf8MulF {av bv : Int} (w : World) (a b : Byte) (ha : av = v8 a) (hb : bv = v8 b) : Calls Tryz.prog 188 #[.int .u8 av, .int .u8 bv] w fun e w' => e = .returned (.int .u8 (v8 (gmul a b))) ∧ w' = w := by
 subst ha hb
 exact gf8Mul w a b
def boxTo (w : List Byte) (j : Nat) : List Byte := (w.take j).map gbox ++ w.drop j
theorem boxTo_len (w : List Byte) (j : Nat) : (boxTo w j).length = w.length := by simp [boxTo]; omega
theorem boxTo_get (w : List Byte) (j : Nat) (h : j < w.length) : (boxTo w j).getD j 0 = w.getD j 0 := by
 have h1 : ((w.take j).map gbox).length = j := by rw [List.length_map, List.length_take]; omega
 unfold boxTo
 rw [List.getD_eq_getElem?_getD, List.getElem?_append_right (by omega), h1, Nat.sub_self, List.getElem?_drop, List.getD_eq_getElem?_getD, Nat.add_zero]
theorem boxTo_set (w : List Byte) (j : Nat) (h : j < w.length) : (boxTo w j).set j (gbox (w.getD j 0)) = boxTo w (j + 1) := by
 have h1 : ((w.take j).map gbox).length = j := by rw [List.length_map, List.length_take]; omega
 unfold boxTo
 rw [List.set_append_right _ _ (by omega), h1, Nat.sub_self, List.take_succ_eq_append_getElem h, List.drop_eq_getElem_cons h, List.map_append, List.set_cons_zero, List.append_assoc]
 simp [h]
theorem arrayAt4 (a : Addr) (c : Nat) (w : World) : (Instr.arrayAt 245 (.slice (some a) 4 c)).run Tryz.prog w = .ok (.pointer (some a)) w := by
 simp [Instr.arrayAt, run_underlying Tryz.underlying245]
theorem boxTo_all (w : List Byte) (n : Nat) (h : w.length = n) : boxTo w n = boxL w := by subst h; simp [boxTo, boxL]
theorem aesBoxed {W0 w : World} {L : List Assn} {bv : Value} (B : List Byte) (hbv : bv = .agg (u8s B).toArray) (hB : B.length = 4) (hs : Sat W0 w L) :
  Calls Tryz.prog 187 #[bv] w fun e w' => e = .returned (.agg (u8s (boxL B)).toArray) ∧ Sat W0 w' L := by
 subst hbv
 have hfin := boxTo_all B 4 hB
 have hst : boxTo B 0 = B := by simp [boxTo]
 have HN := Lib.hid (And.intro hB (And.intro hfin hst)); clear hB hfin hst
 go_enter Tryz.func187, Tryz.ntmps187
 go_wp2_with (first | (refine wpl_box rfl 245 (.tmp 0) rfl (u8s B) rfl hs ?_; intro w1 gb s1 _; clear hs) | (refine wpl_al4 rfl rfl s1 ?_; intro w2 gr s2 _; clear s1))
 have s3 : Sat W0 w2 (seg true gb 0 (u8s (boxTo B 0)) :: seg true gr 0 (u8s nought4) :: L) := by rw [HN.out.2.2]; exact s2.pull 1
 clear s2
 go_loopw [4] (fun t4 wr => ∃ i : Nat, i ≤ 4 ∧ t4 = .int .i64 (i : Int) ∧ Sat W0 wr (seg true gb 0 (u8s (boxTo B i)) :: seg true gr 0 (u8s nought4) :: L)) (fun t4 _ => 4 - (intOf t4).toNat)
 case atStart => exact ⟨0, by omega, rfl, s3⟩
 case round =>
  clear s3
  obtain ⟨i, hi, rfl, s⟩ := hrel
  by_cases hlt : i < 4
  ·have hxl := (boxTo_len B i).trans HN.out.1
   have cb := s.at i (u8s_get _ i (by rw [hxl]; exact hlt))
   rw [boxTo_get B i (by rw [HN.out.1]; exact hlt)] at cb
   have fb := s.fr i (by rw [u8s_len, hxl]; exact hlt)
   have zb := s.lt (by rw [u8s_len, hxl]; decide)
   obtain ⟨x, hxx⟩ : ∃ x, x = B.getD i 0 := ⟨_, rfl⟩
   rw [← hxx] at cb
   have HX := Lib.hid (And.intro hxx hxl); clear hxx hxl
   go_wp2_with fail
   refine (gf8Box _ x).mono ?_
   rintro e w9 ⟨rfl, nb, rfl⟩
   go_wp2
   go_roundw
   case rel =>
    refine ⟨i + 1, by omega, by go_num, ?_⟩
    have st := (s.drewN nb).store (i := i) (by rw [u8s_len, HX.out.2]; exact hlt) (.int .u8 (v8 (gbox x))) (q := i) (by simp)
    rw [u8s_set, HX.out.1, boxTo_set B i (by rw [HN.out.1]; exact hlt), ← HX.out.1] at st
    exact st
   case measure => simp [intOf]; omega
  ·obtain rfl : i = 4 := by omega
   rw [HN.out.2.1] at s
   have hRl : (boxL B).length = 4 := (boxL_len B).trans HN.out.1
   obtain ⟨R, hR⟩ : ∃ R, R = boxL B := ⟨_, rfl⟩
   rw [← hR] at s hRl
   have HR := Lib.hid (And.intro hR hRl); clear hR hRl
   go_wp2_with (first | (refine wpl_ld8a rfl (.tmp 1) rfl Tryz.underlying245 Tryz.size_b4 s rfl HR.out.2 ?_) | (refine wpl_st8a rfl rfl (.tmp 2) (.tmp 14) rfl (s.pull 1 : Sat W0 _ (seg true gr 0 (u8s nought4) :: _)) Tryz.size_b4 rfl rfl HR.out.2 nought4_len ?_; intro w9 s9))
   refine bodyPost_ret (v := .agg (u8s R).toArray) ?_ rfl ⟨by rw [HR.out.1], s9.drop 1 |>.drop 0⟩
   ·have hr := run_ret8 Tryz.underlying245 Tryz.size_b4 s9 HR.out.2
    simp [results, Tryz.results187, asAddr]; exact hr
theorem aesExpanded {W0 w : World} {L : List Assn} {m : Bool} {pk : Option Addr} {n cap : Nat} (key : List Byte) (k : Nat) (hn : key.length = n) (hk : n = 4 * k) (h4 : 4 ≤ k) (h8 : k ≤ 8) (hc : n ≤ cap) (hcm : cap ≤ maxLen) (hs : Sat W0 w (bytes m pk key :: L)) :
  Calls Tryz.prog 160 #[.slice pk n cap] w fun e w' => e = .returned (.agg (u8s (expand key)).toArray) ∧ Sat W0 w' (bytes m pk key :: L) := by
 unfold maxLen at hcm
 obtain ⟨bk, ok, rfl, hs1⟩ := bytesCell hs (by intro h; rw [h] at hn; simp at hn; omega)
 clear hs
 have hkl : key.length = 4 * k := hn.trans hk
 have hkt : ∀ i, i ≤ k → (key.take (i * 4)).length = i * 4 := fun i hi => by rw [List.length_take, hkl]; omega
 have hst : nought240 = key.take (0 * 4) ++ List.replicate (240 - 0 * 4) 0 := by simp [nought240]
 have hta : key.take (k * 4) = key := List.take_of_length_le (by omega)
 have hil := kiter_len key k hkl (by omega)
 have hfin : expand key = (kiter key k (3 * k + 28)).1 ++ List.replicate (240 - 4 * (4 * k + 28)) 0 := by unfold expand; rw [show key.length / 4 = k by omega]
 have hel := expand_len key k hkl h4 h8
 obtain ⟨E, hE⟩ : ∃ E, E = expand key := ⟨_, rfl⟩
 rw [← hE] at hfin hel ⊢
 have HN := Lib.hid (And.intro hn (And.intro hkl (And.intro hkt (And.intro hst (And.intro hta (And.intro hil (And.intro hfin hel))))))); clear hkl hkt hst hta hil hfin hel hE hn
 have hA := fun (a : Addr) (c : Nat) (w : World) => arrayAt4 a c w
 have hd1 : (n : Int) / 4 = (k : Int) := by omega
 have hd2 : (n : Int).tdiv 4 = (k : Int) := by rw [Int.tdiv_eq_ediv_of_nonneg (by omega)]; exact hd1
 have Hk := Lib.hid hk; clear hk
 go_enter Tryz.func160, Tryz.ntmps160
 go_wp2_with (first | (refine wpl_alloc_agg rfl 238 rfl hs1 _ (zero_k15 _) ?_; intro w1 gr s1 _; clear hs1) | (refine wpl_alloc_agg rfl 267 rfl s1 _ (zero_w60 _) ?_; intro w2 gw s2 _; clear s1))
 have s3 : Sat W0 w2 (seg true gw 0 (u8s (key.take (0 * 4) ++ List.replicate (240 - 0 * 4) 0)) :: seg true gr 0 (u8s nought240) :: seg m bk ok (u8s key) :: L) := by rw [← HN.out.2.2.2.1]; exact s2
 clear s2
 go_loopw [17] (fun t17 wr => ∃ i : Nat, i ≤ k ∧ t17 = .int .i64 (i : Int) ∧ Sat W0 wr (seg true gw 0 (u8s (key.take (i * 4) ++ List.replicate (240 - i * 4) 0)) :: seg true gr 0 (u8s nought240) :: seg m bk ok (u8s key) :: L)) (fun t17 _ => k - (intOf t17).toNat)
 case atStart => exact ⟨0, by omega, rfl, s3⟩
 case round =>
  clear s3
  obtain ⟨i, hi, rfl, s⟩ := hrel
  by_cases hlt : i < k
  ·have g0 : (0 : Int) ≤ 4 * (i : Int) := by omega
   have g2 : 4 * (i : Int) ≤ 4 * (i : Int) + 4 := by omega
   have hk := Hk.out
   have g3 : 4 * (i : Int) + 4 ≤ (cap : Int) := by omega
   clear hk
   have hwl : (word key i).length = 4 := word_len key i (by rw [HN.out.2.1]; omega)
   have hwt := word_take key i
   have hpl : (key.take (i * 4) ++ List.replicate (240 - i * 4) (0 : Byte)).length = 240 := by rw [List.length_append, HN.out.2.2.1 i hi, List.length_replicate]; omega
   obtain ⟨V, hV⟩ : ∃ V, V = word key i := ⟨_, rfl⟩
   have hV2 : (key.drop (i * 4)).take 4 = V := hV.symm
   rw [← hV] at hwl hwt
   have HV := Lib.hid (And.intro hwl (And.intro hwt (And.intro hpl hV2))); clear hwl hwt hpl hV2 hV
   have sk : Sat W0 _ (seg m bk ok (u8s key) :: _) := s.pull 2
   go_wp2_with (first | (refine wpl_ld8 (k := i * 4) rfl (.tmp 28) rfl Tryz.underlying245 Tryz.size_b4 sk rfl (by omega) (by rw [HN.out.2.1]; omega) ?_; rw [HV.out.2.2.2]) | (refine wpl_st8 (k := i * 4) rfl rfl (.tmp 30) (.tmp 29) rfl s Tryz.size_b4 rfl rfl (by omega) HV.out.1 (by rw [HV.out.2.2.1]; omega) ?_; intro w5 s5))
   go_roundw
   case rel =>
    refine ⟨i + 1, by omega, by go_num, ?_⟩
    rw [putB_next _ _ _ _ (HN.out.2.2.1 i hi) (by rw [HV.out.1]; omega), HV.out.2.1, HV.out.1, show i * 4 + 4 = (i + 1) * 4 by omega] at s5
    exact s5
   case measure => simp [intOf]; omega
  ·obtain rfl : i = k := by omega
   have s4 : Sat W0 wr (seg true gw 0 (u8s ((kiter key i 0).1 ++ List.replicate (240 - 4 * (i + 0)) 0)) :: seg true gr 0 (u8s nought240) :: seg m bk ok (u8s key) :: L) := by
    have e : i * 4 = 4 * (i + 0) := by omega
    rw [HN.out.2.2.2.2.1, e] at s
    exact s
   clear s
   go_wp2_with fail
   go_loopw [6, 7] (fun t6 t7 wr => ∃ q : Nat, q ≤ 3 * i + 28 ∧ t7 = .int .i64 ((i + q : Nat) : Int) ∧ t6 = .int .u8 (v8 (kiter key i q).2) ∧ Sat W0 wr (seg true gw 0 (u8s ((kiter key i q).1 ++ List.replicate (240 - 4 * (i + q)) 0)) :: seg true gr 0 (u8s nought240) :: seg m bk ok (u8s key) :: L)) (fun _ t7 _ => 4 * i + 28 - (intOf t7).toNat)
   case atStart => exact ⟨0, by omega, rfl, rfl, s4⟩
   case round =>
    clear s4
    obtain ⟨q, hq, rfl, rfl, s⟩ := hrel
    obtain ⟨j, hj⟩ : ∃ j, j = i + q := ⟨_, rfl⟩
    rw [← hj] at s ⊢
    by_cases hlt : q < 3 * i + 28
    ·have g1 : (j : Int) < 4 * ((i : Int) + 7) := by omega
     have hWl := HN.out.2.2.2.2.2.1 q
     have hnx : kiter key i (q + 1) = ((kiter key i q).1 ++ xorL (word (kiter key i q).1 q) (kword i j (word (kiter key i q).1 (j - 1)) (kiter key i q).2), kx i j (kiter key i q).2) := by rw [hj]; rfl
     obtain ⟨K1, hK1⟩ : ∃ K, K = kiter key i (q + 1) := ⟨_, rfl⟩
     rw [← hK1] at hnx
     obtain ⟨⟨W, x⟩, hK⟩ : ∃ K, K = kiter key i q := ⟨_, rfl⟩
     rw [← hK] at s hWl hnx ⊢
     simp only at s hWl hnx ⊢
     rw [← hj] at hWl
     have hTl : (word W (j - 1)).length = 4 := word_len W _ (by rw [hWl]; omega)
     have hAl : (word W q).length = 4 := word_len W _ (by rw [hWl]; omega)
     obtain ⟨t0, t1, t2, t3, hT⟩ : ∃ t0 t1 t2 t3, word W (j - 1) = [t0, t1, t2, t3] := by
      match word W (j - 1), hTl with
      | [t0, t1, t2, t3], _ => exact ⟨_, _, _, _, rfl⟩
     have hpl : (W ++ List.replicate (240 - 4 * j) (0 : Byte)).length = 240 := by rw [List.length_append, hWl, List.length_replicate]; omega
     have hTd : ((W ++ List.replicate (240 - 4 * j) (0 : Byte)).drop ((j - 1) * 4)).take 4 = [t0, t1, t2, t3] := by
      rw [List.drop_append_of_le_length (by rw [hWl]; omega), List.take_append_of_le_length (by rw [List.length_drop, hWl]; omega)]
      exact hT
     rw [hT] at hnx
     obtain ⟨A, hA0⟩ : ∃ A, A = word W q := ⟨_, rfl⟩
     rw [← hA0] at hnx hAl
     obtain ⟨jm, hjm⟩ : ∃ jm, jm = j - 1 := ⟨_, rfl⟩
     rw [← hjm] at hTd
     have e1 : (j : Int) - 1 = (jm : Int) := by omega
     have hjm60 : jm < 60 := by omega
     have HW := Lib.hid (And.intro hWl (And.intro hpl (And.intro hTd (And.intro hnx (And.intro hAl (And.intro hA0 (And.intro hK1 hjm))))))); clear hWl hpl hTd hnx hAl hA0 hK1 hK hT hTl hjm
     have hm1 : (j : Int) % (i : Int) = ((j % i : Nat) : Int) := (Int.natCast_emod j i).symm
     have hm2 : (j : Int).tmod (i : Int) = ((j % i : Nat) : Int) := by rw [Int.tmod_eq_emod_of_nonneg (by omega)]; exact hm1
     have hm3 : (j : Int) % 8 = ((j % 8 : Nat) : Int) := by omega
     have hm4 : (j : Int).tmod 8 = ((j % 8 : Nat) : Int) := by rw [Int.tmod_eq_emod_of_nonneg (by omega)]; exact hm3
     have hi0 : ¬ ((i : Int) = 0) := by omega
     obtain ⟨ja, hja⟩ : ∃ ja, ja = j % i := ⟨_, rfl⟩
     obtain ⟨jb, hjb⟩ : ∃ jb, jb = j % 8 := ⟨_, rfl⟩
     rw [← hja] at hm1 hm2
     rw [← hjb] at hm3 hm4
     have eq1 : IntKind.i64.wrap ((j : Int) - (i : Int)) = (q : Int) := by rw [IntKind.wrap_i64]; omega
     have hqj : q < j := by omega
     have hj60 : j < 60 := by omega
     have HM := Lib.hid (And.intro hja (And.intro hjb hj)); clear hja hjb hj
     have fin : ∀ (w7 : World) (gt : Nat) (T : List Byte) (xx : Byte), T = kword i j [t0, t1, t2, t3] x → xx = kx i j x → Sat W0 w7 (seg true gt 0 (u8s T) :: seg true gw 0 (u8s (W ++ List.replicate (240 - 4 * j) 0)) :: seg true gr 0 (u8s nought240) :: seg m bk ok (u8s key) :: L) → T.length = 4 ∧ K1 = (W ++ xorL A T, xx) ∧ Sat W0 w7 (seg true gt 0 (u8s T) :: seg true gw 0 (u8s (W ++ (xorL A T).take 0 ++ List.replicate (240 - (j * 4 + 0)) 0)) :: seg true gr 0 (u8s nought240) :: seg m bk ok (u8s key) :: L) := by
      intro w7 gt T xx hT hx s
      refine ⟨by rw [hT]; exact kword_len _ _ _ _ rfl, by rw [HW.out.2.2.2.1, hT, hx], ?_⟩
      rw [List.take_zero, List.append_nil, show j * 4 + 0 = 4 * j by omega]
      exact s
     have HF := Lib.hid fin; clear fin
     by_cases hc1 : ja = 0
     ·subst hc1
      have hkw : kword i j [t0, t1, t2, t3] x = [gbox t1 ^^^ x, gbox t2, gbox t3, gbox t0] := by unfold kword; rw [if_pos HM.out.1.symm]; rfl
      have hkx : kx i j x = gmul x 2 := by unfold kx; rw [if_pos HM.out.1.symm]
      have HK := Lib.hid (And.intro hkw hkx); clear hkw hkx
      go_wp2_with (first | (refine wpl_ld8 (k := jm * 4) rfl (.tmp 42) rfl Tryz.underlying245 Tryz.size_b4 s rfl (by omega) (by rw [HW.out.2.1]; omega) ?_; rw [HW.out.2.2.1]) | (refine wpl_al4 rfl rfl s ?_; intro w5 gt s5 _) | (refine wpl_st8a rfl rfl (.tmp 8) (.tmp 43) rfl s5 Tryz.size_b4 rfl rfl rfl nought4_len ?_; intro w6 s6; have b0 := s6.at 0 rfl; have b1 := s6.at 1 rfl; have b2 := s6.at 2 rfl; have b3 := s6.at 3 rfl; have zt := s6.lt (by simp [u8s])))
      refine (aesBoxed [t1, t2, t3, t0] rfl rfl s6).mono ?_
      rintro e w7 ⟨rfl, s7⟩
      clear s5 s6 b0 b1 b2 b3 zt s
      go_wp2_with (refine wpl_st8a rfl rfl (.tmp 8) (.tmp 58) rfl s7 Tryz.size_b4 rfl rfl rfl rfl ?_; intro w8 s8; have b0 := s8.at 0 (v := .int .u8 (v8 (gbox t1))) rfl; have f0 := s8.fr 0 (by simp [u8s, boxL]); have zt := s8.lt (by simp [u8s, boxL]))
      refine (gf8MulF _ x 2 rfl rfl).mono ?_
      rintro e w9 ⟨rfl, rfl⟩
      have s9 := s8.store (i := 0) (by simp [u8s, boxL]) (.int .u8 (v8 (gbox t1 ^^^ x))) (q := 0) rfl
      obtain ⟨hTl, hK1, s10⟩ := HF.out _ gt [gbox t1 ^^^ x, gbox t2, gbox t3, gbox t0] (gmul x 2) HK.out.1.symm HK.out.2.symm s9
      rw [← vxor8] at s10
      have HT0 := Lib.hid s10; clear s10 s9 s8 s7 b0 f0 zt
      obtain ⟨w9, hw9⟩ : ∃ w9, w9 = w8.setCell ⟨gt, 0, none⟩ (.int .u8 (bits .xor .u8 (v8 (gbox t1)) (v8 x))) := ⟨_, rfl⟩
      have s10 := HT0.out
      rw [← hw9] at s10 ⊢
      clear hw9 HT0
      obtain ⟨T, hT⟩ : ∃ T, T = [gbox t1 ^^^ x, gbox t2, gbox t3, gbox t0] := ⟨_, rfl⟩
      obtain ⟨xx, hxx⟩ : ∃ xx, xx = gmul x 2 := ⟨_, rfl⟩
      rw [← hT] at s10 hTl hK1
      rw [← hxx] at hK1 ⊢
      have HT := Lib.hid (And.intro hTl (And.intro hK1 hxx)); clear hTl hK1 hT hxx HK
      go_wp2_with fail
      go_loopw [76] (fun t76 wr => ∃ b : Nat, b ≤ 4 ∧ t76 = .int .i64 (b : Int) ∧ Sat W0 wr (seg true gt 0 (u8s T) :: seg true gw 0 (u8s (W ++ (xorL A T).take b ++ List.replicate (240 - (j * 4 + b)) 0)) :: seg true gr 0 (u8s nought240) :: seg m bk ok (u8s key) :: L)) (fun t76 _ => 4 - (intOf t76).toNat)
      case atStart => exact ⟨0, by omega, rfl, s10⟩
      case round =>
       clear s10
       obtain ⟨b, hb, rfl, s⟩ := hrel
       have hXl : (xorL A T).length = 4 := by rw [xorL_len _ _ (by rw [HW.out.2.2.2.2.1, HT.out.1])]; exact HW.out.2.2.2.2.1
       by_cases hb4 : b < 4
       ·have hPl : (W ++ (xorL A T).take b).length = j * 4 + b := by rw [List.length_append, HW.out.1, List.length_take, hXl]; omega
        have hLl : (W ++ (xorL A T).take b ++ List.replicate (240 - (j * 4 + b)) (0 : Byte)).length = 240 := by rw [List.length_append, hPl, List.length_replicate]; omega
        have ct := s.at b (u8s_get T b (by rw [HT.out.1]; exact hb4))
        have zt := s.lt (by rw [u8s_len, HT.out.1]; decide)
        have sg : Sat W0 _ (seg true gw 0 (u8s (W ++ (xorL A T).take b ++ List.replicate (240 - (j * 4 + b)) 0)) :: seg true gt 0 (u8s T) :: seg true gr 0 (u8s nought240) :: seg m bk ok (u8s key) :: L) := s.pull 1
        have hsrc : (W ++ (xorL A T).take b ++ List.replicate (240 - (j * 4 + b)) (0 : Byte)).getD (q * 4 + b) 0 = A.getD b 0 := by
         rw [List.getD_eq_getElem?_getD, List.append_assoc, List.getElem?_append_left (by rw [HW.out.1]; omega), HW.out.2.2.2.2.2.1, List.getD_eq_getElem?_getD]
         unfold word
         rw [List.getElem?_take_of_lt hb4, List.getElem?_drop]
        have cw := sg.at (q * 4 + b) (u8s_get _ (q * 4 + b) (by rw [hLl]; omega))
        rw [hsrc] at cw
        have cd := sg.at (j * 4 + b) (u8s_get _ (j * 4 + b) (by rw [hLl]; omega))
        have fd := sg.fr (j * 4 + b) (by rw [u8s_len, hLl]; omega)
        have zw := sg.lt (by rw [u8s_len, hLl]; decide)
        have hxb : (xorL A T).getD b 0 = A.getD b 0 ^^^ T.getD b 0 := by
         have h1 : b < A.length := by rw [HW.out.2.2.2.2.1]; exact hb4
         have h2 : b < T.length := by rw [HT.out.1]; exact hb4
         rw [xorL, List.getD_eq_getElem?_getD, List.getElem?_zipWith, List.getElem?_eq_getElem h1, List.getElem?_eq_getElem h2]; show A[b] ^^^ T[b] = _; simp [h1, h2]
        obtain ⟨ya, hya⟩ : ∃ y, y = A.getD b 0 := ⟨_, rfl⟩
        obtain ⟨yt, hyt⟩ : ∃ y, y = T.getD b 0 := ⟨_, rfl⟩
        obtain ⟨yd, hyd⟩ : ∃ y, y = (W ++ (xorL A T).take b ++ List.replicate (240 - (j * 4 + b)) (0 : Byte)).getD (j * 4 + b) 0 := ⟨_, rfl⟩
        rw [← hya] at cw hxb
        rw [← hyt] at ct hxb
        rw [← hyd] at cd
        have HX := Lib.hid (And.intro hXl (And.intro hPl (And.intro hLl (And.intro hxb sg)))); clear hXl hPl hLl hxb hya hyt hyd hsrc s sg
        go_wp2_with fail
        refine wp_region_quiet_tail_lit 14 (by kernel_rfl) (by kernel_rfl) ?_
        simp only [List.take_succ_cons, List.take_zero, List.drop_succ_cons, List.drop_zero]
        repeat (go_big_quiet_step (fail))
        refine wpQuiet_nil ?_
        rintro _ ⟨nq, rfl⟩
        go_wp2
        go_roundw
        case rel =>
         obtain ⟨hXl, hPl, hLl, hxb, sg⟩ := HX.out
         refine ⟨b + 1, by omega, by go_num, ?_⟩
         have st := (sg.drewN nq).store (i := j * 4 + b) (by rw [u8s_len, hLl]; omega) (.int .u8 (v8 (ya ^^^ yt))) (q := j * 4 + b) (by simp)
         have e2 : (xorL A T).take (b + 1) = (xorL A T).take b ++ [ya ^^^ yt] := by
          rw [List.take_succ_eq_append_getElem (by rw [hXl]; exact hb4), ← hxb]
          simp [List.getD_eq_getElem?_getD, List.getElem?_eq_getElem (show b < (xorL A T).length by rw [hXl]; exact hb4)]
         rw [u8s_set, bpad _ _ _ _ hPl (by omega), List.append_assoc W, ← e2, ← vxor8] at st
         exact st.pull 1
        case measure => simp [intOf]; omega
       ·obtain rfl : b = 4 := by omega
        have e1 : (xorL A T).take 4 = xorL A T := List.take_of_length_le (by rw [hXl]; exact Nat.le_refl _)
        rw [e1] at s
        clear e1 hXl
        have s11 : Sat W0 wr (seg true gw 0 (u8s (K1.1 ++ List.replicate (240 - 4 * (j + 1)) 0)) :: seg true gr 0 (u8s nought240) :: seg m bk ok (u8s key) :: L) := by
         rw [HT.out.2.1, show 4 * (j + 1) = j * 4 + 4 by omega]
         exact s.tail
        have HS := Lib.hid s11; clear s11 s
        go_wp2
        go_roundw
        case rel =>
         have hj := HM.out.2.2
         have hK := HW.out.2.2.2.2.2.2.1
         have hx : K1.2 = xx := by rw [HT.out.2.1]
         rw [hK] at hx
         refine ⟨q + 1, by omega, by rw [show i + (q + 1) = j + 1 by omega]; go_num, by rw [hx], ?_⟩
         rw [← hK, show i + (q + 1) = j + 1 by omega]
         exact HS.out
        case measure => simp [intOf]; omega
     ·have hc1' : ((ja : Int) == 0) = false := by simpa using hc1
      have hx0 : kx i j x = x := by unfold kx; rw [if_neg (by rw [← HM.out.1]; exact hc1)]
      by_cases hc2 : i = 8 ∧ jb = 4
      ·have hkw : kword i j [t0, t1, t2, t3] x = boxL [t0, t1, t2, t3] := by unfold kword; rw [if_neg (by rw [← HM.out.1]; exact hc1), if_pos ⟨hc2.1, by rw [← HM.out.2.1]; exact hc2.2⟩]
       have HK := Lib.hid (And.intro hkw hx0); clear hkw hx0
       have hb1 : ((i : Int) == 8) = true := by rw [beq_iff_eq]; omega
       have hb2 : ((jb : Int) == 4) = true := by rw [beq_iff_eq]; omega
       clear hc2 hc1
       go_wp2_with (first | (refine wpl_ld8 (k := jm * 4) rfl (.tmp 42) rfl Tryz.underlying245 Tryz.size_b4 s rfl (by omega) (by rw [HW.out.2.1]; omega) ?_; rw [HW.out.2.2.1]) | (refine wpl_al4 rfl rfl s ?_; intro w5 gt s5 _) | (refine wpl_st8a rfl rfl (.tmp 8) (.tmp 43) rfl s5 Tryz.size_b4 rfl rfl rfl nought4_len ?_; intro w6 s6) | (refine wpl_ld8a rfl (.tmp 8) rfl Tryz.underlying245 Tryz.size_b4 s6 rfl rfl ?_))
       refine (aesBoxed [t0, t1, t2, t3] rfl rfl s6).mono ?_
       rintro e w7 ⟨rfl, s7⟩
       clear s5 s6 s hb1 hb2
       go_wp2_with (refine wpl_st8a rfl rfl (.tmp 8) (.tmp 75) rfl s7 Tryz.size_b4 rfl rfl rfl rfl ?_; intro w9 s9)
       obtain ⟨hTl, hK1, s10⟩ := HF.out _ gt (boxL [t0, t1, t2, t3]) x HK.out.1.symm HK.out.2.symm s9
       obtain ⟨T, hT⟩ : ∃ T, T = boxL [t0, t1, t2, t3] := ⟨_, rfl⟩
       obtain ⟨xx, hxx⟩ : ∃ xx, xx = x := ⟨_, rfl⟩
       rw [← hT] at s10 hTl hK1
       rw [← hxx] at hK1 ⊢
       have HT := Lib.hid (And.intro hTl (And.intro hK1 hxx)); clear hTl hK1 hT hxx HK s9 s7
       go_wp2_with fail
       go_loopw [76] (fun t76 wr => ∃ b : Nat, b ≤ 4 ∧ t76 = .int .i64 (b : Int) ∧ Sat W0 wr (seg true gt 0 (u8s T) :: seg true gw 0 (u8s (W ++ (xorL A T).take b ++ List.replicate (240 - (j * 4 + b)) 0)) :: seg true gr 0 (u8s nought240) :: seg m bk ok (u8s key) :: L)) (fun t76 _ => 4 - (intOf t76).toNat)
       case atStart => exact ⟨0, by omega, rfl, s10⟩
       case round =>
        clear s10
        obtain ⟨b, hb, rfl, s⟩ := hrel
        have hXl : (xorL A T).length = 4 := by rw [xorL_len _ _ (by rw [HW.out.2.2.2.2.1, HT.out.1])]; exact HW.out.2.2.2.2.1
        by_cases hb4 : b < 4
        ·have hPl : (W ++ (xorL A T).take b).length = j * 4 + b := by rw [List.length_append, HW.out.1, List.length_take, hXl]; omega
         have hLl : (W ++ (xorL A T).take b ++ List.replicate (240 - (j * 4 + b)) (0 : Byte)).length = 240 := by rw [List.length_append, hPl, List.length_replicate]; omega
         have ct := s.at b (u8s_get T b (by rw [HT.out.1]; exact hb4))
         have zt := s.lt (by rw [u8s_len, HT.out.1]; decide)
         have sg : Sat W0 _ (seg true gw 0 (u8s (W ++ (xorL A T).take b ++ List.replicate (240 - (j * 4 + b)) 0)) :: seg true gt 0 (u8s T) :: seg true gr 0 (u8s nought240) :: seg m bk ok (u8s key) :: L) := s.pull 1
         have hsrc : (W ++ (xorL A T).take b ++ List.replicate (240 - (j * 4 + b)) (0 : Byte)).getD (q * 4 + b) 0 = A.getD b 0 := by
          rw [List.getD_eq_getElem?_getD, List.append_assoc, List.getElem?_append_left (by rw [HW.out.1]; omega), HW.out.2.2.2.2.2.1, List.getD_eq_getElem?_getD]
          unfold word
          rw [List.getElem?_take_of_lt hb4, List.getElem?_drop]
         have cw := sg.at (q * 4 + b) (u8s_get _ (q * 4 + b) (by rw [hLl]; omega))
         rw [hsrc] at cw
         have cd := sg.at (j * 4 + b) (u8s_get _ (j * 4 + b) (by rw [hLl]; omega))
         have fd := sg.fr (j * 4 + b) (by rw [u8s_len, hLl]; omega)
         have zw := sg.lt (by rw [u8s_len, hLl]; decide)
         have hxb : (xorL A T).getD b 0 = A.getD b 0 ^^^ T.getD b 0 := by
          have h1 : b < A.length := by rw [HW.out.2.2.2.2.1]; exact hb4
          have h2 : b < T.length := by rw [HT.out.1]; exact hb4
          rw [xorL, List.getD_eq_getElem?_getD, List.getElem?_zipWith, List.getElem?_eq_getElem h1, List.getElem?_eq_getElem h2]; show A[b] ^^^ T[b] = _; simp [h1, h2]
         obtain ⟨ya, hya⟩ : ∃ y, y = A.getD b 0 := ⟨_, rfl⟩
         obtain ⟨yt, hyt⟩ : ∃ y, y = T.getD b 0 := ⟨_, rfl⟩
         obtain ⟨yd, hyd⟩ : ∃ y, y = (W ++ (xorL A T).take b ++ List.replicate (240 - (j * 4 + b)) (0 : Byte)).getD (j * 4 + b) 0 := ⟨_, rfl⟩
         rw [← hya] at cw hxb
         rw [← hyt] at ct hxb
         rw [← hyd] at cd
         have HX := Lib.hid (And.intro hXl (And.intro hPl (And.intro hLl (And.intro hxb sg)))); clear hXl hPl hLl hxb hya hyt hyd hsrc s sg
         go_wp2_with fail
         refine wp_region_quiet_tail_lit 14 (by kernel_rfl) (by kernel_rfl) ?_
         simp only [List.take_succ_cons, List.take_zero, List.drop_succ_cons, List.drop_zero]
         repeat (go_big_quiet_step (fail))
         refine wpQuiet_nil ?_
         rintro _ ⟨nq, rfl⟩
         go_wp2
         go_roundw
         case rel =>
          obtain ⟨hXl, hPl, hLl, hxb, sg⟩ := HX.out
          refine ⟨b + 1, by omega, by go_num, ?_⟩
          have st := (sg.drewN nq).store (i := j * 4 + b) (by rw [u8s_len, hLl]; omega) (.int .u8 (v8 (ya ^^^ yt))) (q := j * 4 + b) (by simp)
          have e2 : (xorL A T).take (b + 1) = (xorL A T).take b ++ [ya ^^^ yt] := by
           rw [List.take_succ_eq_append_getElem (by rw [hXl]; exact hb4), ← hxb]
           simp [List.getD_eq_getElem?_getD, List.getElem?_eq_getElem (show b < (xorL A T).length by rw [hXl]; exact hb4)]
          rw [u8s_set, bpad _ _ _ _ hPl (by omega), List.append_assoc W, ← e2, ← vxor8] at st
          exact st.pull 1
         case measure => simp [intOf]; omega
        ·obtain rfl : b = 4 := by omega
         have e1 : (xorL A T).take 4 = xorL A T := List.take_of_length_le (by rw [hXl]; exact Nat.le_refl _)
         rw [e1] at s
         clear e1 hXl
         have s11 : Sat W0 wr (seg true gw 0 (u8s (K1.1 ++ List.replicate (240 - 4 * (j + 1)) 0)) :: seg true gr 0 (u8s nought240) :: seg m bk ok (u8s key) :: L) := by
          rw [HT.out.2.1, show 4 * (j + 1) = j * 4 + 4 by omega]
          exact s.tail
         have HS := Lib.hid s11; clear s11 s
         go_wp2
         go_roundw
         case rel =>
          have hj := HM.out.2.2
          have hK := HW.out.2.2.2.2.2.2.1
          have hx : K1.2 = xx := by rw [HT.out.2.1]
          rw [hK] at hx
          refine ⟨q + 1, by omega, by rw [show i + (q + 1) = j + 1 by omega]; go_num, by rw [hx], ?_⟩
          rw [← hK, show i + (q + 1) = j + 1 by omega]
          exact HS.out
         case measure => simp [intOf]; omega
      ·have hkw : kword i j [t0, t1, t2, t3] x = [t0, t1, t2, t3] := by unfold kword; rw [if_neg (by rw [← HM.out.1]; exact hc1), if_neg (by rw [← HM.out.2.1]; exact hc2)]
       have HK := Lib.hid (And.intro hkw hx0); clear hkw hx0
       have hor : (((i : Int) == 8) = true ∧ ((jb : Int) == 4) = false) ∨ ((i : Int) == 8) = false := by
        by_cases h : i = 8
        ·exact .inl ⟨by rw [beq_iff_eq]; omega, by rw [beq_eq_false_iff_ne]; omega⟩
        ·exact .inr (by rw [beq_eq_false_iff_ne]; omega)
       clear hc2 hc1
       rcases hor with ⟨hb1, hb2⟩ | hb1
       all_goals
        go_wp2_with (first | (refine wpl_ld8 (k := jm * 4) rfl (.tmp 42) rfl Tryz.underlying245 Tryz.size_b4 s rfl (by omega) (by rw [HW.out.2.1]; omega) ?_; rw [HW.out.2.2.1]) | (refine wpl_al4 rfl rfl s ?_; intro w5 gt s5 _) | (refine wpl_st8a rfl rfl (.tmp 8) (.tmp 43) rfl s5 Tryz.size_b4 rfl rfl rfl nought4_len ?_; intro w9 s9))
        obtain ⟨hTl, hK1, s10⟩ := HF.out _ gt [t0, t1, t2, t3] x HK.out.1.symm HK.out.2.symm s9
        obtain ⟨T, hT⟩ : ∃ T, T = [t0, t1, t2, t3] := ⟨_, rfl⟩
        obtain ⟨xx, hxx⟩ : ∃ xx, xx = x := ⟨_, rfl⟩
        rw [← hT] at s10 hTl hK1
        rw [← hxx] at hK1 ⊢
        have HT := Lib.hid (And.intro hTl (And.intro hK1 hxx)); clear hTl hK1 hT hxx HK s9 s5 s hb1
        try clear hb2
        go_wp2_with fail
        go_loopw [76] (fun t76 wr => ∃ b : Nat, b ≤ 4 ∧ t76 = .int .i64 (b : Int) ∧ Sat W0 wr (seg true gt 0 (u8s T) :: seg true gw 0 (u8s (W ++ (xorL A T).take b ++ List.replicate (240 - (j * 4 + b)) 0)) :: seg true gr 0 (u8s nought240) :: seg m bk ok (u8s key) :: L)) (fun t76 _ => 4 - (intOf t76).toNat)
        case atStart => exact ⟨0, by omega, rfl, s10⟩
        case round =>
         clear s10
         obtain ⟨b, hb, rfl, s⟩ := hrel
         have hXl : (xorL A T).length = 4 := by rw [xorL_len _ _ (by rw [HW.out.2.2.2.2.1, HT.out.1])]; exact HW.out.2.2.2.2.1
         by_cases hb4 : b < 4
         ·have hPl : (W ++ (xorL A T).take b).length = j * 4 + b := by rw [List.length_append, HW.out.1, List.length_take, hXl]; omega
          have hLl : (W ++ (xorL A T).take b ++ List.replicate (240 - (j * 4 + b)) (0 : Byte)).length = 240 := by rw [List.length_append, hPl, List.length_replicate]; omega
          have ct := s.at b (u8s_get T b (by rw [HT.out.1]; exact hb4))
          have zt := s.lt (by rw [u8s_len, HT.out.1]; decide)
          have sg : Sat W0 _ (seg true gw 0 (u8s (W ++ (xorL A T).take b ++ List.replicate (240 - (j * 4 + b)) 0)) :: seg true gt 0 (u8s T) :: seg true gr 0 (u8s nought240) :: seg m bk ok (u8s key) :: L) := s.pull 1
          have hsrc : (W ++ (xorL A T).take b ++ List.replicate (240 - (j * 4 + b)) (0 : Byte)).getD (q * 4 + b) 0 = A.getD b 0 := by
           rw [List.getD_eq_getElem?_getD, List.append_assoc, List.getElem?_append_left (by rw [HW.out.1]; omega), HW.out.2.2.2.2.2.1, List.getD_eq_getElem?_getD]
           unfold word
           rw [List.getElem?_take_of_lt hb4, List.getElem?_drop]
          have cw := sg.at (q * 4 + b) (u8s_get _ (q * 4 + b) (by rw [hLl]; omega))
          rw [hsrc] at cw
          have cd := sg.at (j * 4 + b) (u8s_get _ (j * 4 + b) (by rw [hLl]; omega))
          have fd := sg.fr (j * 4 + b) (by rw [u8s_len, hLl]; omega)
          have zw := sg.lt (by rw [u8s_len, hLl]; decide)
          have hxb : (xorL A T).getD b 0 = A.getD b 0 ^^^ T.getD b 0 := by
           have h1 : b < A.length := by rw [HW.out.2.2.2.2.1]; exact hb4
           have h2 : b < T.length := by rw [HT.out.1]; exact hb4
           rw [xorL, List.getD_eq_getElem?_getD, List.getElem?_zipWith, List.getElem?_eq_getElem h1, List.getElem?_eq_getElem h2]; show A[b] ^^^ T[b] = _; simp [h1, h2]
          obtain ⟨ya, hya⟩ : ∃ y, y = A.getD b 0 := ⟨_, rfl⟩
          obtain ⟨yt, hyt⟩ : ∃ y, y = T.getD b 0 := ⟨_, rfl⟩
          obtain ⟨yd, hyd⟩ : ∃ y, y = (W ++ (xorL A T).take b ++ List.replicate (240 - (j * 4 + b)) (0 : Byte)).getD (j * 4 + b) 0 := ⟨_, rfl⟩
          rw [← hya] at cw hxb
          rw [← hyt] at ct hxb
          rw [← hyd] at cd
          have HX := Lib.hid (And.intro hXl (And.intro hPl (And.intro hLl (And.intro hxb sg)))); clear hXl hPl hLl hxb hya hyt hyd hsrc s sg
          go_wp2_with fail
          refine wp_region_quiet_tail_lit 14 (by kernel_rfl) (by kernel_rfl) ?_
          simp only [List.take_succ_cons, List.take_zero, List.drop_succ_cons, List.drop_zero]
          repeat (go_big_quiet_step (fail))
          refine wpQuiet_nil ?_
          rintro _ ⟨nq, rfl⟩
          go_wp2
          go_roundw
          case rel =>
           obtain ⟨hXl, hPl, hLl, hxb, sg⟩ := HX.out
           refine ⟨b + 1, by omega, by go_num, ?_⟩
           have st := (sg.drewN nq).store (i := j * 4 + b) (by rw [u8s_len, hLl]; omega) (.int .u8 (v8 (ya ^^^ yt))) (q := j * 4 + b) (by simp)
           have e2 : (xorL A T).take (b + 1) = (xorL A T).take b ++ [ya ^^^ yt] := by
            rw [List.take_succ_eq_append_getElem (by rw [hXl]; exact hb4), ← hxb]
            simp [List.getD_eq_getElem?_getD, List.getElem?_eq_getElem (show b < (xorL A T).length by rw [hXl]; exact hb4)]
           rw [u8s_set, bpad _ _ _ _ hPl (by omega), List.append_assoc W, ← e2, ← vxor8] at st
           exact st.pull 1
          case measure => simp [intOf]; omega
         ·obtain rfl : b = 4 := by omega
          have e1 : (xorL A T).take 4 = xorL A T := List.take_of_length_le (by rw [hXl]; exact Nat.le_refl _)
          rw [e1] at s
          clear e1 hXl
          have s11 : Sat W0 wr (seg true gw 0 (u8s (K1.1 ++ List.replicate (240 - 4 * (j + 1)) 0)) :: seg true gr 0 (u8s nought240) :: seg m bk ok (u8s key) :: L) := by
           rw [HT.out.2.1, show 4 * (j + 1) = j * 4 + 4 by omega]
           exact s.tail
          have HS := Lib.hid s11; clear s11 s
          go_wp2
          go_roundw
          case rel =>
           have hj := HM.out.2.2
           have hK := HW.out.2.2.2.2.2.2.1
           have hx : K1.2 = xx := by rw [HT.out.2.1]
           rw [hK] at hx
           refine ⟨q + 1, by omega, by rw [show i + (q + 1) = j + 1 by omega]; go_num, by rw [hx], ?_⟩
           rw [← hK, show i + (q + 1) = j + 1 by omega]
           exact HS.out
          case measure => simp [intOf]; omega
    ·obtain rfl : q = 3 * i + 28 := by omega
     have g1 : ¬ (j : Int) < 4 * ((i : Int) + 7) := by omega
     have hE : (kiter key i (3 * i + 28)).1 ++ List.replicate (240 - 4 * j) (0 : Byte) = E := by rw [HN.out.2.2.2.2.2.2.1, hj, show i + (3 * i + 28) = 4 * i + 28 by omega]
     rw [hE] at s
     have hEl := HN.out.2.2.2.2.2.2.2
     have hE0 : nought240 = E.take (0 * 4) ++ List.replicate (240 - 0 * 4) 0 := by simp [nought240]
     clear hE hj
     obtain ⟨yx, hyx⟩ : ∃ y, y = (kiter key i (3 * i + 28)).2 := ⟨_, rfl⟩
     rw [← hyx]
     clear hyx
     have HE := Lib.hid (And.intro hEl hE0); clear hEl hE0
     go_wp2_with (first | (refine wpl_alloc_agg rfl 238 rfl s _ (zero_k15 _) ?_; intro w5 go s5 _) | (refine wpl_ld8a rfl (.tmp 4) rfl Tryz.underlying267 Tryz.size_w60 (s5.pull 1 : Sat W0 w5 (seg true gw 0 (u8s E) :: _)) rfl HE.out.1 ?_))
     have s6 : Sat W0 w5 (seg true go 0 (u8s (E.take (0 * 4) ++ List.replicate (240 - 0 * 4) 0)) :: seg true gr 0 (u8s nought240) :: seg m bk ok (u8s key) :: L) := by rw [← HE.out.2]; exact s5.drop 1
     clear s5 s
     go_loopw [96] (fun t96 wr => ∃ b : Nat, b ≤ 60 ∧ t96 = .int .i64 (b : Int) ∧ Sat W0 wr (seg true go 0 (u8s (E.take (b * 4) ++ List.replicate (240 - b * 4) 0)) :: seg true gr 0 (u8s nought240) :: seg m bk ok (u8s key) :: L)) (fun t96 _ => 60 - (intOf t96).toNat)
     case atStart => exact ⟨0, by omega, rfl, s6⟩
     case round =>
      clear s6
      obtain ⟨b, hb, rfl, s⟩ := hrel
      have hEt : (E.take (b * 4)).length = b * 4 := by rw [List.length_take, HE.out.1]; omega
      have hLl : (E.take (b * 4) ++ List.replicate (240 - b * 4) (0 : Byte)).length = 240 := by rw [List.length_append, hEt, List.length_replicate]; omega
      by_cases hlt : b < 60
      ·have hix := fun w => idx_w60 E HE.out.1 b hlt w
       have hVl : (word E b).length = 4 := word_len E b (by rw [HE.out.1]; omega)
       have hVt := word_take E b
       obtain ⟨V, hV⟩ : ∃ V, V = word E b := ⟨_, rfl⟩
       rw [← hV] at hix hVl hVt
       obtain ⟨d, hd⟩ : ∃ d, d = b / 4 := ⟨_, rfl⟩
       obtain ⟨r, hr⟩ : ∃ r, r = b % 4 := ⟨_, rfl⟩
       have e1 : (b : Int).tdiv 4 = (d : Int) := by rw [Int.tdiv_eq_ediv_of_nonneg (by omega)]; omega
       have e1' : (b : Int) / 4 = (d : Int) := by omega
       have e1w : IntKind.i64.wrap (d : Int) = (d : Int) := by rw [IntKind.wrap_i64]; omega
       have e2 : (b : Int).tmod 4 = (r : Int) := by rw [Int.tmod_eq_emod_of_nonneg (by omega)]; omega
       have e2' : (b : Int) % 4 = (r : Int) := by omega
       have e3 : IntKind.i64.wrap (4 * (r : Int)) = ((4 * r : Nat) : Int) := by rw [IntKind.wrap_i64]; omega
       obtain ⟨r4, hr4⟩ : ∃ r4, r4 = 4 * r := ⟨_, rfl⟩
       rw [← hr4] at e3
       have hr12 : r4 ≤ 12 := by omega
       have hr16 : r4 < 16 := by omega
       have hr16a : r4 ≤ 16 := by omega
       have hr16b : ¬ 16 = r4 := by omega
       have hd15 : d < 15 := by omega
       have hdr : d * 16 + r4 = b * 4 := by omega
       have HV := Lib.hid (And.intro hVl (And.intro hVt (And.intro hEt (And.intro hLl hdr)))); clear hVl hVt hEt hLl hV hdr hd hr hr4
       have zo := s.lt (by rw [u8s_len, HV.out.2.2.2.1]; decide)
       go_wp2_with (first | (refine wpl_al4 rfl rfl s ?_; intro w7 gt s7 _) | (refine wpl_st8a rfl rfl (.tmp 12) (.tmp 99) rfl s7 Tryz.size_b4 rfl rfl HV.out.1 nought4_len ?_; intro w8 s8))
       have zt := s8.lt (by rw [u8s_len, HV.out.1]; decide)
       have hsl1 := fun w => run_sliceFrom (P := Tryz.prog) (T := 210) (U := 5) Tryz.underlying210 (by kernel_rfl) go (d * 16) r4 hr16 w
       have hsl2 := fun w => run_sliceAll (P := Tryz.prog) (T := 245) (U := 5) Tryz.underlying245 (by kernel_rfl) gt 0 w
       go_wp2_with fail
       refine wp_region_quiet_tail_lit 8 (by kernel_rfl) (by kernel_rfl) ?_
       simp only [List.take_succ_cons, List.take_zero, List.drop_succ_cons, List.drop_zero]
       repeat (go_big_quiet_step (fail))
       refine wpQuiet_nil ?_
       rintro _ ⟨nq, rfl⟩
       have s9 : Sat W0 (w8.drewN nq) (seg true go 0 (u8s (E.take (b * 4) ++ List.replicate (240 - b * 4) 0)) :: seg true gt 0 (u8s V) :: seg true gr 0 (u8s nought240) :: seg m bk ok (u8s key) :: L) := (s8.drewN nq).pull 1
       have hnw := (show Sat W0 (w8.drewN nq) (seg true gt 0 (u8s V) :: _) from s8.drewN nq).news
       have hmin : (u8s V).length = Nat.min 4 (16 - r4) := by rw [u8s_len, HV.out.1]; exact (Nat.min_eq_left (by omega)).symm
       have hfit : b * 4 + (u8s V).length ≤ (u8s (E.take (b * 4) ++ List.replicate (240 - b * 4) (0 : Byte))).length := by rw [u8s_len, u8s_len, HV.out.1, HV.out.2.2.2.1]; omega
       have HC := Lib.hid (And.intro hnw (And.intro hmin hfit)); clear hnw hmin hfit s s7 s8
       go_wp2_with (refine wpl_copy rfl (.tmp 106) (.tmp 107) 25 25 rfl Tryz.underlying25 (by kernel_rfl) s9 (b * 4) _ _ _ _ _ _ (u8s V) rfl rfl (by first | exact HV.out.2.2.2.2 | (have := HV.out.2.2.2.2; omega)) HC.out.2.1 HC.out.2.2 HC.out.1 (u8s_one _) ?_; intro w9 s10; rw [setL_u8s _ _ _ (by rw [HV.out.1, HV.out.2.2.2.1]; omega), putB_next _ _ _ _ HV.out.2.2.1 (by rw [HV.out.1]; omega), HV.out.2.1, HV.out.1] at s10)
       go_roundw
       case rel =>
        refine ⟨b + 1, by omega, by go_num, ?_⟩
        rw [show b * 4 + 4 = (b + 1) * 4 by omega] at s10
        exact s10.drop 1
       case measure => simp [intOf]; omega
      ·obtain rfl : b = 60 := by omega
       have hE2 : E.take (60 * 4) ++ List.replicate (240 - 60 * 4) (0 : Byte) = E := by rw [List.take_of_length_le (by rw [HE.out.1]; decide)]; simp
       rw [hE2] at s
       clear hE2 hEt hLl
       go_wp2_with (first | (refine wpl_ld8a rfl (.tmp 10) rfl Tryz.underlying238 Tryz.size_k15 s rfl HE.out.1 ?_) | (refine wpl_st8a rfl rfl (.tmp 2) (.tmp 110) rfl (s.pull 1 : Sat W0 _ (seg true gr 0 (u8s nought240) :: _)) Tryz.size_k15 rfl rfl HE.out.1 nought240_len ?_; intro w9 s9))
       have s10 : Sat W0 w9 (seg true gr 0 (u8s E) :: seg true go 0 (u8s E) :: seg m bk ok (u8s key) :: L) := s9
       refine bodyPost_ret (v := .agg (u8s E).toArray) ?_ rfl ⟨rfl, bytesOf ((s10.drop 0).drop 0)⟩
       ·have hr := run_ret8 Tryz.underlying238 Tryz.size_k15 s9 HE.out.1
        simp [results, Tryz.results160, asAddr]; exact hr
end Go.Proofs.YtbefjaodpbgpcaaGreat
