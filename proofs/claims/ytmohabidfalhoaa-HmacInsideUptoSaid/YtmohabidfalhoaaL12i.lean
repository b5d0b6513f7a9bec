/- HmacInside: the tag is the hash of the outer key and the hash of the inner key and the message; where the arguments read as bytes, of bulk at most 1048576. -/
import Derived.Test.YtmohabidfalhoaaL12
import Derived.Test.YtmohabidfalhoaaArg
namespace Go.Proofs.Ytmohabidfalhoaa
open Go.RowKit Go.Sep Go.Bv Go.Sha
set_option linter.unusedVariables false
set_option linter.unusedSimpArgs false
theorem xorKey_snoc (wide : Bool) (k : List Byte) (x : Byte) (j : Nat) (h : j < bsz wide) : (xorKey wide k x).take (j + 1) = (xorKey wide k x).take j ++ [k.getD j 0 ^^^ x] := by
  rw [List.take_succ_eq_append_getElem (by rw [xorKey_len]; exact h)]
  simp [xorKey]
theorem bx54 (x : Byte) : bits .xor .u8 (v8 x) 54 = v8 (x ^^^ 54) := vxor8 x 54
theorem bx92 (x : Byte) : bits .xor .u8 (v8 x) 92 = v8 (x ^^^ 92) := vxor8 x 92
theorem bytesNone {W0 w : World} {L : List Assn} {m : Bool} {sp : Option Addr} {bs : List Byte} {n : Nat} (h : Sat W0 w (bytes m sp bs :: L)) (hn : bs.length = n) : sp = none → n = 0 := by
  rintro rfl
  by_cases h0 : bs = []
  · rw [← hn, h0]; rfl
  · obtain ⟨_, _, h', _⟩ := bytesCell h h0; cases h'
set_option maxRecDepth 100000 in
set_option maxHeartbeats 8000000 in
theorem inside_any (W : World) (wide : Bool) (a1 a2 : Option Addr × Nat × Nat × List Byte) (h1 : IsBytes W a1.1 a1.2.1 a1.2.2.1 a1.2.2.2) (h2 : IsBytes W a2.1 a2.2.1 a2.2.2.1 a2.2.2.2) (hs1 : a1.2.2.1 ≤ 1048576) (hs2 : a2.2.2.1 ≤ 1048576) :
    Calls Try.prog 7 #[.bool wide, .slice a1.1 a1.2.1 a1.2.2.1, .slice a2.1 a2.2.1 a2.2.2.1] W fun e W' => e = .returned (.bool true) ∧ Below W.heap.size W W' := by
  obtain ⟨i3, hi3, hz3, hs3, hb3⟩ := info_parts Try.info_u8
  have s0 : Sat W W (bytes false a1.1 a1.2.2.2 :: bytes false a2.1 a2.2.2.2 :: []) := h1.sat (h2.sat (Sat.nil W))
  have HA := Lib.hid (And.intro h1.1 (And.intro h1.2.1 (And.intro h2.1 (And.intro h2.2.1 (And.intro (bytesNone (s0.pull 1) h2.1) (And.intro (show a2.2.1 ≤ 1048576 from Nat.le_trans h2.2.1 hs2) (And.intro h1.2.2.1 (And.intro h2.2.2.1 (show a1.2.1 ≤ 1048576 from Nat.le_trans h1.2.1 hs1)))))))))
  have hcpy := copyBytes (ca := a1.2.2.1) a1.2.2.2 (by rw [HA.out.1]; have := HA.out.2.2.2.2.2.2.2.2; omega) s0
  rw [HA.out.1] at hcpy
  clear h1 h2 hs1 hs2
  cases wide
  · skip
    have halg := alg12 W false
    simp only [algN, bsz] at halg
    by_cases hlong : 64 < a1.2.1
    · have hbk : blockKey false a1.2.2.2 = hash false a1.2.2.2 := if_pos (by rw [HA.out.1]; exact hlong)
      have Hbk := Lib.hid hbk; clear hbk
      go_enter Try.func7, Try.ntmps7
      go_wp2_with fail
      refine halg.mono ?_
      rintro e w' ⟨rfl, rfl⟩
      go_wp2_with fail
      refine hcpy.mono ?_
      rintro e w1 ⟨p0, c0, rfl, s1⟩
      clear hcpy halg s0
      have hd0 := digSum (cap := a1.2.2.1) false none [] a1.2.2.2 (by rw [HA.out.1]; exact HA.out.2.1) HA.out.2.2.2.2.2.2.1 (by rw [HA.out.1]; have := HA.out.2.2.2.2.2.2.2.2; simp [tot]; omega) (by decide) (ledNone (s1.pull 1))
      rw [HA.out.1] at hd0
      simp only [hsz, algN, ptrO, Option.map_none] at hd0
      go_wp2_with fail
      refine hd0.mono ?_
      rintro e w2 ⟨pk, ck, rfl, s2⟩
      clear hd0 s1
      obtain ⟨hKl, _, _, s2'⟩ := rowBytes s2
      have s3 : Sat W w2 (bytes true pk (hash false a1.2.2.2) :: bytes false a1.1 a1.2.2.2 :: bytes false a2.1 a2.2.2.2 :: []) := ((s2'.pick [0, 2, 4]).drop 3).drop 3
      have hKb := Hbk.out
      clear s2 s2'
      go_wp2_with fail
      have HK := Lib.hid (And.intro hKl hKb); clear hKl hKb
      go_loopw [10, 11, 12] (fun t10 t11 t12 wr => ∃ (j : Nat) (pi : Option Addr) (ci : Nat) (po : Option Addr) (co : Nat), j ≤ 64 ∧ t12 = .int .i64 (j : Int) ∧ t10 = .slice pi j ci ∧ t11 = .slice po j co ∧ Sat W wr (row pi ci 1 j (u8s ((xorKey false (hash false a1.2.2.2) 54).take j)) :: row po co 1 j (u8s ((xorKey false (hash false a1.2.2.2) 92).take j)) :: bytes true pk (hash false a1.2.2.2) :: bytes false a1.1 a1.2.2.2 :: bytes false a2.1 a2.2.2.2 :: [])) (fun _ _ t12 _ => 64 - (intOf t12).toNat)
      case atStart => exact ⟨0, none, 0, none, 0, by omega, rfl, rfl, rfl, by simpa [u8s] using (s3.rowNil 1).rowNil 1⟩
      case round =>
        clear s3
        obtain ⟨j, pi, ci, po, co, hj, rfl, rfl, rfl, s⟩ := hrel
        by_cases hlt : j < 64
        · have hx1 := xorKey_snoc false (hash false a1.2.2.2) 54 j hlt
          have hx2 := xorKey_snoc false (hash false a1.2.2.2) 92 j hlt
          obtain ⟨x, hx⟩ : ∃ x, x = ((hash false a1.2.2.2)).getD j 0 := ⟨_, rfl⟩
          rw [← hx] at hx1 hx2
          have hnx : ¬ j < 32 → x = 0 := fun h => by rw [hx]; simp [List.getD_eq_getElem?_getD, List.getElem?_eq_none (show ((hash false a1.2.2.2)).length ≤ j by have := HK.out.1; omega)]
          have hcx : j < 32 → ∃ b o, pk = some ⟨b, o, none⟩ ∧ wr.cell? ⟨b, o + j, none⟩ = some (.int .u8 (v8 x)) := fun h => by
            obtain ⟨b, o, hp, h1⟩ := bytesCell (s.pull 2 : Sat W wr (bytes true pk ((hash false a1.2.2.2)) :: _)) (by intro h0; have := HK.out.1; rw [h0] at this; simp at this <;> omega)
            exact ⟨b, o, hp, by rw [hx]; exact h1.cell (u8s_get _ j (by rw [HK.out.1]; exact h))⟩
          have HX := Lib.hid (And.intro hx1 (And.intro hx2 hnx)); clear hx1 hx2 hnx hx
          by_cases hjn : j < 32
          · obtain ⟨b, o, rfl, c1⟩ := hcx hjn
            clear hcx
            go_wp2_with (first | (refine wpl_append rfl (.tmp 50) (.tmp 53) 39 rfl Try.underlying39 hi3 hz3 hs3 hb3 rfl (by decide) (s.alloc' _) rfl (some _) 1 1 rfl [.int .u8 (bits .xor .u8 (v8 x) 54)] rfl ((s.alloc #[.int .u8 (bits .xor .u8 (v8 x) 54)] 5).news) (fun h => by cases h) (by simp [Value.oneCell']) (by unfold maxLen; omega) (by omega) ?_; intro p2 c2 w2 s2 _ _; have s2' : Sat W w2 (row po co 1 j (u8s ((xorKey false (hash false a1.2.2.2) 92).take j)) :: _) := s2.pull 1) | (refine wpl_append rfl (.tmp 55) (.tmp 58) 39 rfl Try.underlying39 hi3 hz3 hs3 hb3 rfl (by decide) (s2'.alloc' _) rfl (some _) 1 1 rfl [.int .u8 (bits .xor .u8 (v8 x) 92)] rfl ((s2'.alloc #[.int .u8 (bits .xor .u8 (v8 x) 92)] 5).news) (fun h => by cases h) (by simp [Value.oneCell']) (by unfold maxLen; omega) (by omega) ?_; intro p3 c3 w3 s4 _ _))
            go_roundw
            case rel =>
              refine ⟨j + 1, p2, c2, p3, c3, by omega, by go_num, rfl, rfl, ?_⟩
              rw [HX.out.1, HX.out.2.1, u8s_append, u8s_append]
              rw [bx54, bx92] at s4
              exact s4.pull 1
            case measure => simp [intOf]; omega
          · clear hcx
            have hx0 := HX.out.2.2 hjn
            go_wp2_with (first | (refine wpl_append rfl (.tmp 50) (.tmp 53) 39 rfl Try.underlying39 hi3 hz3 hs3 hb3 rfl (by decide) (s.alloc' _) rfl (some _) 1 1 rfl [.int .u8 54] rfl ((s.alloc #[.int .u8 54] 5).news) (fun h => by cases h) (by simp [Value.oneCell']) (by unfold maxLen; omega) (by omega) ?_; intro p2 c2 w2 s2 _ _; have s2' : Sat W w2 (row po co 1 j (u8s ((xorKey false (hash false a1.2.2.2) 92).take j)) :: _) := s2.pull 1) | (refine wpl_append rfl (.tmp 55) (.tmp 58) 39 rfl Try.underlying39 hi3 hz3 hs3 hb3 rfl (by decide) (s2'.alloc' _) rfl (some _) 1 1 rfl [.int .u8 92] rfl ((s2'.alloc #[.int .u8 92] 5).news) (fun h => by cases h) (by simp [Value.oneCell']) (by unfold maxLen; omega) (by omega) ?_; intro p3 c3 w3 s4 _ _))
            go_roundw
            case rel =>
              refine ⟨j + 1, p2, c2, p3, c3, by omega, by go_num, rfl, rfl, ?_⟩
              rw [HX.out.1, HX.out.2.1, u8s_append, u8s_append, hx0]
              exact s4.pull 1
            case measure => simp [intOf]; omega
        · obtain rfl : j = 64 := by omega
          have e1 : (xorKey false (hash false a1.2.2.2) 54).take 64 = xorKey false (hash false a1.2.2.2) 54 := List.take_of_length_le (by rw [xorKey_len]; exact Nat.le_refl _)
          have e2 : (xorKey false (hash false a1.2.2.2) 92).take 64 = xorKey false (hash false a1.2.2.2) 92 := List.take_of_length_le (by rw [xorKey_len]; exact Nat.le_refl _)
          rw [e1, e2] at s
          have n1 := bytesNews (s.pull 4 : Sat W wr (bytes false a2.1 a2.2.2.2 :: _))
          go_wp2_with (refine wpl_append rfl (.tmp 62) (.tmp 63) 39 rfl Try.underlying39 hi3 hz3 hs3 hb3 rfl (by decide) s rfl a2.1 a2.2.1 a2.2.2.1 rfl (u8s a2.2.2.2) (by rw [u8s_len, Nat.mul_one]; exact HA.out.2.2.1) n1 HA.out.2.2.2.2.1 (u8s_one _) (by have := HA.out.2.2.2.2.2; unfold maxLen; omega) (by have := HA.out.2.2.2.2.2; omega) ?_; intro p2 c2 w2 s2 _ _; rw [← u8s_append] at s2)
          obtain ⟨hl1, hl2, hl3, s4⟩ := rowBytes s2
          have hd1 := digSum (cap := c2) false none [] (xorKey false (hash false a1.2.2.2) 54 ++ a2.2.2.2) (by rw [hl1]; exact hl2) hl3 (by rw [hl1]; have := HA.out.2.2.2.2.2; simp [tot]; omega) (by decide) (ledNone s4)
          rw [hl1] at hd1
          simp only [hsz, algN, ptrO, Option.map_none] at hd1
          refine hd1.mono ?_
          rintro e w3 ⟨q1, cq1, rfl, s5⟩
          clear hd1 s4 s2 s hl2 hl3
          obtain ⟨hl4, hl5, hl6, s6⟩ := rowBytes s5
          have n2 := bytesNews s6
          have s7 : Sat W w3 (row po co 1 64 (u8s (xorKey false (hash false a1.2.2.2) 92)) :: _) := s6.pull 3
          go_wp2_with (refine wpl_append rfl (.tmp 70) (.tmp 71) 39 rfl Try.underlying39 hi3 hz3 hs3 hb3 rfl (by decide) s7 rfl q1 32 cq1 rfl (u8s (hash false (xorKey false (hash false a1.2.2.2) 54 ++ a2.2.2.2))) (by rw [u8s_len]; exact hl4) n2 (bytesNone s6 hl4) (u8s_one _) (by unfold maxLen; omega) (by omega) ?_; intro p5 c5 w5 s8 _ _; rw [← u8s_append] at s8)
          obtain ⟨hl7, hl8, hl9, s9⟩ := rowBytes s8
          have hd2 := digSum (cap := c5) false none [] (xorKey false (hash false a1.2.2.2) 92 ++ hash false (xorKey false (hash false a1.2.2.2) 54 ++ a2.2.2.2)) (by rw [hl7]; exact hl8) hl9 (by rw [hl7]; simp [tot]) (by decide) (ledNone s9)
          rw [hl7] at hd2
          simp only [hsz, algN, ptrO, Option.map_none, Nat.reduceAdd] at hd2 ⊢
          refine hd2.mono ?_
          rintro e w6 ⟨q2, cq2, rfl, s10⟩
          clear hd2 s9 s8 s7 s6 s5
          obtain ⟨T, hT⟩ : ∃ T, T = hash false (xorKey false (hash false a1.2.2.2) 92 ++ hash false (xorKey false (hash false a1.2.2.2) 54 ++ a2.2.2.2)) := ⟨_, rfl⟩
          rw [← hT] at s10
          have hTl : T.length = hsz false := by rw [hT, hash_len]
          have hmac1 : hmac false a1.2.2.2 a2.2.2.2 = T := by rw [hT]; unfold hmac; rw [HK.out.2]
          obtain ⟨_, _, _, s11⟩ := rowBytes s10
          have s12 : Sat W w6 (ledO none [] :: bytes false a1.1 a1.2.2.2 :: bytes false a2.1 a2.2.2.2 :: bytes true q2 T :: []) := ledNone ((((((((s11.pick [7, 8, 0]).drop 3).drop 3).drop 3).drop 3).drop 3).drop 3))
          have ht := hmacTag (cap := a1.2.2.1) (cap2 := a2.2.2.1) false none [] a1.2.2.2 a2.2.2.2 (by rw [HA.out.1]; exact HA.out.2.1) HA.out.2.2.2.2.2.2.1 (by rw [HA.out.2.2.1]; exact HA.out.2.2.2.1) HA.out.2.2.2.2.2.2.2.1 (by rw [HA.out.1, HA.out.2.2.1]; have := HA.out.2.2.2.2.2.1; have := HA.out.2.2.2.2.2.2.2.2; simp [tot]; omega) (by decide) s12
          rw [HA.out.1, HA.out.2.2.1, hmac1] at ht
          simp only [hsz, algN, ptrO, Option.map_none] at ht
          go_wp2_with fail
          refine ht.mono ?_
          rintro e w7 ⟨q3, cq3, rfl, s13⟩
          clear ht s12 s11 s10
          obtain ⟨_, _, _, s14⟩ := rowBytes s13
          have s15 : Sat W w7 (bytes true q3 T :: bytes true q2 T :: []) := (((s14.pick [0, 4]).drop 2).drop 2).drop 2
          go_wp2_with fail
          refine (awake12 s15).mono ?_
          rintro e w8 ⟨rfl, s16⟩
          have hse := sameTrue (ca := cq3) (cb := cq2) T T rfl (by rw [hTl]; unfold maxLen; decide) s16
          rw [hTl] at hse
          simp only [hsz] at hse
          go_wp2_with fail
          refine hse.mono ?_
          rintro e w9 ⟨rfl, nn, rfl⟩
          go_wp2
          go_ret
          exact ⟨rfl, (s16.drewN nn).below⟩
    · have hbk : blockKey false a1.2.2.2 = a1.2.2.2 := if_neg (by rw [HA.out.1]; exact hlong)
      have Hbk := Lib.hid hbk; clear hbk
      go_enter Try.func7, Try.ntmps7
      go_wp2_with fail
      refine halg.mono ?_
      rintro e w' ⟨rfl, rfl⟩
      go_wp2_with fail
      refine hcpy.mono ?_
      rintro e w1 ⟨pk, ck, rfl, s1⟩
      clear hcpy halg s0
      obtain ⟨hKl, _, _, s3⟩ := rowBytes s1
      have hKb := Hbk.out
      clear s1
      go_wp2_with fail
      have HK := Lib.hid (And.intro hKl hKb); clear hKl hKb
      go_loopw [10, 11, 12] (fun t10 t11 t12 wr => ∃ (j : Nat) (pi : Option Addr) (ci : Nat) (po : Option Addr) (co : Nat), j ≤ 64 ∧ t12 = .int .i64 (j : Int) ∧ t10 = .slice pi j ci ∧ t11 = .slice po j co ∧ Sat W wr (row pi ci 1 j (u8s ((xorKey false a1.2.2.2 54).take j)) :: row po co 1 j (u8s ((xorKey false a1.2.2.2 92).take j)) :: bytes true pk a1.2.2.2 :: bytes false a1.1 a1.2.2.2 :: bytes false a2.1 a2.2.2.2 :: [])) (fun _ _ t12 _ => 64 - (intOf t12).toNat)
      case atStart => exact ⟨0, none, 0, none, 0, by omega, rfl, rfl, rfl, by simpa [u8s] using (s3.rowNil 1).rowNil 1⟩
      case round =>
        clear s3
        obtain ⟨j, pi, ci, po, co, hj, rfl, rfl, rfl, s⟩ := hrel
        by_cases hlt : j < 64
        · have hx1 := xorKey_snoc false a1.2.2.2 54 j hlt
          have hx2 := xorKey_snoc false a1.2.2.2 92 j hlt
          obtain ⟨x, hx⟩ : ∃ x, x = (a1.2.2.2).getD j 0 := ⟨_, rfl⟩
          rw [← hx] at hx1 hx2
          have hnx : ¬ j < a1.2.1 → x = 0 := fun h => by rw [hx]; simp [List.getD_eq_getElem?_getD, List.getElem?_eq_none (show (a1.2.2.2).length ≤ j by have := HK.out.1; omega)]
          have hcx : j < a1.2.1 → ∃ b o, pk = some ⟨b, o, none⟩ ∧ wr.cell? ⟨b, o + j, none⟩ = some (.int .u8 (v8 x)) := fun h => by
            obtain ⟨b, o, hp, h1⟩ := bytesCell (s.pull 2 : Sat W wr (bytes true pk (a1.2.2.2) :: _)) (by intro h0; have := HK.out.1; rw [h0] at this; simp at this <;> omega)
            exact ⟨b, o, hp, by rw [hx]; exact h1.cell (u8s_get _ j (by rw [HK.out.1]; exact h))⟩
          have HX := Lib.hid (And.intro hx1 (And.intro hx2 hnx)); clear hx1 hx2 hnx hx
          by_cases hjn : j < a1.2.1
          · obtain ⟨b, o, rfl, c1⟩ := hcx hjn
            clear hcx
            go_wp2_with (first | (refine wpl_append rfl (.tmp 50) (.tmp 53) 39 rfl Try.underlying39 hi3 hz3 hs3 hb3 rfl (by decide) (s.alloc' _) rfl (some _) 1 1 rfl [.int .u8 (bits .xor .u8 (v8 x) 54)] rfl ((s.alloc #[.int .u8 (bits .xor .u8 (v8 x) 54)] 5).news) (fun h => by cases h) (by simp [Value.oneCell']) (by unfold maxLen; omega) (by omega) ?_; intro p2 c2 w2 s2 _ _; have s2' : Sat W w2 (row po co 1 j (u8s ((xorKey false a1.2.2.2 92).take j)) :: _) := s2.pull 1) | (refine wpl_append rfl (.tmp 55) (.tmp 58) 39 rfl Try.underlying39 hi3 hz3 hs3 hb3 rfl (by decide) (s2'.alloc' _) rfl (some _) 1 1 rfl [.int .u8 (bits .xor .u8 (v8 x) 92)] rfl ((s2'.alloc #[.int .u8 (bits .xor .u8 (v8 x) 92)] 5).news) (fun h => by cases h) (by simp [Value.oneCell']) (by unfold maxLen; omega) (by omega) ?_; intro p3 c3 w3 s4 _ _))
            go_roundw
            case rel =>
              refine ⟨j + 1, p2, c2, p3, c3, by omega, by go_num, rfl, rfl, ?_⟩
              rw [HX.out.1, HX.out.2.1, u8s_append, u8s_append]
              rw [bx54, bx92] at s4
              exact s4.pull 1
            case measure => simp [intOf]; omega
          · clear hcx
            have hx0 := HX.out.2.2 hjn
            go_wp2_with (first | (refine wpl_append rfl (.tmp 50) (.tmp 53) 39 rfl Try.underlying39 hi3 hz3 hs3 hb3 rfl (by decide) (s.alloc' _) rfl (some _) 1 1 rfl [.int .u8 54] rfl ((s.alloc #[.int .u8 54] 5).news) (fun h => by cases h) (by simp [Value.oneCell']) (by unfold maxLen; omega) (by omega) ?_; intro p2 c2 w2 s2 _ _; have s2' : Sat W w2 (row po co 1 j (u8s ((xorKey false a1.2.2.2 92).take j)) :: _) := s2.pull 1) | (refine wpl_append rfl (.tmp 55) (.tmp 58) 39 rfl Try.underlying39 hi3 hz3 hs3 hb3 rfl (by decide) (s2'.alloc' _) rfl (some _) 1 1 rfl [.int .u8 92] rfl ((s2'.alloc #[.int .u8 92] 5).news) (fun h => by cases h) (by simp [Value.oneCell']) (by unfold maxLen; omega) (by omega) ?_; intro p3 c3 w3 s4 _ _))
            go_roundw
            case rel =>
              refine ⟨j + 1, p2, c2, p3, c3, by omega, by go_num, rfl, rfl, ?_⟩
              rw [HX.out.1, HX.out.2.1, u8s_append, u8s_append, hx0]
              exact s4.pull 1
            case measure => simp [intOf]; omega
        · obtain rfl : j = 64 := by omega
          have e1 : (xorKey false a1.2.2.2 54).take 64 = xorKey false a1.2.2.2 54 := List.take_of_length_le (by rw [xorKey_len]; exact Nat.le_refl _)
          have e2 : (xorKey false a1.2.2.2 92).take 64 = xorKey false a1.2.2.2 92 := List.take_of_length_le (by rw [xorKey_len]; exact Nat.le_refl _)
          rw [e1, e2] at s
          have n1 := bytesNews (s.pull 4 : Sat W wr (bytes false a2.1 a2.2.2.2 :: _))
          go_wp2_with (refine wpl_append rfl (.tmp 62) (.tmp 63) 39 rfl Try.underlying39 hi3 hz3 hs3 hb3 rfl (by decide) s rfl a2.1 a2.2.1 a2.2.2.1 rfl (u8s a2.2.2.2) (by rw [u8s_len, Nat.mul_one]; exact HA.out.2.2.1) n1 HA.out.2.2.2.2.1 (u8s_one _) (by have := HA.out.2.2.2.2.2; unfold maxLen; omega) (by have := HA.out.2.2.2.2.2; omega) ?_; intro p2 c2 w2 s2 _ _; rw [← u8s_append] at s2)
          obtain ⟨hl1, hl2, hl3, s4⟩ := rowBytes s2
          have hd1 := digSum (cap := c2) false none [] (xorKey false a1.2.2.2 54 ++ a2.2.2.2) (by rw [hl1]; exact hl2) hl3 (by rw [hl1]; have := HA.out.2.2.2.2.2; simp [tot]; omega) (by decide) (ledNone s4)
          rw [hl1] at hd1
          simp only [hsz, algN, ptrO, Option.map_none] at hd1
          refine hd1.mono ?_
          rintro e w3 ⟨q1, cq1, rfl, s5⟩
          clear hd1 s4 s2 s hl2 hl3
          obtain ⟨hl4, hl5, hl6, s6⟩ := rowBytes s5
          have n2 := bytesNews s6
          have s7 : Sat W w3 (row po co 1 64 (u8s (xorKey false a1.2.2.2 92)) :: _) := s6.pull 3
          go_wp2_with (refine wpl_append rfl (.tmp 70) (.tmp 71) 39 rfl Try.underlying39 hi3 hz3 hs3 hb3 rfl (by decide) s7 rfl q1 32 cq1 rfl (u8s (hash false (xorKey false a1.2.2.2 54 ++ a2.2.2.2))) (by rw [u8s_len]; exact hl4) n2 (bytesNone s6 hl4) (u8s_one _) (by unfold maxLen; omega) (by omega) ?_; intro p5 c5 w5 s8 _ _; rw [← u8s_append] at s8)
          obtain ⟨hl7, hl8, hl9, s9⟩ := rowBytes s8
          have hd2 := digSum (cap := c5) false none [] (xorKey false a1.2.2.2 92 ++ hash false (xorKey false a1.2.2.2 54 ++ a2.2.2.2)) (by rw [hl7]; exact hl8) hl9 (by rw [hl7]; simp [tot]) (by decide) (ledNone s9)
          rw [hl7] at hd2
          simp only [hsz, algN, ptrO, Option.map_none, Nat.reduceAdd] at hd2 ⊢
          refine hd2.mono ?_
          rintro e w6 ⟨q2, cq2, rfl, s10⟩
          clear hd2 s9 s8 s7 s6 s5
          obtain ⟨T, hT⟩ : ∃ T, T = hash false (xorKey false a1.2.2.2 92 ++ hash false (xorKey false a1.2.2.2 54 ++ a2.2.2.2)) := ⟨_, rfl⟩
          rw [← hT] at s10
          have hTl : T.length = hsz false := by rw [hT, hash_len]
          have hmac1 : hmac false a1.2.2.2 a2.2.2.2 = T := by rw [hT]; unfold hmac; rw [HK.out.2]
          obtain ⟨_, _, _, s11⟩ := rowBytes s10
          have s12 : Sat W w6 (ledO none [] :: bytes false a1.1 a1.2.2.2 :: bytes false a2.1 a2.2.2.2 :: bytes true q2 T :: []) := ledNone ((((((((s11.pick [7, 8, 0]).drop 3).drop 3).drop 3).drop 3).drop 3).drop 3))
          have ht := hmacTag (cap := a1.2.2.1) (cap2 := a2.2.2.1) false none [] a1.2.2.2 a2.2.2.2 (by rw [HA.out.1]; exact HA.out.2.1) HA.out.2.2.2.2.2.2.1 (by rw [HA.out.2.2.1]; exact HA.out.2.2.2.1) HA.out.2.2.2.2.2.2.2.1 (by rw [HA.out.1, HA.out.2.2.1]; have := HA.out.2.2.2.2.2.1; have := HA.out.2.2.2.2.2.2.2.2; simp [tot]; omega) (by decide) s12
          rw [HA.out.1, HA.out.2.2.1, hmac1] at ht
          simp only [hsz, algN, ptrO, Option.map_none] at ht
          go_wp2_with fail
          refine ht.mono ?_
          rintro e w7 ⟨q3, cq3, rfl, s13⟩
          clear ht s12 s11 s10
          obtain ⟨_, _, _, s14⟩ := rowBytes s13
          have s15 : Sat W w7 (bytes true q3 T :: bytes true q2 T :: []) := (((s14.pick [0, 4]).drop 2).drop 2).drop 2
          go_wp2_with fail
          refine (awake12 s15).mono ?_
          rintro e w8 ⟨rfl, s16⟩
          have hse := sameTrue (ca := cq3) (cb := cq2) T T rfl (by rw [hTl]; unfold maxLen; decide) s16
          rw [hTl] at hse
          simp only [hsz] at hse
          go_wp2_with fail
          refine hse.mono ?_
          rintro e w9 ⟨rfl, nn, rfl⟩
          go_wp2
          go_ret
          exact ⟨rfl, (s16.drewN nn).below⟩
  · skip
    have halg := alg12 W true
    simp only [algN, bsz] at halg
    by_cases hlong : 128 < a1.2.1
    · have hbk : blockKey true a1.2.2.2 = hash true a1.2.2.2 := if_pos (by rw [HA.out.1]; exact hlong)
      have Hbk := Lib.hid hbk; clear hbk
      go_enter Try.func7, Try.ntmps7
      go_wp2_with fail
      refine halg.mono ?_
      rintro e w' ⟨rfl, rfl⟩
      go_wp2_with fail
      refine hcpy.mono ?_
      rintro e w1 ⟨p0, c0, rfl, s1⟩
      clear hcpy halg s0
      have hd0 := digSum (cap := a1.2.2.1) true none [] a1.2.2.2 (by rw [HA.out.1]; exact HA.out.2.1) HA.out.2.2.2.2.2.2.1 (by rw [HA.out.1]; have := HA.out.2.2.2.2.2.2.2.2; simp [tot]; omega) (by decide) (ledNone (s1.pull 1))
      rw [HA.out.1] at hd0
      simp only [hsz, algN, ptrO, Option.map_none] at hd0
      go_wp2_with fail
      refine hd0.mono ?_
      rintro e w2 ⟨pk, ck, rfl, s2⟩
      clear hd0 s1
      obtain ⟨hKl, _, _, s2'⟩ := rowBytes s2
      have s3 : Sat W w2 (bytes true pk (hash true a1.2.2.2) :: bytes false a1.1 a1.2.2.2 :: bytes false a2.1 a2.2.2.2 :: []) := ((s2'.pick [0, 2, 4]).drop 3).drop 3
      have hKb := Hbk.out
      clear s2 s2'
      go_wp2_with fail
      have HK := Lib.hid (And.intro hKl hKb); clear hKl hKb
      go_loopw [10, 11, 12] (fun t10 t11 t12 wr => ∃ (j : Nat) (pi : Option Addr) (ci : Nat) (po : Option Addr) (co : Nat), j ≤ 128 ∧ t12 = .int .i64 (j : Int) ∧ t10 = .slice pi j ci ∧ t11 = .slice po j co ∧ Sat W wr (row pi ci 1 j (u8s ((xorKey true (hash true a1.2.2.2) 54).take j)) :: row po co 1 j (u8s ((xorKey true (hash true a1.2.2.2) 92).take j)) :: bytes true pk (hash true a1.2.2.2) :: bytes false a1.1 a1.2.2.2 :: bytes false a2.1 a2.2.2.2 :: [])) (fun _ _ t12 _ => 128 - (intOf t12).toNat)
      case atStart => exact ⟨0, none, 0, none, 0, by omega, rfl, rfl, rfl, by simpa [u8s] using (s3.rowNil 1).rowNil 1⟩
      case round =>
        clear s3
        obtain ⟨j, pi, ci, po, co, hj, rfl, rfl, rfl, s⟩ := hrel
        by_cases hlt : j < 128
        · have hx1 := xorKey_snoc true (hash true a1.2.2.2) 54 j hlt
          have hx2 := xorKey_snoc true (hash true a1.2.2.2) 92 j hlt
          obtain ⟨x, hx⟩ : ∃ x, x = ((hash true a1.2.2.2)).getD j 0 := ⟨_, rfl⟩
          rw [← hx] at hx1 hx2
          have hnx : ¬ j < 64 → x = 0 := fun h => by rw [hx]; simp [List.getD_eq_getElem?_getD, List.getElem?_eq_none (show ((hash true a1.2.2.2)).length ≤ j by have := HK.out.1; omega)]
          have hcx : j < 64 → ∃ b o, pk = some ⟨b, o, none⟩ ∧ wr.cell? ⟨b, o + j, none⟩ = some (.int .u8 (v8 x)) := fun h => by
            obtain ⟨b, o, hp, h1⟩ := bytesCell (s.pull 2 : Sat W wr (bytes true pk ((hash true a1.2.2.2)) :: _)) (by intro h0; have := HK.out.1; rw [h0] at this; simp at this <;> omega)
            exact ⟨b, o, hp, by rw [hx]; exact h1.cell (u8s_get _ j (by rw [HK.out.1]; exact h))⟩
          have HX := Lib.hid (And.intro hx1 (And.intro hx2 hnx)); clear hx1 hx2 hnx hx
          by_cases hjn : j < 64
          · obtain ⟨b, o, rfl, c1⟩ := hcx hjn
            clear hcx
            go_wp2_with (first | (refine wpl_append rfl (.tmp 50) (.tmp 53) 39 rfl Try.underlying39 hi3 hz3 hs3 hb3 rfl (by decide) (s.alloc' _) rfl (some _) 1 1 rfl [.int .u8 (bits .xor .u8 (v8 x) 54)] rfl ((s.alloc #[.int .u8 (bits .xor .u8 (v8 x) 54)] 5).news) (fun h => by cases h) (by simp [Value.oneCell']) (by unfold maxLen; omega) (by omega) ?_; intro p2 c2 w2 s2 _ _; have s2' : Sat W w2 (row po co 1 j (u8s ((xorKey true (hash true a1.2.2.2) 92).take j)) :: _) := s2.pull 1) | (refine wpl_append rfl (.tmp 55) (.tmp 58) 39 rfl Try.underlying39 hi3 hz3 hs3 hb3 rfl (by decide) (s2'.alloc' _) rfl (some _) 1 1 rfl [.int .u8 (bits .xor .u8 (v8 x) 92)] rfl ((s2'.alloc #[.int .u8 (bits .xor .u8 (v8 x) 92)] 5).news) (fun h => by cases h) (by simp [Value.oneCell']) (by unfold maxLen; omega) (by omega) ?_; intro p3 c3 w3 s4 _ _))
            go_roundw
            case rel =>
              refine ⟨j + 1, p2, c2, p3, c3, by omega, by go_num, rfl, rfl, ?_⟩
              rw [HX.out.1, HX.out.2.1, u8s_append, u8s_append]
              rw [bx54, bx92] at s4
              exact s4.pull 1
            case measure => simp [intOf]; omega
          · clear hcx
            have hx0 := HX.out.2.2 hjn
            go_wp2_with (first | (refine wpl_append rfl (.tmp 50) (.tmp 53) 39 rfl Try.underlying39 hi3 hz3 hs3 hb3 rfl (by decide) (s.alloc' _) rfl (some _) 1 1 rfl [.int .u8 54] rfl ((s.alloc #[.int .u8 54] 5).news) (fun h => by cases h) (by simp [Value.oneCell']) (by unfold maxLen; omega) (by omega) ?_; intro p2 c2 w2 s2 _ _; have s2' : Sat W w2 (row po co 1 j (u8s ((xorKey true (hash true a1.2.2.2) 92).take j)) :: _) := s2.pull 1) | (refine wpl_append rfl (.tmp 55) (.tmp 58) 39 rfl Try.underlying39 hi3 hz3 hs3 hb3 rfl (by decide) (s2'.alloc' _) rfl (some _) 1 1 rfl [.int .u8 92] rfl ((s2'.alloc #[.int .u8 92] 5).news) (fun h => by cases h) (by simp [Value.oneCell']) (by unfold maxLen; omega) (by omega) ?_; intro p3 c3 w3 s4 _ _))
            go_roundw
            case rel =>
              refine ⟨j + 1, p2, c2, p3, c3, by omega, by go_num, rfl, rfl, ?_⟩
              rw [HX.out.1, HX.out.2.1, u8s_append, u8s_append, hx0]
              exact s4.pull 1
            case measure => simp [intOf]; omega
        · obtain rfl : j = 128 := by omega
          have e1 : (xorKey true (hash true a1.2.2.2) 54).take 128 = xorKey true (hash true a1.2.2.2) 54 := List.take_of_length_le (by rw [xorKey_len]; exact Nat.le_refl _)
          have e2 : (xorKey true (hash true a1.2.2.2) 92).take 128 = xorKey true (hash true a1.2.2.2) 92 := List.take_of_length_le (by rw [xorKey_len]; exact Nat.le_refl _)
          rw [e1, e2] at s
          have n1 := bytesNews (s.pull 4 : Sat W wr (bytes false a2.1 a2.2.2.2 :: _))
          go_wp2_with (refine wpl_append rfl (.tmp 62) (.tmp 63) 39 rfl Try.underlying39 hi3 hz3 hs3 hb3 rfl (by decide) s rfl a2.1 a2.2.1 a2.2.2.1 rfl (u8s a2.2.2.2) (by rw [u8s_len, Nat.mul_one]; exact HA.out.2.2.1) n1 HA.out.2.2.2.2.1 (u8s_one _) (by have := HA.out.2.2.2.2.2; unfold maxLen; omega) (by have := HA.out.2.2.2.2.2; omega) ?_; intro p2 c2 w2 s2 _ _; rw [← u8s_append] at s2)
          obtain ⟨hl1, hl2, hl3, s4⟩ := rowBytes s2
          have hd1 := digSum (cap := c2) true none [] (xorKey true (hash true a1.2.2.2) 54 ++ a2.2.2.2) (by rw [hl1]; exact hl2) hl3 (by rw [hl1]; have := HA.out.2.2.2.2.2; simp [tot]; omega) (by decide) (ledNone s4)
          rw [hl1] at hd1
          simp only [hsz, algN, ptrO, Option.map_none] at hd1
          refine hd1.mono ?_
          rintro e w3 ⟨q1, cq1, rfl, s5⟩
          clear hd1 s4 s2 s hl2 hl3
          obtain ⟨hl4, hl5, hl6, s6⟩ := rowBytes s5
          have n2 := bytesNews s6
          have s7 : Sat W w3 (row po co 1 128 (u8s (xorKey true (hash true a1.2.2.2) 92)) :: _) := s6.pull 3
          go_wp2_with (refine wpl_append rfl (.tmp 70) (.tmp 71) 39 rfl Try.underlying39 hi3 hz3 hs3 hb3 rfl (by decide) s7 rfl q1 64 cq1 rfl (u8s (hash true (xorKey true (hash true a1.2.2.2) 54 ++ a2.2.2.2))) (by rw [u8s_len]; exact hl4) n2 (bytesNone s6 hl4) (u8s_one _) (by unfold maxLen; omega) (by omega) ?_; intro p5 c5 w5 s8 _ _; rw [← u8s_append] at s8)
          obtain ⟨hl7, hl8, hl9, s9⟩ := rowBytes s8
          have hd2 := digSum (cap := c5) true none [] (xorKey true (hash true a1.2.2.2) 92 ++ hash true (xorKey true (hash true a1.2.2.2) 54 ++ a2.2.2.2)) (by rw [hl7]; exact hl8) hl9 (by rw [hl7]; simp [tot]) (by decide) (ledNone s9)
          rw [hl7] at hd2
          simp only [hsz, algN, ptrO, Option.map_none, Nat.reduceAdd] at hd2 ⊢
          refine hd2.mono ?_
          rintro e w6 ⟨q2, cq2, rfl, s10⟩
          clear hd2 s9 s8 s7 s6 s5
          obtain ⟨T, hT⟩ : ∃ T, T = hash true (xorKey true (hash true a1.2.2.2) 92 ++ hash true (xorKey true (hash true a1.2.2.2) 54 ++ a2.2.2.2)) := ⟨_, rfl⟩
          rw [← hT] at s10
          have hTl : T.length = hsz true := by rw [hT, hash_len]
          have hmac1 : hmac true a1.2.2.2 a2.2.2.2 = T := by rw [hT]; unfold hmac; rw [HK.out.2]
          obtain ⟨_, _, _, s11⟩ := rowBytes s10
          have s12 : Sat W w6 (ledO none [] :: bytes false a1.1 a1.2.2.2 :: bytes false a2.1 a2.2.2.2 :: bytes true q2 T :: []) := ledNone ((((((((s11.pick [7, 8, 0]).drop 3).drop 3).drop 3).drop 3).drop 3).drop 3))
          have ht := hmacTag (cap := a1.2.2.1) (cap2 := a2.2.2.1) true none [] a1.2.2.2 a2.2.2.2 (by rw [HA.out.1]; exact HA.out.2.1) HA.out.2.2.2.2.2.2.1 (by rw [HA.out.2.2.1]; exact HA.out.2.2.2.1) HA.out.2.2.2.2.2.2.2.1 (by rw [HA.out.1, HA.out.2.2.1]; have := HA.out.2.2.2.2.2.1; have := HA.out.2.2.2.2.2.2.2.2; simp [tot]; omega) (by decide) s12
          rw [HA.out.1, HA.out.2.2.1, hmac1] at ht
          simp only [hsz, algN, ptrO, Option.map_none] at ht
          go_wp2_with fail
          refine ht.mono ?_
          rintro e w7 ⟨q3, cq3, rfl, s13⟩
          clear ht s12 s11 s10
          obtain ⟨_, _, _, s14⟩ := rowBytes s13
          have s15 : Sat W w7 (bytes true q3 T :: bytes true q2 T :: []) := (((s14.pick [0, 4]).drop 2).drop 2).drop 2
          go_wp2_with fail
          refine (awake12 s15).mono ?_
          rintro e w8 ⟨rfl, s16⟩
          have hse := sameTrue (ca := cq3) (cb := cq2) T T rfl (by rw [hTl]; unfold maxLen; decide) s16
          rw [hTl] at hse
          simp only [hsz] at hse
          go_wp2_with fail
          refine hse.mono ?_
          rintro e w9 ⟨rfl, nn, rfl⟩
          go_wp2
          go_ret
          exact ⟨rfl, (s16.drewN nn).below⟩
    · have hbk : blockKey true a1.2.2.2 = a1.2.2.2 := if_neg (by rw [HA.out.1]; exact hlong)
      have Hbk := Lib.hid hbk; clear hbk
      go_enter Try.func7, Try.ntmps7
      go_wp2_with fail
      refine halg.mono ?_
      rintro e w' ⟨rfl, rfl⟩
      go_wp2_with fail
      refine hcpy.mono ?_
      rintro e w1 ⟨pk, ck, rfl, s1⟩
      clear hcpy halg s0
      obtain ⟨hKl, _, _, s3⟩ := rowBytes s1
      have hKb := Hbk.out
      clear s1
      go_wp2_with fail
      have HK := Lib.hid (And.intro hKl hKb); clear hKl hKb
      go_loopw [10, 11, 12] (fun t10 t11 t12 wr => ∃ (j : Nat) (pi : Option Addr) (ci : Nat) (po : Option Addr) (co : Nat), j ≤ 128 ∧ t12 = .int .i64 (j : Int) ∧ t10 = .slice pi j ci ∧ t11 = .slice po j co ∧ Sat W wr (row pi ci 1 j (u8s ((xorKey true a1.2.2.2 54).take j)) :: row po co 1 j (u8s ((xorKey true a1.2.2.2 92).take j)) :: bytes true pk a1.2.2.2 :: bytes false a1.1 a1.2.2.2 :: bytes false a2.1 a2.2.2.2 :: [])) (fun _ _ t12 _ => 128 - (intOf t12).toNat)
      case atStart => exact ⟨0, none, 0, none, 0, by omega, rfl, rfl, rfl, by simpa [u8s] using (s3.rowNil 1).rowNil 1⟩
      case round =>
        clear s3
        obtain ⟨j, pi, ci, po, co, hj, rfl, rfl, rfl, s⟩ := hrel
        by_cases hlt : j < 128
        · have hx1 := xorKey_snoc true a1.2.2.2 54 j hlt
          have hx2 := xorKey_snoc true a1.2.2.2 92 j hlt
          obtain ⟨x, hx⟩ : ∃ x, x = (a1.2.2.2).getD j 0 := ⟨_, rfl⟩
          rw [← hx] at hx1 hx2
          have hnx : ¬ j < a1.2.1 → x = 0 := fun h => by rw [hx]; simp [List.getD_eq_getElem?_getD, List.getElem?_eq_none (show (a1.2.2.2).length ≤ j by have := HK.out.1; omega)]
          have hcx : j < a1.2.1 → ∃ b o, pk = some ⟨b, o, none⟩ ∧ wr.cell? ⟨b, o + j, none⟩ = some (.int .u8 (v8 x)) := fun h => by
            obtain ⟨b, o, hp, h1⟩ := bytesCell (s.pull 2 : Sat W wr (bytes true pk (a1.2.2.2) :: _)) (by intro h0; have := HK.out.1; rw [h0] at this; simp at this <;> omega)
            exact ⟨b, o, hp, by rw [hx]; exact h1.cell (u8s_get _ j (by rw [HK.out.1]; exact h))⟩
          have HX := Lib.hid (And.intro hx1 (And.intro hx2 hnx)); clear hx1 hx2 hnx hx
          by_cases hjn : j < a1.2.1
          · obtain ⟨b, o, rfl, c1⟩ := hcx hjn
            clear hcx
            go_wp2_with (first | (refine wpl_append rfl (.tmp 50) (.tmp 53) 39 rfl Try.underlying39 hi3 hz3 hs3 hb3 rfl (by decide) (s.alloc' _) rfl (some _) 1 1 rfl [.int .u8 (bits .xor .u8 (v8 x) 54)] rfl ((s.alloc #[.int .u8 (bits .xor .u8 (v8 x) 54)] 5).news) (fun h => by cases h) (by simp [Value.oneCell']) (by unfold maxLen; omega) (by omega) ?_; intro p2 c2 w2 s2 _ _; have s2' : Sat W w2 (row po co 1 j (u8s ((xorKey true a1.2.2.2 92).take j)) :: _) := s2.pull 1) | (refine wpl_append rfl (.tmp 55) (.tmp 58) 39 rfl Try.underlying39 hi3 hz3 hs3 hb3 rfl (by decide) (s2'.alloc' _) rfl (some _) 1 1 rfl [.int .u8 (bits .xor .u8 (v8 x) 92)] rfl ((s2'.alloc #[.int .u8 (bits .xor .u8 (v8 x) 92)] 5).news) (fun h => by cases h) (by simp [Value.oneCell']) (by unfold maxLen; omega) (by omega) ?_; intro p3 c3 w3 s4 _ _))
            go_roundw
            case rel =>
              refine ⟨j + 1, p2, c2, p3, c3, by omega, by go_num, rfl, rfl, ?_⟩
              rw [HX.out.1, HX.out.2.1, u8s_append, u8s_append]
              rw [bx54, bx92] at s4
              exact s4.pull 1
            case measure => simp [intOf]; omega
          · clear hcx
            have hx0 := HX.out.2.2 hjn
            go_wp2_with (first | (refine wpl_append rfl (.tmp 50) (.tmp 53) 39 rfl Try.underlying39 hi3 hz3 hs3 hb3 rfl (by decide) (s.alloc' _) rfl (some _) 1 1 rfl [.int .u8 54] rfl ((s.alloc #[.int .u8 54] 5).news) (fun h => by cases h) (by simp [Value.oneCell']) (by unfold maxLen; omega) (by omega) ?_; intro p2 c2 w2 s2 _ _; have s2' : Sat W w2 (row po co 1 j (u8s ((xorKey true a1.2.2.2 92).take j)) :: _) := s2.pull 1) | (refine wpl_append rfl (.tmp 55) (.tmp 58) 39 rfl Try.underlying39 hi3 hz3 hs3 hb3 rfl (by decide) (s2'.alloc' _) rfl (some _) 1 1 rfl [.int .u8 92] rfl ((s2'.alloc #[.int .u8 92] 5).news) (fun h => by cases h) (by simp [Value.oneCell']) (by unfold maxLen; omega) (by omega) ?_; intro p3 c3 w3 s4 _ _))
            go_roundw
            case rel =>
              refine ⟨j + 1, p2, c2, p3, c3, by omega, by go_num, rfl, rfl, ?_⟩
              rw [HX.out.1, HX.out.2.1, u8s_append, u8s_append, hx0]
              exact s4.pull 1
            case measure => simp [intOf]; omega
        · obtain rfl : j = 128 := by omega
          have e1 : (xorKey true a1.2.2.2 54).take 128 = xorKey true a1.2.2.2 54 := List.take_of_length_le (by rw [xorKey_len]; exact Nat.le_refl _)
          have e2 : (xorKey true a1.2.2.2 92).take 128 = xorKey true a1.2.2.2 92 := List.take_of_length_le (by rw [xorKey_len]; exact Nat.le_refl _)
          rw [e1, e2] at s
          have n1 := bytesNews (s.pull 4 : Sat W wr (bytes false a2.1 a2.2.2.2 :: _))
          go_wp2_with (refine wpl_append rfl (.tmp 62) (.tmp 63) 39 rfl Try.underlying39 hi3 hz3 hs3 hb3 rfl (by decide) s rfl a2.1 a2.2.1 a2.2.2.1 rfl (u8s a2.2.2.2) (by rw [u8s_len, Nat.mul_one]; exact HA.out.2.2.1) n1 HA.out.2.2.2.2.1 (u8s_one _) (by have := HA.out.2.2.2.2.2; unfold maxLen; omega) (by have := HA.out.2.2.2.2.2; omega) ?_; intro p2 c2 w2 s2 _ _; rw [← u8s_append] at s2)
          obtain ⟨hl1, hl2, hl3, s4⟩ := rowBytes s2
          have hd1 := digSum (cap := c2) true none [] (xorKey true a1.2.2.2 54 ++ a2.2.2.2) (by rw [hl1]; exact hl2) hl3 (by rw [hl1]; have := HA.out.2.2.2.2.2; simp [tot]; omega) (by decide) (ledNone s4)
          rw [hl1] at hd1
          simp only [hsz, algN, ptrO, Option.map_none] at hd1
          refine hd1.mono ?_
          rintro e w3 ⟨q1, cq1, rfl, s5⟩
          clear hd1 s4 s2 s hl2 hl3
          obtain ⟨hl4, hl5, hl6, s6⟩ := rowBytes s5
          have n2 := bytesNews s6
          have s7 : Sat W w3 (row po co 1 128 (u8s (xorKey true a1.2.2.2 92)) :: _) := s6.pull 3
          go_wp2_with (refine wpl_append rfl (.tmp 70) (.tmp 71) 39 rfl Try.underlying39 hi3 hz3 hs3 hb3 rfl (by decide) s7 rfl q1 64 cq1 rfl (u8s (hash true (xorKey true a1.2.2.2 54 ++ a2.2.2.2))) (by rw [u8s_len]; exact hl4) n2 (bytesNone s6 hl4) (u8s_one _) (by unfold maxLen; omega) (by omega) ?_; intro p5 c5 w5 s8 _ _; rw [← u8s_append] at s8)
          obtain ⟨hl7, hl8, hl9, s9⟩ := rowBytes s8
          have hd2 := digSum (cap := c5) true none [] (xorKey true a1.2.2.2 92 ++ hash true (xorKey true a1.2.2.2 54 ++ a2.2.2.2)) (by rw [hl7]; exact hl8) hl9 (by rw [hl7]; simp [tot]) (by decide) (ledNone s9)
          rw [hl7] at hd2
          simp only [hsz, algN, ptrO, Option.map_none, Nat.reduceAdd] at hd2 ⊢
          refine hd2.mono ?_
          rintro e w6 ⟨q2, cq2, rfl, s10⟩
          clear hd2 s9 s8 s7 s6 s5
          obtain ⟨T, hT⟩ : ∃ T, T = hash true (xorKey true a1.2.2.2 92 ++ hash true (xorKey true a1.2.2.2 54 ++ a2.2.2.2)) := ⟨_, rfl⟩
          rw [← hT] at s10
          have hTl : T.length = hsz true := by rw [hT, hash_len]
          have hmac1 : hmac true a1.2.2.2 a2.2.2.2 = T := by rw [hT]; unfold hmac; rw [HK.out.2]
          obtain ⟨_, _, _, s11⟩ := rowBytes s10
          have s12 : Sat W w6 (ledO none [] :: bytes false a1.1 a1.2.2.2 :: bytes false a2.1 a2.2.2.2 :: bytes true q2 T :: []) := ledNone ((((((((s11.pick [7, 8, 0]).drop 3).drop 3).drop 3).drop 3).drop 3).drop 3))
          have ht := hmacTag (cap := a1.2.2.1) (cap2 := a2.2.2.1) true none [] a1.2.2.2 a2.2.2.2 (by rw [HA.out.1]; exact HA.out.2.1) HA.out.2.2.2.2.2.2.1 (by rw [HA.out.2.2.1]; exact HA.out.2.2.2.1) HA.out.2.2.2.2.2.2.2.1 (by rw [HA.out.1, HA.out.2.2.1]; have := HA.out.2.2.2.2.2.1; have := HA.out.2.2.2.2.2.2.2.2; simp [tot]; omega) (by decide) s12
          rw [HA.out.1, HA.out.2.2.1, hmac1] at ht
          simp only [hsz, algN, ptrO, Option.map_none] at ht
          go_wp2_with fail
          refine ht.mono ?_
          rintro e w7 ⟨q3, cq3, rfl, s13⟩
          clear ht s12 s11 s10
          obtain ⟨_, _, _, s14⟩ := rowBytes s13
          have s15 : Sat W w7 (bytes true q3 T :: bytes true q2 T :: []) := (((s14.pick [0, 4]).drop 2).drop 2).drop 2
          go_wp2_with fail
          refine (awake12 s15).mono ?_
          rintro e w8 ⟨rfl, s16⟩
          have hse := sameTrue (ca := cq3) (cb := cq2) T T rfl (by rw [hTl]; unfold maxLen; decide) s16
          rw [hTl] at hse
          simp only [hsz] at hse
          go_wp2_with fail
          refine hse.mono ?_
          rintro e w9 ⟨rfl, nn, rfl⟩
          go_wp2
          go_ret
          exact ⟨rfl, (s16.drewN nn).below⟩
end Go.Proofs.Ytmohabidfalhoaa
