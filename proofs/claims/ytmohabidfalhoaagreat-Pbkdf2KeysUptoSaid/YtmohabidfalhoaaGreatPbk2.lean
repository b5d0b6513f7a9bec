
/- Layer 16's program: told of two pieces, a block; under the conditions that each names. -/
import Derived.Test.YtmohabidfalhoaaGreatPbk
namespace Go.Proofs.YtmohabidfalhoaaGreat
open Go.RowKit Go.Sep Go.Bv Go.Sha
set_option linter.unusedVariables false
set_option linter.unusedSimpArgs false
set_option maxRecDepth 100000 in
set_option maxHeartbeats 2000000 in
/-- The HMAC of two pieces, by a mac that is reset ahead of them. -/
theorem told2 {W0 w : World} {L : List Assn} {c g : Nat} {m m2 : Bool} {p1 p2 : Option Addr} {c1 c2 : Nat} (wide : Bool) (p : Option Nat) (rs : List Run3) (key msg b1 b2 : List Byte) (hc1 : b1.length ≤ c1) (hm1 : c1 ≤ maxLen) (hc2 : b2.length ≤ c2) (hm2 : c2 ≤ maxLen) (hb : tot rs + 2 * b1.length + 2 * b2.length + 3000 ≤ 2305843009213693952) (hl : rs.length + 6 ≤ 1048576)
    (hs : Sat W0 w (ledO p rs :: seg true g 0 [.slice p1 b1.length c1, .slice p2 b2.length c2] :: bytes m p1 b1 :: bytes m2 p2 b2 :: mac wide c (blockKey wide key) msg :: L)) :
    Calls Tryz.prog 72 #[ptrO p, .pointer (some ⟨c, 0, none⟩), .slice (some ⟨g, 0, none⟩) 2 2] w fun e w' => ∃ q cq, e = .returned (.slice q (hsz wide) cq) ∧ Sat W0 w' (row q cq 1 (hsz wide) (u8s (hmac wide key (b1 ++ b2))) :: ledO p (noteN rs (evK wide) (evS wide) ((b1.length + b2.length) / bsz wide + endN wide (b1.length + b2.length))) :: bytes m p1 b1 :: bytes m2 p2 b2 :: mac wide c (blockKey wide key) (b1 ++ b2) :: L) := by
  have hr := hmacReset wide (blockKey wide key) msg (hs.pick [4])
  have hdv : b1.length / bsz wide ≤ b1.length := Nat.div_le_self _ _
  have hdv2 : (b1.length + b2.length) / bsz wide ≤ b1.length + b2.length := Nat.div_le_self _ _
  have hdv3 : b1.length / bsz wide ≤ (b1.length + b2.length) / bsz wide := Nat.div_le_div_right (by omega)
  have HB := Lib.hid (And.intro hc1 (And.intro hm1 (And.intro hb (And.intro hl (And.intro hdv (And.intro hdv2 (And.intro hdv3 (And.intro hc2 hm2)))))))); clear hc1 hm1 hb hl hdv hdv2 hdv3 hc2 hm2
  go_enter Tryz.func72, Tryz.ntmps72
  go_wp2_with fail
  refine hr.mono ?_
  rintro e w1 ⟨rfl, s1⟩
  clear hr hs
  go_wp2
  go_loopw [15] (fun t15 wr => (t15 = .int .i64 0 ∧ Sat W0 wr (ledO p rs :: seg true g 0 [.slice p1 b1.length c1, .slice p2 b2.length c2] :: bytes m p1 b1 :: bytes m2 p2 b2 :: mac wide c (blockKey wide key) [] :: L)) ∨ (t15 = .int .i64 1 ∧ Sat W0 wr (ledO p (noteN rs (evK wide) (evS wide) (b1.length / bsz wide)) :: seg true g 0 [.slice p1 b1.length c1, .slice p2 b2.length c2] :: bytes m p1 b1 :: bytes m2 p2 b2 :: mac wide c (blockKey wide key) b1 :: L)) ∨ (t15 = .int .i64 2 ∧ Sat W0 wr (ledO p (noteN rs (evK wide) (evS wide) ((b1.length + b2.length) / bsz wide)) :: seg true g 0 [.slice p1 b1.length c1, .slice p2 b2.length c2] :: bytes m p1 b1 :: bytes m2 p2 b2 :: mac wide c (blockKey wide key) (b1 ++ b2) :: L))) (fun t15 _ => 2 - (intOf t15).toNat)
  case atStart => exact .inl ⟨rfl, s1.pick [1, 2, 3, 4]⟩
  case round =>
    clear s1
    rcases hrel with ⟨rfl, s⟩ | ⟨rfl, s⟩ | ⟨rfl, s⟩
    · have sg : Sat W0 wr (seg true g 0 [.slice p1 b1.length c1, .slice p2 b2.length c2] :: _) := s.pull 1
      have cg := sg.at 0 rfl
      have hw := hmacWrite (cap := c1) wide p rs (blockKey wide key) [] b1 HB.out.1 HB.out.2.1 (by have := HB.out.2.2.1; simp; omega) (by have := HB.out.2.2.2.1; omega) (s.pick [0, 2, 4])
      simp only [List.length_nil, Nat.zero_add, Nat.zero_div, Nat.sub_zero, List.nil_append] at hw
      go_wp2_with fail
      refine hw.mono ?_
      rintro e w2 ⟨rfl, s2⟩
      go_wp2
      go_roundw
      case rel => exact .inr (.inl ⟨rfl, s2.pick [0, 3, 1, 4, 2]⟩)
      case measure => simp [intOf]
    · have sg : Sat W0 wr (seg true g 0 [.slice p1 b1.length c1, .slice p2 b2.length c2] :: _) := s.pull 1
      have cg := sg.at 1 rfl
      have hw := hmacWrite (cap := c2) wide p (noteN rs (evK wide) (evS wide) (b1.length / bsz wide)) (blockKey wide key) b1 b2 HB.out.2.2.2.2.2.2.2.1 HB.out.2.2.2.2.2.2.2.2 (by rw [tot_noteN]; have := HB.out.2.2.1; have := HB.out.2.2.2.2.1; omega) (by have := noteN_len rs (evK wide) (evS wide) (b1.length / bsz wide); have := HB.out.2.2.2.1; omega) (s.pick [0, 3, 4])
      rw [noteN_add, show b1.length / bsz wide + ((b1.length + b2.length) / bsz wide - b1.length / bsz wide) = (b1.length + b2.length) / bsz wide by have := HB.out.2.2.2.2.2.2.1; omega] at hw
      go_wp2_with fail
      refine hw.mono ?_
      rintro e w2 ⟨rfl, s2⟩
      go_wp2
      go_roundw
      case rel => exact .inr (.inr ⟨rfl, s2.pick [0, 3, 4, 1, 2]⟩)
      case measure => simp [intOf]
    · have hm := hmacSum wide p (noteN rs (evK wide) (evS wide) ((b1.length + b2.length) / bsz wide)) key (b1 ++ b2) (by rw [tot_noteN, List.length_append]; have := HB.out.2.2.1; have := HB.out.2.2.2.2.2.1; omega) (by have := noteN_len rs (evK wide) (evS wide) ((b1.length + b2.length) / bsz wide); have := HB.out.2.2.2.1; omega) (s.pick [0, 4])
      rw [noteN_add, List.length_append] at hm
      go_wp2_with fail
      refine hm.mono ?_
      rintro e w2 ⟨q, cq, rfl, s2⟩
      go_wp2
      go_ret
      refine ⟨q, cq, rfl, ?_⟩
      exact (s2.pick [0, 1, 4, 5, 2]).drop 5
/-- How many blocks of the hash a block of the key works on. -/
def pbN (wide : Bool) (n count : Nat) : Nat := ((n + 4) / bsz wide + endN wide (n + 4)) + (count - 1) * endN wide (hsz wide)
theorem endN_le (wide : Bool) (n : Nat) : endN wide n ≤ 3 := by
  unfold endN
  cases wide <;> simp only [padN, bsz, roomN] <;> omega
theorem hszB (wide : Bool) : hsz wide / bsz wide = 0 := by cases wide <;> rfl
theorem hsz_pos (wide : Bool) : 0 < hsz wide := by cases wide <;> decide
theorem hsz_le64 (wide : Bool) : hsz wide ≤ 64 := by cases wide <;> decide
theorem nat32 (i : Nat) (h : i < 4294967296) : (i : Int) = v32 (BitVec.ofNat 32 i) := by
  simp only [v32, BitVec.toNat_ofNat]; omega
set_option maxRecDepth 100000 in
set_option maxHeartbeats 4000000 in
theorem pbBlk {W0 w : World} {L : List Assn} {c : Nat} {m : Bool} {ps : Option Addr} {cs : Nat} (wide : Bool) (p : Option Nat) (rs : List Run3) (key msg salt : List Byte) (count i : Nat) (hc1 : salt.length ≤ cs) (hm1 : cs ≤ maxLen) (h1 : 1 ≤ count) (h2 : count ≤ 1048576) (hi : i < 4294967296) (hb : tot rs + 2 * salt.length + 8000000 ≤ 2305843009213693952) (hl : rs.length + 8 ≤ 1048576)
    (hs : Sat W0 w (ledO p rs :: mac wide c (blockKey wide key) msg :: bytes m ps salt :: L)) :
    Calls Tryz.prog 47 #[ptrO p, .pointer (some ⟨c, 0, none⟩), .slice ps salt.length cs, .int .i64 (count : Int), .int .u32 (i : Int)] w fun e w' => ∃ q cq msg', e = .returned (.slice q (hsz wide) cq) ∧ Sat W0 w' (row q cq 1 (hsz wide) (u8s (pbBlock wide key salt count i)) :: ledO p (noteN rs (evK wide) (evS wide) (pbN wide salt.length count)) :: mac wide c (blockKey wide key) msg' :: bytes m ps salt :: L) := by
  have hlay := lay32 (BitVec.ofNat 32 i) hs
  rw [← nat32 i hi] at hlay
  have hdv : (salt.length + 4) / bsz wide ≤ salt.length + 4 := Nat.div_le_self _ _
  have HB := Lib.hid (And.intro hc1 (And.intro hm1 (And.intro hb (And.intro hl hdv)))); clear hc1 hm1 hb hl hdv hi
  go_enter Tryz.func47, Tryz.ntmps47
  go_wp2_with fail
  refine hlay.mono ?_
  rintro e w1 ⟨gl, rfl, s1⟩
  clear hlay hs
  have s2 := s1.alloc #[.slice ps salt.length cs, .slice (some ⟨gl, 0, none⟩) 4 4] 41
  have s3 : Sat W0 _ (ledO p rs :: seg true w1.heap.size 0 [.slice ps salt.length cs, .slice (some ⟨gl, 0, none⟩) (layBE 4 (BitVec.ofNat 32 i)).length 4] :: bytes m ps salt :: bytes true (some ⟨gl, 0, none⟩) (layBE 4 (BitVec.ofNat 32 i)) :: mac wide c (blockKey wide key) msg :: L) := (bytesOf (s2.pull 1)).pick [2, 1, 4, 0, 3]
  have ht := told2 (c1 := cs) (c2 := 4) wide p rs key msg salt (layBE 4 (BitVec.ofNat 32 i)) HB.out.1 HB.out.2.1 (by rw [layBE_len]; exact Nat.le_refl _) (by unfold maxLen; decide) (by rw [layBE_len]; have := HB.out.2.2.1; omega) (by have := HB.out.2.2.2.1; omega) s3
  rw [layBE_len] at ht
  go_wp2_with fail
  refine ht.mono ?_
  rintro e w2 ⟨q0, c0, rfl, s4⟩
  clear ht s3 s2 s1
  obtain ⟨u0, hu0⟩ : ∃ u, u = pbFirst wide key salt i := ⟨_, rfl⟩
  have s5 : Sat W0 w2 (row q0 c0 1 (hsz wide) (u8s u0) :: ledO p (noteN rs (evK wide) (evS wide) ((salt.length + 4) / bsz wide + endN wide (salt.length + 4))) :: mac wide c (blockKey wide key) (salt ++ layBE 4 (BitVec.ofNat 32 i)) :: bytes m ps salt :: L) := by
    rw [hu0]
    exact (s4.pick [0, 1, 4, 2]).drop 4
  have hul : u0.length = hsz wide := by rw [hu0]; exact hmac_len _ _ _
  have hout : pbOut wide key u0 (count - 1) = pbBlock wide key salt count i := by rw [hu0]; rfl
  have HU := Lib.hid (And.intro hul hout); clear hu0 hul hout s4
  obtain ⟨N, hN⟩ : ∃ N, N = (salt.length + 4) / bsz wide + endN wide (salt.length + 4) := ⟨_, rfl⟩
  rw [← hN] at s5
  have hNe : ∀ j, j + 1 = count → N + j * endN wide (hsz wide) = pbN wide salt.length count := by
    rintro j rfl; rw [hN]; rfl
  have hNb : N ≤ salt.length + 8 := by have := HB.out.2.2.2.2; have := endN_le wide (salt.length + 4); omega
  have HN := Lib.hid (And.intro hNe hNb); clear hN hNe hNb
  obtain ⟨k1, hk1⟩ : ∃ k, count = k + 1 := ⟨count - 1, by omega⟩
  subst hk1
  go_wp2_with fail
  go_loopw [11, 12, 23] (fun t11 t12 t23 wr => ∃ (j : Nat) (pu : Option Addr) (cu : Nat) (po : Option Addr) (co : Nat) (msg' : List Byte), j ≤ k1 ∧ t23 = .int .i64 (j : Int) ∧ t11 = .slice pu (hsz wide) cu ∧ t12 = .slice po (hsz wide) co ∧ hsz wide ≤ cu ∧ cu ≤ maxLen ∧ ((j = 0 ∧ pu = po ∧ cu = co ∧ Sat W0 wr (row po co 1 (hsz wide) (u8s u0) :: ledO p (noteN rs (evK wide) (evS wide) N) :: mac wide c (blockKey wide key) msg' :: bytes m ps salt :: L)) ∨ (0 < j ∧ Sat W0 wr (row po co 1 (hsz wide) (u8s (pbOut wide key u0 j)) :: ledO p (noteN rs (evK wide) (evS wide) (N + j * endN wide (hsz wide))) :: mac wide c (blockKey wide key) msg' :: bytes true pu (pbU wide key u0 j) :: bytes m ps salt :: L)))) (fun _ _ t23 _ => k1 - (intOf t23).toNat)
  case atStart =>
    obtain ⟨hl1, hl2, hl3, _⟩ := rowBytes s5
    exact ⟨0, q0, c0, q0, c0, _, Nat.zero_le _, rfl, rfl, rfl, hl2, hl3, .inl ⟨rfl, rfl, rfl, s5⟩⟩
  case round =>
    clear s5
    obtain ⟨j, pu, cu, po, co, msg', hj, rfl, rfl, rfl, hcu1, hcu2, hS⟩ := hrel
    have hH := hsz_le64 wide
    have hH0 := hsz_pos wide
    by_cases hlt : j < k1
    · have hjb : j * endN wide (hsz wide) ≤ j * 3 := Nat.mul_le_mul_left _ (endN_le wide _)
      have hstep : ∀ wx q cq, Sat W0 wx (row q cq 1 (hsz wide) (u8s (pbU wide key u0 (j + 1))) :: bytes true po (pbOut wide key u0 j) :: ledO p (noteN rs (evK wide) (evS wide) (N + (j + 1) * endN wide (hsz wide))) :: mac wide c (blockKey wide key) (pbU wide key u0 j) :: bytes m ps salt :: L) → hsz wide ≤ cq ∧ cq ≤ maxLen ∧ Calls Tryz.prog 74 #[.slice po (hsz wide) co, .slice q (hsz wide) cq] wx fun e w' => ∃ g, e = .returned (.slice (some ⟨g, 0, none⟩) (hsz wide) (hsz wide)) ∧ Sat W0 w' (row (some ⟨g, 0, none⟩) (hsz wide) 1 (hsz wide) (u8s (pbOut wide key u0 (j + 1))) :: ledO p (noteN rs (evK wide) (evS wide) (N + (j + 1) * endN wide (hsz wide))) :: mac wide c (blockKey wide key) (pbU wide key u0 j) :: bytes true q (pbU wide key u0 (j + 1)) :: bytes m ps salt :: L) := by
        intro wx q cq sx
        obtain ⟨hl1, hl2, hl3, sb⟩ := rowBytes sx
        have hol : (pbOut wide key u0 j).length = hsz wide := pbOut_len _ _ _ HU.out.1 _
        have hx := xor16 (ca := co) (cb := cq) (pbOut wide key u0 j) (pbU wide key u0 (j + 1)) (by rw [hol, hl1]) (by rw [hol]; omega) (by rw [hol]; exact hH0) (sb.pull 1)
        rw [hol] at hx
        refine ⟨hl2, hl3, hx.mono ?_⟩
        rintro e w' ⟨g, rfl, s1⟩
        refine ⟨g, rfl, ?_⟩
        have s2 := s1.rowFull (n := hsz wide) (by rw [u8s_len, xorB, List.length_zipWith, hol, hl1, Nat.min_self]) (by unfold maxLen; omega)
        exact ((s2.pick [0, 3, 4, 2, 5]).drop 5)
      have htold : ∀ (wx : World) (g : Nat) (R : List Assn), Sat W0 wx (ledO p (noteN rs (evK wide) (evS wide) (N + j * endN wide (hsz wide))) :: seg true g 0 [.slice pu (hsz wide) cu] :: bytes true pu (pbU wide key u0 j) :: mac wide c (blockKey wide key) msg' :: R) → Calls Tryz.prog 72 #[ptrO p, .pointer (some ⟨c, 0, none⟩), .slice (some ⟨g, 0, none⟩) 1 1] wx fun e w' => ∃ q cq, e = .returned (.slice q (hsz wide) cq) ∧ Sat W0 w' (row q cq 1 (hsz wide) (u8s (pbU wide key u0 (j + 1))) :: ledO p (noteN rs (evK wide) (evS wide) (N + (j + 1) * endN wide (hsz wide))) :: bytes true pu (pbU wide key u0 j) :: mac wide c (blockKey wide key) (pbU wide key u0 j) :: R) := by
        intro wx g R sx
        have hul := pbU_len wide key u0 HU.out.1 j
        rw [← hul] at sx
        have := told1 (c1 := cu) wide p _ key msg' (pbU wide key u0 j) (by rw [hul]; exact hcu1) hcu2 (by rw [tot_noteN, hul]; have := HB.out.2.2.1; have := HN.out.2; omega) (by have := noteN_len rs (evK wide) (evS wide) (N + j * endN wide (pbU wide key u0 j).length); have := HB.out.2.2.2.1; omega) sx
        rw [noteN_add, hul, hszB] at this
        rw [show N + j * endN wide (hsz wide) + (0 + endN wide (hsz wide)) = N + (j + 1) * endN wide (hsz wide) by rw [Nat.succ_mul]; omega] at this
        exact this
      have HT := Lib.hid (And.intro hstep htold); clear hstep htold hjb
      rcases hS with ⟨rfl, rfl, rfl, s⟩ | ⟨hj0, s⟩
      · obtain ⟨_, _, _, sb⟩ := rowBytes s
        have sg := sb.alloc #[.slice pu (hsz wide) cu] 41
        have sh : Sat W0 _ (ledO p (noteN rs (evK wide) (evS wide) (N + 0 * endN wide (hsz wide))) :: seg true wr.heap.size 0 [.slice pu (hsz wide) cu] :: bytes true pu (pbU wide key u0 0) :: mac wide c (blockKey wide key) msg' :: bytes m ps salt :: L) := (sg.pick [2, 0, 1, 3]).to (by simp [pick, pbU])
        go_wp2_with fail
        refine (HT.out.2 _ _ _ sh).mono ?_
        rintro e w3 ⟨q, cq, rfl, s3⟩
        obtain ⟨g1, g2, hx⟩ := HT.out.1 w3 q cq (s3.pick [0, 2, 1])
        clear s sb sg sh s3
        go_wp2_with fail
        refine hx.mono ?_
        rintro e w4 ⟨g, rfl, s4⟩
        go_wp2
        go_roundw
        case rel => exact ⟨1, q, cq, _, _, _, by omega, rfl, rfl, rfl, g1, g2, .inr ⟨by omega, s4⟩⟩
        case measure => simp [intOf]; omega
      · obtain ⟨_, _, _, sb⟩ := rowBytes s
        have sg := sb.alloc #[.slice pu (hsz wide) cu] 41
        have sh : Sat W0 _ (ledO p (noteN rs (evK wide) (evS wide) (N + j * endN wide (hsz wide))) :: seg true wr.heap.size 0 [.slice pu (hsz wide) cu] :: bytes true pu (pbU wide key u0 j) :: mac wide c (blockKey wide key) msg' :: bytes true po (pbOut wide key u0 j) :: bytes m ps salt :: L) := sg.pick [2, 0, 4, 3, 1]
        go_wp2_with fail
        refine (HT.out.2 _ _ _ sh).mono ?_
        rintro e w3 ⟨q, cq, rfl, s3⟩
        obtain ⟨g1, g2, hx⟩ := HT.out.1 w3 q cq ((s3.pick [0, 4, 1, 3, 5]).drop 5)
        clear s sb sg sh s3
        go_wp2_with fail
        refine hx.mono ?_
        rintro e w4 ⟨g, rfl, s4⟩
        go_wp2
        go_roundw
        case rel => exact ⟨j + 1, q, cq, _, _, _, by omega, by go_num, rfl, rfl, g1, g2, .inr ⟨by omega, s4⟩⟩
        case measure => simp [intOf]; omega
    · obtain rfl : j = k1 := by omega
      have hfin : ∃ msg', Sat W0 wr (row po co 1 (hsz wide) (u8s (pbBlock wide key salt (j + 1) i)) :: ledO p (noteN rs (evK wide) (evS wide) (pbN wide salt.length (j + 1))) :: mac wide c (blockKey wide key) msg' :: bytes m ps salt :: L) := by
        have e1 := HN.out.1 j rfl
        have e2 := HU.out.2
        rw [Nat.add_sub_cancel] at e2
        rcases hS with ⟨rfl, rfl, rfl, s⟩ | ⟨hj0, s⟩
        · rw [show pbOut wide key u0 0 = u0 from rfl] at e2
          rw [← e2, ← e1, Nat.zero_mul, Nat.add_zero]
          exact ⟨msg', s⟩
        · rw [← e2, ← e1]
          exact ⟨msg', s.drop 3⟩
      obtain ⟨m3, s⟩ := hfin
      clear hS
      go_wp2
      go_ret
      exact ⟨po, co, m3, rfl, s⟩
end Go.Proofs.YtmohabidfalhoaaGreat
