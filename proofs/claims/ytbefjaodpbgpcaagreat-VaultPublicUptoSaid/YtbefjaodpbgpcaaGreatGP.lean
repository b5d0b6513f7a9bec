/- Pbk, Pbk2, Pbk3, Pbk4: texts that lie apart elsewhere, as one; each under the conditions that it names. -/
import Derived.Test.YtbefjaodpbgpcaaGreatGG
set_option linter.unusedVariables false
set_option linter.unusedSimpArgs false
set_option maxRecDepth 100000
set_option maxHeartbeats 16000000
namespace Go.Sha
open Go.Bv
def xorB (a b : List Byte) : List Byte := List.zipWith (· ^^^ ·) a b
def pbU (wide : Bool) (key u0 : List Byte) : Nat → List Byte
 | 0 => u0
 | n + 1 => hmac wide key (pbU wide key u0 n)
def pbOut (wide : Bool) (key u0 : List Byte) : Nat → List Byte
 | 0 => u0
 | n + 1 => xorB (pbOut wide key u0 n) (pbU wide key u0 (n + 1))
def pbFirst (wide : Bool) (key salt : List Byte) (i : Nat) : List Byte := hmac wide key (salt ++ layBE 4 (BitVec.ofNat 32 i))
def pbBlock (wide : Bool) (key salt : List Byte) (count i : Nat) : List Byte := pbOut wide key (pbFirst wide key salt i) (count - 1)
def pbMany (wide : Bool) (key salt : List Byte) (count : Nat) : Nat → List Byte
 | 0 => []
 | m + 1 => pbMany wide key salt count m ++ pbBlock wide key salt count (m + 1)
theorem hmac_len (wide : Bool) (key msg : List Byte) : (hmac wide key msg).length = hsz wide := hash_len _ _
theorem pbU_len (wide : Bool) (key u0 : List Byte) (h : u0.length = hsz wide) (n : Nat) : (pbU wide key u0 n).length = hsz wide := by
 cases n with
 | zero => exact h
 | succ n => exact hmac_len _ _ _
theorem pbOut_len (wide : Bool) (key u0 : List Byte) (h : u0.length = hsz wide) (n : Nat) : (pbOut wide key u0 n).length = hsz wide := by
 induction n with
 | zero => exact h
 | succ n ih => rw [pbOut, xorB, List.length_zipWith, ih, pbU_len wide key u0 h, Nat.min_self]
theorem pbBlock_len (wide : Bool) (key salt : List Byte) (count i : Nat) : (pbBlock wide key salt count i).length = hsz wide := pbOut_len _ _ _ (hmac_len _ _ _) _
theorem pbMany_len (wide : Bool) (key salt : List Byte) (count m : Nat) : (pbMany wide key salt count m).length = m * hsz wide := by
 induction m with
 | zero => simp [pbMany]
 | succ m ih => rw [pbMany, List.length_append, ih, pbBlock_len, Nat.succ_mul]
end Go.Sha
namespace Go.Proofs.YtbefjaodpbgpcaaGreat
open Go.RowKit Go.Sep Go.Bv Go.Sha
theorem hmacReset {W0 w : World} {L : List Assn} {c : Nat} (wide : Bool) (k msg : List Byte) (hs : Sat W0 w (mac wide c k msg :: L)) :
  Calls Tryz.prog 156 #[.pointer (some ⟨c, 0, none⟩)] w fun e w' => e = .returned (.int .i64 0) ∧ Sat W0 w' (mac wide c k [] :: L) := by
 obtain ⟨b1, b2, b3, s1⟩ := macOpen hs
 have hi := macIs wide s1
 have c3 := s1.at 3 rfl
 have hcp := dCopy wide (b := b3) (xorKey wide k 54) (s1.pull 3)
 cases wide
 ·skip
  simp only [ifv] at c3 hcp
  go_enter Tryz.func156, Tryz.ntmps156
  go_wp2_with fail
  refine hi.mono ?_
  rintro e w' ⟨rfl, rfl⟩
  go_wp2_with fail
  refine hcp.mono ?_
  rintro e w1 ⟨b4, rfl, s2⟩
  have m2 : Sat W0 w1 (seg true c 0 [.int .i64 (hsz false : Int), ifv false b1, ifv false b2, ifv false b3] :: _) := s2.pull 2
  have d1 := m2.at 1 rfl
  have f1 := m2.fr 1 (by simp)
  clear c3 hcp hi
  go_wp2
  have s3 := m2.store (i := 1) (by simp) (ifv false b4) (q := 1) rfl
  simp only [ifv] at s3
  go_ret
  refine ⟨rfl, ?_⟩
  have s4 : Sat W0 _ (macP false c b4 b2 b3 k [] L) := ((s3.pick [0, 1, 4, 2]).drop 4).to (by simp [pick, ifv, hsz])
  exact macShut s4
 ·skip
  simp only [ifv] at c3 hcp
  go_enter Tryz.func156, Tryz.ntmps156
  go_wp2_with fail
  refine hi.mono ?_
  rintro e w' ⟨rfl, rfl⟩
  go_wp2_with fail
  refine hcp.mono ?_
  rintro e w1 ⟨b4, rfl, s2⟩
  have m2 : Sat W0 w1 (seg true c 0 [.int .i64 (hsz true : Int), ifv true b1, ifv true b2, ifv true b3] :: _) := s2.pull 2
  have d1 := m2.at 1 rfl
  have f1 := m2.fr 1 (by simp)
  clear c3 hcp hi
  go_wp2
  have s3 := m2.store (i := 1) (by simp) (ifv true b4) (q := 1) rfl
  simp only [ifv] at s3
  go_ret
  refine ⟨rfl, ?_⟩
  have s4 : Sat W0 _ (macP true c b4 b2 b3 k [] L) := ((s3.pick [0, 1, 4, 2]).drop 4).to (by simp [pick, ifv, hsz])
  exact macShut s4
def xorUp (xs ys : List Byte) (j : Nat) : List Byte := (List.range xs.length).map fun i => if i < j then xs.getD i 0 ^^^ ys.getD i 0 else 0
theorem xorUp_len (xs ys : List Byte) (j : Nat) : (xorUp xs ys j).length = xs.length := by simp [xorUp]
theorem xorUp_set (xs ys : List Byte) (j : Nat) : (xorUp xs ys j).set j (xs.getD j 0 ^^^ ys.getD j 0) = xorUp xs ys (j + 1) := by
 apply List.ext_getElem
 ·simp [xorUp]
 ·intro i h1 h2
  simp only [xorUp, List.getElem_set, List.getElem_map, List.getElem_range]
  by_cases e : j = i
  ·subst e; simp
  ·rw [if_neg e]
   by_cases h : i < j
   ·rw [if_pos h, if_pos (by omega)]
   ·rw [if_neg h, if_neg (by omega)]
theorem xorUp_zero (xs ys : List Byte) : List.replicate xs.length (0 : Byte) = xorUp xs ys 0 := by
 apply List.ext_getElem <;> simp [xorUp]
theorem xorUp_all (xs ys : List Byte) (h : xs.length = ys.length) : xorUp xs ys xs.length = xorB xs ys := by
 apply List.ext_getElem
 ·simp [xorUp, xorB, h]
 ·intro i h1 h2
  have hi : i < xs.length := by simpa [xorUp] using h1
  have hy : i < ys.length := by omega
  simp [xorUp, xorB, hi, hy]
theorem xor16 {W0 w : World} {L : List Assn} {ca cb : Nat} {m1 m2 : Bool} {pa pb : Option Addr} (xs ys : List Byte) (hl : xs.length = ys.length) (hx : xs.length ≤ 1000000) (h0 : 0 < xs.length) (hs : Sat W0 w (bytes m1 pa xs :: bytes m2 pb ys :: L)) :
  Calls Tryz.prog 121 #[.slice pa xs.length ca, .slice pb xs.length cb] w fun e w' => ∃ g, e = .returned (.slice (some ⟨g, 0, none⟩) xs.length xs.length) ∧ Sat W0 w' (seg true g 0 (u8s (xorB xs ys)) :: bytes m1 pa xs :: bytes m2 pb ys :: L) := by
 obtain ⟨i3, hi3, hz3, hs3, hb3⟩ := info_parts Tryz.info_u8
 obtain ⟨ba, oa, rfl, t1⟩ := bytesCell hs (by intro h; rw [h] at h0; simp at h0)
 obtain ⟨bb, ob, rfl, t2⟩ := bytesCell (t1.pull 1 : Sat W0 w (bytes m2 pb ys :: _)) (by intro h; rw [h] at hl; simp at hl; rw [hl] at h0; simp at h0)
 have t3 : Sat W0 w (seg m1 ba oa (u8s xs) :: seg m2 bb ob (u8s ys) :: L) := t2.pull 1
 obtain ⟨n, hn⟩ : ∃ n, n = xs.length := ⟨_, rfl⟩
 rw [← hn] at hx h0 ⊢
 have hz : List.replicate n (0 : Byte) = xorUp xs ys 0 := by rw [hn]; exact xorUp_zero xs ys
 have HN := Lib.hid (And.intro hn (And.intro hl hz)); clear hn hl hs t1 t2 hz
 go_enter Tryz.func121, Tryz.ntmps121
 go_wp2_with (refine wpl_make rfl 25 5 (.tmp 11) (.tmp 11) rfl Tryz.underlying25 hi3 hz3 hs3 hb3 rfl n rfl rfl (by omega) (by omega) t3 ?_; intro w1 g s1 _; rw [u8s_zero] at s1)
 rw [HN.out.2.2] at s1
 clear t3
 go_loopw [15] (fun t15 wr => ∃ j : Nat, j ≤ n ∧ t15 = .int .i64 (j : Int) ∧ Sat W0 wr (seg true g 0 (u8s (xorUp xs ys j)) :: seg m1 ba oa (u8s xs) :: seg m2 bb ob (u8s ys) :: L)) (fun t15 _ => n - (intOf t15).toNat)
 case atStart => exact ⟨0, by omega, rfl, s1⟩
 case round =>
  clear s1
  obtain ⟨j, hj, rfl, s⟩ := hrel
  by_cases hlt : j < n
  ·have hjx : j < xs.length := by rw [← HN.out.1]; exact hlt
   have hjy : j < ys.length := by rw [← HN.out.2.1]; exact hjx
   have cg := s.at j (u8s_get _ j (by rw [xorUp_len]; exact hjx))
   have fg := s.fr j (by rw [u8s_len, xorUp_len]; exact hjx)
   have sx : Sat W0 wr (seg m1 ba oa (u8s xs) :: _) := s.pull 1
   have sy : Sat W0 wr (seg m2 bb ob (u8s ys) :: _) := s.pull 2
   have cx := sx.cell (u8s_get xs j hjx)
   have cy := sy.cell (u8s_get ys j hjy)
   obtain ⟨x, hx'⟩ : ∃ x, x = xs.getD j 0 := ⟨_, rfl⟩
   obtain ⟨y, hy'⟩ : ∃ y, y = ys.getD j 0 := ⟨_, rfl⟩
   obtain ⟨z, hz'⟩ : ∃ z, z = (xorUp xs ys j).getD j 0 := ⟨_, rfl⟩
   rw [← hx'] at cx
   rw [← hy'] at cy
   rw [← hz'] at cg
   have HX := Lib.hid (And.intro hx' (And.intro hy' hjx)); clear hx' hy' hz' hjx hjy
   go_wp2_with fail
   refine wp_region_quiet_tail_lit 11 (by kernel_rfl) (by kernel_rfl) ?_
   simp only [List.take_succ_cons, List.take_zero, List.drop_succ_cons, List.drop_zero]
   repeat (go_big_quiet_step (fail))
   refine wpQuiet_nil ?_
   rintro _ ⟨nq, rfl⟩
   go_wp2
   go_roundw
   case rel =>
    obtain ⟨hx', hy', hjx⟩ := HX.out
    refine ⟨j + 1, by omega, by go_num, ?_⟩
    have st := fun n => ((s.drewN n).store (i := j) (by rw [u8s_len, xorUp_len]; exact hjx) (.int .u8 (v8 (x ^^^ y))) (q := j) (by simp))
    rw [u8s_set, hx', hy', xorUp_set, ← hx', ← hy', ← vxor8] at st
    exact st _
   case measure => simp [intOf]; omega
  ·obtain rfl : j = n := by omega
   have hall : xorUp xs ys j = xorB xs ys := by rw [HN.out.1]; exact xorUp_all xs ys HN.out.2.1
   rw [hall] at s
   clear hall
   go_wp2
   go_ret
   refine ⟨g, rfl, ?_⟩
   have s1 : Sat W0 wr (bytes m1 (some ⟨ba, oa, none⟩) xs :: seg m2 bb ob (u8s ys) :: seg true g 0 (u8s (xorB xs ys)) :: L) := bytesOf (s.pick [1, 2])
   exact ((bytesOf (s1.pull 1)).pick [2, 1])
theorem told1 {W0 w : World} {L : List Assn} {c g : Nat} {m : Bool} {p1 : Option Addr} {c1 : Nat} (wide : Bool) (p : Option Nat) (rs : List Run3) (key msg b1 : List Byte) (hc1 : b1.length ≤ c1) (hm1 : c1 ≤ maxLen) (hb : tot rs + 2 * b1.length + 3000 ≤ 2305843009213693952) (hl : rs.length + 6 ≤ 1048576)
  (hs : Sat W0 w (ledO p rs :: seg true g 0 [.slice p1 b1.length c1] :: bytes m p1 b1 :: mac wide c (blockKey wide key) msg :: L)) :
  Calls Tryz.prog 119 #[ptrO p, .pointer (some ⟨c, 0, none⟩), .slice (some ⟨g, 0, none⟩) 1 1] w fun e w' => ∃ q cq, e = .returned (.slice q (hsz wide) cq) ∧ Sat W0 w' (row q cq 1 (hsz wide) (u8s (hmac wide key b1)) :: ledO p (noteN rs (evK wide) (evS wide) (b1.length / bsz wide + endN wide b1.length)) :: bytes m p1 b1 :: mac wide c (blockKey wide key) b1 :: L) := by
 have hr := hmacReset wide (blockKey wide key) msg (hs.pick [3])
 have hdv : b1.length / bsz wide ≤ b1.length := Nat.div_le_self _ _
 have HB := Lib.hid (And.intro hc1 (And.intro hm1 (And.intro hb (And.intro hl hdv)))); clear hc1 hm1 hb hl hdv
 go_enter Tryz.func119, Tryz.ntmps119
 go_wp2_with fail
 refine hr.mono ?_
 rintro e w1 ⟨rfl, s1⟩
 clear hr hs
 go_wp2
 go_loopw [15] (fun t15 wr => (t15 = .int .i64 0 ∧ Sat W0 wr (ledO p rs :: seg true g 0 [.slice p1 b1.length c1] :: bytes m p1 b1 :: mac wide c (blockKey wide key) [] :: L)) ∨ (t15 = .int .i64 1 ∧ Sat W0 wr (ledO p (noteN rs (evK wide) (evS wide) (b1.length / bsz wide)) :: seg true g 0 [.slice p1 b1.length c1] :: bytes m p1 b1 :: mac wide c (blockKey wide key) b1 :: L))) (fun t15 _ => 1 - (intOf t15).toNat)
 case atStart => exact .inl ⟨rfl, s1.pick [1, 2, 3]⟩
 case round =>
  clear s1
  rcases hrel with ⟨rfl, s⟩ | ⟨rfl, s⟩
  ·have sg : Sat W0 wr (seg true g 0 [.slice p1 b1.length c1] :: _) := s.pull 1
   have cg := sg.at 0 rfl
   have hw := hmacWrite (cap := c1) wide p rs (blockKey wide key) [] b1 HB.out.1 HB.out.2.1 (by have := HB.out.2.2.1; simp; omega) (by have := HB.out.2.2.2.1; omega) (s.pick [0, 2, 3])
   simp only [List.length_nil, Nat.zero_add, Nat.zero_div, Nat.sub_zero, List.nil_append] at hw
   go_wp2_with fail
   refine hw.mono ?_
   rintro e w2 ⟨rfl, s2⟩
   go_wp2
   go_roundw
   case rel => exact .inr ⟨rfl, s2.pick [0, 3, 1]⟩
   case measure => simp [intOf]
  ·have hm := hmacSum wide p (noteN rs (evK wide) (evS wide) (b1.length / bsz wide)) key b1 (by rw [tot_noteN]; have := HB.out.2.2.1; have := HB.out.2.2.2.2; omega) (by have := noteN_len rs (evK wide) (evS wide) (b1.length / bsz wide); have := HB.out.2.2.2.1; omega) (s.pick [0, 3])
   rw [noteN_add] at hm
   go_wp2_with fail
   refine hm.mono ?_
   rintro e w2 ⟨q, cq, rfl, s2⟩
   go_wp2
   go_ret
   refine ⟨q, cq, rfl, ?_⟩
   exact (s2.pick [0, 1, 4, 2]).drop 4
end Go.Proofs.YtbefjaodpbgpcaaGreat
namespace Go.Proofs.YtbefjaodpbgpcaaGreat
open Go.RowKit Go.Sep Go.Bv Go.Sha
theorem told2 {W0 w : World} {L : List Assn} {c g : Nat} {m m2 : Bool} {p1 p2 : Option Addr} {c1 c2 : Nat} (wide : Bool) (p : Option Nat) (rs : List Run3) (key msg b1 b2 : List Byte) (hc1 : b1.length ≤ c1) (hm1 : c1 ≤ maxLen) (hc2 : b2.length ≤ c2) (hm2 : c2 ≤ maxLen) (hb : tot rs + 2 * b1.length + 2 * b2.length + 3000 ≤ 2305843009213693952) (hl : rs.length + 6 ≤ 1048576)
  (hs : Sat W0 w (ledO p rs :: seg true g 0 [.slice p1 b1.length c1, .slice p2 b2.length c2] :: bytes m p1 b1 :: bytes m2 p2 b2 :: mac wide c (blockKey wide key) msg :: L)) :
  Calls Tryz.prog 119 #[ptrO p, .pointer (some ⟨c, 0, none⟩), .slice (some ⟨g, 0, none⟩) 2 2] w fun e w' => ∃ q cq, e = .returned (.slice q (hsz wide) cq) ∧ Sat W0 w' (row q cq 1 (hsz wide) (u8s (hmac wide key (b1 ++ b2))) :: ledO p (noteN rs (evK wide) (evS wide) ((b1.length + b2.length) / bsz wide + endN wide (b1.length + b2.length))) :: bytes m p1 b1 :: bytes m2 p2 b2 :: mac wide c (blockKey wide key) (b1 ++ b2) :: L) := by
 have hr := hmacReset wide (blockKey wide key) msg (hs.pick [4])
 have hdv : b1.length / bsz wide ≤ b1.length := Nat.div_le_self _ _
 have hdv2 : (b1.length + b2.length) / bsz wide ≤ b1.length + b2.length := Nat.div_le_self _ _
 have hdv3 : b1.length / bsz wide ≤ (b1.length + b2.length) / bsz wide := Nat.div_le_div_right (by omega)
 have HB := Lib.hid (And.intro hc1 (And.intro hm1 (And.intro hb (And.intro hl (And.intro hdv (And.intro hdv2 (And.intro hdv3 (And.intro hc2 hm2)))))))); clear hc1 hm1 hb hl hdv hdv2 hdv3 hc2 hm2
 go_enter Tryz.func119, Tryz.ntmps119
 go_wp2_with fail
 refine hr.mono ?_
 rintro e w1 ⟨rfl, s1⟩
 clear hr hs
 go_wp2
 go_loopw [15] (fun t15 wr => (t15 = .int .i64 0 ∧ Sat W0 wr (ledO p rs :: seg true g 0 [.slice p1 b1.length c1, .slice p2 b2.length c2] :: bytes m p1 b1 :: bytes m2 p2 b2 :: mac wide c (blockKey wide key) [] :: L)) ∨ (t15 = .int .i64 1 ∧ Sat W0 wr (ledO p (noteN rs (evK wide) (evS wide) (b1.length / bsz wide)) :: seg true g 0 [.slice p1 b1.length c1, .slice p2 b2.length c2] :: bytes m p1 b1 :: bytes m2 p2 b2 :: mac wide c (blockKey wide key) b1 :: L)) ∨ (t15 = .int .i64 2 ∧ Sat W0 wr (ledO p (noteN rs (evK wide) (evS wide) ((b1.length + b2.length) / bsz wide)) :: seg true g 0 [.slice p1 b1.length c1, .slice p2 b2.length c2] :: bytes m p1 b1 :: bytes m2 p2 b2 :: mac wide c (blockKey wide key) (b1 ++ b2) :: L))) (fun t15 _ => 2 - (intOf t15).toNat)
 case atStart => exact .inl ⟨rfl, s1.pick [1, 2, 3, 4]⟩
 case round =>
  clear s1
  rcases hrel with ⟨rfl, s⟩ | ⟨rfl, s⟩ | ⟨rfl, s⟩
  ·have sg : Sat W0 wr (seg true g 0 [.slice p1 b1.length c1, .slice p2 b2.length c2] :: _) := s.pull 1
   have cg := sg.at 0 rfl
   have hw := hmacWrite (cap := c1) wide p rs (blockKey wide key) [] b1 HB.out.1 HB.out.2.1 (by have := HB.out.2.2.1; simp; omega) (by have := HB.out.2.2.2.1; omega) (s.pick [0, 2, 4])
   simp only [List.length_nil, Nat.zero_add, Nat.zero_div, Nat.sub_zero, List.nil_append] at hw
   go_wp2_with fail
   refine hw.mono ?_
   rintro e w2 ⟨rfl, s2⟩
   go_wp2
   go_roundw
   case rel => exact .inr (.inl ⟨rfl, s2.pick [0, 3, 1, 4, 2]⟩)
   case measure => simp [intOf]
  ·have sg : Sat W0 wr (seg true g 0 [.slice p1 b1.length c1, .slice p2 b2.length c2] :: _) := s.pull 1
   have cg := sg.at 1 rfl
   have hw := hmacWrite (cap := c2) wide p (noteN rs (evK wide) (evS wide) (b1.length / bsz wide)) (blockKey wide key) b1 b2 HB.out.2.2.2.2.2.2.2.1 HB.out.2.2.2.2.2.2.2.2 (by rw [tot_noteN]; have := HB.out.2.2.1; have := HB.out.2.2.2.2.1; omega) (by have := noteN_len rs (evK wide) (evS wide) (b1.length / bsz wide); have := HB.out.2.2.2.1; omega) (s.pick [0, 3, 4])
   rw [noteN_add, show b1.length / bsz wide + ((b1.length + b2.length) / bsz wide - b1.length / bsz wide) = (b1.length + b2.length) / bsz wide by have := HB.out.2.2.2.2.2.2.1; omega] at hw
   go_wp2_with fail
   refine hw.mono ?_
   rintro e w2 ⟨rfl, s2⟩
   go_wp2
   go_roundw
   case rel => exact .inr (.inr ⟨rfl, s2.pick [0, 3, 4, 1, 2]⟩)
   case measure => simp [intOf]
  ·have hm := hmacSum wide p (noteN rs (evK wide) (evS wide) ((b1.length + b2.length) / bsz wide)) key (b1 ++ b2) (by rw [tot_noteN, List.length_append]; have := HB.out.2.2.1; have := HB.out.2.2.2.2.2.1; omega) (by have := noteN_len rs (evK wide) (evS wide) ((b1.length + b2.length) / bsz wide); have := HB.out.2.2.2.1; omega) (s.pick [0, 4])
   rw [noteN_add, List.length_append] at hm
   go_wp2_with fail
   refine hm.mono ?_
   rintro e w2 ⟨q, cq, rfl, s2⟩
   go_wp2
   go_ret
   refine ⟨q, cq, rfl, ?_⟩
   exact (s2.pick [0, 1, 4, 5, 2]).drop 5
def pbN (wide : Bool) (n count : Nat) : Nat := ((n + 4) / bsz wide + endN wide (n + 4)) + (count - 1) * endN wide (hsz wide)
theorem endN_le (wide : Bool) (n : Nat) : endN wide n ≤ 3 := by
 unfold endN
 cases wide <;> simp only [padN, bsz, roomN] <;> omega
theorem hszB (wide : Bool) : hsz wide / bsz wide = 0 := by cases wide <;> rfl
theorem hsz_pos (wide : Bool) : 0 < hsz wide := by cases wide <;> decide
theorem hsz_le64 (wide : Bool) : hsz wide ≤ 64 := by cases wide <;> decide
theorem nat32 (i : Nat) (h : i < 4294967296) : (i : Int) = v32 (BitVec.ofNat 32 i) := by
 simp only [v32, BitVec.toNat_ofNat]; omega
theorem pbBlk {W0 w : World} {L : List Assn} {c : Nat} {m : Bool} {ps : Option Addr} {cs : Nat} (wide : Bool) (p : Option Nat) (rs : List Run3) (key msg salt : List Byte) (count i : Nat) (hc1 : salt.length ≤ cs) (hm1 : cs ≤ maxLen) (h1 : 1 ≤ count) (h2 : count ≤ 1048576) (hi : i < 4294967296) (hb : tot rs + 2 * salt.length + 8000000 ≤ 2305843009213693952) (hl : rs.length + 8 ≤ 1048576)
  (hs : Sat W0 w (ledO p rs :: mac wide c (blockKey wide key) msg :: bytes m ps salt :: L)) :
  Calls Tryz.prog 105 #[ptrO p, .pointer (some ⟨c, 0, none⟩), .slice ps salt.length cs, .int .i64 (count : Int), .int .u32 (i : Int)] w fun e w' => ∃ q cq msg', e = .returned (.slice q (hsz wide) cq) ∧ Sat W0 w' (row q cq 1 (hsz wide) (u8s (pbBlock wide key salt count i)) :: ledO p (noteN rs (evK wide) (evS wide) (pbN wide salt.length count)) :: mac wide c (blockKey wide key) msg' :: bytes m ps salt :: L) := by
 have hlay := lay32 (BitVec.ofNat 32 i) hs
 rw [← nat32 i hi] at hlay
 have hdv : (salt.length + 4) / bsz wide ≤ salt.length + 4 := Nat.div_le_self _ _
 have HB := Lib.hid (And.intro hc1 (And.intro hm1 (And.intro hb (And.intro hl hdv)))); clear hc1 hm1 hb hl hdv hi
 go_enter Tryz.func105, Tryz.ntmps105
 go_wp2_with fail
 refine hlay.mono ?_
 rintro e w1 ⟨gl, rfl, s1⟩
 clear hlay hs
 have s2 := s1.alloc #[.slice ps salt.length cs, .slice (some ⟨gl, 0, none⟩) 4 4] 25
 have s3 : Sat W0 _ (ledO p rs :: seg true w1.heap.size 0 [.slice ps salt.length cs, .slice (some ⟨gl, 0, none⟩) (layBE 4 (BitVec.ofNat 32 i)).length 4] :: bytes m ps salt :: bytes true (some ⟨gl, 0, none⟩) (layBE 4 (BitVec.ofNat 32 i)) :: mac wide c (blockKey wide key) msg :: L) := (bytesOf (s2.pull 1)).pick [2, 1, 4, 0, 3]
 have ht := told2 (c1 := cs) (c2 := 4) wide p rs key msg salt (layBE 4 (BitVec.ofNat 32 i)) HB.out.1 HB.out.2.1 (by rw [layBE_len]; exact Nat.le_refl _) (by unfold maxLen; decide) (by rw [layBE_len]; have := HB.out.2.2.1; omega) (by have := HB.out.2.2.2.1; omega) s3
 rw [layBE_len] at ht
 go_wp2_with fail
 refine ht.mono ?_
 rintro e w2 ⟨q0, c0, rfl, s4⟩
 clear ht s3 s2 s1
 obtain ⟨u0, hu0⟩ : ∃ u, u = pbFirst wide key salt i := ⟨_, rfl⟩
 have s5 : Sat W0 w2 (row q0 c0 1 (hsz wide) (u8s u0) :: ledO p (noteN rs (evK wide) (evS wide) ((salt.length + 4) / bsz wide + endN wide (salt.length + 4))) :: mac wide c (blockKey wide key) (salt ++ layBE 4 (BitVec.ofNat 32 i)) :: bytes m ps salt :: L) := by
  rw [hu0]
  exact (s4.pick [0, 1, 4, 2]).drop 4
 have hul : u0.length = hsz wide := by rw [hu0]; exact hmac_len _ _ _
 have hout : pbOut wide key u0 (count - 1) = pbBlock wide key salt count i := by rw [hu0]; rfl
 have HU := Lib.hid (And.intro hul hout); clear hu0 hul hout s4
 obtain ⟨N, hN⟩ : ∃ N, N = (salt.length + 4) / bsz wide + endN wide (salt.length + 4) := ⟨_, rfl⟩
 rw [← hN] at s5
 have hNe : ∀ j, j + 1 = count → N + j * endN wide (hsz wide) = pbN wide salt.length count := by
  rintro j rfl; rw [hN]; rfl
 have hNb : N ≤ salt.length + 8 := by have := HB.out.2.2.2.2; have := endN_le wide (salt.length + 4); omega
 have HN := Lib.hid (And.intro hNe hNb); clear hN hNe hNb
 obtain ⟨k1, hk1⟩ : ∃ k, count = k + 1 := ⟨count - 1, by omega⟩
 subst hk1
 go_wp2_with fail
 go_loopw [11, 12, 23] (fun t11 t12 t23 wr => ∃ (j : Nat) (pu : Option Addr) (cu : Nat) (po : Option Addr) (co : Nat) (msg' : List Byte), j ≤ k1 ∧ t23 = .int .i64 (j : Int) ∧ t11 = .slice pu (hsz wide) cu ∧ t12 = .slice po (hsz wide) co ∧ hsz wide ≤ cu ∧ cu ≤ maxLen ∧ ((j = 0 ∧ pu = po ∧ cu = co ∧ Sat W0 wr (row po co 1 (hsz wide) (u8s u0) :: ledO p (noteN rs (evK wide) (evS wide) N) :: mac wide c (blockKey wide key) msg' :: bytes m ps salt :: L)) ∨ (0 < j ∧ Sat W0 wr (row po co 1 (hsz wide) (u8s (pbOut wide key u0 j)) :: ledO p (noteN rs (evK wide) (evS wide) (N + j * endN wide (hsz wide))) :: mac wide c (blockKey wide key) msg' :: bytes true pu (pbU wide key u0 j) :: bytes m ps salt :: L)))) (fun _ _ t23 _ => k1 - (intOf t23).toNat)
 case atStart =>
  obtain ⟨hl1, hl2, hl3, _⟩ := rowBytes s5
  exact ⟨0, q0, c0, q0, c0, _, Nat.zero_le _, rfl, rfl, rfl, hl2, hl3, .inl ⟨rfl, rfl, rfl, s5⟩⟩
 case round =>
  clear s5
  obtain ⟨j, pu, cu, po, co, msg', hj, rfl, rfl, rfl, hcu1, hcu2, hS⟩ := hrel
  have hH := hsz_le64 wide
  have hH0 := hsz_pos wide
  by_cases hlt : j < k1
  ·have hjb : j * endN wide (hsz wide) ≤ j * 3 := Nat.mul_le_mul_left _ (endN_le wide _)
   have hstep : ∀ wx q cq, Sat W0 wx (row q cq 1 (hsz wide) (u8s (pbU wide key u0 (j + 1))) :: bytes true po (pbOut wide key u0 j) :: ledO p (noteN rs (evK wide) (evS wide) (N + (j + 1) * endN wide (hsz wide))) :: mac wide c (blockKey wide key) (pbU wide key u0 j) :: bytes m ps salt :: L) → hsz wide ≤ cq ∧ cq ≤ maxLen ∧ Calls Tryz.prog 121 #[.slice po (hsz wide) co, .slice q (hsz wide) cq] wx fun e w' => ∃ g, e = .returned (.slice (some ⟨g, 0, none⟩) (hsz wide) (hsz wide)) ∧ Sat W0 w' (row (some ⟨g, 0, none⟩) (hsz wide) 1 (hsz wide) (u8s (pbOut wide key u0 (j + 1))) :: ledO p (noteN rs (evK wide) (evS wide) (N + (j + 1) * endN wide (hsz wide))) :: mac wide c (blockKey wide key) (pbU wide key u0 j) :: bytes true q (pbU wide key u0 (j + 1)) :: bytes m ps salt :: L) := by
    intro wx q cq sx
    obtain ⟨hl1, hl2, hl3, sb⟩ := rowBytes sx
    have hol : (pbOut wide key u0 j).length = hsz wide := pbOut_len _ _ _ HU.out.1 _
    have hx := xor16 (ca := co) (cb := cq) (pbOut wide key u0 j) (pbU wide key u0 (j + 1)) (by rw [hol, hl1]) (by rw [hol]; omega) (by rw [hol]; exact hH0) (sb.pull 1)
    rw [hol] at hx
    refine ⟨hl2, hl3, hx.mono ?_⟩
    rintro e w' ⟨g, rfl, s1⟩
    refine ⟨g, rfl, ?_⟩
    have s2 := s1.rowFull (n := hsz wide) (by rw [u8s_len, xorB, List.length_zipWith, hol, hl1, Nat.min_self]) (by unfold maxLen; omega)
    exact ((s2.pick [0, 3, 4, 2, 5]).drop 5)
   have htold : ∀ (wx : World) (g : Nat) (R : List Assn), Sat W0 wx (ledO p (noteN rs (evK wide) (evS wide) (N + j * endN wide (hsz wide))) :: seg true g 0 [.slice pu (hsz wide) cu] :: bytes true pu (pbU wide key u0 j) :: mac wide c (blockKey wide key) msg' :: R) → Calls Tryz.prog 119 #[ptrO p, .pointer (some ⟨c, 0, none⟩), .slice (some ⟨g, 0, none⟩) 1 1] wx fun e w' => ∃ q cq, e = .returned (.slice q (hsz wide) cq) ∧ Sat W0 w' (row q cq 1 (hsz wide) (u8s (pbU wide key u0 (j + 1))) :: ledO p (noteN rs (evK wide) (evS wide) (N + (j + 1) * endN wide (hsz wide))) :: bytes true pu (pbU wide key u0 j) :: mac wide c (blockKey wide key) (pbU wide key u0 j) :: R) := by
    intro wx g R sx
    have hul := pbU_len wide key u0 HU.out.1 j
    rw [← hul] at sx
    have := told1 (c1 := cu) wide p _ key msg' (pbU wide key u0 j) (by rw [hul]; exact hcu1) hcu2 (by rw [tot_noteN, hul]; have := HB.out.2.2.1; have := HN.out.2; omega) (by have := noteN_len rs (evK wide) (evS wide) (N + j * endN wide (pbU wide key u0 j).length); have := HB.out.2.2.2.1; omega) sx
    rw [noteN_add, hul, hszB] at this
    rw [show N + j * endN wide (hsz wide) + (0 + endN wide (hsz wide)) = N + (j + 1) * endN wide (hsz wide) by rw [Nat.succ_mul]; omega] at this
    exact this
   have HT := Lib.hid (And.intro hstep htold); clear hstep htold hjb
   rcases hS with ⟨rfl, rfl, rfl, s⟩ | ⟨hj0, s⟩
   ·obtain ⟨_, _, _, sb⟩ := rowBytes s
    have sg := sb.alloc #[.slice pu (hsz wide) cu] 25
    have sh : Sat W0 _ (ledO p (noteN rs (evK wide) (evS wide) (N + 0 * endN wide (hsz wide))) :: seg true wr.heap.size 0 [.slice pu (hsz wide) cu] :: bytes true pu (pbU wide key u0 0) :: mac wide c (blockKey wide key) msg' :: bytes m ps salt :: L) := (sg.pick [2, 0, 1, 3]).to (by simp [pick, pbU])
    go_wp2_with fail
    refine (HT.out.2 _ _ _ sh).mono ?_
    rintro e w3 ⟨q, cq, rfl, s3⟩
    obtain ⟨g1, g2, hx⟩ := HT.out.1 w3 q cq (s3.pick [0, 2, 1])
    clear s sb sg sh s3
    go_wp2_with fail
    refine hx.mono ?_
    rintro e w4 ⟨g, rfl, s4⟩
    go_wp2
    go_roundw
    case rel => exact ⟨1, q, cq, _, _, _, by omega, rfl, rfl, rfl, g1, g2, .inr ⟨by omega, s4⟩⟩
    case measure => simp [intOf]; omega
   ·obtain ⟨_, _, _, sb⟩ := rowBytes s
    have sg := sb.alloc #[.slice pu (hsz wide) cu] 25
    have sh : Sat W0 _ (ledO p (noteN rs (evK wide) (evS wide) (N + j * endN wide (hsz wide))) :: seg true wr.heap.size 0 [.slice pu (hsz wide) cu] :: bytes true pu (pbU wide key u0 j) :: mac wide c (blockKey wide key) msg' :: bytes true po (pbOut wide key u0 j) :: bytes m ps salt :: L) := sg.pick [2, 0, 4, 3, 1]
    go_wp2_with fail
    refine (HT.out.2 _ _ _ sh).mono ?_
    rintro e w3 ⟨q, cq, rfl, s3⟩
    obtain ⟨g1, g2, hx⟩ := HT.out.1 w3 q cq ((s3.pick [0, 4, 1, 3, 5]).drop 5)
    clear s sb sg sh s3
    go_wp2_with fail
    refine hx.mono ?_
    rintro e w4 ⟨g, rfl, s4⟩
    go_wp2
    go_roundw
    case rel => exact ⟨j + 1, q, cq, _, _, _, by omega, by go_num, rfl, rfl, g1, g2, .inr ⟨by omega, s4⟩⟩
    case measure => simp [intOf]; omega
  ·obtain rfl : j = k1 := by omega
   have hfin : ∃ msg', Sat W0 wr (row po co 1 (hsz wide) (u8s (pbBlock wide key salt (j + 1) i)) :: ledO p (noteN rs (evK wide) (evS wide) (pbN wide salt.length (j + 1))) :: mac wide c (blockKey wide key) msg' :: bytes m ps salt :: L) := by
    have e1 := HN.out.1 j rfl
    have e2 := HU.out.2
    rw [Nat.add_sub_cancel] at e2
    rcases hS with ⟨rfl, rfl, rfl, s⟩ | ⟨hj0, s⟩
    ·rw [show pbOut wide key u0 0 = u0 from rfl] at e2
     rw [← e2, ← e1, Nat.zero_mul, Nat.add_zero]
     exact ⟨msg', s⟩
    ·rw [← e2, ← e1]
     exact ⟨msg', s.drop 3⟩
   obtain ⟨m3, s⟩ := hfin
   clear hS
   go_wp2
   go_ret
   exact ⟨po, co, m3, rfl, s⟩
end Go.Proofs.YtbefjaodpbgpcaaGreat
namespace Go.Proofs.YtbefjaodpbgpcaaGreat
open Go.RowKit Go.Sep Go.Bv Go.Sha
theorem wrong16 (w : World) (wide : Bool) (count : Nat) (h1 : 1 ≤ count) (h2 : count ≤ 1048576) : Calls Tryz.prog 102 #[.int .u8 (algN wide), .int .i64 (count : Int)] w fun e w' => e = .returned (.int .i64 0) ∧ w = w' := by
 have g1 : decide ((count : Int) < 1) = false := by simp; omega
 have g2 : decide ((1048576 : Int) < (count : Int)) = false := by simp; omega
 have g3 : (1 : Int) ≤ (count : Int) := by omega
 have g4 : (count : Int) ≤ 1048576 := by omega
 cases wide
 ·show Calls Tryz.prog 102 #[.int .u8 1, .int .i64 (count : Int)] w _
  go_enter Tryz.func102, Tryz.ntmps102
  go_wp2
  go_ret
  exact ⟨rfl, rfl⟩
 ·show Calls Tryz.prog 102 #[.int .u8 2, .int .i64 (count : Int)] w _
  go_enter Tryz.func102, Tryz.ntmps102
  go_wp2
  go_ret
  exact ⟨rfl, rfl⟩
theorem keyN_le (wide : Bool) (n : Nat) : keyN wide n ≤ n + 4 := by
 unfold keyN
 by_cases h : bsz wide < n
 ·rw [if_pos h]; cases wide <;> simp only [padN, bsz, roomN] <;> omega
 ·rw [if_neg h]; omega
theorem pbN_le (wide : Bool) (n count : Nat) (h : count ≤ 1048576) : pbN wide n count ≤ n + 3145800 := by
 have h1 := endN_le wide (n + 4)
 have h2 : (count - 1) * endN wide (hsz wide) ≤ 1048575 * 3 := Nat.mul_le_mul (by omega) (endN_le wide _)
 have h3 : (n + 4) / bsz wide ≤ n + 4 := Nat.div_le_self _ _
 unfold pbN; omega
abbrev envK (gi gl gm gs gn : Nat) (p : Option Nat) (c : Nat) (ps : Option Addr) (sl cs count i : Nat) (L : List Assn) : List Assn :=
 seg true gi 0 [.int .u32 (i : Int)] :: seg true gl 0 [ptrO p] :: seg true gm 0 [.pointer (some ⟨c, 0, none⟩)] :: seg true gs 0 [.slice ps sl cs] :: seg true gn 0 [.int .i64 (count : Int)] :: L
theorem keyNext {W0 w : World} {L : List Assn} {gi gl gm gs gn c : Nat} {m : Bool} {ps : Option Addr} {cs : Nat} (wide : Bool) (p : Option Nat) (rs : List Run3) (key msg salt : List Byte) (count i : Nat) (hc1 : salt.length ≤ cs) (hm1 : cs ≤ maxLen) (h1 : 1 ≤ count) (h2 : count ≤ 1048576) (hi : i < 4294967295) (hb : tot rs + 2 * salt.length + 8000000 ≤ 2305843009213693952) (hl : rs.length + 8 ≤ 1048576)
  (hs : Sat W0 w (envK gi gl gm gs gn p c ps salt.length cs count i (ledO p rs :: mac wide c (blockKey wide key) msg :: bytes m ps salt :: L))) :
  Calls Tryz.prog 104 #[.pointer (some ⟨gi, 0, none⟩), .pointer (some ⟨gl, 0, none⟩), .pointer (some ⟨gm, 0, none⟩), .pointer (some ⟨gs, 0, none⟩), .pointer (some ⟨gn, 0, none⟩)] w fun e w' => ∃ q cq msg', e = .returned (.slice q (hsz wide) cq) ∧ Sat W0 w' (row q cq 1 (hsz wide) (u8s (pbBlock wide key salt count (i + 1))) :: envK gi gl gm gs gn p c ps salt.length cs count (i + 1) (ledO p (noteN rs (evK wide) (evS wide) (pbN wide salt.length count)) :: mac wide c (blockKey wide key) msg' :: bytes m ps salt :: L)) := by
 have ci := hs.at 0 rfl
 have fi := hs.fr 0 (by simp)
 have sl : Sat W0 w (seg true gl 0 [ptrO p] :: _) := hs.pull 1
 have cl := sl.at 0 rfl
 have sm : Sat W0 w (seg true gm 0 [.pointer (some ⟨c, 0, none⟩)] :: _) := hs.pull 2
 have cm := sm.at 0 rfl
 have ss : Sat W0 w (seg true gs 0 [.slice ps salt.length cs] :: _) := hs.pull 3
 have c3 := ss.at 0 rfl
 have sn : Sat W0 w (seg true gn 0 [.int .i64 (count : Int)] :: _) := hs.pull 4
 have c4 := sn.at 0 rfl
 have n1 : gi ≠ gl := Sat.ne' (hs.pick [0, 1]) (by simp) (by simp)
 have n2 : gi ≠ gm := Sat.ne' (hs.pick [0, 2]) (by simp) (by simp)
 have n3 : gi ≠ gs := Sat.ne' (hs.pick [0, 3]) (by simp) (by simp)
 have n4 : gi ≠ gn := Sat.ne' (hs.pick [0, 4]) (by simp) (by simp)
 have n5 := n1.symm
 have n6 := n2.symm
 have n7 := n3.symm
 have n8 := n4.symm
 have hi2 : (i : Int) < 4294967295 := by omega
 have s1 := hs.store (i := 0) (by simp) (.int .u32 ((i + 1 : Nat) : Int)) (q := 0) rfl
 have hbk := pbBlk (cs := cs) wide p rs key msg salt count (i + 1) hc1 hm1 h1 h2 (by omega) hb hl (s1.pick [5, 6, 7])
 rw [show ((i + 1 : Nat) : Int) = (i : Int) + 1 by omega] at hbk
 clear hb hl hc1 hm1 h1 h2 sl sm ss sn
 go_enter Tryz.func104, Tryz.ntmps104
 go_wp2_with fail
 refine hbk.mono ?_
 rintro e w2 ⟨q, cq, m3, rfl, s2⟩
 go_wp2
 go_ret
 refine ⟨q, cq, m3, rfl, ?_⟩
 exact s2.pick [0, 4, 5, 6, 7, 8]
end Go.Proofs.YtbefjaodpbgpcaaGreat
namespace Go.Proofs.YtbefjaodpbgpcaaGreat
open Go.RowKit Go.Sep Go.Bv Go.Sha
def pbM (wide : Bool) (n : Nat) : Nat := (n + hsz wide - 1) / hsz wide
theorem pbM_of (wide : Bool) (n j : Nat) (h1 : n ≤ j * hsz wide) (h2 : j * hsz wide < n + hsz wide) : j = pbM wide n := by
 unfold pbM
 cases wide <;> simp only [hsz] at * <;> omega
theorem pbM_le (wide : Bool) (n : Nat) : pbM wide n ≤ n := by
 unfold pbM
 cases wide <;> simp only [hsz] <;> omega
theorem bytesNone1 {W0 w : World} {L : List Assn} {m : Bool} {sp : Option Addr} {bs : List Byte} {n : Nat} (h : Sat W0 w (bytes m sp bs :: L)) (hn : bs.length = n) : sp = none → n = 0 := by
 rintro rfl
 by_cases h0 : bs = []
 ·rw [← hn, h0]; rfl
 ·obtain ⟨_, _, h', _⟩ := bytesCell h h0; cases h'
theorem rowTake {W0 w : World} {L : List Assn} {p : Option Addr} {c k n : Nat} {bs : List Byte} (h : Sat W0 w (row p c 1 k (u8s bs) :: L)) (hn : n ≤ k) (h0 : 0 < n) : ∃ g, p = some ⟨g, 0, none⟩ ∧ n ≤ c ∧ Sat W0 w (row p n 1 n (u8s (bs.take n)) :: L) := by
 obtain ⟨hl, ⟨rfl, rfl, rfl, hx, h1⟩ | ⟨g, rest, rfl, h1, h2, h3, h4⟩⟩ := h.rowOpen
 ·omega
 ·rw [u8s_len, Nat.mul_one] at hl
  refine ⟨g, rfl, by omega, ?_⟩
  have e : u8s bs ++ rest = u8s (bs.take n) ++ (u8s (bs.drop n) ++ rest) := by rw [← List.append_assoc, ← u8s_append, List.take_append_drop]
  rw [e] at h4
  have h5 := Sat.part h4 (q := n) (by rw [u8s_len, List.length_take]; omega)
  exact ((h5.drop 1).rowFull (n := n) (by rw [u8s_len, List.length_take]; omega) (by omega))
theorem rowZero {W0 w : World} {L : List Assn} {p : Option Addr} {c k : Nat} {bs : List Byte} (h : Sat W0 w (row p c 1 k (u8s bs) :: L)) : Sat W0 w (row p 0 1 0 (u8s []) :: L) := by
 obtain ⟨hl, ⟨rfl, rfl, rfl, hx, h1⟩ | ⟨g, rest, rfl, h1, h2, h3, h4⟩⟩ := h.rowOpen
 ·exact h1.rowNil 1
 ·have h5 : Sat W0 w (seg true g 0 ([] ++ (u8s bs ++ rest)) :: L) := h4
  exact ((h5.part (q := 0) rfl).drop 1).rowFull (n := 0) rfl (Nat.zero_le _)
theorem pbKey {W0 w : World} {L : List Assn} {m m2 : Bool} {pk ps : Option Addr} {ck cs : Nat} (wide : Bool) (p : Option Nat) (rs : List Run3) (key salt : List Byte) (count n : Nat) (hk1 : key.length ≤ ck) (hk2 : ck ≤ maxLen) (hc1 : salt.length ≤ cs) (hm1 : cs ≤ maxLen) (h1 : 1 ≤ count) (h2 : count ≤ 1048576) (hn : n ≤ 16320)
  (hb : tot rs + 4 * key.length + 1000 * salt.length + 9000000000 ≤ 2305843009213693952) (hl : rs.length + 16 ≤ 1048576) (hs : Sat W0 w (ledO p rs :: bytes m pk key :: bytes m2 ps salt :: L)) :
  Calls Tryz.prog 87 #[ptrO p, .int .u8 (algN wide), .slice pk key.length ck, .slice ps salt.length cs, .int .i64 (count : Int), .int .i64 (n : Int)] w fun e w' => ∃ q, e = .returned (.tuple #[.slice q n n, .int .i64 0]) ∧ Sat W0 w' (row q n 1 n (u8s ((pbMany wide key salt count (pbM wide n)).take n)) :: ledO p (noteN rs (evK wide) (evS wide) (keyN wide key.length + pbM wide n * pbN wide salt.length count)) :: bytes m pk key :: bytes m2 ps salt :: L) := by
 obtain ⟨i3, hi3, hz3, hs3, hb3⟩ := info_parts Tryz.info_u8
 have hw := fun w => wrong16 w wide count h1 h2
 have g1 : decide ((n : Int) < 0) = false := by simp
 have g2 : decide ((16320 : Int) < (n : Int)) = false := by simp; omega
 have g3 : (n : Int) ≤ 16320 := by omega
 have hkn := keyN_le wide key.length
 have hpn := pbN_le wide salt.length count h2
 obtain ⟨gl, hgl⟩ : ∃ g, g = w.heap.size := ⟨_, rfl⟩
 obtain ⟨gs, hgs⟩ : ∃ g, g = gl + 1 := ⟨_, rfl⟩
 obtain ⟨gn, hgn⟩ : ∃ g, g = gs + 1 := ⟨_, rfl⟩
 have t1 := hs.allocAt #[ptrO p] 32 (q := gl) hgl
 have t2 := t1.allocAt #[.slice ps salt.length cs] 25 (q := gs) (by rw [hgs, hgl]; simp)
 have t3 := t2.allocAt #[.int .i64 (count : Int)] 3 (q := gn) (by rw [hgn, hgs, hgl]; simp)
 have hnew := hmacNew (L := seg true gn 0 [.int .i64 (count : Int)] :: seg true gs 0 [.slice ps salt.length cs] :: seg true gl 0 [ptrO p] :: bytes m2 ps salt :: L) wide p rs key hk1 hk2 (by omega) (by omega) (t3.pick [3, 4])
 have HB := Lib.hid (And.intro hc1 (And.intro hm1 (And.intro hb (And.intro hl (And.intro hkn (And.intro h1 (And.intro h2 (And.intro hpn hn)))))))); clear hc1 hm1 hb hl hk1 hk2 hkn h1 h2 hpn t1 t2 t3
 have hH0 := hsz_pos wide
 have hH := hsz_le64 wide
 go_enter Tryz.func87, Tryz.ntmps87
 go_wp2_with fail
 refine (hw _).mono ?_
 rintro e w' ⟨rfl, rfl⟩
 go_wp2_with fail
 refine hnew.mono ?_
 rintro e w1 ⟨c, rfl, s1⟩
 rw [← hgl, ← hgs, ← hgn]
 clear hnew hs hw hgl hgs hgn
 obtain ⟨gm, hgm⟩ : ∃ g, g = w1.heap.size := ⟨_, rfl⟩
 obtain ⟨gi, hgi⟩ : ∃ g, g = gm + 1 := ⟨_, rfl⟩
 have t4 := s1.allocAt #[.pointer (some ⟨c, 0, none⟩)] 173 (q := gm) hgm
 have t5 := t4.allocAt #[.int .u32 0] 176 (q := gi) (by rw [hgi, hgm]; simp)
 have s2 : Sat W0 _ (envK gi gl gm gs gn p c ps salt.length cs count 0 (ledO p (noteN rs (evK wide) (evS wide) (keyN wide key.length)) :: mac wide c (blockKey wide key) [] :: bytes m2 ps salt :: bytes m pk key :: L)) := t5.pick [0, 7, 1, 6, 5, 3, 2, 8, 4]
 clear t4 t5 s1
 go_wp2_with fail
 rw [← hgm, ← hgi]
 clear hgm hgi
 go_loopw [19] (fun t19 wr => ∃ (j : Nat) (po : Option Addr) (co : Nat) (msg' : List Byte), j * hsz wide < n + hsz wide ∧ t19 = .slice po (j * hsz wide) co ∧ Sat W0 wr (row po co 1 (j * hsz wide) (u8s (pbMany wide key salt count j)) :: envK gi gl gm gs gn p c ps salt.length cs count j (ledO p (noteN rs (evK wide) (evS wide) (keyN wide key.length + j * pbN wide salt.length count)) :: mac wide c (blockKey wide key) msg' :: bytes m2 ps salt :: bytes m pk key :: L))) (fun t19 _ => n + 64 - (match t19 with | .slice _ l _ => l | _ => 0))
 case atStart => exact ⟨0, none, 0, [], by rw [Nat.zero_mul]; omega, by rw [Nat.zero_mul], by rw [Nat.zero_mul, Nat.zero_mul]; exact s2.rowNil 1⟩
 case round =>
  clear s2
  obtain ⟨j, po, co, msg', hj, rfl, s⟩ := hrel
  have hjb : j ≤ 512 := by
   have h := HB.out.2.2.2.2.2.2.2.2
   revert hj
   cases wide <;> simp only [hsz] <;> omega
  have hjp : j * pbN wide salt.length count ≤ 512 * (salt.length + 3145800) := Nat.mul_le_mul hjb HB.out.2.2.2.2.2.2.2.1
  by_cases hlt : j * hsz wide < n
  ·skip
   obtain ⟨J, hJ⟩ : ∃ J, J = j * hsz wide := ⟨_, rfl⟩
   have hJ2 : (j + 1) * hsz wide = J + hsz wide := by rw [Nat.succ_mul, hJ]
   rw [← hJ] at s hlt hj ⊢
   have HJ := Lib.hid hJ2; clear hJ hJ2
   have hnx := keyNext (cs := cs) wide p _ key msg' salt count j HB.out.1 HB.out.2.1 HB.out.2.2.2.2.2.1 HB.out.2.2.2.2.2.2.1 (by omega) (by rw [tot_noteN]; have := HB.out.2.2.1; have := HB.out.2.2.2.2.1; omega) (by have := noteN_len rs (evK wide) (evS wide) (keyN wide key.length + j * pbN wide salt.length count); have := HB.out.2.2.2.1; omega) (s.pick [1, 2, 3, 4, 5, 6, 7, 8])
   rw [noteN_add, Nat.add_assoc, ← Nat.succ_mul] at hnx
   go_wp2_with fail
   refine hnx.mono ?_
   rintro e w2 ⟨q, cq, m3, rfl, s3⟩
   clear hnx
   obtain ⟨hl1, hl2, hl3, s4⟩ := rowBytes s3
   have n1 := bytesNews s4
   have s5 : Sat W0 w2 (row po co 1 J (u8s (pbMany wide key salt count j)) :: _) := s4.pull 9
   go_wp2_with (refine wpl_append rfl (.tmp 45) (.tmp 47) 25 rfl Tryz.underlying25 hi3 hz3 hs3 hb3 rfl (by decide) s5 rfl q (hsz wide) cq rfl (u8s (pbBlock wide key salt count (j + 1))) (by rw [u8s_len, hl1, Nat.mul_one]) n1 (bytesNone1 s4 hl1) (u8s_one _) (by unfold maxLen; omega) (by omega) ?_; intro p2 c2 w3 s6 _ _; rw [← u8s_append] at s6)
   go_roundw
   case rel =>
    refine ⟨j + 1, p2, c2, m3, by rw [HJ.out]; omega, by rw [HJ.out], ?_⟩
    rw [HJ.out]
    exact s6.drop 1
   case measure => simp; omega
  ·have hM := pbM_of wide n j (by omega) hj
   have hMe : keyN wide key.length + j * pbN wide salt.length count = keyN wide key.length + pbM wide n * pbN wide salt.length count := by rw [← hM]
   by_cases h0 : n = 0
   ·subst h0
    have hj0 : j = 0 := by
     rcases Nat.eq_zero_or_pos j with h | h
     ·exact h
     ·have := Nat.mul_le_mul_right (hsz wide) h
      omega
    subst hj0
    have hfin : Sat W0 wr (row po 0 1 0 (u8s ((pbMany wide key salt count (pbM wide 0)).take 0)) :: ledO p (noteN rs (evK wide) (evS wide) (keyN wide key.length + pbM wide 0 * pbN wide salt.length count)) :: bytes m pk key :: bytes m2 ps salt :: L) := by
     rw [← hM]
     exact (((((((rowZero s).pick [0, 6, 9, 8]).drop 4).drop 4).drop 4).drop 4).drop 4).drop 4
    have HF := Lib.hid hfin; clear hfin hM hMe s
    simp only [Nat.zero_mul]
    go_wp2
    refine bodyPost_ret (v := .tuple #[.slice po 0 0, .int .i64 0]) (by simp [results, Tryz.results87, go_sem]) rfl ⟨po, rfl, HF.out⟩
   ·obtain ⟨g, rfl, hgc, s6⟩ := rowTake s (show n ≤ j * hsz wide by omega) (by omega)
    obtain ⟨J, hJ⟩ : ∃ J, J = j * hsz wide := ⟨_, rfl⟩
    rw [← hJ] at hlt hj ⊢
    have hfin : Sat W0 wr (row (some ⟨g, 0, none⟩) n 1 n (u8s ((pbMany wide key salt count (pbM wide n)).take n)) :: ledO p (noteN rs (evK wide) (evS wide) (keyN wide key.length + pbM wide n * pbN wide salt.length count)) :: bytes m pk key :: bytes m2 ps salt :: L) := by
     rw [← hM]
     exact ((((((s6.pick [0, 6, 9, 8]).drop 4).drop 4).drop 4).drop 4).drop 4).drop 4
    have HF := Lib.hid hfin; clear hfin hM hMe s6 s hJ
    have hnc : (n : Int) ≤ (co : Int) := by omega
    go_wp2
    refine bodyPost_ret (v := .tuple #[.slice (some ⟨g, 0, none⟩) n n, .int .i64 0]) (by simp [results, Tryz.results87, go_sem]) rfl ⟨_, rfl, HF.out⟩
end Go.Proofs.YtbefjaodpbgpcaaGreat
