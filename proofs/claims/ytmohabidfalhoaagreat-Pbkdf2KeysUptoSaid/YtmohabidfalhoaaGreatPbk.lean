
/- Layer 16's program: PBKDF2; under the conditions that each names. -/
import Derived.Test.YtmohabidfalhoaaGreatL12
namespace Go.Sha
open Go.Bv
def xorB (a b : List Byte) : List Byte := List.zipWith (· ^^^ ·) a b
def pbU (wide : Bool) (key u0 : List Byte) : Nat → List Byte
  | 0 => u0
  | n + 1 => hmac wide key (pbU wide key u0 n)
def pbOut (wide : Bool) (key u0 : List Byte) : Nat → List Byte
  | 0 => u0
  | n + 1 => xorB (pbOut wide key u0 n) (pbU wide key u0 (n + 1))
def pbFirst (wide : Bool) (key salt : List Byte) (i : Nat) : List Byte := hmac wide key (salt ++ layBE 4 (BitVec.ofNat 32 i))
/-- A block. -/
def pbBlock (wide : Bool) (key salt : List Byte) (count i : Nat) : List Byte := pbOut wide key (pbFirst wide key salt i) (count - 1)
/-- The first m blocks, one behind the other. -/
def pbMany (wide : Bool) (key salt : List Byte) (count : Nat) : Nat → List Byte
  | 0 => []
  | m + 1 => pbMany wide key salt count m ++ pbBlock wide key salt count (m + 1)
theorem hmac_len (wide : Bool) (key msg : List Byte) : (hmac wide key msg).length = hsz wide := hash_len _ _
theorem pbU_len (wide : Bool) (key u0 : List Byte) (h : u0.length = hsz wide) (n : Nat) : (pbU wide key u0 n).length = hsz wide := by
  cases n with
  | zero => exact h
  | succ n => exact hmac_len _ _ _
theorem pbOut_len (wide : Bool) (key u0 : List Byte) (h : u0.length = hsz wide) (n : Nat) : (pbOut wide key u0 n).length = hsz wide := by
  induction n with
  | zero => exact h
  | succ n ih => rw [pbOut, xorB, List.length_zipWith, ih, pbU_len wide key u0 h, Nat.min_self]
theorem pbBlock_len (wide : Bool) (key salt : List Byte) (count i : Nat) : (pbBlock wide key salt count i).length = hsz wide := pbOut_len _ _ _ (hmac_len _ _ _) _
theorem pbMany_len (wide : Bool) (key salt : List Byte) (count m : Nat) : (pbMany wide key salt count m).length = m * hsz wide := by
  induction m with
  | zero => simp [pbMany]
  | succ m ih => rw [pbMany, List.length_append, ih, pbBlock_len, Nat.succ_mul]
end Go.Sha
namespace Go.Proofs.YtmohabidfalhoaaGreat
open Go.RowKit Go.Sep Go.Bv Go.Sha
set_option linter.unusedVariables false
set_option linter.unusedSimpArgs false
set_option maxRecDepth 100000 in
set_option maxHeartbeats 1000000 in
theorem hmacReset {W0 w : World} {L : List Assn} {c : Nat} (wide : Bool) (k msg : List Byte) (hs : Sat W0 w (mac wide c k msg :: L)) :
    Calls Tryz.prog 97 #[.pointer (some ⟨c, 0, none⟩)] w fun e w' => e = .returned (.int .i64 0) ∧ Sat W0 w' (mac wide c k [] :: L) := by
  obtain ⟨b1, b2, b3, s1⟩ := macOpen hs
  have hi := macIs wide s1
  have c3 := s1.at 3 rfl
  have hcp := dCopy wide (b := b3) (xorKey wide k 54) (s1.pull 3)
  cases wide
  · skip
    simp only [ifv] at c3 hcp
    go_enter Tryz.func97, Tryz.ntmps97
    go_wp2_with fail
    refine hi.mono ?_
    rintro e w' ⟨rfl, rfl⟩
    go_wp2_with fail
    refine hcp.mono ?_
    rintro e w1 ⟨b4, rfl, s2⟩
    have m2 : Sat W0 w1 (seg true c 0 [.int .i64 (hsz false : Int), ifv false b1, ifv false b2, ifv false b3] :: _) := s2.pull 2
    have d1 := m2.at 1 rfl
    have f1 := m2.fr 1 (by simp)
    clear c3 hcp hi
    go_wp2
    have s3 := m2.store (i := 1) (by simp) (ifv false b4) (q := 1) rfl
    simp only [ifv] at s3
    go_ret
    refine ⟨rfl, ?_⟩
    have s4 : Sat W0 _ (macP false c b4 b2 b3 k [] L) := ((s3.pick [0, 1, 4, 2]).drop 4).to (by simp [pick, ifv, hsz])
    exact macShut s4
  · skip
    simp only [ifv] at c3 hcp
    go_enter Tryz.func97, Tryz.ntmps97
    go_wp2_with fail
    refine hi.mono ?_
    rintro e w' ⟨rfl, rfl⟩
    go_wp2_with fail
    refine hcp.mono ?_
    rintro e w1 ⟨b4, rfl, s2⟩
    have m2 : Sat W0 w1 (seg true c 0 [.int .i64 (hsz true : Int), ifv true b1, ifv true b2, ifv true b3] :: _) := s2.pull 2
    have d1 := m2.at 1 rfl
    have f1 := m2.fr 1 (by simp)
    clear c3 hcp hi
    go_wp2
    have s3 := m2.store (i := 1) (by simp) (ifv true b4) (q := 1) rfl
    simp only [ifv] at s3
    go_ret
    refine ⟨rfl, ?_⟩
    have s4 : Sat W0 _ (macP true c b4 b2 b3 k [] L) := ((s3.pick [0, 1, 4, 2]).drop 4).to (by simp [pick, ifv, hsz])
    exact macShut s4
/-- What is xored so far. -/
def xorUp (xs ys : List Byte) (j : Nat) : List Byte := (List.range xs.length).map fun i => if i < j then xs.getD i 0 ^^^ ys.getD i 0 else 0
theorem xorUp_len (xs ys : List Byte) (j : Nat) : (xorUp xs ys j).length = xs.length := by simp [xorUp]
theorem xorUp_set (xs ys : List Byte) (j : Nat) : (xorUp xs ys j).set j (xs.getD j 0 ^^^ ys.getD j 0) = xorUp xs ys (j + 1) := by
  apply List.ext_getElem
  · simp [xorUp]
  · intro i h1 h2
    simp only [xorUp, List.getElem_set, List.getElem_map, List.getElem_range]
    by_cases e : j = i
    · subst e; simp
    · rw [if_neg e]
      by_cases h : i < j
      · rw [if_pos h, if_pos (by omega)]
      · rw [if_neg h, if_neg (by omega)]
theorem xorUp_zero (xs ys : List Byte) : List.replicate xs.length (0 : Byte) = xorUp xs ys 0 := by
  apply List.ext_getElem <;> simp [xorUp]
theorem xorUp_all (xs ys : List Byte) (h : xs.length = ys.length) : xorUp xs ys xs.length = xorB xs ys := by
  apply List.ext_getElem
  · simp [xorUp, xorB, h]
  · intro i h1 h2
    have hi : i < xs.length := by simpa [xorUp] using h1
    have hy : i < ys.length := by omega
    simp [xorUp, xorB, hi, hy]
set_option maxRecDepth 100000 in
set_option maxHeartbeats 2000000 in
theorem xor16 {W0 w : World} {L : List Assn} {ca cb : Nat} {m1 m2 : Bool} {pa pb : Option Addr} (xs ys : List Byte) (hl : xs.length = ys.length) (hx : xs.length ≤ 1000000) (h0 : 0 < xs.length) (hs : Sat W0 w (bytes m1 pa xs :: bytes m2 pb ys :: L)) :
    Calls Tryz.prog 74 #[.slice pa xs.length ca, .slice pb xs.length cb] w fun e w' => ∃ g, e = .returned (.slice (some ⟨g, 0, none⟩) xs.length xs.length) ∧ Sat W0 w' (seg true g 0 (u8s (xorB xs ys)) :: bytes m1 pa xs :: bytes m2 pb ys :: L) := by
  obtain ⟨i3, hi3, hz3, hs3, hb3⟩ := info_parts Tryz.info_u8
  obtain ⟨ba, oa, rfl, t1⟩ := bytesCell hs (by intro h; rw [h] at h0; simp at h0)
  obtain ⟨bb, ob, rfl, t2⟩ := bytesCell (t1.pull 1 : Sat W0 w (bytes m2 pb ys :: _)) (by intro h; rw [h] at hl; simp at hl; rw [hl] at h0; simp at h0)
  have t3 : Sat W0 w (seg m1 ba oa (u8s xs) :: seg m2 bb ob (u8s ys) :: L) := t2.pull 1
  obtain ⟨n, hn⟩ : ∃ n, n = xs.length := ⟨_, rfl⟩
  rw [← hn] at hx h0 ⊢
  have hz : List.replicate n (0 : Byte) = xorUp xs ys 0 := by rw [hn]; exact xorUp_zero xs ys
  have HN := Lib.hid (And.intro hn (And.intro hl hz)); clear hn hl hs t1 t2 hz
  go_enter Tryz.func74, Tryz.ntmps74
  go_wp2_with (refine wpl_make rfl 41 5 (.tmp 11) (.tmp 11) rfl Tryz.underlying41 hi3 hz3 hs3 hb3 rfl n rfl rfl (by omega) (by omega) t3 ?_; intro w1 g s1 _; rw [u8s_zero] at s1)
  rw [HN.out.2.2] at s1
  clear t3
  go_loopw [15] (fun t15 wr => ∃ j : Nat, j ≤ n ∧ t15 = .int .i64 (j : Int) ∧ Sat W0 wr (seg true g 0 (u8s (xorUp xs ys j)) :: seg m1 ba oa (u8s xs) :: seg m2 bb ob (u8s ys) :: L)) (fun t15 _ => n - (intOf t15).toNat)
  case atStart => exact ⟨0, by omega, rfl, s1⟩
  case round =>
    clear s1
    obtain ⟨j, hj, rfl, s⟩ := hrel
    by_cases hlt : j < n
    · have hjx : j < xs.length := by rw [← HN.out.1]; exact hlt
      have hjy : j < ys.length := by rw [← HN.out.2.1]; exact hjx
      have cg := s.at j (u8s_get _ j (by rw [xorUp_len]; exact hjx))
      have fg := s.fr j (by rw [u8s_len, xorUp_len]; exact hjx)
      have sx : Sat W0 wr (seg m1 ba oa (u8s xs) :: _) := s.pull 1
      have sy : Sat W0 wr (seg m2 bb ob (u8s ys) :: _) := s.pull 2
      have cx := sx.cell (u8s_get xs j hjx)
      have cy := sy.cell (u8s_get ys j hjy)
      obtain ⟨x, hx'⟩ : ∃ x, x = xs.getD j 0 := ⟨_, rfl⟩
      obtain ⟨y, hy'⟩ : ∃ y, y = ys.getD j 0 := ⟨_, rfl⟩
      obtain ⟨z, hz'⟩ : ∃ z, z = (xorUp xs ys j).getD j 0 := ⟨_, rfl⟩
      rw [← hx'] at cx
      rw [← hy'] at cy
      rw [← hz'] at cg
      have HX := Lib.hid (And.intro hx' (And.intro hy' hjx)); clear hx' hy' hz' hjx hjy
      go_wp2_with fail
      refine wp_region_quiet_tail_lit 11 (by kernel_rfl) (by kernel_rfl) ?_
      simp only [List.take_succ_cons, List.take_zero, List.drop_succ_cons, List.drop_zero]
      repeat (go_big_quiet_step (fail))
      refine wpQuiet_nil ?_
      rintro _ ⟨nq, rfl⟩
      go_wp2
      go_roundw
      case rel =>
        obtain ⟨hx', hy', hjx⟩ := HX.out
        refine ⟨j + 1, by omega, by go_num, ?_⟩
        have st := fun n => ((s.drewN n).store (i := j) (by rw [u8s_len, xorUp_len]; exact hjx) (.int .u8 (v8 (x ^^^ y))) (q := j) (by simp))
        rw [u8s_set, hx', hy', xorUp_set, ← hx', ← hy', ← vxor8] at st
        exact st _
      case measure => simp [intOf]; omega
    · obtain rfl : j = n := by omega
      have hall : xorUp xs ys j = xorB xs ys := by rw [HN.out.1]; exact xorUp_all xs ys HN.out.2.1
      rw [hall] at s
      clear hall
      go_wp2
      go_ret
      refine ⟨g, rfl, ?_⟩
      have s1 : Sat W0 wr (bytes m1 (some ⟨ba, oa, none⟩) xs :: seg m2 bb ob (u8s ys) :: seg true g 0 (u8s (xorB xs ys)) :: L) := bytesOf (s.pick [1, 2])
      exact ((bytesOf (s1.pull 1)).pick [2, 1])
set_option maxRecDepth 100000 in
set_option maxHeartbeats 2000000 in
/-- The HMAC of one piece, by a mac that is reset ahead of it. -/
theorem told1 {W0 w : World} {L : List Assn} {c g : Nat} {m : Bool} {p1 : Option Addr} {c1 : Nat} (wide : Bool) (p : Option Nat) (rs : List Run3) (key msg b1 : List Byte) (hc1 : b1.length ≤ c1) (hm1 : c1 ≤ maxLen) (hb : tot rs + 2 * b1.length + 3000 ≤ 2305843009213693952) (hl : rs.length + 6 ≤ 1048576)
    (hs : Sat W0 w (ledO p rs :: seg true g 0 [.slice p1 b1.length c1] :: bytes m p1 b1 :: mac wide c (blockKey wide key) msg :: L)) :
    Calls Tryz.prog 72 #[ptrO p, .pointer (some ⟨c, 0, none⟩), .slice (some ⟨g, 0, none⟩) 1 1] w fun e w' => ∃ q cq, e = .returned (.slice q (hsz wide) cq) ∧ Sat W0 w' (row q cq 1 (hsz wide) (u8s (hmac wide key b1)) :: ledO p (noteN rs (evK wide) (evS wide) (b1.length / bsz wide + endN wide b1.length)) :: bytes m p1 b1 :: mac wide c (blockKey wide key) b1 :: L) := by
  have hr := hmacReset wide (blockKey wide key) msg (hs.pick [3])
  have hdv : b1.length / bsz wide ≤ b1.length := Nat.div_le_self _ _
  have HB := Lib.hid (And.intro hc1 (And.intro hm1 (And.intro hb (And.intro hl hdv)))); clear hc1 hm1 hb hl hdv
  go_enter Tryz.func72, Tryz.ntmps72
  go_wp2_with fail
  refine hr.mono ?_
  rintro e w1 ⟨rfl, s1⟩
  clear hr hs
  go_wp2
  go_loopw [15] (fun t15 wr => (t15 = .int .i64 0 ∧ Sat W0 wr (ledO p rs :: seg true g 0 [.slice p1 b1.length c1] :: bytes m p1 b1 :: mac wide c (blockKey wide key) [] :: L)) ∨ (t15 = .int .i64 1 ∧ Sat W0 wr (ledO p (noteN rs (evK wide) (evS wide) (b1.length / bsz wide)) :: seg true g 0 [.slice p1 b1.length c1] :: bytes m p1 b1 :: mac wide c (blockKey wide key) b1 :: L))) (fun t15 _ => 1 - (intOf t15).toNat)
  case atStart => exact .inl ⟨rfl, s1.pick [1, 2, 3]⟩
  case round =>
    clear s1
    rcases hrel with ⟨rfl, s⟩ | ⟨rfl, s⟩
    · have sg : Sat W0 wr (seg true g 0 [.slice p1 b1.length c1] :: _) := s.pull 1
      have cg := sg.at 0 rfl
      have hw := hmacWrite (cap := c1) wide p rs (blockKey wide key) [] b1 HB.out.1 HB.out.2.1 (by have := HB.out.2.2.1; simp; omega) (by have := HB.out.2.2.2.1; omega) (s.pick [0, 2, 3])
      simp only [List.length_nil, Nat.zero_add, Nat.zero_div, Nat.sub_zero, List.nil_append] at hw
      go_wp2_with fail
      refine hw.mono ?_
      rintro e w2 ⟨rfl, s2⟩
      go_wp2
      go_roundw
      case rel => exact .inr ⟨rfl, s2.pick [0, 3, 1]⟩
      case measure => simp [intOf]
    · have hm := hmacSum wide p (noteN rs (evK wide) (evS wide) (b1.length / bsz wide)) key b1 (by rw [tot_noteN]; have := HB.out.2.2.1; have := HB.out.2.2.2.2; omega) (by have := noteN_len rs (evK wide) (evS wide) (b1.length / bsz wide); have := HB.out.2.2.2.1; omega) (s.pick [0, 3])
      rw [noteN_add] at hm
      go_wp2_with fail
      refine hm.mono ?_
      rintro e w2 ⟨q, cq, rfl, s2⟩
      go_wp2
      go_ret
      refine ⟨q, cq, rfl, ?_⟩
      exact (s2.pick [0, 1, 4, 2]).drop 4
end Go.Proofs.YtmohabidfalhoaaGreat
