
/- Layer 16's program: Key; under the conditions that it names. -/
import Derived.Test.YtmohabidfalhoaaGreatPbk3
namespace Go.Proofs.YtmohabidfalhoaaGreat
open Go.RowKit Go.Sep Go.Bv Go.Sha
set_option linter.unusedVariables false
set_option linter.unusedSimpArgs false
/-- How many blocks n bytes take. -/
def pbM (wide : Bool) (n : Nat) : Nat := (n + hsz wide - 1) / hsz wide
theorem pbM_of (wide : Bool) (n j : Nat) (h1 : n ≤ j * hsz wide) (h2 : j * hsz wide < n + hsz wide) : j = pbM wide n := by
  unfold pbM
  cases wide <;> simp only [hsz] at * <;> omega
theorem pbM_le (wide : Bool) (n : Nat) : pbM wide n ≤ n := by
  unfold pbM
  cases wide <;> simp only [hsz] <;> omega
theorem pbM_ge (wide : Bool) (n : Nat) : n ≤ pbM wide n * hsz wide := by
  unfold pbM
  cases wide <;> simp only [hsz] <;> omega
theorem bytesNone1 {W0 w : World} {L : List Assn} {m : Bool} {sp : Option Addr} {bs : List Byte} {n : Nat} (h : Sat W0 w (bytes m sp bs :: L)) (hn : bs.length = n) : sp = none → n = 0 := by
  rintro rfl
  by_cases h0 : bs = []
  · rw [← hn, h0]; rfl
  · obtain ⟨_, _, h', _⟩ := bytesCell h h0; cases h'
/-- The beginning of a row, as a row by itself. -/
theorem rowTake {W0 w : World} {L : List Assn} {p : Option Addr} {c k n : Nat} {bs : List Byte} (h : Sat W0 w (row p c 1 k (u8s bs) :: L)) (hn : n ≤ k) (h0 : 0 < n) : ∃ g, p = some ⟨g, 0, none⟩ ∧ n ≤ c ∧ Sat W0 w (row p n 1 n (u8s (bs.take n)) :: L) := by
  obtain ⟨hl, ⟨rfl, rfl, rfl, hx, h1⟩ | ⟨g, rest, rfl, h1, h2, h3, h4⟩⟩ := h.rowOpen
  · omega
  · rw [u8s_len, Nat.mul_one] at hl
    refine ⟨g, rfl, by omega, ?_⟩
    have e : u8s bs ++ rest = u8s (bs.take n) ++ (u8s (bs.drop n) ++ rest) := by rw [← List.append_assoc, ← u8s_append, List.take_append_drop]
    rw [e] at h4
    have h5 := Sat.part h4 (q := n) (by rw [u8s_len, List.length_take]; omega)
    exact ((h5.drop 1).rowFull (n := n) (by rw [u8s_len, List.length_take]; omega) (by omega))
theorem rowZero {W0 w : World} {L : List Assn} {p : Option Addr} {c k : Nat} {bs : List Byte} (h : Sat W0 w (row p c 1 k (u8s bs) :: L)) : Sat W0 w (row p 0 1 0 (u8s []) :: L) := by
  obtain ⟨hl, ⟨rfl, rfl, rfl, hx, h1⟩ | ⟨g, rest, rfl, h1, h2, h3, h4⟩⟩ := h.rowOpen
  · exact h1.rowNil 1
  · have h5 : Sat W0 w (seg true g 0 ([] ++ (u8s bs ++ rest)) :: L) := h4
    exact ((h5.part (q := 0) rfl).drop 1).rowFull (n := 0) rfl (Nat.zero_le _)
set_option maxRecDepth 100000 in
set_option maxHeartbeats 8000000 in
theorem pbKey {W0 w : World} {L : List Assn} {m m2 : Bool} {pk ps : Option Addr} {ck cs : Nat} (wide : Bool) (p : Option Nat) (rs : List Run3) (key salt : List Byte) (count n : Nat) (hk1 : key.length ≤ ck) (hk2 : ck ≤ maxLen) (hc1 : salt.length ≤ cs) (hm1 : cs ≤ maxLen) (h1 : 1 ≤ count) (h2 : count ≤ 1048576) (hn : n ≤ 16320)
    (hb : tot rs + 4 * key.length + 1000 * salt.length + 9000000000 ≤ 2305843009213693952) (hl : rs.length + 16 ≤ 1048576) (hs : Sat W0 w (ledO p rs :: bytes m pk key :: bytes m2 ps salt :: L)) :
    Calls Tryz.prog 25 #[ptrO p, .int .u8 (algN wide), .slice pk key.length ck, .slice ps salt.length cs, .int .i64 (count : Int), .int .i64 (n : Int)] w fun e w' => ∃ q, e = .returned (.tuple #[.slice q n n, .int .i64 0]) ∧ Sat W0 w' (row q n 1 n (u8s ((pbMany wide key salt count (pbM wide n)).take n)) :: ledO p (noteN rs (evK wide) (evS wide) (keyN wide key.length + pbM wide n * pbN wide salt.length count)) :: bytes m pk key :: bytes m2 ps salt :: L) := by
  obtain ⟨i3, hi3, hz3, hs3, hb3⟩ := info_parts Tryz.info_u8
  have hw := fun w => wrong16 w wide count h1 h2
  have g1 : decide ((n : Int) < 0) = false := by simp
  have g2 : decide ((16320 : Int) < (n : Int)) = false := by simp; omega
  have g3 : (n : Int) ≤ 16320 := by omega
  have hkn := keyN_le wide key.length
  have hpn := pbN_le wide salt.length count h2
  obtain ⟨gl, hgl⟩ : ∃ g, g = w.heap.size := ⟨_, rfl⟩
  obtain ⟨gs, hgs⟩ : ∃ g, g = gl + 1 := ⟨_, rfl⟩
  obtain ⟨gn, hgn⟩ : ∃ g, g = gs + 1 := ⟨_, rfl⟩
  have t1 := hs.allocAt #[ptrO p] 26 (q := gl) hgl
  have t2 := t1.allocAt #[.slice ps salt.length cs] 41 (q := gs) (by rw [hgs, hgl]; simp)
  have t3 := t2.allocAt #[.int .i64 (count : Int)] 3 (q := gn) (by rw [hgn, hgs, hgl]; simp)
  have hnew := hmacNew (L := seg true gn 0 [.int .i64 (count : Int)] :: seg true gs 0 [.slice ps salt.length cs] :: seg true gl 0 [ptrO p] :: bytes m2 ps salt :: L) wide p rs key hk1 hk2 (by omega) (by omega) (t3.pick [3, 4])
  have HB := Lib.hid (And.intro hc1 (And.intro hm1 (And.intro hb (And.intro hl (And.intro hkn (And.intro h1 (And.intro h2 (And.intro hpn hn)))))))); clear hc1 hm1 hb hl hk1 hk2 hkn h1 h2 hpn t1 t2 t3
  have hH0 := hsz_pos wide
  have hH := hsz_le64 wide
  go_enter Tryz.func25, Tryz.ntmps25
  go_wp2_with fail
  refine (hw _).mono ?_
  rintro e w' ⟨rfl, rfl⟩
  go_wp2_with fail
  refine hnew.mono ?_
  rintro e w1 ⟨c, rfl, s1⟩
  rw [← hgl, ← hgs, ← hgn]
  clear hnew hs hw hgl hgs hgn
  obtain ⟨gm, hgm⟩ : ∃ g, g = w1.heap.size := ⟨_, rfl⟩
  obtain ⟨gi, hgi⟩ : ∃ g, g = gm + 1 := ⟨_, rfl⟩
  have t4 := s1.allocAt #[.pointer (some ⟨c, 0, none⟩)] 96 (q := gm) hgm
  have t5 := t4.allocAt #[.int .u32 0] 100 (q := gi) (by rw [hgi, hgm]; simp)
  have s2 : Sat W0 _ (envK gi gl gm gs gn p c ps salt.length cs count 0 (ledO p (noteN rs (evK wide) (evS wide) (keyN wide key.length)) :: mac wide c (blockKey wide key) [] :: bytes m2 ps salt :: bytes m pk key :: L)) := t5.pick [0, 7, 1, 6, 5, 3, 2, 8, 4]
  clear t4 t5 s1
  go_wp2_with fail
  rw [← hgm, ← hgi]
  clear hgm hgi
  go_loopw [19] (fun t19 wr => ∃ (j : Nat) (po : Option Addr) (co : Nat) (msg' : List Byte), j * hsz wide < n + hsz wide ∧ t19 = .slice po (j * hsz wide) co ∧ Sat W0 wr (row po co 1 (j * hsz wide) (u8s (pbMany wide key salt count j)) :: envK gi gl gm gs gn p c ps salt.length cs count j (ledO p (noteN rs (evK wide) (evS wide) (keyN wide key.length + j * pbN wide salt.length count)) :: mac wide c (blockKey wide key) msg' :: bytes m2 ps salt :: bytes m pk key :: L))) (fun t19 _ => n + 64 - (match t19 with | .slice _ l _ => l | _ => 0))
  case atStart => exact ⟨0, none, 0, [], by rw [Nat.zero_mul]; omega, by rw [Nat.zero_mul], by rw [Nat.zero_mul, Nat.zero_mul]; exact s2.rowNil 1⟩
  case round =>
    clear s2
    obtain ⟨j, po, co, msg', hj, rfl, s⟩ := hrel
    have hjb : j ≤ 512 := by
      have h := HB.out.2.2.2.2.2.2.2.2
      revert hj
      cases wide <;> simp only [hsz] <;> omega
    have hjp : j * pbN wide salt.length count ≤ 512 * (salt.length + 3145800) := Nat.mul_le_mul hjb HB.out.2.2.2.2.2.2.2.1
    by_cases hlt : j * hsz wide < n
    · skip
      obtain ⟨J, hJ⟩ : ∃ J, J = j * hsz wide := ⟨_, rfl⟩
      have hJ2 : (j + 1) * hsz wide = J + hsz wide := by rw [Nat.succ_mul, hJ]
      rw [← hJ] at s hlt hj ⊢
      have HJ := Lib.hid hJ2; clear hJ hJ2
      have hnx := keyNext (cs := cs) wide p _ key msg' salt count j HB.out.1 HB.out.2.1 HB.out.2.2.2.2.2.1 HB.out.2.2.2.2.2.2.1 (by omega) (by rw [tot_noteN]; have := HB.out.2.2.1; have := HB.out.2.2.2.2.1; omega) (by have := noteN_len rs (evK wide) (evS wide) (keyN wide key.length + j * pbN wide salt.length count); have := HB.out.2.2.2.1; omega) (s.pick [1, 2, 3, 4, 5, 6, 7, 8])
      rw [noteN_add, Nat.add_assoc, ← Nat.succ_mul] at hnx
      go_wp2_with fail
      refine hnx.mono ?_
      rintro e w2 ⟨q, cq, m3, rfl, s3⟩
      clear hnx
      obtain ⟨hl1, hl2, hl3, s4⟩ := rowBytes s3
      have n1 := bytesNews s4
      have s5 : Sat W0 w2 (row po co 1 J (u8s (pbMany wide key salt count j)) :: _) := s4.pull 9
      go_wp2_with (refine wpl_append rfl (.tmp 45) (.tmp 47) 41 rfl Tryz.underlying41 hi3 hz3 hs3 hb3 rfl (by decide) s5 rfl q (hsz wide) cq rfl (u8s (pbBlock wide key salt count (j + 1))) (by rw [u8s_len, hl1, Nat.mul_one]) n1 (bytesNone1 s4 hl1) (u8s_one _) (by unfold maxLen; omega) (by omega) ?_; intro p2 c2 w3 s6 _ _; rw [← u8s_append] at s6)
      go_roundw
      case rel =>
        refine ⟨j + 1, p2, c2, m3, by rw [HJ.out]; omega, by rw [HJ.out], ?_⟩
        rw [HJ.out]
        exact s6.drop 1
      case measure => simp; omega
    · have hM := pbM_of wide n j (by omega) hj
      have hMe : keyN wide key.length + j * pbN wide salt.length count = keyN wide key.length + pbM wide n * pbN wide salt.length count := by rw [← hM]
      by_cases h0 : n = 0
      · subst h0
        have hj0 : j = 0 := by
          rcases Nat.eq_zero_or_pos j with h | h
          · exact h
          · have := Nat.mul_le_mul_right (hsz wide) h
            omega
        subst hj0
        have hfin : Sat W0 wr (row po 0 1 0 (u8s ((pbMany wide key salt count (pbM wide 0)).take 0)) :: ledO p (noteN rs (evK wide) (evS wide) (keyN wide key.length + pbM wide 0 * pbN wide salt.length count)) :: bytes m pk key :: bytes m2 ps salt :: L) := by
          rw [← hM]
          exact (((((((rowZero s).pick [0, 6, 9, 8]).drop 4).drop 4).drop 4).drop 4).drop 4).drop 4
        have HF := Lib.hid hfin; clear hfin hM hMe s
        simp only [Nat.zero_mul]
        go_wp2
        refine bodyPost_ret (v := .tuple #[.slice po 0 0, .int .i64 0]) (by simp [results, Tryz.results25, go_sem]) rfl ⟨po, rfl, HF.out⟩
      · obtain ⟨g, rfl, hgc, s6⟩ := rowTake s (show n ≤ j * hsz wide by omega) (by omega)
        obtain ⟨J, hJ⟩ : ∃ J, J = j * hsz wide := ⟨_, rfl⟩
        rw [← hJ] at hlt hj ⊢
        have hfin : Sat W0 wr (row (some ⟨g, 0, none⟩) n 1 n (u8s ((pbMany wide key salt count (pbM wide n)).take n)) :: ledO p (noteN rs (evK wide) (evS wide) (keyN wide key.length + pbM wide n * pbN wide salt.length count)) :: bytes m pk key :: bytes m2 ps salt :: L) := by
          rw [← hM]
          exact ((((((s6.pick [0, 6, 9, 8]).drop 4).drop 4).drop 4).drop 4).drop 4).drop 4
        have HF := Lib.hid hfin; clear hfin hM hMe s6 s hJ
        have hnc : (n : Int) ≤ (co : Int) := by omega
        go_wp2
        refine bodyPost_ret (v := .tuple #[.slice (some ⟨g, 0, none⟩) n n, .int .i64 0]) (by simp [results, Tryz.results25, go_sem]) rfl ⟨_, rfl, HF.out⟩
end Go.Proofs.YtmohabidfalhoaaGreat
