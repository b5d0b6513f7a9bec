
/- Layer 16's program: Block, Key; under the conditions that each names. -/
import Derived.Test.YtmohabidfalhoaaGreatPbk2
namespace Go.Proofs.YtmohabidfalhoaaGreat
open Go.RowKit Go.Sep Go.Bv Go.Sha
set_option linter.unusedVariables false
set_option linter.unusedSimpArgs false
theorem wrong16 (w : World) (wide : Bool) (count : Nat) (h1 : 1 ≤ count) (h2 : count ≤ 1048576) : Calls Tryz.prog 45 #[.int .u8 (algN wide), .int .i64 (count : Int)] w fun e w' => e = .returned (.int .i64 0) ∧ w = w' := by
  have g1 : decide ((count : Int) < 1) = false := by simp; omega
  have g2 : decide ((1048576 : Int) < (count : Int)) = false := by simp; omega
  have g3 : (1 : Int) ≤ (count : Int) := by omega
  have g4 : (count : Int) ≤ 1048576 := by omega
  cases wide
  · show Calls Tryz.prog 45 #[.int .u8 1, .int .i64 (count : Int)] w _
    go_enter Tryz.func45, Tryz.ntmps45
    go_wp2
    go_ret
    exact ⟨rfl, rfl⟩
  · show Calls Tryz.prog 45 #[.int .u8 2, .int .i64 (count : Int)] w _
    go_enter Tryz.func45, Tryz.ntmps45
    go_wp2
    go_ret
    exact ⟨rfl, rfl⟩
theorem keyN_le (wide : Bool) (n : Nat) : keyN wide n ≤ n + 4 := by
  unfold keyN
  by_cases h : bsz wide < n
  · rw [if_pos h]; cases wide <;> simp only [padN, bsz, roomN] <;> omega
  · rw [if_neg h]; omega
theorem pbN_le (wide : Bool) (n count : Nat) (h : count ≤ 1048576) : pbN wide n count ≤ n + 3145800 := by
  have h1 := endN_le wide (n + 4)
  have h2 : (count - 1) * endN wide (hsz wide) ≤ 1048575 * 3 := Nat.mul_le_mul (by omega) (endN_le wide _)
  have h3 : (n + 4) / bsz wide ≤ n + 4 := Nat.div_le_self _ _
  unfold pbN; omega
set_option maxRecDepth 100000 in
set_option maxHeartbeats 2000000 in
theorem pbBlockOf {W0 w : World} {L : List Assn} {m m2 : Bool} {pk ps : Option Addr} {ck cs : Nat} (wide : Bool) (p : Option Nat) (rs : List Run3) (key salt : List Byte) (count i : Nat) (hk1 : key.length ≤ ck) (hk2 : ck ≤ maxLen) (hc1 : salt.length ≤ cs) (hm1 : cs ≤ maxLen) (h1 : 1 ≤ count) (h2 : count ≤ 1048576) (hi1 : 1 ≤ i) (hi : i < 4294967296)
    (hb : tot rs + 4 * key.length + 2 * salt.length + 9000000 ≤ 2305843009213693952) (hl : rs.length + 16 ≤ 1048576) (hs : Sat W0 w (ledO p rs :: bytes m pk key :: bytes m2 ps salt :: L)) :
    Calls Tryz.prog 22 #[ptrO p, .int .u8 (algN wide), .slice pk key.length ck, .slice ps salt.length cs, .int .i64 (count : Int), .int .i64 (i : Int)] w fun e w' => ∃ q cq, e = .returned (.tuple #[.slice q (hsz wide) cq, .int .i64 0]) ∧ Sat W0 w' (row q cq 1 (hsz wide) (u8s (pbBlock wide key salt count i)) :: ledO p (noteN rs (evK wide) (evS wide) (keyN wide key.length + pbN wide salt.length count)) :: bytes m pk key :: bytes m2 ps salt :: L) := by
  have hw := wrong16 w wide count h1 h2
  have hn := hmacNew wide p rs key hk1 hk2 (by omega) (by omega) hs
  have g1 : decide ((i : Int) < 1) = false := by simp; omega
  have g2 : decide ((4294967295 : Int) < (i : Int)) = false := by simp; omega
  have g3 : (1 : Int) ≤ (i : Int) := by omega
  have g4 : (i : Int) ≤ 4294967295 := by omega
  have hkn := keyN_le wide key.length
  have HB := Lib.hid (And.intro hc1 (And.intro hm1 (And.intro hb (And.intro hl (And.intro hkn (And.intro h1 (And.intro h2 hi))))))); clear hc1 hm1 hb hl hk1 hk2 hkn h1 h2 hi hi1
  go_enter Tryz.func22, Tryz.ntmps22
  go_wp2_with fail
  refine hw.mono ?_
  rintro e w' ⟨rfl, rfl⟩
  go_wp2_with fail
  refine hn.mono ?_
  rintro e w1 ⟨c, rfl, s1⟩
  clear hn hs hw
  have hbk := pbBlk (cs := cs) wide p (noteN rs (evK wide) (evS wide) (keyN wide key.length)) key [] salt count i HB.out.1 HB.out.2.1 HB.out.2.2.2.2.2.1 HB.out.2.2.2.2.2.2.1 HB.out.2.2.2.2.2.2.2 (by rw [tot_noteN]; have := HB.out.2.2.1; have := HB.out.2.2.2.2.1; omega) (by have := noteN_len rs (evK wide) (evS wide) (keyN wide key.length); have := HB.out.2.2.2.1; omega) (s1.pick [1, 0, 3])
  rw [noteN_add] at hbk
  go_wp2_with fail
  refine hbk.mono ?_
  rintro e w2 ⟨q, cq, m3, rfl, s2⟩
  go_wp2
  refine bodyPost_ret (v := .tuple #[.slice q (hsz wide) cq, .int .i64 0]) (by simp [results, Tryz.results22, go_sem]) rfl ⟨q, cq, rfl, ?_⟩
  exact (s2.pick [0, 1, 4, 3]).drop 4
/-- What the closure in Key has captured. -/
abbrev envK (gi gl gm gs gn : Nat) (p : Option Nat) (c : Nat) (ps : Option Addr) (sl cs count i : Nat) (L : List Assn) : List Assn :=
  seg true gi 0 [.int .u32 (i : Int)] :: seg true gl 0 [ptrO p] :: seg true gm 0 [.pointer (some ⟨c, 0, none⟩)] :: seg true gs 0 [.slice ps sl cs] :: seg true gn 0 [.int .i64 (count : Int)] :: L
set_option maxRecDepth 100000 in
set_option maxHeartbeats 2000000 in
theorem keyNext {W0 w : World} {L : List Assn} {gi gl gm gs gn c : Nat} {m : Bool} {ps : Option Addr} {cs : Nat} (wide : Bool) (p : Option Nat) (rs : List Run3) (key msg salt : List Byte) (count i : Nat) (hc1 : salt.length ≤ cs) (hm1 : cs ≤ maxLen) (h1 : 1 ≤ count) (h2 : count ≤ 1048576) (hi : i < 4294967295) (hb : tot rs + 2 * salt.length + 8000000 ≤ 2305843009213693952) (hl : rs.length + 8 ≤ 1048576)
    (hs : Sat W0 w (envK gi gl gm gs gn p c ps salt.length cs count i (ledO p rs :: mac wide c (blockKey wide key) msg :: bytes m ps salt :: L))) :
    Calls Tryz.prog 48 #[.pointer (some ⟨gi, 0, none⟩), .pointer (some ⟨gl, 0, none⟩), .pointer (some ⟨gm, 0, none⟩), .pointer (some ⟨gs, 0, none⟩), .pointer (some ⟨gn, 0, none⟩)] w fun e w' => ∃ q cq msg', e = .returned (.slice q (hsz wide) cq) ∧ Sat W0 w' (row q cq 1 (hsz wide) (u8s (pbBlock wide key salt count (i + 1))) :: envK gi gl gm gs gn p c ps salt.length cs count (i + 1) (ledO p (noteN rs (evK wide) (evS wide) (pbN wide salt.length count)) :: mac wide c (blockKey wide key) msg' :: bytes m ps salt :: L)) := by
  have ci := hs.at 0 rfl
  have fi := hs.fr 0 (by simp)
  have sl : Sat W0 w (seg true gl 0 [ptrO p] :: _) := hs.pull 1
  have cl := sl.at 0 rfl
  have sm : Sat W0 w (seg true gm 0 [.pointer (some ⟨c, 0, none⟩)] :: _) := hs.pull 2
  have cm := sm.at 0 rfl
  have ss : Sat W0 w (seg true gs 0 [.slice ps salt.length cs] :: _) := hs.pull 3
  have c3 := ss.at 0 rfl
  have sn : Sat W0 w (seg true gn 0 [.int .i64 (count : Int)] :: _) := hs.pull 4
  have c4 := sn.at 0 rfl
  have n1 : gi ≠ gl := Sat.ne' (hs.pick [0, 1]) (by simp) (by simp)
  have n2 : gi ≠ gm := Sat.ne' (hs.pick [0, 2]) (by simp) (by simp)
  have n3 : gi ≠ gs := Sat.ne' (hs.pick [0, 3]) (by simp) (by simp)
  have n4 : gi ≠ gn := Sat.ne' (hs.pick [0, 4]) (by simp) (by simp)
  have n5 := n1.symm
  have n6 := n2.symm
  have n7 := n3.symm
  have n8 := n4.symm
  have hi2 : (i : Int) < 4294967295 := by omega
  have s1 := hs.store (i := 0) (by simp) (.int .u32 ((i + 1 : Nat) : Int)) (q := 0) rfl
  have hbk := pbBlk (cs := cs) wide p rs key msg salt count (i + 1) hc1 hm1 h1 h2 (by omega) hb hl (s1.pick [5, 6, 7])
  rw [show ((i + 1 : Nat) : Int) = (i : Int) + 1 by omega] at hbk
  clear hb hl hc1 hm1 h1 h2 sl sm ss sn
  go_enter Tryz.func48, Tryz.ntmps48
  go_wp2_with fail
  refine hbk.mono ?_
  rintro e w2 ⟨q, cq, m3, rfl, s2⟩
  go_wp2
  go_ret
  refine ⟨q, cq, m3, rfl, ?_⟩
  exact s2.pick [0, 4, 5, 6, 7, 8]
end Go.Proofs.YtmohabidfalhoaaGreat
