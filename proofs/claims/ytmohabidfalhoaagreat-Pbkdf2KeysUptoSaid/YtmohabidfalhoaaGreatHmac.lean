
/- Layer 12's program: HMAC; under the conditions that each names. -/
import Derived.Test.YtmohabidfalhoaaGreatWpm
namespace Go.Sha
open Go.Bv
/-- A block key, each byte xored with a number. -/
def xorKey (wide : Bool) (k : List Byte) (x : Byte) : List Byte := (List.range (bsz wide)).map fun i => k.getD i 0 ^^^ x
def blockKey (wide : Bool) (key : List Byte) : List Byte := if bsz wide < key.length then hash wide key else key
def hmac (wide : Bool) (key msg : List Byte) : List Byte := hash wide (xorKey wide (blockKey wide key) 92 ++ hash wide (xorKey wide (blockKey wide key) 54 ++ msg))
theorem xorKey_len (wide : Bool) (k : List Byte) (x : Byte) : (xorKey wide k x).length = bsz wide := by simp [xorKey]
theorem bsz_pos (wide : Bool) : 0 < bsz wide := by cases wide <;> decide
theorem bsz_le (wide : Bool) : bsz wide ≤ 128 := by cases wide <;> decide
theorem hsz_le (wide : Bool) : hsz wide ≤ bsz wide := by cases wide <;> decide
theorem blockKey_len (wide : Bool) (key : List Byte) : (blockKey wide key).length ≤ bsz wide := by
  unfold blockKey; split
  · rw [hash_len]; exact hsz_le wide
  · omega
end Go.Sha
namespace Go.Proofs.YtmohabidfalhoaaGreat
open Go.RowKit Go.Sep Go.Bv Go.Sha
set_option linter.unusedVariables false
set_option linter.unusedSimpArgs false
/-- The key's bytes so far xored. -/
def xorPart (wide : Bool) (k : List Byte) (x : Byte) (j : Nat) : List Byte := (List.range (bsz wide)).map fun i => if i < j then k.getD i 0 ^^^ x else k.getD i 0
theorem xorPart_len (wide : Bool) (k : List Byte) (x : Byte) (j : Nat) : (xorPart wide k x j).length = bsz wide := by simp [xorPart]
theorem xorPart_get (wide : Bool) (k : List Byte) (x : Byte) (j : Nat) (h : j < bsz wide) : (xorPart wide k x j).getD j 0 = k.getD j 0 := by simp [xorPart, h]
theorem xorPart_set (wide : Bool) (k : List Byte) (x : Byte) (j : Nat) : (xorPart wide k x j).set j (k.getD j 0 ^^^ x) = xorPart wide k x (j + 1) := by
  apply List.ext_getElem
  · simp [xorPart]
  · intro i h1 h2
    simp only [xorPart, List.getElem_set, List.getElem_map, List.getElem_range]
    by_cases e : j = i
    · subst e; simp
    · rw [if_neg e]
      by_cases h : i < j
      · rw [if_pos h, if_pos (by omega)]
      · rw [if_neg h, if_neg (by omega)]
theorem xorPart_all (wide : Bool) (k : List Byte) (x : Byte) : xorPart wide k x (bsz wide) = xorKey wide k x := by
  unfold xorPart xorKey
  apply List.map_congr_left
  intro i hi
  rw [if_pos (List.mem_range.1 hi)]
theorem xorPart_none (wide : Bool) (k : List Byte) (x : Byte) (hk : k.length ≤ bsz wide) : setL (u8s (List.replicate (bsz wide) 0)) 0 (u8s k) = u8s (xorPart wide k x 0) := by
  apply List.ext_getElem?
  intro i
  rw [getElem?_setL _ _ _ _ (by rw [u8s_len, u8s_len, List.length_replicate]; omega)]
  simp only [u8s, xorPart, List.length_map, List.getElem?_map, Nat.sub_zero, Nat.zero_le, true_and, Nat.zero_add, List.getElem?_replicate]
  by_cases h1 : i < bsz wide
  · by_cases h2 : i < k.length
    · simp [h1, h2]
    · simp [h1, h2]
  · rw [if_neg (by omega)]
    simp [h1]
set_option maxRecDepth 100000 in
set_option maxHeartbeats 2000000 in
theorem keyed {W0 w : World} {L : List Assn} {cap : Nat} {m : Bool} {sp : Option Addr} (wide : Bool) (p : Option Nat) (rs : List Run3) (k : List Byte) (x : Byte) (hk : k.length ≤ bsz wide) (hb : tot rs + 400 ≤ 2305843009213693952) (hl : rs.length + 1 ≤ 1048576)
    (hs : Sat W0 w (ledO p rs :: bytes m sp k :: L)) :
    Calls Tryz.prog 71 #[ptrO p, .agg (hcells wide).toArray, .slice sp k.length cap, .int .u8 (v8 x)] w fun e w' => ∃ b, e = .returned (ifv wide b) ∧ Sat W0 w' (dst wide b (xorKey wide k x) :: ledO p (noteN rs (evK wide) (evS wide) 1) :: bytes m sp k :: L) := by
  obtain ⟨i3, hi3, hz3, hs3, hb3⟩ := info_parts Tryz.info_u8
  have HB := Lib.hid (And.intro hk (And.intro hb hl)); clear hk hb hl
  cases wide
  · skip
    simp only [hcells]
    have hmin : (u8s k).length = Nat.min k.length 64 := by rw [u8s_len]; exact (Nat.min_eq_left HB.out.1).symm
    have Hm := Lib.hid hmin; clear hmin
    have s0 := hs.alloc (hcells false).toArray 69
    simp only [hcells] at s0
    go_enter Tryz.func71, Tryz.ntmps71
    go_wp2_with (first | (refine wpl_make rfl 41 5 (.tmp 13) (.tmp 13) rfl Tryz.underlying41 hi3 hz3 hs3 hb3 rfl 64 rfl rfl (by decide) (by decide) s0 ?_; intro w1 g s1 _; rw [u8s_zero] at s1; have n1 := bytesNews (s1.pull 3)) | (refine wpl_copy rfl (.tmp 15) (.tmp 16) 41 41 rfl Tryz.underlying41 (by kernel_rfl) s1 0 0 64 64 k.length cap sp (u8s k) rfl rfl rfl Hm.out (by rw [Nat.zero_add, u8s_len, u8s_len, List.length_replicate]; exact HB.out.1) n1 (u8s_one _) ?_; intro w2 s2; clear n1 s1))
    rw [show u8s (List.replicate 64 0) = u8s (List.replicate (bsz false) 0) from rfl, xorPart_none false k x HB.out.1] at s2
    obtain ⟨bx, hbx⟩ : ∃ bx, bx = w.heap.size := ⟨_, rfl⟩
    rw [← hbx] at s2 ⊢
    clear hbx s0 hs
    go_loopw [20] (fun t20 wr => ∃ j : Nat, j ≤ 64 ∧ t20 = .int .i64 j ∧ Sat W0 wr (seg true g 0 (u8s (xorPart false k x j)) :: seg true bx 0 (hcells false) :: ledO p rs :: bytes m sp k :: L)) (fun t20 _ => 64 - (intOf t20).toNat)
    case atStart => exact ⟨0, by omega, rfl, s2⟩
    case round =>
      clear s2
      obtain ⟨j, hj, rfl, s⟩ := hrel
      by_cases hlt : j < 64
      · have c := s.at j (u8s_get _ j (by rw [xorPart_len]; exact hlt))
        have f := s.fr j (by rw [u8s_len, xorPart_len]; exact hlt)
        rw [xorPart_get _ _ _ _ hlt] at c
        go_wp2
        go_roundw
        case rel =>
          refine ⟨j + 1, by omega, by go_num, ?_⟩
          have st := s.store (i := j) (by rw [u8s_len, xorPart_len]; exact hlt) (.int .u8 (v8 (k.getD j 0 ^^^ x))) (q := j) (by simp)
          rw [u8s_set, xorPart_set, ← vxor8] at st
          exact st
        case measure => simp [intOf]; omega
      · obtain rfl : j = 64 := by omega
        have hx : xorPart false k x 64 = xorKey false k x := xorPart_all false k x
        rw [hx] at s
        have sb : Sat W0 wr (seg true bx 0 (hcells false) :: _) := s.pull 1
        have c4 := sb.at 4 rfl
        have c5 := sb.at 5 rfl
        go_wp2_with fail
        refine (dNew false s).mono ?_
        rintro e w3 ⟨b, rfl, s3⟩
        simp only [ifv]
        go_wp2_with fail
        have s4 : Sat W0 w3 (seg true g 0 (u8s (xorKey false k x)) :: ledO p rs :: dst false b [] :: bytes m sp k :: L) := (s3.pick [1, 3, 0, 4, 2]).drop 4
        have s5 : Sat W0 w3 (ledO p rs :: bytes true (some ⟨g, 0, none⟩) (xorKey false k x) :: dst false b [] :: bytes m sp k :: L) := (bytesOf s4).pull 1
        have hw := dWrite (cap := 64) false p rs [] (xorKey false k x) (by rw [xorKey_len]; exact Nat.le_refl _) (by unfold maxLen; decide) (by rw [xorKey_len]; have := HB.out.2.1; simp [bsz]; omega) (by have := HB.out.2.2; omega) s5
        rw [xorKey_len] at hw
        refine hw.mono ?_
        rintro e w4 ⟨rfl, s6⟩
        go_wp2
        go_ret
        exact ⟨b, rfl, ((s6.pick [2, 0, 3]).drop 3).to (by simp [pick, bsz])⟩
  · skip
    simp only [hcells]
    have hmin : (u8s k).length = Nat.min k.length 128 := by rw [u8s_len]; exact (Nat.min_eq_left HB.out.1).symm
    have Hm := Lib.hid hmin; clear hmin
    have s0 := hs.alloc (hcells true).toArray 69
    simp only [hcells] at s0
    go_enter Tryz.func71, Tryz.ntmps71
    go_wp2_with (first | (refine wpl_make rfl 41 5 (.tmp 13) (.tmp 13) rfl Tryz.underlying41 hi3 hz3 hs3 hb3 rfl 128 rfl rfl (by decide) (by decide) s0 ?_; intro w1 g s1 _; rw [u8s_zero] at s1; have n1 := bytesNews (s1.pull 3)) | (refine wpl_copy rfl (.tmp 15) (.tmp 16) 41 41 rfl Tryz.underlying41 (by kernel_rfl) s1 0 0 128 128 k.length cap sp (u8s k) rfl rfl rfl Hm.out (by rw [Nat.zero_add, u8s_len, u8s_len, List.length_replicate]; exact HB.out.1) n1 (u8s_one _) ?_; intro w2 s2; clear n1 s1))
    rw [show u8s (List.replicate 128 0) = u8s (List.replicate (bsz true) 0) from rfl, xorPart_none true k x HB.out.1] at s2
    obtain ⟨bx, hbx⟩ : ∃ bx, bx = w.heap.size := ⟨_, rfl⟩
    rw [← hbx] at s2 ⊢
    clear hbx s0 hs
    go_loopw [20] (fun t20 wr => ∃ j : Nat, j ≤ 128 ∧ t20 = .int .i64 j ∧ Sat W0 wr (seg true g 0 (u8s (xorPart true k x j)) :: seg true bx 0 (hcells true) :: ledO p rs :: bytes m sp k :: L)) (fun t20 _ => 128 - (intOf t20).toNat)
    case atStart => exact ⟨0, by omega, rfl, s2⟩
    case round =>
      clear s2
      obtain ⟨j, hj, rfl, s⟩ := hrel
      by_cases hlt : j < 128
      · have c := s.at j (u8s_get _ j (by rw [xorPart_len]; exact hlt))
        have f := s.fr j (by rw [u8s_len, xorPart_len]; exact hlt)
        rw [xorPart_get _ _ _ _ hlt] at c
        go_wp2
        go_roundw
        case rel =>
          refine ⟨j + 1, by omega, by go_num, ?_⟩
          have st := s.store (i := j) (by rw [u8s_len, xorPart_len]; exact hlt) (.int .u8 (v8 (k.getD j 0 ^^^ x))) (q := j) (by simp)
          rw [u8s_set, xorPart_set, ← vxor8] at st
          exact st
        case measure => simp [intOf]; omega
      · obtain rfl : j = 128 := by omega
        have hx : xorPart true k x 128 = xorKey true k x := xorPart_all true k x
        rw [hx] at s
        have sb : Sat W0 wr (seg true bx 0 (hcells true) :: _) := s.pull 1
        have c4 := sb.at 4 rfl
        have c5 := sb.at 5 rfl
        go_wp2_with fail
        refine (dNew true s).mono ?_
        rintro e w3 ⟨b, rfl, s3⟩
        simp only [ifv]
        go_wp2_with fail
        have s4 : Sat W0 w3 (seg true g 0 (u8s (xorKey true k x)) :: ledO p rs :: dst true b [] :: bytes m sp k :: L) := (s3.pick [1, 3, 0, 4, 2]).drop 4
        have s5 : Sat W0 w3 (ledO p rs :: bytes true (some ⟨g, 0, none⟩) (xorKey true k x) :: dst true b [] :: bytes m sp k :: L) := (bytesOf s4).pull 1
        have hw := dWrite (cap := 128) true p rs [] (xorKey true k x) (by rw [xorKey_len]; exact Nat.le_refl _) (by unfold maxLen; decide) (by rw [xorKey_len]; have := HB.out.2.1; simp [bsz]; omega) (by have := HB.out.2.2; omega) s5
        rw [xorKey_len] at hw
        refine hw.mono ?_
        rintro e w4 ⟨rfl, s6⟩
        go_wp2
        go_ret
        exact ⟨b, rfl, ((s6.pick [2, 0, 3]).drop 3).to (by simp [pick, bsz])⟩
/-- A mac of a key (as its block key) behind a message. -/
def mac (wide : Bool) (c : Nat) (k msg : List Byte) : Assn := fun h => ∃ b : Nat × Nat × Nat, sep (seg true c 0 [.int .i64 (hsz wide : Int), ifv wide b.1, ifv wide b.2.1, ifv wide b.2.2]) (sep (dst wide b.1 (xorKey wide k 54 ++ msg)) (sep (dst wide b.2.1 (xorKey wide k 92)) (dst wide b.2.2 (xorKey wide k 54)))) h
/-- The same, its parts side by side. -/
abbrev macP (wide : Bool) (c b1 b2 b3 : Nat) (k msg : List Byte) (L : List Assn) : List Assn :=
  seg true c 0 [.int .i64 (hsz wide : Int), ifv wide b1, ifv wide b2, ifv wide b3] :: dst wide b1 (xorKey wide k 54 ++ msg) :: dst wide b2 (xorKey wide k 92) :: dst wide b3 (xorKey wide k 54) :: L
theorem macOpen {W0 w : World} {L : List Assn} {wide : Bool} {c : Nat} {k msg : List Byte} (h : Sat W0 w (mac wide c k msg :: L)) : ∃ b1 b2 b3, Sat W0 w (macP wide c b1 b2 b3 k msg L) := by
  obtain ⟨b, h⟩ := h.exOpen
  exact ⟨b.1, b.2.1, b.2.2, h.open4⟩
theorem macShut {W0 w : World} {L : List Assn} {wide : Bool} {c b1 b2 b3 : Nat} {k msg : List Byte} (h : Sat W0 w (macP wide c b1 b2 b3 k msg L)) : Sat W0 w (mac wide c k msg :: L) :=
  Sat.exShut (A := fun b : Nat × Nat × Nat => sep (seg true c 0 [.int .i64 (hsz wide : Int), ifv wide b.1, ifv wide b.2.1, ifv wide b.2.2]) (sep (dst wide b.1 (xorKey wide k 54 ++ msg)) (sep (dst wide b.2.1 (xorKey wide k 92)) (dst wide b.2.2 (xorKey wide k 54))))) (b1, b2, b3) h.shut4
/-- How many blocks New works on. -/
def keyN (wide : Bool) (n : Nat) : Nat := if bsz wide < n then padN wide n + 2 else 2
set_option maxRecDepth 100000 in
set_option maxHeartbeats 4000000 in
theorem hmacNew {W0 w : World} {L : List Assn} {cap : Nat} {m : Bool} {sp : Option Addr} (wide : Bool) (p : Option Nat) (rs : List Run3) (key : List Byte) (hcap : key.length ≤ cap) (hcm : cap ≤ maxLen) (hb : tot rs + 2 * key.length + 1600 ≤ 2305843009213693952) (hl : rs.length + 4 ≤ 1048576)
    (hs : Sat W0 w (ledO p rs :: bytes m sp key :: L)) :
    Calls Tryz.prog 46 #[ptrO p, .int .u8 (algN wide), .slice sp key.length cap] w fun e w' => ∃ c, e = .returned (.tuple #[.pointer (some ⟨c, 0, none⟩), .int .i64 0]) ∧ Sat W0 w' (mac wide c (blockKey wide key) [] :: ledO p (noteN rs (evK wide) (evS wide) (keyN wide key.length)) :: bytes m sp key :: L) := by
  have HB := Lib.hid (And.intro hcap (And.intro hcm (And.intro hb hl))); clear hcap hcm hb hl
  cases wide
  · skip
    have e54 : v8 54 = 54 := by rfl
    have e92 : v8 92 = 92 := by rfl
    by_cases hlong : 64 < key.length
    · go_enter Tryz.func46, Tryz.ntmps46
      go_wp2_with fail
      refine (dOf false hs).mono ?_
      rintro e w1 ⟨rfl, s1⟩
      simp only [hcells]
      have s2 := s1.alloc (hcells false).toArray 69
      simp only [hcells] at s2
      obtain ⟨bx, hbx⟩ : ∃ bx, bx = w1.heap.size := ⟨_, rfl⟩
      rw [← hbx] at s2
      have hpn : padN false key.length ≤ key.length + 2 := by simp only [padN, bsz, roomN]; omega
      have hc := dWhole (L := seg true bx 0 (hcells false) :: L) (m := m) false p rs key HB.out.1 HB.out.2.1 (by have := HB.out.2.2.1; omega) (by have := HB.out.2.2.2; omega) (s2.pick [1, 2])
      simp only [hcells] at hc
      go_wp2_with fail
      refine hc.mono ?_
      rintro e w2 ⟨q, c, rfl, s3⟩
      clear hc s2 s1
      rw [← hbx]
      clear hbx
      obtain ⟨hl1, hl2, hl3, s3⟩ := rowBytes s3
      have x3 : Sat W0 w2 (seg true bx 0 (hcells false) :: _) := s3.pull 3
      have zx3 := x3.lt (by simp [hcells])
      have x3c0 := x3.at 0 rfl
      have x3c1 := x3.at 1 rfl
      have x3c2 := x3.at 2 rfl
      have x3c3 := x3.at 3 rfl
      have x3c4 := x3.at 4 rfl
      have x3c5 := x3.at 5 rfl
      have x3c6 := x3.at 6 rfl
      simp only [hsz]
      have s4 := Sat.allocAt (s3.pick [3, 1, 0]) #[.int .i64 32, .nilIface, .nilIface, .nilIface] 125 rfl
      obtain ⟨mc, hmc⟩ : ∃ mc, mc = w2.heap.size := ⟨_, rfl⟩
      go_wp2_with fail
      rw [← hmc] at s4 ⊢
      clear hmc x3 x3c0 x3c1 x3c2 x3c3 x3c4 x3c5 x3c6 s3
      have hk1 := keyed (cap := c) false p (noteN rs (evK false) (evS false) (padN false key.length)) (hash false key) 54 (by rw [hash_len]; exact hsz_le false) (by rw [tot_noteN]; have := HB.out.2.2.1; have := hpn; omega) (by have := noteN_len rs (evK false) (evS false) (padN false key.length); have := HB.out.2.2.2; omega) (s4.pick [2, 3])
      rw [e54, hash_len] at hk1
      simp only [hcells, hsz] at hk1
      refine hk1.mono ?_
      rintro e w5 ⟨b3, rfl, s5⟩
      clear hk1 s4
      simp only [ifv]
      have m5 : Sat W0 w5 (seg true mc 0 [.int .i64 32, .nilIface, .nilIface, .nilIface] :: _) := s5.pull 3
      have x5 : Sat W0 w5 (seg true bx 0 (hcells false) :: _) := s5.pull 4
      have hne : mc ≠ bx := Sat.ne' (m5.pick [0, 4] : Sat W0 w5 (seg true mc 0 _ :: seg true bx 0 (hcells false) :: _)) (by simp) (by simp [hcells])
      have hne2 := hne.symm
      have zm5 := m5.lt (by simp)
      have m5c0 := m5.at 0 rfl
      have m5c1 := m5.at 1 rfl
      have m5c2 := m5.at 2 rfl
      have m5c3 := m5.at 3 rfl
      have m5f0 := m5.fr 0 (by simp)
      have m5f1 := m5.fr 1 (by simp)
      have m5f2 := m5.fr 2 (by simp)
      have m5f3 := m5.fr 3 (by simp)
      have x5c0 := x5.at 0 rfl
      have x5c1 := x5.at 1 rfl
      have x5c2 := x5.at 2 rfl
      have x5c3 := x5.at 3 rfl
      have x5c4 := x5.at 4 rfl
      have x5c5 := x5.at 5 rfl
      have x5c6 := x5.at 6 rfl
      go_wp2_with fail
      have s6 := m5.store (i := 3) (by simp) (ifv false b3) (q := 3) rfl
      have hk2 := keyed (cap := c) false p (noteN (noteN rs (evK false) (evS false) (padN false key.length)) (evK false) (evS false) 1) (hash false key) 92 (by rw [hash_len]; exact hsz_le false) (by rw [tot_noteN, tot_noteN]; have := HB.out.2.2.1; have := hpn; omega) (by have := noteN_len (noteN rs (evK false) (evS false) (padN false key.length)) (evK false) (evS false) 1; have := noteN_len rs (evK false) (evS false) (padN false key.length); have := HB.out.2.2.2; omega) (s6.pick [2, 3])
      rw [e92, hash_len] at hk2
      simp only [hcells, ifv, hsz] at hk2
      refine hk2.mono ?_
      rintro e w6 ⟨b2, rfl, s7⟩
      simp only [ifv]
      clear hk2 s6 m5 x5 m5c0 m5c1 m5c2 m5c3 m5f0 m5f1 m5f2 m5f3 x5c0 x5c1 x5c2 x5c3 x5c4 x5c5 x5c6 zm5
      have m6 : Sat W0 w6 (seg true mc 0 [.int .i64 32, .nilIface, .nilIface, ifv false b3] :: _) := s7.pull 3
      have m6c0 := m6.at 0 rfl
      have m6c1 := m6.at 1 rfl
      have m6c2 := m6.at 2 rfl
      have m6c3 := m6.at 3 rfl
      have m6f0 := m6.fr 0 (by simp)
      have m6f1 := m6.fr 1 (by simp)
      have m6f2 := m6.fr 2 (by simp)
      have m6f3 := m6.fr 3 (by simp)
      simp only [ifv] at m6c3
      go_wp2_with fail
      have s8 := m6.store (i := 2) (by simp) (ifv false b2) (q := 2) rfl
      have hcp := dCopy false (b := b3) (xorKey false (hash false key) 54) ((s8.pick [4]) : Sat W0 _ (dst false b3 (xorKey false (hash false key) 54) :: _))
      simp only [ifv] at hcp
      refine hcp.mono ?_
      rintro e w7 ⟨b1, rfl, s9⟩
      clear hcp s8 m6 m6c0 m6c1 m6c2 m6c3 m6f0 m6f1 m6f2 m6f3
      have m7 : Sat W0 w7 (seg true mc 0 [.int .i64 32, .nilIface, ifv false b2, ifv false b3] :: _) := s9.pull 2
      have m7c0 := m7.at 0 rfl
      have m7c1 := m7.at 1 rfl
      have m7c2 := m7.at 2 rfl
      have m7c3 := m7.at 3 rfl
      have m7f0 := m7.fr 0 (by simp)
      have m7f1 := m7.fr 1 (by simp)
      have m7f2 := m7.fr 2 (by simp)
      have m7f3 := m7.fr 3 (by simp)
      go_wp2
      have s10 := m7.store (i := 1) (by simp) (ifv false b1) (q := 1) rfl
      simp only [ifv] at s10
      refine bodyPost_ret (v := .tuple #[.pointer (some ⟨mc, 0, none⟩), .int .i64 0]) (by simp [results, Tryz.results46, go_sem]) rfl ⟨mc, rfl, ?_⟩
      have hbk : blockKey false key = hash false key := if_pos hlong
      have hkn : keyN false key.length = padN false key.length + 1 + 1 := if_pos hlong
      rw [hbk, hkn, ← noteN_add, ← noteN_add]
      have s11 : Sat W0 _ (macP false mc b1 b2 b3 (hash false key) [] (ledO p (noteN (noteN (noteN rs (evK false) (evS false) (padN false key.length)) (evK false) (evS false) 1) (evK false) (evS false) 1) :: bytes m sp key :: L)) := (((s10.pick [0, 1, 3, 2, 4, 7]).drop 6).drop 6).to (by simp [pick, ifv, hsz])
      exact macShut s11
    · go_enter Tryz.func46, Tryz.ntmps46
      go_wp2_with fail
      refine (dOf false hs).mono ?_
      rintro e w1 ⟨rfl, s1⟩
      simp only [hcells]
      have s2 := s1.alloc (hcells false).toArray 69
      simp only [hcells] at s2
      obtain ⟨bx, hbx⟩ : ∃ bx, bx = w1.heap.size := ⟨_, rfl⟩
      rw [← hbx] at s2
      obtain ⟨mc, hmc⟩ : ∃ mc, mc = bx + 1 := ⟨_, rfl⟩
      have s4 := Sat.allocAt s2 #[.int .i64 32, .nilIface, .nilIface, .nilIface] 125 (q := mc) (by rw [hmc, hbx]; simp)
      go_wp2_with fail
      rw [← hbx, ← hmc]
      clear hbx hmc s2 s1
      have hk1 := keyed (cap := cap) false p rs key 54 (by have := hlong; simp [bsz]; omega) (by have := HB.out.2.2.1; omega) (by have := HB.out.2.2.2; omega) (s4.pick [2, 3])
      rw [e54] at hk1
      simp only [hcells] at hk1
      refine hk1.mono ?_
      rintro e w5 ⟨b3, rfl, s5⟩
      clear hk1 s4
      simp only [ifv]
      have m5 : Sat W0 w5 (seg true mc 0 [.int .i64 32, .nilIface, .nilIface, .nilIface] :: _) := s5.pull 3
      have x5 : Sat W0 w5 (seg true bx 0 (hcells false) :: _) := s5.pull 4
      have hne : mc ≠ bx := Sat.ne' (m5.pick [0, 4] : Sat W0 w5 (seg true mc 0 _ :: seg true bx 0 (hcells false) :: _)) (by simp) (by simp [hcells])
      have hne2 := hne.symm
      have zm5 := m5.lt (by simp)
      have m5c0 := m5.at 0 rfl
      have m5c1 := m5.at 1 rfl
      have m5c2 := m5.at 2 rfl
      have m5c3 := m5.at 3 rfl
      have m5f0 := m5.fr 0 (by simp)
      have m5f1 := m5.fr 1 (by simp)
      have m5f2 := m5.fr 2 (by simp)
      have m5f3 := m5.fr 3 (by simp)
      have x5c0 := x5.at 0 rfl
      have x5c1 := x5.at 1 rfl
      have x5c2 := x5.at 2 rfl
      have x5c3 := x5.at 3 rfl
      have x5c4 := x5.at 4 rfl
      have x5c5 := x5.at 5 rfl
      have x5c6 := x5.at 6 rfl
      go_wp2_with fail
      have s6 := m5.store (i := 3) (by simp) (ifv false b3) (q := 3) rfl
      have hk2 := keyed (cap := cap) false p (noteN rs (evK false) (evS false) 1) key 92 (by have := hlong; simp [bsz]; omega) (by rw [tot_noteN]; have := HB.out.2.2.1;  omega) (by have := noteN_len rs (evK false) (evS false) 1; have := HB.out.2.2.2;  omega) (s6.pick [2, 3])
      rw [e92] at hk2
      simp only [hcells, ifv] at hk2
      refine hk2.mono ?_
      rintro e w6 ⟨b2, rfl, s7⟩
      simp only [ifv]
      clear hk2 s6 m5 x5 m5c0 m5c1 m5c2 m5c3 m5f0 m5f1 m5f2 m5f3 x5c0 x5c1 x5c2 x5c3 x5c4 x5c5 x5c6 zm5
      have m6 : Sat W0 w6 (seg true mc 0 [.int .i64 32, .nilIface, .nilIface, ifv false b3] :: _) := s7.pull 3
      have m6c0 := m6.at 0 rfl
      have m6c1 := m6.at 1 rfl
      have m6c2 := m6.at 2 rfl
      have m6c3 := m6.at 3 rfl
      have m6f0 := m6.fr 0 (by simp)
      have m6f1 := m6.fr 1 (by simp)
      have m6f2 := m6.fr 2 (by simp)
      have m6f3 := m6.fr 3 (by simp)
      simp only [ifv] at m6c3
      go_wp2_with fail
      have s8 := m6.store (i := 2) (by simp) (ifv false b2) (q := 2) rfl
      have hcp := dCopy false (b := b3) (xorKey false key 54) ((s8.pick [4]) : Sat W0 _ (dst false b3 (xorKey false key 54) :: _))
      simp only [ifv] at hcp
      refine hcp.mono ?_
      rintro e w7 ⟨b1, rfl, s9⟩
      clear hcp s8 m6 m6c0 m6c1 m6c2 m6c3 m6f0 m6f1 m6f2 m6f3
      have m7 : Sat W0 w7 (seg true mc 0 [.int .i64 32, .nilIface, ifv false b2, ifv false b3] :: _) := s9.pull 2
      have m7c0 := m7.at 0 rfl
      have m7c1 := m7.at 1 rfl
      have m7c2 := m7.at 2 rfl
      have m7c3 := m7.at 3 rfl
      have m7f0 := m7.fr 0 (by simp)
      have m7f1 := m7.fr 1 (by simp)
      have m7f2 := m7.fr 2 (by simp)
      have m7f3 := m7.fr 3 (by simp)
      go_wp2
      have s10 := m7.store (i := 1) (by simp) (ifv false b1) (q := 1) rfl
      simp only [ifv] at s10
      refine bodyPost_ret (v := .tuple #[.pointer (some ⟨mc, 0, none⟩), .int .i64 0]) (by simp [results, Tryz.results46, go_sem]) rfl ⟨mc, rfl, ?_⟩
      have hbk : blockKey false key = key := if_neg hlong
      have hkn : keyN false key.length = 1 + 1 := if_neg hlong
      rw [hbk, hkn, ← noteN_add]
      have s11 : Sat W0 _ (macP false mc b1 b2 b3 key [] (ledO p (noteN (noteN rs (evK false) (evS false) 1) (evK false) (evS false) 1) :: bytes m sp key :: L)) := ((s10.pick [0, 1, 3, 2, 4, 5]).drop 6).to (by simp [pick, ifv, hsz])
      exact macShut s11
  · skip
    have e54 : v8 54 = 54 := by rfl
    have e92 : v8 92 = 92 := by rfl
    by_cases hlong : 128 < key.length
    · go_enter Tryz.func46, Tryz.ntmps46
      go_wp2_with fail
      refine (dOf true hs).mono ?_
      rintro e w1 ⟨rfl, s1⟩
      simp only [hcells]
      have s2 := s1.alloc (hcells true).toArray 69
      simp only [hcells] at s2
      obtain ⟨bx, hbx⟩ : ∃ bx, bx = w1.heap.size := ⟨_, rfl⟩
      rw [← hbx] at s2
      have hpn : padN true key.length ≤ key.length + 2 := by simp only [padN, bsz, roomN]; omega
      have hc := dWhole (L := seg true bx 0 (hcells true) :: L) (m := m) true p rs key HB.out.1 HB.out.2.1 (by have := HB.out.2.2.1; omega) (by have := HB.out.2.2.2; omega) (s2.pick [1, 2])
      simp only [hcells] at hc
      go_wp2_with fail
      refine hc.mono ?_
      rintro e w2 ⟨q, c, rfl, s3⟩
      clear hc s2 s1
      rw [← hbx]
      clear hbx
      obtain ⟨hl1, hl2, hl3, s3⟩ := rowBytes s3
      have x3 : Sat W0 w2 (seg true bx 0 (hcells true) :: _) := s3.pull 3
      have zx3 := x3.lt (by simp [hcells])
      have x3c0 := x3.at 0 rfl
      have x3c1 := x3.at 1 rfl
      have x3c2 := x3.at 2 rfl
      have x3c3 := x3.at 3 rfl
      have x3c4 := x3.at 4 rfl
      have x3c5 := x3.at 5 rfl
      have x3c6 := x3.at 6 rfl
      simp only [hsz]
      have s4 := Sat.allocAt (s3.pick [3, 1, 0]) #[.int .i64 64, .nilIface, .nilIface, .nilIface] 125 rfl
      obtain ⟨mc, hmc⟩ : ∃ mc, mc = w2.heap.size := ⟨_, rfl⟩
      go_wp2_with fail
      rw [← hmc] at s4 ⊢
      clear hmc x3 x3c0 x3c1 x3c2 x3c3 x3c4 x3c5 x3c6 s3
      have hk1 := keyed (cap := c) true p (noteN rs (evK true) (evS true) (padN true key.length)) (hash true key) 54 (by rw [hash_len]; exact hsz_le true) (by rw [tot_noteN]; have := HB.out.2.2.1; have := hpn; omega) (by have := noteN_len rs (evK true) (evS true) (padN true key.length); have := HB.out.2.2.2; omega) (s4.pick [2, 3])
      rw [e54, hash_len] at hk1
      simp only [hcells, hsz] at hk1
      refine hk1.mono ?_
      rintro e w5 ⟨b3, rfl, s5⟩
      clear hk1 s4
      simp only [ifv]
      have m5 : Sat W0 w5 (seg true mc 0 [.int .i64 64, .nilIface, .nilIface, .nilIface] :: _) := s5.pull 3
      have x5 : Sat W0 w5 (seg true bx 0 (hcells true) :: _) := s5.pull 4
      have hne : mc ≠ bx := Sat.ne' (m5.pick [0, 4] : Sat W0 w5 (seg true mc 0 _ :: seg true bx 0 (hcells true) :: _)) (by simp) (by simp [hcells])
      have hne2 := hne.symm
      have zm5 := m5.lt (by simp)
      have m5c0 := m5.at 0 rfl
      have m5c1 := m5.at 1 rfl
      have m5c2 := m5.at 2 rfl
      have m5c3 := m5.at 3 rfl
      have m5f0 := m5.fr 0 (by simp)
      have m5f1 := m5.fr 1 (by simp)
      have m5f2 := m5.fr 2 (by simp)
      have m5f3 := m5.fr 3 (by simp)
      have x5c0 := x5.at 0 rfl
      have x5c1 := x5.at 1 rfl
      have x5c2 := x5.at 2 rfl
      have x5c3 := x5.at 3 rfl
      have x5c4 := x5.at 4 rfl
      have x5c5 := x5.at 5 rfl
      have x5c6 := x5.at 6 rfl
      go_wp2_with fail
      have s6 := m5.store (i := 3) (by simp) (ifv true b3) (q := 3) rfl
      have hk2 := keyed (cap := c) true p (noteN (noteN rs (evK true) (evS true) (padN true key.length)) (evK true) (evS true) 1) (hash true key) 92 (by rw [hash_len]; exact hsz_le true) (by rw [tot_noteN, tot_noteN]; have := HB.out.2.2.1; have := hpn; omega) (by have := noteN_len (noteN rs (evK true) (evS true) (padN true key.length)) (evK true) (evS true) 1; have := noteN_len rs (evK true) (evS true) (padN true key.length); have := HB.out.2.2.2; omega) (s6.pick [2, 3])
      rw [e92, hash_len] at hk2
      simp only [hcells, ifv, hsz] at hk2
      refine hk2.mono ?_
      rintro e w6 ⟨b2, rfl, s7⟩
      simp only [ifv]
      clear hk2 s6 m5 x5 m5c0 m5c1 m5c2 m5c3 m5f0 m5f1 m5f2 m5f3 x5c0 x5c1 x5c2 x5c3 x5c4 x5c5 x5c6 zm5
      have m6 : Sat W0 w6 (seg true mc 0 [.int .i64 64, .nilIface, .nilIface, ifv true b3] :: _) := s7.pull 3
      have m6c0 := m6.at 0 rfl
      have m6c1 := m6.at 1 rfl
      have m6c2 := m6.at 2 rfl
      have m6c3 := m6.at 3 rfl
      have m6f0 := m6.fr 0 (by simp)
      have m6f1 := m6.fr 1 (by simp)
      have m6f2 := m6.fr 2 (by simp)
      have m6f3 := m6.fr 3 (by simp)
      simp only [ifv] at m6c3
      go_wp2_with fail
      have s8 := m6.store (i := 2) (by simp) (ifv true b2) (q := 2) rfl
      have hcp := dCopy true (b := b3) (xorKey true (hash true key) 54) ((s8.pick [4]) : Sat W0 _ (dst true b3 (xorKey true (hash true key) 54) :: _))
      simp only [ifv] at hcp
      refine hcp.mono ?_
      rintro e w7 ⟨b1, rfl, s9⟩
      clear hcp s8 m6 m6c0 m6c1 m6c2 m6c3 m6f0 m6f1 m6f2 m6f3
      have m7 : Sat W0 w7 (seg true mc 0 [.int .i64 64, .nilIface, ifv true b2, ifv true b3] :: _) := s9.pull 2
      have m7c0 := m7.at 0 rfl
      have m7c1 := m7.at 1 rfl
      have m7c2 := m7.at 2 rfl
      have m7c3 := m7.at 3 rfl
      have m7f0 := m7.fr 0 (by simp)
      have m7f1 := m7.fr 1 (by simp)
      have m7f2 := m7.fr 2 (by simp)
      have m7f3 := m7.fr 3 (by simp)
      go_wp2
      have s10 := m7.store (i := 1) (by simp) (ifv true b1) (q := 1) rfl
      simp only [ifv] at s10
      refine bodyPost_ret (v := .tuple #[.pointer (some ⟨mc, 0, none⟩), .int .i64 0]) (by simp [results, Tryz.results46, go_sem]) rfl ⟨mc, rfl, ?_⟩
      have hbk : blockKey true key = hash true key := if_pos hlong
      have hkn : keyN true key.length = padN true key.length + 1 + 1 := if_pos hlong
      rw [hbk, hkn, ← noteN_add, ← noteN_add]
      have s11 : Sat W0 _ (macP true mc b1 b2 b3 (hash true key) [] (ledO p (noteN (noteN (noteN rs (evK true) (evS true) (padN true key.length)) (evK true) (evS true) 1) (evK true) (evS true) 1) :: bytes m sp key :: L)) := (((s10.pick [0, 1, 3, 2, 4, 7]).drop 6).drop 6).to (by simp [pick, ifv, hsz])
      exact macShut s11
    · go_enter Tryz.func46, Tryz.ntmps46
      go_wp2_with fail
      refine (dOf true hs).mono ?_
      rintro e w1 ⟨rfl, s1⟩
      simp only [hcells]
      have s2 := s1.alloc (hcells true).toArray 69
      simp only [hcells] at s2
      obtain ⟨bx, hbx⟩ : ∃ bx, bx = w1.heap.size := ⟨_, rfl⟩
      rw [← hbx] at s2
      obtain ⟨mc, hmc⟩ : ∃ mc, mc = bx + 1 := ⟨_, rfl⟩
      have s4 := Sat.allocAt s2 #[.int .i64 64, .nilIface, .nilIface, .nilIface] 125 (q := mc) (by rw [hmc, hbx]; simp)
      go_wp2_with fail
      rw [← hbx, ← hmc]
      clear hbx hmc s2 s1
      have hk1 := keyed (cap := cap) true p rs key 54 (by have := hlong; simp [bsz]; omega) (by have := HB.out.2.2.1; omega) (by have := HB.out.2.2.2; omega) (s4.pick [2, 3])
      rw [e54] at hk1
      simp only [hcells] at hk1
      refine hk1.mono ?_
      rintro e w5 ⟨b3, rfl, s5⟩
      clear hk1 s4
      simp only [ifv]
      have m5 : Sat W0 w5 (seg true mc 0 [.int .i64 64, .nilIface, .nilIface, .nilIface] :: _) := s5.pull 3
      have x5 : Sat W0 w5 (seg true bx 0 (hcells true) :: _) := s5.pull 4
      have hne : mc ≠ bx := Sat.ne' (m5.pick [0, 4] : Sat W0 w5 (seg true mc 0 _ :: seg true bx 0 (hcells true) :: _)) (by simp) (by simp [hcells])
      have hne2 := hne.symm
      have zm5 := m5.lt (by simp)
      have m5c0 := m5.at 0 rfl
      have m5c1 := m5.at 1 rfl
      have m5c2 := m5.at 2 rfl
      have m5c3 := m5.at 3 rfl
      have m5f0 := m5.fr 0 (by simp)
      have m5f1 := m5.fr 1 (by simp)
      have m5f2 := m5.fr 2 (by simp)
      have m5f3 := m5.fr 3 (by simp)
      have x5c0 := x5.at 0 rfl
      have x5c1 := x5.at 1 rfl
      have x5c2 := x5.at 2 rfl
      have x5c3 := x5.at 3 rfl
      have x5c4 := x5.at 4 rfl
      have x5c5 := x5.at 5 rfl
      have x5c6 := x5.at 6 rfl
      go_wp2_with fail
      have s6 := m5.store (i := 3) (by simp) (ifv true b3) (q := 3) rfl
      have hk2 := keyed (cap := cap) true p (noteN rs (evK true) (evS true) 1) key 92 (by have := hlong; simp [bsz]; omega) (by rw [tot_noteN]; have := HB.out.2.2.1;  omega) (by have := noteN_len rs (evK true) (evS true) 1; have := HB.out.2.2.2;  omega) (s6.pick [2, 3])
      rw [e92] at hk2
      simp only [hcells, ifv] at hk2
      refine hk2.mono ?_
      rintro e w6 ⟨b2, rfl, s7⟩
      simp only [ifv]
      clear hk2 s6 m5 x5 m5c0 m5c1 m5c2 m5c3 m5f0 m5f1 m5f2 m5f3 x5c0 x5c1 x5c2 x5c3 x5c4 x5c5 x5c6 zm5
      have m6 : Sat W0 w6 (seg true mc 0 [.int .i64 64, .nilIface, .nilIface, ifv true b3] :: _) := s7.pull 3
      have m6c0 := m6.at 0 rfl
      have m6c1 := m6.at 1 rfl
      have m6c2 := m6.at 2 rfl
      have m6c3 := m6.at 3 rfl
      have m6f0 := m6.fr 0 (by simp)
      have m6f1 := m6.fr 1 (by simp)
      have m6f2 := m6.fr 2 (by simp)
      have m6f3 := m6.fr 3 (by simp)
      simp only [ifv] at m6c3
      go_wp2_with fail
      have s8 := m6.store (i := 2) (by simp) (ifv true b2) (q := 2) rfl
      have hcp := dCopy true (b := b3) (xorKey true key 54) ((s8.pick [4]) : Sat W0 _ (dst true b3 (xorKey true key 54) :: _))
      simp only [ifv] at hcp
      refine hcp.mono ?_
      rintro e w7 ⟨b1, rfl, s9⟩
      clear hcp s8 m6 m6c0 m6c1 m6c2 m6c3 m6f0 m6f1 m6f2 m6f3
      have m7 : Sat W0 w7 (seg true mc 0 [.int .i64 64, .nilIface, ifv true b2, ifv true b3] :: _) := s9.pull 2
      have m7c0 := m7.at 0 rfl
      have m7c1 := m7.at 1 rfl
      have m7c2 := m7.at 2 rfl
      have m7c3 := m7.at 3 rfl
      have m7f0 := m7.fr 0 (by simp)
      have m7f1 := m7.fr 1 (by simp)
      have m7f2 := m7.fr 2 (by simp)
      have m7f3 := m7.fr 3 (by simp)
      go_wp2
      have s10 := m7.store (i := 1) (by simp) (ifv true b1) (q := 1) rfl
      simp only [ifv] at s10
      refine bodyPost_ret (v := .tuple #[.pointer (some ⟨mc, 0, none⟩), .int .i64 0]) (by simp [results, Tryz.results46, go_sem]) rfl ⟨mc, rfl, ?_⟩
      have hbk : blockKey true key = key := if_neg hlong
      have hkn : keyN true key.length = 1 + 1 := if_neg hlong
      rw [hbk, hkn, ← noteN_add]
      have s11 : Sat W0 _ (macP true mc b1 b2 b3 key [] (ledO p (noteN (noteN rs (evK true) (evS true) 1) (evK true) (evS true) 1) :: bytes m sp key :: L)) := ((s10.pick [0, 1, 3, 2, 4, 5]).drop 6).to (by simp [pick, ifv, hsz])
      exact macShut s11
end Go.Proofs.YtmohabidfalhoaaGreat
