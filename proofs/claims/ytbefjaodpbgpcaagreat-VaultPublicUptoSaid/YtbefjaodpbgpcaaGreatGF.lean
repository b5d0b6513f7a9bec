/- Hmac, Hmac2, Kit: texts that lie apart elsewhere, as one; each under the conditions that it names. -/
import Derived.Test.YtbefjaodpbgpcaaGreatGE
set_option linter.unusedVariables false
set_option linter.unusedSimpArgs false
set_option maxRecDepth 100000
set_option maxHeartbeats 16000000
namespace Go.Sha
open Go.Bv
def xorKey (wide : Bool) (k : List Byte) (x : Byte) : List Byte := (List.range (bsz wide)).map fun i => k.getD i 0 ^^^ x
def blockKey (wide : Bool) (key : List Byte) : List Byte := if bsz wide < key.length then hash wide key else key
def hmac (wide : Bool) (key msg : List Byte) : List Byte := hash wide (xorKey wide (blockKey wide key) 92 ++ hash wide (xorKey wide (blockKey wide key) 54 ++ msg))
theorem xorKey_len (wide : Bool) (k : List Byte) (x : Byte) : (xorKey wide k x).length = bsz wide := by simp [xorKey]
theorem bsz_pos (wide : Bool) : 0 < bsz wide := by cases wide <;> decide
theorem bsz_le (wide : Bool) : bsz wide ≤ 128 := by cases wide <;> decide
theorem hsz_le (wide : Bool) : hsz wide ≤ bsz wide := by cases wide <;> decide
end Go.Sha
namespace Go.Proofs.YtbefjaodpbgpcaaGreat
open Go.RowKit Go.Sep Go.Bv Go.Sha
def xorPart (wide : Bool) (k : List Byte) (x : Byte) (j : Nat) : List Byte := (List.range (bsz wide)).map fun i => if i < j then k.getD i 0 ^^^ x else k.getD i 0
theorem xorPart_len (wide : Bool) (k : List Byte) (x : Byte) (j : Nat) : (xorPart wide k x j).length = bsz wide := by simp [xorPart]
theorem xorPart_get (wide : Bool) (k : List Byte) (x : Byte) (j : Nat) (h : j < bsz wide) : (xorPart wide k x j).getD j 0 = k.getD j 0 := by simp [xorPart, h]
theorem xorPart_set (wide : Bool) (k : List Byte) (x : Byte) (j : Nat) : (xorPart wide k x j).set j (k.getD j 0 ^^^ x) = xorPart wide k x (j + 1) := by
 apply List.ext_getElem
 ·simp [xorPart]
 ·intro i h1 h2
  simp only [xorPart, List.getElem_set, List.getElem_map, List.getElem_range]
  by_cases e : j = i
  ·subst e; simp
  ·rw [if_neg e]
   by_cases h : i < j
   ·rw [if_pos h, if_pos (by omega)]
   ·rw [if_neg h, if_neg (by omega)]
theorem xorPart_all (wide : Bool) (k : List Byte) (x : Byte) : xorPart wide k x (bsz wide) = xorKey wide k x := by
 unfold xorPart xorKey
 apply List.map_congr_left
 intro i hi
 rw [if_pos (List.mem_range.1 hi)]
theorem xorPart_none (wide : Bool) (k : List Byte) (x : Byte) (hk : k.length ≤ bsz wide) : setL (u8s (List.replicate (bsz wide) 0)) 0 (u8s k) = u8s (xorPart wide k x 0) := by
 apply List.ext_getElem?
 intro i
 rw [getElem?_setL _ _ _ _ (by rw [u8s_len, u8s_len, List.length_replicate]; omega)]
 simp only [u8s, xorPart, List.length_map, List.getElem?_map, Nat.sub_zero, Nat.zero_le, true_and, Nat.zero_add, List.getElem?_replicate]
 by_cases h1 : i < bsz wide
 ·by_cases h2 : i < k.length
  ·simp [h1, h2]
  ·simp [h1, h2]
 ·rw [if_neg (by omega)]
  simp [h1]
theorem keyed {W0 w : World} {L : List Assn} {cap : Nat} {m : Bool} {sp : Option Addr} (wide : Bool) (p : Option Nat) (rs : List Run3) (k : List Byte) (x : Byte) (hk : k.length ≤ bsz wide) (hb : tot rs + 400 ≤ 2305843009213693952) (hl : rs.length + 1 ≤ 1048576)
  (hs : Sat W0 w (ledO p rs :: bytes m sp k :: L)) :
  Calls Tryz.prog 118 #[ptrO p, .agg (hcells wide).toArray, .slice sp k.length cap, .int .u8 (v8 x)] w fun e w' => ∃ b, e = .returned (ifv wide b) ∧ Sat W0 w' (dst wide b (xorKey wide k x) :: ledO p (noteN rs (evK wide) (evS wide) 1) :: bytes m sp k :: L) := by
 obtain ⟨i3, hi3, hz3, hs3, hb3⟩ := info_parts Tryz.info_u8
 have HB := Lib.hid (And.intro hk (And.intro hb hl)); clear hk hb hl
 cases wide
 ·skip
  simp only [hcells]
  have hmin : (u8s k).length = Nat.min k.length 64 := by rw [u8s_len]; exact (Nat.min_eq_left HB.out.1).symm
  have Hm := Lib.hid hmin; clear hmin
  have s0 := hs.alloc (hcells false).toArray 192
  simp only [hcells] at s0
  go_enter Tryz.func118, Tryz.ntmps118
  go_wp2_with (first | (refine wpl_make rfl 25 5 (.tmp 13) (.tmp 13) rfl Tryz.underlying25 hi3 hz3 hs3 hb3 rfl 64 rfl rfl (by decide) (by decide) s0 ?_; intro w1 g s1 _; rw [u8s_zero] at s1; have n1 := bytesNews (s1.pull 3)) | (refine wpl_copy rfl (.tmp 15) (.tmp 16) 25 25 rfl Tryz.underlying25 (by kernel_rfl) s1 0 0 64 64 k.length cap sp (u8s k) rfl rfl rfl Hm.out (by rw [Nat.zero_add, u8s_len, u8s_len, List.length_replicate]; exact HB.out.1) n1 (u8s_one _) ?_; intro w2 s2; clear n1 s1))
  rw [show u8s (List.replicate 64 0) = u8s (List.replicate (bsz false) 0) from rfl, xorPart_none false k x HB.out.1] at s2
  obtain ⟨bx, hbx⟩ : ∃ bx, bx = w.heap.size := ⟨_, rfl⟩
  rw [← hbx] at s2 ⊢
  clear hbx s0 hs
  go_loopw [20] (fun t20 wr => ∃ j : Nat, j ≤ 64 ∧ t20 = .int .i64 j ∧ Sat W0 wr (seg true g 0 (u8s (xorPart false k x j)) :: seg true bx 0 (hcells false) :: ledO p rs :: bytes m sp k :: L)) (fun t20 _ => 64 - (intOf t20).toNat)
  case atStart => exact ⟨0, by omega, rfl, s2⟩
  case round =>
   clear s2
   obtain ⟨j, hj, rfl, s⟩ := hrel
   by_cases hlt : j < 64
   ·have c := s.at j (u8s_get _ j (by rw [xorPart_len]; exact hlt))
    have f := s.fr j (by rw [u8s_len, xorPart_len]; exact hlt)
    rw [xorPart_get _ _ _ _ hlt] at c
    go_wp2
    go_roundw
    case rel =>
     refine ⟨j + 1, by omega, by go_num, ?_⟩
     have st := s.store (i := j) (by rw [u8s_len, xorPart_len]; exact hlt) (.int .u8 (v8 (k.getD j 0 ^^^ x))) (q := j) (by simp)
     rw [u8s_set, xorPart_set, ← vxor8] at st
     exact st
    case measure => simp [intOf]; omega
   ·obtain rfl : j = 64 := by omega
    have hx : xorPart false k x 64 = xorKey false k x := xorPart_all false k x
    rw [hx] at s
    have sb : Sat W0 wr (seg true bx 0 (hcells false) :: _) := s.pull 1
    have c4 := sb.at 4 rfl
    have c5 := sb.at 5 rfl
    go_wp2_with fail
    refine (dNew false s).mono ?_
    rintro e w3 ⟨b, rfl, s3⟩
    simp only [ifv]
    go_wp2_with fail
    have s4 : Sat W0 w3 (seg true g 0 (u8s (xorKey false k x)) :: ledO p rs :: dst false b [] :: bytes m sp k :: L) := (s3.pick [1, 3, 0, 4, 2]).drop 4
    have s5 : Sat W0 w3 (ledO p rs :: bytes true (some ⟨g, 0, none⟩) (xorKey false k x) :: dst false b [] :: bytes m sp k :: L) := (bytesOf s4).pull 1
    have hw := dWrite (cap := 64) false p rs [] (xorKey false k x) (by rw [xorKey_len]; exact Nat.le_refl _) (by unfold maxLen; decide) (by rw [xorKey_len]; have := HB.out.2.1; simp [bsz]; omega) (by have := HB.out.2.2; omega) s5
    rw [xorKey_len] at hw
    refine hw.mono ?_
    rintro e w4 ⟨rfl, s6⟩
    go_wp2
    go_ret
    exact ⟨b, rfl, ((s6.pick [2, 0, 3]).drop 3).to (by simp [pick, bsz])⟩
 ·skip
  simp only [hcells]
  have hmin : (u8s k).length = Nat.min k.length 128 := by rw [u8s_len]; exact (Nat.min_eq_left HB.out.1).symm
  have Hm := Lib.hid hmin; clear hmin
  have s0 := hs.alloc (hcells true).toArray 192
  simp only [hcells] at s0
  go_enter Tryz.func118, Tryz.ntmps118
  go_wp2_with (first | (refine wpl_make rfl 25 5 (.tmp 13) (.tmp 13) rfl Tryz.underlying25 hi3 hz3 hs3 hb3 rfl 128 rfl rfl (by decide) (by decide) s0 ?_; intro w1 g s1 _; rw [u8s_zero] at s1; have n1 := bytesNews (s1.pull 3)) | (refine wpl_copy rfl (.tmp 15) (.tmp 16) 25 25 rfl Tryz.underlying25 (by kernel_rfl) s1 0 0 128 128 k.length cap sp (u8s k) rfl rfl rfl Hm.out (by rw [Nat.zero_add, u8s_len, u8s_len, List.length_replicate]; exact HB.out.1) n1 (u8s_one _) ?_; intro w2 s2; clear n1 s1))
  rw [show u8s (List.replicate 128 0) = u8s (List.replicate (bsz true) 0) from rfl, xorPart_none true k x HB.out.1] at s2
  obtain ⟨bx, hbx⟩ : ∃ bx, bx = w.heap.size := ⟨_, rfl⟩
  rw [← hbx] at s2 ⊢
  clear hbx s0 hs
  go_loopw [20] (fun t20 wr => ∃ j : Nat, j ≤ 128 ∧ t20 = .int .i64 j ∧ Sat W0 wr (seg true g 0 (u8s (xorPart true k x j)) :: seg true bx 0 (hcells true) :: ledO p rs :: bytes m sp k :: L)) (fun t20 _ => 128 - (intOf t20).toNat)
  case atStart => exact ⟨0, by omega, rfl, s2⟩
  case round =>
   clear s2
   obtain ⟨j, hj, rfl, s⟩ := hrel
   by_cases hlt : j < 128
   ·have c := s.at j (u8s_get _ j (by rw [xorPart_len]; exact hlt))
    have f := s.fr j (by rw [u8s_len, xorPart_len]; exact hlt)
    rw [xorPart_get _ _ _ _ hlt] at c
    go_wp2
    go_roundw
    case rel =>
     refine ⟨j + 1, by omega, by go_num, ?_⟩
     have st := s.store (i := j) (by rw [u8s_len, xorPart_len]; exact hlt) (.int .u8 (v8 (k.getD j 0 ^^^ x))) (q := j) (by simp)
     rw [u8s_set, xorPart_set, ← vxor8] at st
     exact st
    case measure => simp [intOf]; omega
   ·obtain rfl : j = 128 := by omega
    have hx : xorPart true k x 128 = xorKey true k x := xorPart_all true k x
    rw [hx] at s
    have sb : Sat W0 wr (seg true bx 0 (hcells true) :: _) := s.pull 1
    have c4 := sb.at 4 rfl
    have c5 := sb.at 5 rfl
    go_wp2_with fail
    refine (dNew true s).mono ?_
    rintro e w3 ⟨b, rfl, s3⟩
    simp only [ifv]
    go_wp2_with fail
    have s4 : Sat W0 w3 (seg true g 0 (u8s (xorKey true k x)) :: ledO p rs :: dst true b [] :: bytes m sp k :: L) := (s3.pick [1, 3, 0, 4, 2]).drop 4
    have s5 : Sat W0 w3 (ledO p rs :: bytes true (some ⟨g, 0, none⟩) (xorKey true k x) :: dst true b [] :: bytes m sp k :: L) := (bytesOf s4).pull 1
    have hw := dWrite (cap := 128) true p rs [] (xorKey true k x) (by rw [xorKey_len]; exact Nat.le_refl _) (by unfold maxLen; decide) (by rw [xorKey_len]; have := HB.out.2.1; simp [bsz]; omega) (by have := HB.out.2.2; omega) s5
    rw [xorKey_len] at hw
    refine hw.mono ?_
    rintro e w4 ⟨rfl, s6⟩
    go_wp2
    go_ret
    exact ⟨b, rfl, ((s6.pick [2, 0, 3]).drop 3).to (by simp [pick, bsz])⟩
def mac (wide : Bool) (c : Nat) (k msg : List Byte) : Assn := fun h => ∃ b : Nat × Nat × Nat, sep (seg true c 0 [.int .i64 (hsz wide : Int), ifv wide b.1, ifv wide b.2.1, ifv wide b.2.2]) (sep (dst wide b.1 (xorKey wide k 54 ++ msg)) (sep (dst wide b.2.1 (xorKey wide k 92)) (dst wide b.2.2 (xorKey wide k 54)))) h
abbrev macP (wide : Bool) (c b1 b2 b3 : Nat) (k msg : List Byte) (L : List Assn) : List Assn :=
 seg true c 0 [.int .i64 (hsz wide : Int), ifv wide b1, ifv wide b2, ifv wide b3] :: dst wide b1 (xorKey wide k 54 ++ msg) :: dst wide b2 (xorKey wide k 92) :: dst wide b3 (xorKey wide k 54) :: L
theorem macOpen {W0 w : World} {L : List Assn} {wide : Bool} {c : Nat} {k msg : List Byte} (h : Sat W0 w (mac wide c k msg :: L)) : ∃ b1 b2 b3, Sat W0 w (macP wide c b1 b2 b3 k msg L) := by
 obtain ⟨b, h⟩ := h.exOpen
 exact ⟨b.1, b.2.1, b.2.2, h.open4⟩
theorem macShut {W0 w : World} {L : List Assn} {wide : Bool} {c b1 b2 b3 : Nat} {k msg : List Byte} (h : Sat W0 w (macP wide c b1 b2 b3 k msg L)) : Sat W0 w (mac wide c k msg :: L) :=
 Sat.exShut (A := fun b : Nat × Nat × Nat => sep (seg true c 0 [.int .i64 (hsz wide : Int), ifv wide b.1, ifv wide b.2.1, ifv wide b.2.2]) (sep (dst wide b.1 (xorKey wide k 54 ++ msg)) (sep (dst wide b.2.1 (xorKey wide k 92)) (dst wide b.2.2 (xorKey wide k 54))))) (b1, b2, b3) h.shut4
def keyN (wide : Bool) (n : Nat) : Nat := if bsz wide < n then padN wide n + 2 else 2
theorem hmacNew {W0 w : World} {L : List Assn} {cap : Nat} {m : Bool} {sp : Option Addr} (wide : Bool) (p : Option Nat) (rs : List Run3) (key : List Byte) (hcap : key.length ≤ cap) (hcm : cap ≤ maxLen) (hb : tot rs + 2 * key.length + 1600 ≤ 2305843009213693952) (hl : rs.length + 4 ≤ 1048576)
  (hs : Sat W0 w (ledO p rs :: bytes m sp key :: L)) :
  Calls Tryz.prog 103 #[ptrO p, .int .u8 (algN wide), .slice sp key.length cap] w fun e w' => ∃ c, e = .returned (.tuple #[.pointer (some ⟨c, 0, none⟩), .int .i64 0]) ∧ Sat W0 w' (mac wide c (blockKey wide key) [] :: ledO p (noteN rs (evK wide) (evS wide) (keyN wide key.length)) :: bytes m sp key :: L) := by
 have HB := Lib.hid (And.intro hcap (And.intro hcm (And.intro hb hl))); clear hcap hcm hb hl
 cases wide
 ·skip
  have e54 : v8 54 = 54 := by rfl
  have e92 : v8 92 = 92 := by rfl
  by_cases hlong : 64 < key.length
  ·go_enter Tryz.func103, Tryz.ntmps103
   go_wp2_with fail
   refine (dOf false hs).mono ?_
   rintro e w1 ⟨rfl, s1⟩
   simp only [hcells]
   have s2 := s1.alloc (hcells false).toArray 192
   simp only [hcells] at s2
   obtain ⟨bx, hbx⟩ : ∃ bx, bx = w1.heap.size := ⟨_, rfl⟩
   rw [← hbx] at s2
   have hpn : padN false key.length ≤ key.length + 2 := by simp only [padN, bsz, roomN]; omega
   have hc := dWhole (L := seg true bx 0 (hcells false) :: L) (m := m) false p rs key HB.out.1 HB.out.2.1 (by have := HB.out.2.2.1; omega) (by have := HB.out.2.2.2; omega) (s2.pick [1, 2])
   simp only [hcells] at hc
   go_wp2_with fail
   refine hc.mono ?_
   rintro e w2 ⟨q, c, rfl, s3⟩
   clear hc s2 s1
   rw [← hbx]
   clear hbx
   obtain ⟨hl1, hl2, hl3, s3⟩ := rowBytes s3
   have x3 : Sat W0 w2 (seg true bx 0 (hcells false) :: _) := s3.pull 3
   have zx3 := x3.lt (by simp [hcells])
   have x3c0 := x3.at 0 rfl
   have x3c1 := x3.at 1 rfl
   have x3c2 := x3.at 2 rfl
   have x3c3 := x3.at 3 rfl
   have x3c4 := x3.at 4 rfl
   have x3c5 := x3.at 5 rfl
   have x3c6 := x3.at 6 rfl
   simp only [hsz]
   have s4 := Sat.allocAt (s3.pick [3, 1, 0]) #[.int .i64 32, .nilIface, .nilIface, .nilIface] 201 rfl
   obtain ⟨mc, hmc⟩ : ∃ mc, mc = w2.heap.size := ⟨_, rfl⟩
   go_wp2_with fail
   rw [← hmc] at s4 ⊢
   clear hmc x3 x3c0 x3c1 x3c2 x3c3 x3c4 x3c5 x3c6 s3
   have hk1 := keyed (cap := c) false p (noteN rs (evK false) (evS false) (padN false key.length)) (hash false key) 54 (by rw [hash_len]; exact hsz_le false) (by rw [tot_noteN]; have := HB.out.2.2.1; have := hpn; omega) (by have := noteN_len rs (evK false) (evS false) (padN false key.length); have := HB.out.2.2.2; omega) (s4.pick [2, 3])
   rw [e54, hash_len] at hk1
   simp only [hcells, hsz] at hk1
   refine hk1.mono ?_
   rintro e w5 ⟨b3, rfl, s5⟩
   clear hk1 s4
   simp only [ifv]
   have m5 : Sat W0 w5 (seg true mc 0 [.int .i64 32, .nilIface, .nilIface, .nilIface] :: _) := s5.pull 3
   have x5 : Sat W0 w5 (seg true bx 0 (hcells false) :: _) := s5.pull 4
   have hne : mc ≠ bx := Sat.ne' (m5.pick [0, 4] : Sat W0 w5 (seg true mc 0 _ :: seg true bx 0 (hcells false) :: _)) (by simp) (by simp [hcells])
   have hne2 := hne.symm
   have zm5 := m5.lt (by simp)
   have m5c0 := m5.at 0 rfl
   have m5c1 := m5.at 1 rfl
   have m5c2 := m5.at 2 rfl
   have m5c3 := m5.at 3 rfl
   have m5f0 := m5.fr 0 (by simp)
   have m5f1 := m5.fr 1 (by simp)
   have m5f2 := m5.fr 2 (by simp)
   have m5f3 := m5.fr 3 (by simp)
   have x5c0 := x5.at 0 rfl
   have x5c1 := x5.at 1 rfl
   have x5c2 := x5.at 2 rfl
   have x5c3 := x5.at 3 rfl
   have x5c4 := x5.at 4 rfl
   have x5c5 := x5.at 5 rfl
   have x5c6 := x5.at 6 rfl
   go_wp2_with fail
   have s6 := m5.store (i := 3) (by simp) (ifv false b3) (q := 3) rfl
   have hk2 := keyed (cap := c) false p (noteN (noteN rs (evK false) (evS false) (padN false key.length)) (evK false) (evS false) 1) (hash false key) 92 (by rw [hash_len]; exact hsz_le false) (by rw [tot_noteN, tot_noteN]; have := HB.out.2.2.1; have := hpn; omega) (by have := noteN_len (noteN rs (evK false) (evS false) (padN false key.length)) (evK false) (evS false) 1; have := noteN_len rs (evK false) (evS false) (padN false key.length); have := HB.out.2.2.2; omega) (s6.pick [2, 3])
   rw [e92, hash_len] at hk2
   simp only [hcells, ifv, hsz] at hk2
   refine hk2.mono ?_
   rintro e w6 ⟨b2, rfl, s7⟩
   simp only [ifv]
   clear hk2 s6 m5 x5 m5c0 m5c1 m5c2 m5c3 m5f0 m5f1 m5f2 m5f3 x5c0 x5c1 x5c2 x5c3 x5c4 x5c5 x5c6 zm5
   have m6 : Sat W0 w6 (seg true mc 0 [.int .i64 32, .nilIface, .nilIface, ifv false b3] :: _) := s7.pull 3
   have m6c0 := m6.at 0 rfl
   have m6c1 := m6.at 1 rfl
   have m6c2 := m6.at 2 rfl
   have m6c3 := m6.at 3 rfl
   have m6f0 := m6.fr 0 (by simp)
   have m6f1 := m6.fr 1 (by simp)
   have m6f2 := m6.fr 2 (by simp)
   have m6f3 := m6.fr 3 (by simp)
   simp only [ifv] at m6c3
   go_wp2_with fail
   have s8 := m6.store (i := 2) (by simp) (ifv false b2) (q := 2) rfl
   have hcp := dCopy false (b := b3) (xorKey false (hash false key) 54) ((s8.pick [4]) : Sat W0 _ (dst false b3 (xorKey false (hash false key) 54) :: _))
   simp only [ifv] at hcp
   refine hcp.mono ?_
   rintro e w7 ⟨b1, rfl, s9⟩
   clear hcp s8 m6 m6c0 m6c1 m6c2 m6c3 m6f0 m6f1 m6f2 m6f3
   have m7 : Sat W0 w7 (seg true mc 0 [.int .i64 32, .nilIface, ifv false b2, ifv false b3] :: _) := s9.pull 2
   have m7c0 := m7.at 0 rfl
   have m7c1 := m7.at 1 rfl
   have m7c2 := m7.at 2 rfl
   have m7c3 := m7.at 3 rfl
   have m7f0 := m7.fr 0 (by simp)
   have m7f1 := m7.fr 1 (by simp)
   have m7f2 := m7.fr 2 (by simp)
   have m7f3 := m7.fr 3 (by simp)
   go_wp2
   have s10 := m7.store (i := 1) (by simp) (ifv false b1) (q := 1) rfl
   simp only [ifv] at s10
   refine bodyPost_ret (v := .tuple #[.pointer (some ⟨mc, 0, none⟩), .int .i64 0]) (by simp [results, Tryz.results103, go_sem]) rfl ⟨mc, rfl, ?_⟩
   have hbk : blockKey false key = hash false key := if_pos hlong
   have hkn : keyN false key.length = padN false key.length + 1 + 1 := if_pos hlong
   rw [hbk, hkn, ← noteN_add, ← noteN_add]
   have s11 : Sat W0 _ (macP false mc b1 b2 b3 (hash false key) [] (ledO p (noteN (noteN (noteN rs (evK false) (evS false) (padN false key.length)) (evK false) (evS false) 1) (evK false) (evS false) 1) :: bytes m sp key :: L)) := (((s10.pick [0, 1, 3, 2, 4, 7]).drop 6).drop 6).to (by simp [pick, ifv, hsz])
   exact macShut s11
  ·go_enter Tryz.func103, Tryz.ntmps103
   go_wp2_with fail
   refine (dOf false hs).mono ?_
   rintro e w1 ⟨rfl, s1⟩
   simp only [hcells]
   have s2 := s1.alloc (hcells false).toArray 192
   simp only [hcells] at s2
   obtain ⟨bx, hbx⟩ : ∃ bx, bx = w1.heap.size := ⟨_, rfl⟩
   rw [← hbx] at s2
   obtain ⟨mc, hmc⟩ : ∃ mc, mc = bx + 1 := ⟨_, rfl⟩
   have s4 := Sat.allocAt s2 #[.int .i64 32, .nilIface, .nilIface, .nilIface] 201 (q := mc) (by rw [hmc, hbx]; simp)
   go_wp2_with fail
   rw [← hbx, ← hmc]
   clear hbx hmc s2 s1
   have hk1 := keyed (cap := cap) false p rs key 54 (by have := hlong; simp [bsz]; omega) (by have := HB.out.2.2.1; omega) (by have := HB.out.2.2.2; omega) (s4.pick [2, 3])
   rw [e54] at hk1
   simp only [hcells] at hk1
   refine hk1.mono ?_
   rintro e w5 ⟨b3, rfl, s5⟩
   clear hk1 s4
   simp only [ifv]
   have m5 : Sat W0 w5 (seg true mc 0 [.int .i64 32, .nilIface, .nilIface, .nilIface] :: _) := s5.pull 3
   have x5 : Sat W0 w5 (seg true bx 0 (hcells false) :: _) := s5.pull 4
   have hne : mc ≠ bx := Sat.ne' (m5.pick [0, 4] : Sat W0 w5 (seg true mc 0 _ :: seg true bx 0 (hcells false) :: _)) (by simp) (by simp [hcells])
   have hne2 := hne.symm
   have zm5 := m5.lt (by simp)
   have m5c0 := m5.at 0 rfl
   have m5c1 := m5.at 1 rfl
   have m5c2 := m5.at 2 rfl
   have m5c3 := m5.at 3 rfl
   have m5f0 := m5.fr 0 (by simp)
   have m5f1 := m5.fr 1 (by simp)
   have m5f2 := m5.fr 2 (by simp)
   have m5f3 := m5.fr 3 (by simp)
   have x5c0 := x5.at 0 rfl
   have x5c1 := x5.at 1 rfl
   have x5c2 := x5.at 2 rfl
   have x5c3 := x5.at 3 rfl
   have x5c4 := x5.at 4 rfl
   have x5c5 := x5.at 5 rfl
   have x5c6 := x5.at 6 rfl
   go_wp2_with fail
   have s6 := m5.store (i := 3) (by simp) (ifv false b3) (q := 3) rfl
   have hk2 := keyed (cap := cap) false p (noteN rs (evK false) (evS false) 1) key 92 (by have := hlong; simp [bsz]; omega) (by rw [tot_noteN]; have := HB.out.2.2.1;  omega) (by have := noteN_len rs (evK false) (evS false) 1; have := HB.out.2.2.2;  omega) (s6.pick [2, 3])
   rw [e92] at hk2
   simp only [hcells, ifv] at hk2
   refine hk2.mono ?_
   rintro e w6 ⟨b2, rfl, s7⟩
   simp only [ifv]
   clear hk2 s6 m5 x5 m5c0 m5c1 m5c2 m5c3 m5f0 m5f1 m5f2 m5f3 x5c0 x5c1 x5c2 x5c3 x5c4 x5c5 x5c6 zm5
   have m6 : Sat W0 w6 (seg true mc 0 [.int .i64 32, .nilIface, .nilIface, ifv false b3] :: _) := s7.pull 3
   have m6c0 := m6.at 0 rfl
   have m6c1 := m6.at 1 rfl
   have m6c2 := m6.at 2 rfl
   have m6c3 := m6.at 3 rfl
   have m6f0 := m6.fr 0 (by simp)
   have m6f1 := m6.fr 1 (by simp)
   have m6f2 := m6.fr 2 (by simp)
   have m6f3 := m6.fr 3 (by simp)
   simp only [ifv] at m6c3
   go_wp2_with fail
   have s8 := m6.store (i := 2) (by simp) (ifv false b2) (q := 2) rfl
   have hcp := dCopy false (b := b3) (xorKey false key 54) ((s8.pick [4]) : Sat W0 _ (dst false b3 (xorKey false key 54) :: _))
   simp only [ifv] at hcp
   refine hcp.mono ?_
   rintro e w7 ⟨b1, rfl, s9⟩
   clear hcp s8 m6 m6c0 m6c1 m6c2 m6c3 m6f0 m6f1 m6f2 m6f3
   have m7 : Sat W0 w7 (seg true mc 0 [.int .i64 32, .nilIface, ifv false b2, ifv false b3] :: _) := s9.pull 2
   have m7c0 := m7.at 0 rfl
   have m7c1 := m7.at 1 rfl
   have m7c2 := m7.at 2 rfl
   have m7c3 := m7.at 3 rfl
   have m7f0 := m7.fr 0 (by simp)
   have m7f1 := m7.fr 1 (by simp)
   have m7f2 := m7.fr 2 (by simp)
   have m7f3 := m7.fr 3 (by simp)
   go_wp2
   have s10 := m7.store (i := 1) (by simp) (ifv false b1) (q := 1) rfl
   simp only [ifv] at s10
   refine bodyPost_ret (v := .tuple #[.pointer (some ⟨mc, 0, none⟩), .int .i64 0]) (by simp [results, Tryz.results103, go_sem]) rfl ⟨mc, rfl, ?_⟩
   have hbk : blockKey false key = key := if_neg hlong
   have hkn : keyN false key.length = 1 + 1 := if_neg hlong
   rw [hbk, hkn, ← noteN_add]
   have s11 : Sat W0 _ (macP false mc b1 b2 b3 key [] (ledO p (noteN (noteN rs (evK false) (evS false) 1) (evK false) (evS false) 1) :: bytes m sp key :: L)) := ((s10.pick [0, 1, 3, 2, 4, 5]).drop 6).to (by simp [pick, ifv, hsz])
   exact macShut s11
 ·skip
  have e54 : v8 54 = 54 := by rfl
  have e92 : v8 92 = 92 := by rfl
  by_cases hlong : 128 < key.length
  ·go_enter Tryz.func103, Tryz.ntmps103
   go_wp2_with fail
   refine (dOf true hs).mono ?_
   rintro e w1 ⟨rfl, s1⟩
   simp only [hcells]
   have s2 := s1.alloc (hcells true).toArray 192
   simp only [hcells] at s2
   obtain ⟨bx, hbx⟩ : ∃ bx, bx = w1.heap.size := ⟨_, rfl⟩
   rw [← hbx] at s2
   have hpn : padN true key.length ≤ key.length + 2 := by simp only [padN, bsz, roomN]; omega
   have hc := dWhole (L := seg true bx 0 (hcells true) :: L) (m := m) true p rs key HB.out.1 HB.out.2.1 (by have := HB.out.2.2.1; omega) (by have := HB.out.2.2.2; omega) (s2.pick [1, 2])
   simp only [hcells] at hc
   go_wp2_with fail
   refine hc.mono ?_
   rintro e w2 ⟨q, c, rfl, s3⟩
   clear hc s2 s1
   rw [← hbx]
   clear hbx
   obtain ⟨hl1, hl2, hl3, s3⟩ := rowBytes s3
   have x3 : Sat W0 w2 (seg true bx 0 (hcells true) :: _) := s3.pull 3
   have zx3 := x3.lt (by simp [hcells])
   have x3c0 := x3.at 0 rfl
   have x3c1 := x3.at 1 rfl
   have x3c2 := x3.at 2 rfl
   have x3c3 := x3.at 3 rfl
   have x3c4 := x3.at 4 rfl
   have x3c5 := x3.at 5 rfl
   have x3c6 := x3.at 6 rfl
   simp only [hsz]
   have s4 := Sat.allocAt (s3.pick [3, 1, 0]) #[.int .i64 64, .nilIface, .nilIface, .nilIface] 201 rfl
   obtain ⟨mc, hmc⟩ : ∃ mc, mc = w2.heap.size := ⟨_, rfl⟩
   go_wp2_with fail
   rw [← hmc] at s4 ⊢
   clear hmc x3 x3c0 x3c1 x3c2 x3c3 x3c4 x3c5 x3c6 s3
   have hk1 := keyed (cap := c) true p (noteN rs (evK true) (evS true) (padN true key.length)) (hash true key) 54 (by rw [hash_len]; exact hsz_le true) (by rw [tot_noteN]; have := HB.out.2.2.1; have := hpn; omega) (by have := noteN_len rs (evK true) (evS true) (padN true key.length); have := HB.out.2.2.2; omega) (s4.pick [2, 3])
   rw [e54, hash_len] at hk1
   simp only [hcells, hsz] at hk1
   refine hk1.mono ?_
   rintro e w5 ⟨b3, rfl, s5⟩
   clear hk1 s4
   simp only [ifv]
   have m5 : Sat W0 w5 (seg true mc 0 [.int .i64 64, .nilIface, .nilIface, .nilIface] :: _) := s5.pull 3
   have x5 : Sat W0 w5 (seg true bx 0 (hcells true) :: _) := s5.pull 4
   have hne : mc ≠ bx := Sat.ne' (m5.pick [0, 4] : Sat W0 w5 (seg true mc 0 _ :: seg true bx 0 (hcells true) :: _)) (by simp) (by simp [hcells])
   have hne2 := hne.symm
   have zm5 := m5.lt (by simp)
   have m5c0 := m5.at 0 rfl
   have m5c1 := m5.at 1 rfl
   have m5c2 := m5.at 2 rfl
   have m5c3 := m5.at 3 rfl
   have m5f0 := m5.fr 0 (by simp)
   have m5f1 := m5.fr 1 (by simp)
   have m5f2 := m5.fr 2 (by simp)
   have m5f3 := m5.fr 3 (by simp)
   have x5c0 := x5.at 0 rfl
   have x5c1 := x5.at 1 rfl
   have x5c2 := x5.at 2 rfl
   have x5c3 := x5.at 3 rfl
   have x5c4 := x5.at 4 rfl
   have x5c5 := x5.at 5 rfl
   have x5c6 := x5.at 6 rfl
   go_wp2_with fail
   have s6 := m5.store (i := 3) (by simp) (ifv true b3) (q := 3) rfl
   have hk2 := keyed (cap := c) true p (noteN (noteN rs (evK true) (evS true) (padN true key.length)) (evK true) (evS true) 1) (hash true key) 92 (by rw [hash_len]; exact hsz_le true) (by rw [tot_noteN, tot_noteN]; have := HB.out.2.2.1; have := hpn; omega) (by have := noteN_len (noteN rs (evK true) (evS true) (padN true key.length)) (evK true) (evS true) 1; have := noteN_len rs (evK true) (evS true) (padN true key.length); have := HB.out.2.2.2; omega) (s6.pick [2, 3])
   rw [e92, hash_len] at hk2
   simp only [hcells, ifv, hsz] at hk2
   refine hk2.mono ?_
   rintro e w6 ⟨b2, rfl, s7⟩
   simp only [ifv]
   clear hk2 s6 m5 x5 m5c0 m5c1 m5c2 m5c3 m5f0 m5f1 m5f2 m5f3 x5c0 x5c1 x5c2 x5c3 x5c4 x5c5 x5c6 zm5
   have m6 : Sat W0 w6 (seg true mc 0 [.int .i64 64, .nilIface, .nilIface, ifv true b3] :: _) := s7.pull 3
   have m6c0 := m6.at 0 rfl
   have m6c1 := m6.at 1 rfl
   have m6c2 := m6.at 2 rfl
   have m6c3 := m6.at 3 rfl
   have m6f0 := m6.fr 0 (by simp)
   have m6f1 := m6.fr 1 (by simp)
   have m6f2 := m6.fr 2 (by simp)
   have m6f3 := m6.fr 3 (by simp)
   simp only [ifv] at m6c3
   go_wp2_with fail
   have s8 := m6.store (i := 2) (by simp) (ifv true b2) (q := 2) rfl
   have hcp := dCopy true (b := b3) (xorKey true (hash true key) 54) ((s8.pick [4]) : Sat W0 _ (dst true b3 (xorKey true (hash true key) 54) :: _))
   simp only [ifv] at hcp
   refine hcp.mono ?_
   rintro e w7 ⟨b1, rfl, s9⟩
   clear hcp s8 m6 m6c0 m6c1 m6c2 m6c3 m6f0 m6f1 m6f2 m6f3
   have m7 : Sat W0 w7 (seg true mc 0 [.int .i64 64, .nilIface, ifv true b2, ifv true b3] :: _) := s9.pull 2
   have m7c0 := m7.at 0 rfl
   have m7c1 := m7.at 1 rfl
   have m7c2 := m7.at 2 rfl
   have m7c3 := m7.at 3 rfl
   have m7f0 := m7.fr 0 (by simp)
   have m7f1 := m7.fr 1 (by simp)
   have m7f2 := m7.fr 2 (by simp)
   have m7f3 := m7.fr 3 (by simp)
   go_wp2
   have s10 := m7.store (i := 1) (by simp) (ifv true b1) (q := 1) rfl
   simp only [ifv] at s10
   refine bodyPost_ret (v := .tuple #[.pointer (some ⟨mc, 0, none⟩), .int .i64 0]) (by simp [results, Tryz.results103, go_sem]) rfl ⟨mc, rfl, ?_⟩
   have hbk : blockKey true key = hash true key := if_pos hlong
   have hkn : keyN true key.length = padN true key.length + 1 + 1 := if_pos hlong
   rw [hbk, hkn, ← noteN_add, ← noteN_add]
   have s11 : Sat W0 _ (macP true mc b1 b2 b3 (hash true key) [] (ledO p (noteN (noteN (noteN rs (evK true) (evS true) (padN true key.length)) (evK true) (evS true) 1) (evK true) (evS true) 1) :: bytes m sp key :: L)) := (((s10.pick [0, 1, 3, 2, 4, 7]).drop 6).drop 6).to (by simp [pick, ifv, hsz])
   exact macShut s11
  ·go_enter Tryz.func103, Tryz.ntmps103
   go_wp2_with fail
   refine (dOf true hs).mono ?_
   rintro e w1 ⟨rfl, s1⟩
   simp only [hcells]
   have s2 := s1.alloc (hcells true).toArray 192
   simp only [hcells] at s2
   obtain ⟨bx, hbx⟩ : ∃ bx, bx = w1.heap.size := ⟨_, rfl⟩
   rw [← hbx] at s2
   obtain ⟨mc, hmc⟩ : ∃ mc, mc = bx + 1 := ⟨_, rfl⟩
   have s4 := Sat.allocAt s2 #[.int .i64 64, .nilIface, .nilIface, .nilIface] 201 (q := mc) (by rw [hmc, hbx]; simp)
   go_wp2_with fail
   rw [← hbx, ← hmc]
   clear hbx hmc s2 s1
   have hk1 := keyed (cap := cap) true p rs key 54 (by have := hlong; simp [bsz]; omega) (by have := HB.out.2.2.1; omega) (by have := HB.out.2.2.2; omega) (s4.pick [2, 3])
   rw [e54] at hk1
   simp only [hcells] at hk1
   refine hk1.mono ?_
   rintro e w5 ⟨b3, rfl, s5⟩
   clear hk1 s4
   simp only [ifv]
   have m5 : Sat W0 w5 (seg true mc 0 [.int .i64 64, .nilIface, .nilIface, .nilIface] :: _) := s5.pull 3
   have x5 : Sat W0 w5 (seg true bx 0 (hcells true) :: _) := s5.pull 4
   have hne : mc ≠ bx := Sat.ne' (m5.pick [0, 4] : Sat W0 w5 (seg true mc 0 _ :: seg true bx 0 (hcells true) :: _)) (by simp) (by simp [hcells])
   have hne2 := hne.symm
   have zm5 := m5.lt (by simp)
   have m5c0 := m5.at 0 rfl
   have m5c1 := m5.at 1 rfl
   have m5c2 := m5.at 2 rfl
   have m5c3 := m5.at 3 rfl
   have m5f0 := m5.fr 0 (by simp)
   have m5f1 := m5.fr 1 (by simp)
   have m5f2 := m5.fr 2 (by simp)
   have m5f3 := m5.fr 3 (by simp)
   have x5c0 := x5.at 0 rfl
   have x5c1 := x5.at 1 rfl
   have x5c2 := x5.at 2 rfl
   have x5c3 := x5.at 3 rfl
   have x5c4 := x5.at 4 rfl
   have x5c5 := x5.at 5 rfl
   have x5c6 := x5.at 6 rfl
   go_wp2_with fail
   have s6 := m5.store (i := 3) (by simp) (ifv true b3) (q := 3) rfl
   have hk2 := keyed (cap := cap) true p (noteN rs (evK true) (evS true) 1) key 92 (by have := hlong; simp [bsz]; omega) (by rw [tot_noteN]; have := HB.out.2.2.1;  omega) (by have := noteN_len rs (evK true) (evS true) 1; have := HB.out.2.2.2;  omega) (s6.pick [2, 3])
   rw [e92] at hk2
   simp only [hcells, ifv] at hk2
   refine hk2.mono ?_
   rintro e w6 ⟨b2, rfl, s7⟩
   simp only [ifv]
   clear hk2 s6 m5 x5 m5c0 m5c1 m5c2 m5c3 m5f0 m5f1 m5f2 m5f3 x5c0 x5c1 x5c2 x5c3 x5c4 x5c5 x5c6 zm5
   have m6 : Sat W0 w6 (seg true mc 0 [.int .i64 64, .nilIface, .nilIface, ifv true b3] :: _) := s7.pull 3
   have m6c0 := m6.at 0 rfl
   have m6c1 := m6.at 1 rfl
   have m6c2 := m6.at 2 rfl
   have m6c3 := m6.at 3 rfl
   have m6f0 := m6.fr 0 (by simp)
   have m6f1 := m6.fr 1 (by simp)
   have m6f2 := m6.fr 2 (by simp)
   have m6f3 := m6.fr 3 (by simp)
   simp only [ifv] at m6c3
   go_wp2_with fail
   have s8 := m6.store (i := 2) (by simp) (ifv true b2) (q := 2) rfl
   have hcp := dCopy true (b := b3) (xorKey true key 54) ((s8.pick [4]) : Sat W0 _ (dst true b3 (xorKey true key 54) :: _))
   simp only [ifv] at hcp
   refine hcp.mono ?_
   rintro e w7 ⟨b1, rfl, s9⟩
   clear hcp s8 m6 m6c0 m6c1 m6c2 m6c3 m6f0 m6f1 m6f2 m6f3
   have m7 : Sat W0 w7 (seg true mc 0 [.int .i64 64, .nilIface, ifv true b2, ifv true b3] :: _) := s9.pull 2
   have m7c0 := m7.at 0 rfl
   have m7c1 := m7.at 1 rfl
   have m7c2 := m7.at 2 rfl
   have m7c3 := m7.at 3 rfl
   have m7f0 := m7.fr 0 (by simp)
   have m7f1 := m7.fr 1 (by simp)
   have m7f2 := m7.fr 2 (by simp)
   have m7f3 := m7.fr 3 (by simp)
   go_wp2
   have s10 := m7.store (i := 1) (by simp) (ifv true b1) (q := 1) rfl
   simp only [ifv] at s10
   refine bodyPost_ret (v := .tuple #[.pointer (some ⟨mc, 0, none⟩), .int .i64 0]) (by simp [results, Tryz.results103, go_sem]) rfl ⟨mc, rfl, ?_⟩
   have hbk : blockKey true key = key := if_neg hlong
   have hkn : keyN true key.length = 1 + 1 := if_neg hlong
   rw [hbk, hkn, ← noteN_add]
   have s11 : Sat W0 _ (macP true mc b1 b2 b3 key [] (ledO p (noteN (noteN rs (evK true) (evS true) 1) (evK true) (evS true) 1) :: bytes m sp key :: L)) := ((s10.pick [0, 1, 3, 2, 4, 5]).drop 6).to (by simp [pick, ifv, hsz])
   exact macShut s11
end Go.Proofs.YtbefjaodpbgpcaaGreat
namespace Go.Proofs.YtbefjaodpbgpcaaGreat
open Go.RowKit Go.Sep Go.Bv Go.Sha
@[go_sem] theorem neq_small (b : Nat) (w : World) : (binOp .neq 199 (.iface 228 (.agg #[.pointer (some ⟨b, 0, none⟩)])) .nilIface).run Tryz.prog w = .ok (.bool true) w := by kernel_rfl
@[go_sem] theorem neq_big (b : Nat) (w : World) : (binOp .neq 199 (.iface 232 (.agg #[.pointer (some ⟨b, 0, none⟩)])) .nilIface).run Tryz.prog w = .ok (.bool true) w := by kernel_rfl
theorem macIs {W0 w : World} {L : List Assn} {c b1 b2 b3 : Nat} (wide : Bool) (hs : Sat W0 w (seg true c 0 [.int .i64 (hsz wide : Int), ifv wide b1, ifv wide b2, ifv wide b3] :: L)) : Calls Tryz.prog 158 #[.pointer (some ⟨c, 0, none⟩)] w fun e w' => e = .returned (.bool true) ∧ w = w' := by
 have c1 := hs.at 1 rfl
 cases wide
 ·skip
  simp only [ifv] at c1
  go_enter Tryz.func158, Tryz.ntmps158
  go_wp2
  go_ret
  exact ⟨rfl, rfl⟩
 ·skip
  simp only [ifv] at c1
  go_enter Tryz.func158, Tryz.ntmps158
  go_wp2
  go_ret
  exact ⟨rfl, rfl⟩
theorem hmacWrite {W0 w : World} {L : List Assn} {c cap : Nat} {m : Bool} {sp : Option Addr} (wide : Bool) (p : Option Nat) (rs : List Run3) (k msg bs : List Byte) (hcap : bs.length ≤ cap) (hcm : cap ≤ maxLen) (hb : tot rs + msg.length + bs.length + 128 ≤ 2305843009213693952) (hl : rs.length ≤ 1048576)
  (hs : Sat W0 w (ledO p rs :: bytes m sp bs :: mac wide c k msg :: L)) :
  Calls Tryz.prog 122 #[.pointer (some ⟨c, 0, none⟩), ptrO p, .slice sp bs.length cap] w fun e w' => e = .returned (.int .i64 0) ∧ Sat W0 w' (ledO p (noteN rs (evK wide) (evS wide) ((msg.length + bs.length) / bsz wide - msg.length / bsz wide)) :: bytes m sp bs :: mac wide c k (msg ++ bs) :: L) := by
 obtain ⟨b1, b2, b3, s1⟩ := macOpen (hs.pick [2] : Sat W0 w (mac wide c k msg :: ledO p rs :: bytes m sp bs :: L))
 have hi := macIs wide s1
 have c1 := s1.at 1 rfl
 have s2 : Sat W0 w (ledO p rs :: bytes m sp bs :: dst wide b1 (xorKey wide k 54 ++ msg) :: seg true c 0 [.int .i64 (hsz wide : Int), ifv wide b1, ifv wide b2, ifv wide b3] :: dst wide b2 (xorKey wide k 92) :: dst wide b3 (xorKey wide k 54) :: L) := s1.pick [4, 5, 1]
 have hw := dWrite wide p rs (xorKey wide k 54 ++ msg) bs hcap hcm (by rw [List.length_append, xorKey_len]; have := bsz_le wide; omega) hl s2
 have he : (((xorKey wide k 54 ++ msg).length + bs.length) / bsz wide - (xorKey wide k 54 ++ msg).length / bsz wide) = ((msg.length + bs.length) / bsz wide - msg.length / bsz wide) := by
  rw [List.length_append, xorKey_len, Nat.add_assoc, Nat.add_div_left _ (bsz_pos wide), Nat.add_div_left _ (bsz_pos wide)]; omega
 rw [he, List.append_assoc] at hw
 clear he hb hcap hcm hl
 have hend : ∀ w', Sat W0 w' (ledO p (noteN rs (evK wide) (evS wide) ((msg.length + bs.length) / bsz wide - msg.length / bsz wide)) :: bytes m sp bs :: dst wide b1 (xorKey wide k 54 ++ (msg ++ bs)) :: seg true c 0 [.int .i64 (hsz wide : Int), ifv wide b1, ifv wide b2, ifv wide b3] :: dst wide b2 (xorKey wide k 92) :: dst wide b3 (xorKey wide k 54) :: L) → Sat W0 w' (ledO p (noteN rs (evK wide) (evS wide) ((msg.length + bs.length) / bsz wide - msg.length / bsz wide)) :: bytes m sp bs :: mac wide c k (msg ++ bs) :: L) := fun w' s =>
  (macShut (s.pick [3, 2, 4, 5] : Sat W0 w' (macP wide c b1 b2 b3 k (msg ++ bs) (ledO p _ :: bytes m sp bs :: L)))).pick [1, 2]
 have HE := Lib.hid hend; clear hend
 cases wide
 ·skip
  simp only [ifv] at c1
  go_enter Tryz.func122, Tryz.ntmps122
  go_wp2_with fail
  refine hi.mono ?_
  rintro e w' ⟨rfl, rfl⟩
  go_wp2_with fail
  refine hw.mono ?_
  rintro e w1 ⟨rfl, s3⟩
  go_wp2
  go_ret
  exact ⟨rfl, HE.out w1 s3⟩
 ·skip
  simp only [ifv] at c1
  go_enter Tryz.func122, Tryz.ntmps122
  go_wp2_with fail
  refine hi.mono ?_
  rintro e w' ⟨rfl, rfl⟩
  go_wp2_with fail
  refine hw.mono ?_
  rintro e w1 ⟨rfl, s3⟩
  go_wp2
  go_ret
  exact ⟨rfl, HE.out w1 s3⟩
def endN (wide : Bool) (n : Nat) : Nat := (padN wide (bsz wide + n) - (bsz wide + n) / bsz wide) + 1
theorem hmacSum {W0 w : World} {L : List Assn} {c : Nat} (wide : Bool) (p : Option Nat) (rs : List Run3) (key msg : List Byte) (hb : tot rs + msg.length + 2000 ≤ 2305843009213693952) (hl : rs.length + 4 ≤ 1048576)
  (hs : Sat W0 w (ledO p rs :: mac wide c (blockKey wide key) msg :: L)) :
  Calls Tryz.prog 123 #[.pointer (some ⟨c, 0, none⟩), ptrO p] w fun e w' => ∃ q cq, e = .returned (.tuple #[.slice q (hsz wide) cq, .int .i64 0]) ∧ Sat W0 w' (row q cq 1 (hsz wide) (u8s (hmac wide key msg)) :: ledO p (noteN rs (evK wide) (evS wide) (endN wide msg.length)) :: mac wide c (blockKey wide key) msg :: L) := by
 obtain ⟨k, hk⟩ : ∃ k, k = blockKey wide key := ⟨_, rfl⟩
 rw [← hk] at hs ⊢
 obtain ⟨b1, b2, b3, s1⟩ := macOpen (hs.pick [1] : Sat W0 w (mac wide c k msg :: ledO p rs :: L))
 have hi := macIs wide s1
 have c1 := s1.at 1 rfl
 have s2 : Sat W0 w (ledO p rs :: dst wide b1 (xorKey wide k 54 ++ msg) :: seg true c 0 [.int .i64 (hsz wide : Int), ifv wide b1, ifv wide b2, ifv wide b3] :: dst wide b2 (xorKey wide k 92) :: dst wide b3 (xorKey wide k 54) :: L) := s1.pick [4, 1]
 have hw := dSum wide p rs (xorKey wide k 54 ++ msg) (by rw [List.length_append, xorKey_len]; have := bsz_le wide; omega) (by omega) s2
 rw [show (xorKey wide k 54 ++ msg).length = bsz wide + msg.length by rw [List.length_append, xorKey_len]] at hw
 obtain ⟨n1, hn1⟩ : ∃ n, n = padN wide (bsz wide + msg.length) - (bsz wide + msg.length) / bsz wide := ⟨_, rfl⟩
 rw [← hn1] at hw
 have hn1b : n1 ≤ 2 := by rw [hn1]; cases wide <;> simp only [padN, bsz, roomN] <;> omega
 have HB := Lib.hid (And.intro hb (And.intro hl (And.intro hn1 (And.intro hk hn1b)))); clear hb hl hn1 hk hn1b
 have hend : ∀ w' q cq, Sat W0 w' (row q cq 1 (hsz wide) (u8s (hash wide (xorKey wide k 92 ++ hash wide (xorKey wide k 54 ++ msg)))) :: ledO p (noteN (noteN rs (evK wide) (evS wide) n1) (evK wide) (evS wide) 1) :: macP wide c b1 b2 b3 k msg L) → Sat W0 w' (row q cq 1 (hsz wide) (u8s (hmac wide key msg)) :: ledO p (noteN rs (evK wide) (evS wide) (endN wide msg.length)) :: mac wide c k msg :: L) := fun w' q cq s => by
  rw [noteN_add] at s
  have e1 : n1 + 1 = endN wide msg.length := by rw [HB.out.2.2.1]; rfl
  have e2 : hash wide (xorKey wide k 92 ++ hash wide (xorKey wide k 54 ++ msg)) = hmac wide key msg := by rw [HB.out.2.2.2.1]; rfl
  rw [e1, e2] at s
  exact (macShut (s.pick [2, 3, 4, 5] : Sat W0 w' (macP wide c b1 b2 b3 k msg (row q cq 1 (hsz wide) (u8s (hmac wide key msg)) :: ledO p _ :: L)))).pick [1, 2]
 have HE := Lib.hid hend; clear hend
 cases wide
 ·skip
  simp only [ifv] at c1
  go_enter Tryz.func123, Tryz.ntmps123
  go_wp2_with fail
  refine hi.mono ?_
  rintro e w' ⟨rfl, rfl⟩
  go_wp2_with fail
  refine hw.mono ?_
  rintro e w1 ⟨q1, c1', rfl, s3⟩
  clear hw c1 s2 s1 hs hi
  obtain ⟨hl1, hl2, hl3, s4⟩ := rowBytes s3
  have m4 : Sat W0 w1 (seg true c 0 [.int .i64 (hsz false : Int), ifv false b1, ifv false b2, ifv false b3] :: _) := s4.pull 3
  have d2 := m4.at 2 rfl
  simp only [ifv] at d2
  have hcp := dCopy false (b := b2) (xorKey false k 92) (s4.pull 4)
  simp only [ifv, hsz] at hcp hl1 hl2 hl3 ⊢
  go_wp2_with fail
  refine hcp.mono ?_
  rintro e w2 ⟨b4, rfl, s5⟩
  clear hcp d2 m4 s4 s3
  have s6 : Sat W0 w2 (ledO p (noteN rs (evK false) (evS false) n1) :: bytes true q1 (hash false (xorKey false k 54 ++ msg)) :: dst false b4 (xorKey false k 92) :: seg true c 0 [.int .i64 (hsz false : Int), ifv false b1, ifv false b2, ifv false b3] :: dst false b1 (xorKey false k 54 ++ msg) :: dst false b2 (xorKey false k 92) :: dst false b3 (xorKey false k 54) :: L) := s5.pick [3, 2, 0, 5, 4, 1, 6]
  have hw2 := dWrite (cap := c1') false p (noteN rs (evK false) (evS false) n1) (xorKey false k 92) (hash false (xorKey false k 54 ++ msg)) (by rw [hl1]; exact hl2) hl3 (by rw [tot_noteN, xorKey_len, hl1]; have := HB.out.1; have := HB.out.2.2.2.2; simp [bsz]; omega) (by have := noteN_len rs (evK false) (evS false) n1; have := HB.out.2.1; omega) s6
  rw [hl1, xorKey_len] at hw2
  go_wp2_with fail
  refine hw2.mono ?_
  rintro e w3 ⟨rfl, s7⟩
  clear hw2 s6 s5
  have e0 : (bsz false + 32) / bsz false - bsz false / bsz false = 0 := by decide
  rw [e0, show ∀ r, noteN r (evK false) (evS false) 0 = r from fun r => rfl] at s7
  have s8 : Sat W0 w3 (ledO p (noteN rs (evK false) (evS false) n1) :: dst false b4 (xorKey false k 92 ++ hash false (xorKey false k 54 ++ msg)) :: seg true c 0 [.int .i64 (hsz false : Int), ifv false b1, ifv false b2, ifv false b3] :: dst false b1 (xorKey false k 54 ++ msg) :: dst false b2 (xorKey false k 92) :: dst false b3 (xorKey false k 54) :: L) := s7.drop 1
  have e5 : (xorKey false k 92 ++ hash false (xorKey false k 54 ++ msg)).length = 64 + 32 := by rw [List.length_append, xorKey_len, hl1]; rfl
  have hs2 := dSum false p (noteN rs (evK false) (evS false) n1) (xorKey false k 92 ++ hash false (xorKey false k 54 ++ msg)) (by rw [tot_noteN, e5]; have := HB.out.1; have := HB.out.2.2.2.2; omega) (by have := noteN_len rs (evK false) (evS false) n1; have := HB.out.2.1; omega) s8
  rw [e5, show padN false (64 + 32) - (64 + 32) / bsz false = 1 by decide] at hs2
  simp only [hsz] at hs2
  go_wp2_with fail
  refine hs2.mono ?_
  rintro e w4 ⟨q2, c2, rfl, s9⟩
  go_wp2
  refine bodyPost_ret (v := .tuple #[.slice q2 32 c2, .int .i64 0]) (by simp [results, Tryz.results123, go_sem]) rfl ⟨q2, c2, rfl, ?_⟩
  exact HE.out w4 q2 c2 (s9.drop 2)
 ·skip
  simp only [ifv] at c1
  go_enter Tryz.func123, Tryz.ntmps123
  go_wp2_with fail
  refine hi.mono ?_
  rintro e w' ⟨rfl, rfl⟩
  go_wp2_with fail
  refine hw.mono ?_
  rintro e w1 ⟨q1, c1', rfl, s3⟩
  clear hw c1 s2 s1 hs hi
  obtain ⟨hl1, hl2, hl3, s4⟩ := rowBytes s3
  have m4 : Sat W0 w1 (seg true c 0 [.int .i64 (hsz true : Int), ifv true b1, ifv true b2, ifv true b3] :: _) := s4.pull 3
  have d2 := m4.at 2 rfl
  simp only [ifv] at d2
  have hcp := dCopy true (b := b2) (xorKey true k 92) (s4.pull 4)
  simp only [ifv, hsz] at hcp hl1 hl2 hl3 ⊢
  go_wp2_with fail
  refine hcp.mono ?_
  rintro e w2 ⟨b4, rfl, s5⟩
  clear hcp d2 m4 s4 s3
  have s6 : Sat W0 w2 (ledO p (noteN rs (evK true) (evS true) n1) :: bytes true q1 (hash true (xorKey true k 54 ++ msg)) :: dst true b4 (xorKey true k 92) :: seg true c 0 [.int .i64 (hsz true : Int), ifv true b1, ifv true b2, ifv true b3] :: dst true b1 (xorKey true k 54 ++ msg) :: dst true b2 (xorKey true k 92) :: dst true b3 (xorKey true k 54) :: L) := s5.pick [3, 2, 0, 5, 4, 1, 6]
  have hw2 := dWrite (cap := c1') true p (noteN rs (evK true) (evS true) n1) (xorKey true k 92) (hash true (xorKey true k 54 ++ msg)) (by rw [hl1]; exact hl2) hl3 (by rw [tot_noteN, xorKey_len, hl1]; have := HB.out.1; have := HB.out.2.2.2.2; simp [bsz]; omega) (by have := noteN_len rs (evK true) (evS true) n1; have := HB.out.2.1; omega) s6
  rw [hl1, xorKey_len] at hw2
  go_wp2_with fail
  refine hw2.mono ?_
  rintro e w3 ⟨rfl, s7⟩
  clear hw2 s6 s5
  have e0 : (bsz true + 64) / bsz true - bsz true / bsz true = 0 := by decide
  rw [e0, show ∀ r, noteN r (evK true) (evS true) 0 = r from fun r => rfl] at s7
  have s8 : Sat W0 w3 (ledO p (noteN rs (evK true) (evS true) n1) :: dst true b4 (xorKey true k 92 ++ hash true (xorKey true k 54 ++ msg)) :: seg true c 0 [.int .i64 (hsz true : Int), ifv true b1, ifv true b2, ifv true b3] :: dst true b1 (xorKey true k 54 ++ msg) :: dst true b2 (xorKey true k 92) :: dst true b3 (xorKey true k 54) :: L) := s7.drop 1
  have e5 : (xorKey true k 92 ++ hash true (xorKey true k 54 ++ msg)).length = 128 + 64 := by rw [List.length_append, xorKey_len, hl1]; rfl
  have hs2 := dSum true p (noteN rs (evK true) (evS true) n1) (xorKey true k 92 ++ hash true (xorKey true k 54 ++ msg)) (by rw [tot_noteN, e5]; have := HB.out.1; have := HB.out.2.2.2.2; omega) (by have := noteN_len rs (evK true) (evS true) n1; have := HB.out.2.1; omega) s8
  rw [e5, show padN true (128 + 64) - (128 + 64) / bsz true = 1 by decide] at hs2
  simp only [hsz] at hs2
  go_wp2_with fail
  refine hs2.mono ?_
  rintro e w4 ⟨q2, c2, rfl, s9⟩
  go_wp2
  refine bodyPost_ret (v := .tuple #[.slice q2 64 c2, .int .i64 0]) (by simp [results, Tryz.results123, go_sem]) rfl ⟨q2, c2, rfl, ?_⟩
  exact HE.out w4 q2 c2 (s9.drop 2)
theorem hmacTag {W0 w : World} {L : List Assn} {cap cap2 : Nat} {m m2 : Bool} {sp sp2 : Option Addr} (wide : Bool) (p : Option Nat) (rs : List Run3) (key bs : List Byte) (hcap : key.length ≤ cap) (hcm : cap ≤ maxLen) (hcap2 : bs.length ≤ cap2) (hcm2 : cap2 ≤ maxLen) (hb : tot rs + 2 * key.length + 2 * bs.length + 4000 ≤ 2305843009213693952) (hl : rs.length + 8 ≤ 1048576)
  (hs : Sat W0 w (ledO p rs :: bytes m sp key :: bytes m2 sp2 bs :: L)) :
  Calls Tryz.prog 116 #[ptrO p, .int .u8 (algN wide), .slice sp key.length cap, .slice sp2 bs.length cap2] w fun e w' => ∃ q cq, e = .returned (.tuple #[.slice q (hsz wide) cq, .int .i64 0]) ∧ Sat W0 w' (row q cq 1 (hsz wide) (u8s (hmac wide key bs)) :: ledO p (noteN rs (evK wide) (evS wide) (keyN wide key.length + bs.length / bsz wide + endN wide bs.length)) :: bytes m sp key :: bytes m2 sp2 bs :: L) := by
 have hk : keyN wide key.length ≤ key.length + 4 := by
  unfold keyN
  by_cases h : bsz wide < key.length
  ·rw [if_pos h]; cases wide <;> simp only [padN, bsz, roomN] <;> omega
  ·rw [if_neg h]; omega
 have hn : bs.length / bsz wide ≤ bs.length := Nat.div_le_self _ _
 have h1 := hmacNew wide p rs key hcap hcm (by omega) (by omega) hs
 have HB := Lib.hid (And.intro hcap (And.intro hcm (And.intro hcap2 (And.intro hcm2 (And.intro hb (And.intro hl (And.intro hk hn))))))); clear hcap hcm hcap2 hcm2 hb hl hk hn
 go_enter Tryz.func116, Tryz.ntmps116
 go_wp2_with fail
 refine h1.mono ?_
 rintro e w1 ⟨c, rfl, s1⟩
 clear h1
 have s2 : Sat W0 w1 (ledO p (noteN rs (evK wide) (evS wide) (keyN wide key.length)) :: bytes m2 sp2 bs :: mac wide c (blockKey wide key) [] :: bytes m sp key :: L) := s1.pick [1, 3, 0]
 have h2 := hmacWrite (cap := cap2) wide p _ (blockKey wide key) [] bs HB.out.2.2.1 HB.out.2.2.2.1 (by rw [tot_noteN]; have := HB.out.2.2.2.2.1; have := HB.out.2.2.2.2.2.2.1; simp; omega) (by have := noteN_len rs (evK wide) (evS wide) (keyN wide key.length); have := HB.out.2.2.2.2.2.1; omega) s2
 simp only [List.length_nil, Nat.zero_add, Nat.zero_div, Nat.sub_zero, List.nil_append, noteN_add] at h2
 go_wp2_with fail
 refine h2.mono ?_
 rintro e w2 ⟨rfl, s3⟩
 clear h2 s2 s1
 have s4 : Sat W0 w2 (ledO p (noteN rs (evK wide) (evS wide) (keyN wide key.length + bs.length / bsz wide)) :: mac wide c (blockKey wide key) bs :: bytes m sp key :: bytes m2 sp2 bs :: L) := s3.pick [0, 2, 3]
 have h3 := hmacSum wide p _ key bs (by rw [tot_noteN]; have := HB.out.2.2.2.2.1; have := HB.out.2.2.2.2.2.2.1; have := HB.out.2.2.2.2.2.2.2; omega) (by have := noteN_len rs (evK wide) (evS wide) (keyN wide key.length + bs.length / bsz wide); have := HB.out.2.2.2.2.2.1; omega) s4
 rw [noteN_add] at h3
 go_wp2_with fail
 refine h3.mono ?_
 rintro e w3 ⟨q, cq, rfl, s5⟩
 go_wp2
 refine bodyPost_ret (v := .tuple #[.slice q (hsz wide) cq, .int .i64 0]) (by simp [results, Tryz.results116, go_sem]) rfl ⟨q, cq, rfl, s5.drop 2⟩
end Go.Proofs.YtbefjaodpbgpcaaGreat
namespace Go.Proofs.YtbefjaodpbgpcaaGreat
open Go.RowKit Go.Sep Go.Bv Go.Sha
def sameB (xs ys : List Byte) : Bool := decide (xs = ys)
theorem sameB_eq {xs ys : List Byte} (h : xs = ys) : sameB xs ys = true := by simp [sameB, h]
theorem sameBytes {W0 w : World} {L : List Assn} {ca cb : Nat} {m1 m2 : Bool} {pa pb : Option Addr} (xs ys : List Byte) (hx : xs.length ≤ maxLen) (hy : ys.length ≤ maxLen) (hs : Sat W0 w (bytes m1 pa xs :: bytes m2 pb ys :: L)) :
  Calls Tryz.prog 32 #[.slice pa xs.length ca, .slice pb ys.length cb] w fun e w' => e = .returned (.bool (sameB xs ys)) ∧ ∃ n, w' = w.drewN n := by
 unfold maxLen at hx hy
 by_cases hl : xs.length = ys.length
 ·obtain ⟨n, hn⟩ : ∃ n, n = xs.length := ⟨_, rfl⟩
  rw [← hl, ← hn]
  have h0 : n ≠ 0 → ∃ ba oa bb ob, pa = some ⟨ba, oa, none⟩ ∧ pb = some ⟨bb, ob, none⟩ ∧ (∀ i v, (u8s xs)[i]? = some v → w.cell? ⟨ba, oa + i, none⟩ = some v) ∧ (∀ i v, (u8s ys)[i]? = some v → w.cell? ⟨bb, ob + i, none⟩ = some v) := by
   intro hne
   obtain ⟨ba, oa, rfl, h1⟩ := bytesCell hs (by rintro rfl; exact hne (by rw [hn]; rfl))
   obtain ⟨bb, ob, rfl, h2⟩ := bytesCell (hs.pull 1 : Sat W0 w (bytes m2 pb ys :: _)) (by rintro rfl; exact hne (by rw [hn, hl]; rfl))
   exact ⟨ba, oa, bb, ob, rfl, rfl, fun i v hv => h1.cell hv, fun i v hv => h2.cell hv⟩
  have HN := Lib.hid (And.intro hn (And.intro hl h0)); clear hn hl h0 hs
  have hnb : n ≤ 9223372036854775807 := by rw [HN.out.1]; exact hx
  clear hx hy
  go_enter Tryz.func32, Tryz.ntmps32
  go_wp2
  go_loopw [5] (fun t5 wr => ∃ i k : Nat, i ≤ n ∧ t5 = .int .i64 (i : Int) ∧ xs.take i = ys.take i ∧ wr = w.drewN k) (fun t5 _ => n - (intOf t5).toNat)
  case atStart => exact ⟨0, 0, Nat.zero_le _, rfl, rfl, rfl⟩
  case round =>
   obtain ⟨i, k, hi, rfl, htk, rfl⟩ := hrel
   by_cases hlt : i < n
   ·obtain ⟨ba, oa, bb, ob, rfl, rfl, h1, h2⟩ := HN.out.2.2 (by omega)
    have hix : i < xs.length := by rw [← HN.out.1]; exact hlt
    have hiy : i < ys.length := by rw [← HN.out.2.1]; exact hix
    have c1 := h1 i _ (u8s_get xs i hix)
    have c2 := h2 i _ (u8s_get ys i hiy)
    obtain ⟨x, hxx⟩ : ∃ x, x = xs.getD i 0 := ⟨_, rfl⟩
    obtain ⟨y, hyy⟩ : ∃ y, y = ys.getD i 0 := ⟨_, rfl⟩
    rw [← hxx] at c1
    rw [← hyy] at c2
    have HX := Lib.hid (And.intro hxx (And.intro hyy (And.intro htk (And.intro hix hiy)))); clear hxx hyy htk h1 h2 hix hiy
    by_cases hxy : x = y
    ·subst hxy
     go_wp2_with fail
     go_quiet (fail)
     go_wp2
     go_roundw
     case rel =>
      obtain ⟨hxx, hyy, htk, hix, hiy⟩ := HX.out
      refine ⟨i + 1, _, by omega, by go_num, ?_, rfl⟩
      rw [List.take_succ_eq_append_getElem hix, List.take_succ_eq_append_getElem hiy, htk]
      congr 2
      simp [List.getD_eq_getElem?_getD, hix, hiy] at hxx hyy
      rw [← hxx, ← hyy]
     case measure => simp [intOf]; omega
    ·have hv : (v8 x != v8 y) = true := by
      rw [bne_iff_ne]; exact fun h => hxy (v8_inj h)
     have hfin : sameB xs ys = false := by
      unfold sameB
      rw [decide_eq_false_iff_not]
      rintro rfl
      exact hxy (by rw [HX.out.1, HX.out.2.1])
     have Hf := Lib.hid hfin; clear hfin
     go_wp2_with fail
     go_quiet (fail)
     go_wp2
     go_ret
     exact ⟨by rw [Hf.out]; rfl, k + nq, by rw [World.drewN_drewN]⟩
   ·obtain rfl : i = n := by omega
    have hfin : sameB xs ys = true := sameB_eq (by
     have := htk
     rw [List.take_of_length_le (by rw [← HN.out.1]; exact Nat.le_refl _), List.take_of_length_le (by rw [← HN.out.2.1, ← HN.out.1]; exact Nat.le_refl _)] at this
     exact this)
    have Hf := Lib.hid hfin; clear hfin htk
    go_wp2
    go_ret
    exact ⟨by rw [Hf.out]; rfl, _, rfl⟩
 ·have hv : ((xs.length : Int) != (ys.length : Int)) = true := by rw [bne_iff_ne]; omega
  have hfin : sameB xs ys = false := by
   unfold sameB
   rw [decide_eq_false_iff_not]
   rintro rfl
   exact hl rfl
  have Hf := Lib.hid hfin; clear hfin hl hs
  go_enter Tryz.func32, Tryz.ntmps32
  go_wp2
  go_ret
  exact ⟨by rw [Hf.out]; rfl, 0, rfl⟩
end Go.Proofs.YtbefjaodpbgpcaaGreat
