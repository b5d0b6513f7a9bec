
/- Layer 12's program: what a mac is asked; under the conditions that each names. -/
import Derived.Test.YtmohabidfalhoaaGreatHmac
namespace Go.Proofs.YtmohabidfalhoaaGreat
open Go.RowKit Go.Sep Go.Bv Go.Sha
set_option linter.unusedVariables false
set_option linter.unusedSimpArgs false
@[go_sem] theorem neq_small (b : Nat) (w : World) : (binOp .neq 31 (.iface 104 (.agg #[.pointer (some ⟨b, 0, none⟩)])) .nilIface).run Tryz.prog w = .ok (.bool true) w := by kernel_rfl
@[go_sem] theorem neq_big (b : Nat) (w : World) : (binOp .neq 31 (.iface 108 (.agg #[.pointer (some ⟨b, 0, none⟩)])) .nilIface).run Tryz.prog w = .ok (.bool true) w := by kernel_rfl
set_option maxHeartbeats 1000000 in
theorem macIs {W0 w : World} {L : List Assn} {c b1 b2 b3 : Nat} (wide : Bool) (hs : Sat W0 w (seg true c 0 [.int .i64 (hsz wide : Int), ifv wide b1, ifv wide b2, ifv wide b3] :: L)) : Calls Tryz.prog 116 #[.pointer (some ⟨c, 0, none⟩)] w fun e w' => e = .returned (.bool true) ∧ w = w' := by
  have c1 := hs.at 1 rfl
  cases wide
  · skip
    simp only [ifv] at c1
    go_enter Tryz.func116, Tryz.ntmps116
    go_wp2
    go_ret
    exact ⟨rfl, rfl⟩
  · skip
    simp only [ifv] at c1
    go_enter Tryz.func116, Tryz.ntmps116
    go_wp2
    go_ret
    exact ⟨rfl, rfl⟩
set_option maxRecDepth 100000 in
set_option maxHeartbeats 1000000 in
theorem hmacWrite {W0 w : World} {L : List Assn} {c cap : Nat} {m : Bool} {sp : Option Addr} (wide : Bool) (p : Option Nat) (rs : List Run3) (k msg bs : List Byte) (hcap : bs.length ≤ cap) (hcm : cap ≤ maxLen) (hb : tot rs + msg.length + bs.length + 128 ≤ 2305843009213693952) (hl : rs.length ≤ 1048576)
    (hs : Sat W0 w (ledO p rs :: bytes m sp bs :: mac wide c k msg :: L)) :
    Calls Tryz.prog 98 #[.pointer (some ⟨c, 0, none⟩), ptrO p, .slice sp bs.length cap] w fun e w' => e = .returned (.int .i64 0) ∧ Sat W0 w' (ledO p (noteN rs (evK wide) (evS wide) ((msg.length + bs.length) / bsz wide - msg.length / bsz wide)) :: bytes m sp bs :: mac wide c k (msg ++ bs) :: L) := by
  obtain ⟨b1, b2, b3, s1⟩ := macOpen (hs.pick [2] : Sat W0 w (mac wide c k msg :: ledO p rs :: bytes m sp bs :: L))
  have hi := macIs wide s1
  have c1 := s1.at 1 rfl
  have s2 : Sat W0 w (ledO p rs :: bytes m sp bs :: dst wide b1 (xorKey wide k 54 ++ msg) :: seg true c 0 [.int .i64 (hsz wide : Int), ifv wide b1, ifv wide b2, ifv wide b3] :: dst wide b2 (xorKey wide k 92) :: dst wide b3 (xorKey wide k 54) :: L) := s1.pick [4, 5, 1]
  have hw := dWrite wide p rs (xorKey wide k 54 ++ msg) bs hcap hcm (by rw [List.length_append, xorKey_len]; have := bsz_le wide; omega) hl s2
  have he : (((xorKey wide k 54 ++ msg).length + bs.length) / bsz wide - (xorKey wide k 54 ++ msg).length / bsz wide) = ((msg.length + bs.length) / bsz wide - msg.length / bsz wide) := by
    rw [List.length_append, xorKey_len, Nat.add_assoc, Nat.add_div_left _ (bsz_pos wide), Nat.add_div_left _ (bsz_pos wide)]; omega
  rw [he, List.append_assoc] at hw
  clear he hb hcap hcm hl
  have hend : ∀ w', Sat W0 w' (ledO p (noteN rs (evK wide) (evS wide) ((msg.length + bs.length) / bsz wide - msg.length / bsz wide)) :: bytes m sp bs :: dst wide b1 (xorKey wide k 54 ++ (msg ++ bs)) :: seg true c 0 [.int .i64 (hsz wide : Int), ifv wide b1, ifv wide b2, ifv wide b3] :: dst wide b2 (xorKey wide k 92) :: dst wide b3 (xorKey wide k 54) :: L) → Sat W0 w' (ledO p (noteN rs (evK wide) (evS wide) ((msg.length + bs.length) / bsz wide - msg.length / bsz wide)) :: bytes m sp bs :: mac wide c k (msg ++ bs) :: L) := fun w' s =>
    (macShut (s.pick [3, 2, 4, 5] : Sat W0 w' (macP wide c b1 b2 b3 k (msg ++ bs) (ledO p _ :: bytes m sp bs :: L)))).pick [1, 2]
  have HE := Lib.hid hend; clear hend
  cases wide
  · skip
    simp only [ifv] at c1
    go_enter Tryz.func98, Tryz.ntmps98
    go_wp2_with fail
    refine hi.mono ?_
    rintro e w' ⟨rfl, rfl⟩
    go_wp2_with fail
    refine hw.mono ?_
    rintro e w1 ⟨rfl, s3⟩
    go_wp2
    go_ret
    exact ⟨rfl, HE.out w1 s3⟩
  · skip
    simp only [ifv] at c1
    go_enter Tryz.func98, Tryz.ntmps98
    go_wp2_with fail
    refine hi.mono ?_
    rintro e w' ⟨rfl, rfl⟩
    go_wp2_with fail
    refine hw.mono ?_
    rintro e w1 ⟨rfl, s3⟩
    go_wp2
    go_ret
    exact ⟨rfl, HE.out w1 s3⟩
/-- How many blocks Sum works on, behind a message of n bytes. -/
def endN (wide : Bool) (n : Nat) : Nat := (padN wide (bsz wide + n) - (bsz wide + n) / bsz wide) + 1
set_option maxRecDepth 100000 in
set_option maxHeartbeats 2000000 in
theorem hmacSum {W0 w : World} {L : List Assn} {c : Nat} (wide : Bool) (p : Option Nat) (rs : List Run3) (key msg : List Byte) (hb : tot rs + msg.length + 2000 ≤ 2305843009213693952) (hl : rs.length + 4 ≤ 1048576)
    (hs : Sat W0 w (ledO p rs :: mac wide c (blockKey wide key) msg :: L)) :
    Calls Tryz.prog 99 #[.pointer (some ⟨c, 0, none⟩), ptrO p] w fun e w' => ∃ q cq, e = .returned (.tuple #[.slice q (hsz wide) cq, .int .i64 0]) ∧ Sat W0 w' (row q cq 1 (hsz wide) (u8s (hmac wide key msg)) :: ledO p (noteN rs (evK wide) (evS wide) (endN wide msg.length)) :: mac wide c (blockKey wide key) msg :: L) := by
  obtain ⟨k, hk⟩ : ∃ k, k = blockKey wide key := ⟨_, rfl⟩
  rw [← hk] at hs ⊢
  obtain ⟨b1, b2, b3, s1⟩ := macOpen (hs.pick [1] : Sat W0 w (mac wide c k msg :: ledO p rs :: L))
  have hi := macIs wide s1
  have c1 := s1.at 1 rfl
  have s2 : Sat W0 w (ledO p rs :: dst wide b1 (xorKey wide k 54 ++ msg) :: seg true c 0 [.int .i64 (hsz wide : Int), ifv wide b1, ifv wide b2, ifv wide b3] :: dst wide b2 (xorKey wide k 92) :: dst wide b3 (xorKey wide k 54) :: L) := s1.pick [4, 1]
  have hw := dSum wide p rs (xorKey wide k 54 ++ msg) (by rw [List.length_append, xorKey_len]; have := bsz_le wide; omega) (by omega) s2
  rw [show (xorKey wide k 54 ++ msg).length = bsz wide + msg.length by rw [List.length_append, xorKey_len]] at hw
  obtain ⟨n1, hn1⟩ : ∃ n, n = padN wide (bsz wide + msg.length) - (bsz wide + msg.length) / bsz wide := ⟨_, rfl⟩
  rw [← hn1] at hw
  have hn1b : n1 ≤ 2 := by rw [hn1]; cases wide <;> simp only [padN, bsz, roomN] <;> omega
  have HB := Lib.hid (And.intro hb (And.intro hl (And.intro hn1 (And.intro hk hn1b)))); clear hb hl hn1 hk hn1b
  have hend : ∀ w' q cq, Sat W0 w' (row q cq 1 (hsz wide) (u8s (hash wide (xorKey wide k 92 ++ hash wide (xorKey wide k 54 ++ msg)))) :: ledO p (noteN (noteN rs (evK wide) (evS wide) n1) (evK wide) (evS wide) 1) :: macP wide c b1 b2 b3 k msg L) → Sat W0 w' (row q cq 1 (hsz wide) (u8s (hmac wide key msg)) :: ledO p (noteN rs (evK wide) (evS wide) (endN wide msg.length)) :: mac wide c k msg :: L) := fun w' q cq s => by
    rw [noteN_add] at s
    have e1 : n1 + 1 = endN wide msg.length := by rw [HB.out.2.2.1]; rfl
    have e2 : hash wide (xorKey wide k 92 ++ hash wide (xorKey wide k 54 ++ msg)) = hmac wide key msg := by rw [HB.out.2.2.2.1]; rfl
    rw [e1, e2] at s
    exact (macShut (s.pick [2, 3, 4, 5] : Sat W0 w' (macP wide c b1 b2 b3 k msg (row q cq 1 (hsz wide) (u8s (hmac wide key msg)) :: ledO p _ :: L)))).pick [1, 2]
  have HE := Lib.hid hend; clear hend
  cases wide
  · skip
    simp only [ifv] at c1
    go_enter Tryz.func99, Tryz.ntmps99
    go_wp2_with fail
    refine hi.mono ?_
    rintro e w' ⟨rfl, rfl⟩
    go_wp2_with fail
    refine hw.mono ?_
    rintro e w1 ⟨q1, c1', rfl, s3⟩
    clear hw c1 s2 s1 hs hi
    obtain ⟨hl1, hl2, hl3, s4⟩ := rowBytes s3
    have m4 : Sat W0 w1 (seg true c 0 [.int .i64 (hsz false : Int), ifv false b1, ifv false b2, ifv false b3] :: _) := s4.pull 3
    have d2 := m4.at 2 rfl
    simp only [ifv] at d2
    have hcp := dCopy false (b := b2) (xorKey false k 92) (s4.pull 4)
    simp only [ifv, hsz] at hcp hl1 hl2 hl3 ⊢
    go_wp2_with fail
    refine hcp.mono ?_
    rintro e w2 ⟨b4, rfl, s5⟩
    clear hcp d2 m4 s4 s3
    have s6 : Sat W0 w2 (ledO p (noteN rs (evK false) (evS false) n1) :: bytes true q1 (hash false (xorKey false k 54 ++ msg)) :: dst false b4 (xorKey false k 92) :: seg true c 0 [.int .i64 (hsz false : Int), ifv false b1, ifv false b2, ifv false b3] :: dst false b1 (xorKey false k 54 ++ msg) :: dst false b2 (xorKey false k 92) :: dst false b3 (xorKey false k 54) :: L) := s5.pick [3, 2, 0, 5, 4, 1, 6]
    have hw2 := dWrite (cap := c1') false p (noteN rs (evK false) (evS false) n1) (xorKey false k 92) (hash false (xorKey false k 54 ++ msg)) (by rw [hl1]; exact hl2) hl3 (by rw [tot_noteN, xorKey_len, hl1]; have := HB.out.1; have := HB.out.2.2.2.2; simp [bsz]; omega) (by have := noteN_len rs (evK false) (evS false) n1; have := HB.out.2.1; omega) s6
    rw [hl1, xorKey_len] at hw2
    go_wp2_with fail
    refine hw2.mono ?_
    rintro e w3 ⟨rfl, s7⟩
    clear hw2 s6 s5
    have e0 : (bsz false + 32) / bsz false - bsz false / bsz false = 0 := by decide
    rw [e0, show ∀ r, noteN r (evK false) (evS false) 0 = r from fun r => rfl] at s7
    have s8 : Sat W0 w3 (ledO p (noteN rs (evK false) (evS false) n1) :: dst false b4 (xorKey false k 92 ++ hash false (xorKey false k 54 ++ msg)) :: seg true c 0 [.int .i64 (hsz false : Int), ifv false b1, ifv false b2, ifv false b3] :: dst false b1 (xorKey false k 54 ++ msg) :: dst false b2 (xorKey false k 92) :: dst false b3 (xorKey false k 54) :: L) := s7.drop 1
    have e5 : (xorKey false k 92 ++ hash false (xorKey false k 54 ++ msg)).length = 64 + 32 := by rw [List.length_append, xorKey_len, hl1]; rfl
    have hs2 := dSum false p (noteN rs (evK false) (evS false) n1) (xorKey false k 92 ++ hash false (xorKey false k 54 ++ msg)) (by rw [tot_noteN, e5]; have := HB.out.1; have := HB.out.2.2.2.2; omega) (by have := noteN_len rs (evK false) (evS false) n1; have := HB.out.2.1; omega) s8
    rw [e5, show padN false (64 + 32) - (64 + 32) / bsz false = 1 by decide] at hs2
    simp only [hsz] at hs2
    go_wp2_with fail
    refine hs2.mono ?_
    rintro e w4 ⟨q2, c2, rfl, s9⟩
    go_wp2
    refine bodyPost_ret (v := .tuple #[.slice q2 32 c2, .int .i64 0]) (by simp [results, Tryz.results99, go_sem]) rfl ⟨q2, c2, rfl, ?_⟩
    exact HE.out w4 q2 c2 (s9.drop 2)
  · skip
    simp only [ifv] at c1
    go_enter Tryz.func99, Tryz.ntmps99
    go_wp2_with fail
    refine hi.mono ?_
    rintro e w' ⟨rfl, rfl⟩
    go_wp2_with fail
    refine hw.mono ?_
    rintro e w1 ⟨q1, c1', rfl, s3⟩
    clear hw c1 s2 s1 hs hi
    obtain ⟨hl1, hl2, hl3, s4⟩ := rowBytes s3
    have m4 : Sat W0 w1 (seg true c 0 [.int .i64 (hsz true : Int), ifv true b1, ifv true b2, ifv true b3] :: _) := s4.pull 3
    have d2 := m4.at 2 rfl
    simp only [ifv] at d2
    have hcp := dCopy true (b := b2) (xorKey true k 92) (s4.pull 4)
    simp only [ifv, hsz] at hcp hl1 hl2 hl3 ⊢
    go_wp2_with fail
    refine hcp.mono ?_
    rintro e w2 ⟨b4, rfl, s5⟩
    clear hcp d2 m4 s4 s3
    have s6 : Sat W0 w2 (ledO p (noteN rs (evK true) (evS true) n1) :: bytes true q1 (hash true (xorKey true k 54 ++ msg)) :: dst true b4 (xorKey true k 92) :: seg true c 0 [.int .i64 (hsz true : Int), ifv true b1, ifv true b2, ifv true b3] :: dst true b1 (xorKey true k 54 ++ msg) :: dst true b2 (xorKey true k 92) :: dst true b3 (xorKey true k 54) :: L) := s5.pick [3, 2, 0, 5, 4, 1, 6]
    have hw2 := dWrite (cap := c1') true p (noteN rs (evK true) (evS true) n1) (xorKey true k 92) (hash true (xorKey true k 54 ++ msg)) (by rw [hl1]; exact hl2) hl3 (by rw [tot_noteN, xorKey_len, hl1]; have := HB.out.1; have := HB.out.2.2.2.2; simp [bsz]; omega) (by have := noteN_len rs (evK true) (evS true) n1; have := HB.out.2.1; omega) s6
    rw [hl1, xorKey_len] at hw2
    go_wp2_with fail
    refine hw2.mono ?_
    rintro e w3 ⟨rfl, s7⟩
    clear hw2 s6 s5
    have e0 : (bsz true + 64) / bsz true - bsz true / bsz true = 0 := by decide
    rw [e0, show ∀ r, noteN r (evK true) (evS true) 0 = r from fun r => rfl] at s7
    have s8 : Sat W0 w3 (ledO p (noteN rs (evK true) (evS true) n1) :: dst true b4 (xorKey true k 92 ++ hash true (xorKey true k 54 ++ msg)) :: seg true c 0 [.int .i64 (hsz true : Int), ifv true b1, ifv true b2, ifv true b3] :: dst true b1 (xorKey true k 54 ++ msg) :: dst true b2 (xorKey true k 92) :: dst true b3 (xorKey true k 54) :: L) := s7.drop 1
    have e5 : (xorKey true k 92 ++ hash true (xorKey true k 54 ++ msg)).length = 128 + 64 := by rw [List.length_append, xorKey_len, hl1]; rfl
    have hs2 := dSum true p (noteN rs (evK true) (evS true) n1) (xorKey true k 92 ++ hash true (xorKey true k 54 ++ msg)) (by rw [tot_noteN, e5]; have := HB.out.1; have := HB.out.2.2.2.2; omega) (by have := noteN_len rs (evK true) (evS true) n1; have := HB.out.2.1; omega) s8
    rw [e5, show padN true (128 + 64) - (128 + 64) / bsz true = 1 by decide] at hs2
    simp only [hsz] at hs2
    go_wp2_with fail
    refine hs2.mono ?_
    rintro e w4 ⟨q2, c2, rfl, s9⟩
    go_wp2
    refine bodyPost_ret (v := .tuple #[.slice q2 64 c2, .int .i64 0]) (by simp [results, Tryz.results99, go_sem]) rfl ⟨q2, c2, rfl, ?_⟩
    exact HE.out w4 q2 c2 (s9.drop 2)
end Go.Proofs.YtmohabidfalhoaaGreat
