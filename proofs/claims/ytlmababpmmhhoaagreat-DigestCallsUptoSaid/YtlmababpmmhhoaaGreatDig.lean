
/- Layer 11's program: the two hash functions behind one face; under the conditions that each names. -/
import Derived.Laws.EntriesVeiled
import Derived.Test.YtlmababpmmhhoaaGreatSha512f
namespace Go.Sep
set_option linter.unusedVariables false
theorem Sat.open4 {W0 w : World} {L : List Assn} {A B C D : Assn} (h : Sat W0 w (sep A (sep B (sep C D)) :: L)) : Sat W0 w (A :: B :: C :: D :: L) := by
  have h1 : Sat W0 w (sep B (sep C D) :: A :: L) := h.sepOpen.pull 1
  have h2 : Sat W0 w (sep C D :: B :: A :: L) := h1.sepOpen.pull 1
  exact h2.sepOpen.pick [3, 2, 0, 1]
theorem Sat.shut4 {W0 w : World} {L : List Assn} {A B C D : Assn} (h : Sat W0 w (A :: B :: C :: D :: L)) : Sat W0 w (sep A (sep B (sep C D)) :: L) := by
  have h1 : Sat W0 w (C :: D :: A :: B :: L) := h.pick [2, 3]
  have h2 : Sat W0 w (B :: sep C D :: A :: L) := h1.sepShut.pick [2, 0]
  have h3 : Sat W0 w (A :: sep B (sep C D) :: L) := h2.sepShut.pick [1, 0]
  exact h3.sepShut
end Go.Sep
namespace Go.Sha
open Go.Bv
/-- The two hash functions: the digest's bytes, the block's, the event's kind. -/
def hsz : Bool → Nat | false => 32 | true => 64
def bsz : Bool → Nat | false => 64 | true => 128
def evK : Bool → Int | false => 1 | true => 2
def evS : Bool → Int | false => 64 | true => 128
def algN : Bool → Int | false => 1 | true => 2
def roomN : Bool → Nat | false => 9 | true => 17
def hash : Bool → List Byte → List Byte | false => sha256 | true => sha512
def fsz : Bool → Nat | false => 104 | true => 200
/-- How many blocks a message of n bytes has when it is padded. -/
def padN (wide : Bool) (n : Nat) : Nat := (n + roomN wide + bsz wide - 1) / bsz wide
theorem pad256N (p : List Byte) : (pad256 p).length / 64 = padN false p.length := by
  rw [show (pad256 p).length = p.length + (119 - p.length % 64) % 64 + 9 by simp [pad256, layBE_len]; omega]
  show _ = (p.length + 9 + 64 - 1) / 64
  omega
theorem pad512N (p : List Byte) : (pad512 p).length / 128 = padN true p.length := by
  rw [pad512_len]
  show _ = (p.length + 17 + 128 - 1) / 128
  omega
theorem sha256_len (p : List Byte) : (sha256 p).length = 32 := by
  unfold sha256 laid
  have : (blocks256 H256 (pad256 p) ((pad256 p).length / 64)).length = 8 := blk_len (fun h b hh => comp_len _ _ _ _ _ _ hh) 64 _ _ _ rfl
  match blocks256 H256 (pad256 p) ((pad256 p).length / 64), this with
  | [a, b, c, d, e, f, g, h], _ => simp [layBE_len]
theorem sha512_len (p : List Byte) : (sha512 p).length = 64 := by
  unfold sha512 laid
  have : (blocks512 H512 (pad512 p) ((pad512 p).length / 128)).length = 8 := blk_len (fun h b hh => comp_len _ _ _ _ _ _ hh) 128 _ _ _ rfl
  match blocks512 H512 (pad512 p) ((pad512 p).length / 128), this with
  | [a, b, c, d, e, f, g, h], _ => simp [layBE_len]
theorem hash_len (wide : Bool) (p : List Byte) : (hash wide p).length = hsz wide := by
  cases wide
  · exact sha256_len p
  · exact sha512_len p
end Go.Sha
namespace Go.Proofs.YtlmababpmmhhoaaGreat
open Go.RowKit Go.Sep Go.Bv Go.Sha
set_option linter.unusedVariables false
set_option linter.unusedSimpArgs false
def formH : Bool → List Byte → List Byte | false => form256 | true => form512
/-- A state of either function behind a message. -/
def dst : Bool → Nat → List Byte → Assn
  | false, b, msg => sep (seg true b 0 (u32s (blocks256 H256 msg (msg.length / 64)))) (sep (seg true b 8 [.int .i64 (msg.length : Int)]) (sep (seg true b 9 (u8s (waitOf 64 msg))) (seg true b 73 [.bool true])))
  | true, b, msg => sep (seg true b 0 [.bool true]) (sep (seg true b 1 (u64s (blocks512 H512 msg (msg.length / 128)))) (sep (seg true b 9 [.int .u64 (msg.length : Int)]) (seg true b 10 (u8s (waitOf 128 msg)))))
theorem dstOpen0 {W0 w : World} {L : List Assn} {b : Nat} {msg : List Byte} (h : Sat W0 w (dst false b msg :: L)) : Sat W0 w (stM256 b msg L) := Sat.open4 h
theorem dstOpen1 {W0 w : World} {L : List Assn} {b : Nat} {msg : List Byte} (h : Sat W0 w (dst true b msg :: L)) : Sat W0 w (stM512 b msg L) := Sat.open4 h
theorem dstShut0 {W0 w : World} {L : List Assn} {b : Nat} {msg : List Byte} (h : Sat W0 w (stM256 b msg L)) : Sat W0 w (dst false b msg :: L) := Sat.shut4 h
theorem dstShut1 {W0 w : World} {L : List Assn} {b : Nat} {msg : List Byte} (h : Sat W0 w (stM512 b msg L)) : Sat W0 w (dst true b msg :: L) := Sat.shut4 h
/-- A state behind its face. -/
def ifv : Bool → Nat → Value
  | false, b => .iface 87 (.agg #[.pointer (some ⟨b, 0, none⟩)])
  | true, b => .iface 91 (.agg #[.pointer (some ⟨b, 0, none⟩)])
def fWrite : Bool → Nat | false => 127 | true => 54
def fSum : Bool → Nat | false => 52 | true => 55
def fForm : Bool → Nat | false => 124 | true => 130
def fWipe : Bool → Nat | false => 126 | true => 132
def fCopy : Bool → Nat | false => 128 | true => 133
def fNew : Bool → Nat | false => 32 | true => 35
def fWhole : Bool → Nat | false => 34 | true => 37
theorem dWrite {W0 w : World} {L : List Assn} {b cap : Nat} {m : Bool} {sp : Option Addr} (wide : Bool) (p : Option Nat) (rs : List Run3) (msg bs : List Byte) (hcap : bs.length ≤ cap) (hcm : cap ≤ maxLen) (hb : tot rs + msg.length + bs.length ≤ 2305843009213693952) (hl : rs.length ≤ 1048576)
    (hs : Sat W0 w (ledO p rs :: bytes m sp bs :: dst wide b msg :: L)) :
    Calls Tryz.prog (fWrite wide) #[.pointer (some ⟨b, 0, none⟩), ptrO p, .slice sp bs.length cap] w fun e w' => e = .returned (.int .i64 0) ∧ Sat W0 w' (ledO p (noteN rs (evK wide) (evS wide) ((msg.length + bs.length) / bsz wide - msg.length / bsz wide)) :: bytes m sp bs :: dst wide b (msg ++ bs) :: L) := by
  cases wide
  · have h1 : Sat W0 w (ledO p rs :: bytes m sp bs :: stM256 b msg L) := (dstOpen0 (hs.pick [2] : Sat W0 w (dst false b msg :: ledO p rs :: bytes m sp bs :: L))).pick [4, 5]
    refine (write256 p rs msg bs hcap hcm hb hl h1).mono ?_
    rintro e w' ⟨rfl, s⟩
    refine ⟨rfl, ?_⟩
    have s1 : Sat W0 w' (stM256 b (msg ++ bs) (ledO p _ :: bytes m sp bs :: L)) := s.pick [2, 3, 4, 5]
    exact (dstShut0 s1).pick [1, 2]
  · have h1 : Sat W0 w (ledO p rs :: bytes m sp bs :: stM512 b msg L) := (dstOpen1 (hs.pick [2] : Sat W0 w (dst true b msg :: ledO p rs :: bytes m sp bs :: L))).pick [4, 5]
    refine (write512 p rs msg bs hcap hcm hb hl h1).mono ?_
    rintro e w' ⟨rfl, s⟩
    refine ⟨rfl, ?_⟩
    have s1 : Sat W0 w' (stM512 b (msg ++ bs) (ledO p _ :: bytes m sp bs :: L)) := s.pick [2, 3, 4, 5]
    exact (dstShut1 s1).pick [1, 2]
theorem dSum {W0 w : World} {L : List Assn} {b : Nat} (wide : Bool) (p : Option Nat) (rs : List Run3) (msg : List Byte) (hb : tot rs + msg.length + 300 ≤ 2305843009213693952) (hl : rs.length ≤ 1048576) (hs : Sat W0 w (ledO p rs :: dst wide b msg :: L)) :
    Calls Tryz.prog (fSum wide) #[.pointer (some ⟨b, 0, none⟩), ptrO p] w fun e w' => ∃ q c, e = .returned (.tuple #[.slice q (hsz wide) c, .int .i64 0]) ∧ Sat W0 w' (row q c 1 (hsz wide) (u8s (hash wide msg)) :: ledO p (noteN rs (evK wide) (evS wide) (padN wide msg.length - msg.length / bsz wide)) :: dst wide b msg :: L) := by
  cases wide
  · have h1 : Sat W0 w (ledO p rs :: stM256 b msg L) := (dstOpen0 (hs.pick [1] : Sat W0 w (dst false b msg :: ledO p rs :: L))).pick [4]
    refine (sum256 p rs msg (by omega) hl h1).mono ?_
    rintro e w' ⟨q, c, rfl, s⟩
    refine ⟨q, c, rfl, ?_⟩
    rw [pad256N] at s
    have s1 : Sat W0 w' (stM256 b msg (row q c 1 32 (u8s (sha256 msg)) :: ledO p _ :: L)) := s.pick [2, 3, 4, 5]
    exact (dstShut0 s1).pick [1, 2]
  · have h1 : Sat W0 w (ledO p rs :: stM512 b msg L) := (dstOpen1 (hs.pick [1] : Sat W0 w (dst true b msg :: ledO p rs :: L))).pick [4]
    refine (sum512 p rs msg (by omega) hl h1).mono ?_
    rintro e w' ⟨q, c, rfl, s⟩
    refine ⟨q, c, rfl, ?_⟩
    rw [pad512N] at s
    have s1 : Sat W0 w' (stM512 b msg (row q c 1 64 (u8s (sha512 msg)) :: ledO p _ :: L)) := s.pick [2, 3, 4, 5]
    exact (dstShut1 s1).pick [1, 2]
theorem dForm {W0 w : World} {L : List Assn} {b : Nat} (wide : Bool) (msg : List Byte) (hb : msg.length ≤ 2305843009213693952) (hs : Sat W0 w (dst wide b msg :: L)) :
    Calls Tryz.prog (fForm wide) #[.pointer (some ⟨b, 0, none⟩)] w fun e w' => ∃ q c, e = .returned (.slice q (fsz wide) c) ∧ Sat W0 w' (row q c 1 (fsz wide) (u8s (formH wide msg)) :: dst wide b msg :: L) := by
  cases wide
  · refine (formOf256 msg (dstOpen0 hs)).mono ?_
    rintro e w' ⟨q, c, rfl, s⟩
    refine ⟨q, c, rfl, ?_⟩
    have s1 : Sat W0 w' (stM256 b msg (row q c 1 104 (u8s (form256 msg)) :: L)) := s.pick [1, 2, 3, 4]
    exact (dstShut0 s1).pick [1]
  · refine (formOf512 msg hb (dstOpen1 hs)).mono ?_
    rintro e w' ⟨q, c, rfl, s⟩
    refine ⟨q, c, rfl, ?_⟩
    have s1 : Sat W0 w' (stM512 b msg (row q c 1 200 (u8s (form512 msg)) :: L)) := s.pick [1, 2, 3, 4]
    exact (dstShut1 s1).pick [1]
theorem dWhole {W0 w : World} {L : List Assn} {cap : Nat} {m : Bool} {sp : Option Addr} (wide : Bool) (p : Option Nat) (rs : List Run3) (bs : List Byte) (hcap : bs.length ≤ cap) (hcm : cap ≤ maxLen) (hb : tot rs + 2 * bs.length + 400 ≤ 2305843009213693952) (hl : rs.length + 1 ≤ 1048576)
    (hs : Sat W0 w (ledO p rs :: bytes m sp bs :: L)) :
    Calls Tryz.prog (fWhole wide) #[ptrO p, .slice sp bs.length cap] w fun e w' => ∃ q c, e = .returned (.slice q (hsz wide) c) ∧ Sat W0 w' (row q c 1 (hsz wide) (u8s (hash wide bs)) :: ledO p (noteN rs (evK wide) (evS wide) (padN wide bs.length)) :: bytes m sp bs :: L) := by
  cases wide
  · refine (whole256 p rs bs hcap hcm (by omega) hl hs).mono ?_
    rintro e w' ⟨q, c, rfl, s⟩
    rw [pad256N] at s
    exact ⟨q, c, rfl, s⟩
  · refine (whole512 p rs bs hcap hcm (by omega) hl hs).mono ?_
    rintro e w' ⟨q, c, rfl, s⟩
    rw [pad512N] at s
    exact ⟨q, c, rfl, s⟩
set_option maxHeartbeats 1000000 in
theorem dNew {W0 w : World} {L : List Assn} (wide : Bool) (hs : Sat W0 w L) : Calls Tryz.prog (fNew wide) #[] w fun e w' => ∃ b, e = .returned (ifv wide b) ∧ Sat W0 w' (dst wide b [] :: L) := by
  cases wide
  · show Calls Tryz.prog 32 #[] w _
    go_enter Tryz.func32, Tryz.ntmps32
    go_wp2_with fail
    refine (new256 hs).mono ?_
    rintro e w1 ⟨b, rfl, s1⟩
    go_wp2
    go_ret
    exact ⟨b, rfl, dstShut0 s1⟩
  · show Calls Tryz.prog 35 #[] w _
    go_enter Tryz.func35, Tryz.ntmps35
    go_wp2_with fail
    refine (new512 hs).mono ?_
    rintro e w1 ⟨b, rfl, s1⟩
    go_wp2
    go_ret
    exact ⟨b, rfl, dstShut1 s1⟩
set_option maxHeartbeats 1000000 in
theorem dCopy {W0 w : World} {L : List Assn} {b : Nat} (wide : Bool) (msg : List Byte) (hs : Sat W0 w (dst wide b msg :: L)) : Calls Tryz.prog (fCopy wide) #[.agg #[.pointer (some ⟨b, 0, none⟩)]] w fun e w' => ∃ c, e = .returned (ifv wide c) ∧ Sat W0 w' (dst wide c msg :: dst wide b msg :: L) := by
  cases wide
  · show Calls Tryz.prog 128 _ w _
    have h1 := dstOpen0 hs
    go_enter Tryz.func128, Tryz.ntmps128
    go_wp2_with fail
    refine (clone256 msg (h1.alloc' _)).mono ?_
    rintro e w1 ⟨c, rfl, s1⟩
    go_wp2
    go_ret
    have s2 := dstShut0 s1
    have s3 : Sat W0 w1 (stM256 b msg (dst false c msg :: L)) := s2.pick [1, 2, 3, 4]
    exact ⟨c, rfl, (dstShut0 s3).pick [1]⟩
  · show Calls Tryz.prog 133 _ w _
    have h1 := dstOpen1 hs
    go_enter Tryz.func133, Tryz.ntmps133
    go_wp2_with fail
    refine (clone512 msg (h1.alloc' _)).mono ?_
    rintro e w1 ⟨c, rfl, s1⟩
    go_wp2
    go_ret
    have s2 := dstShut1 s1
    have s3 : Sat W0 w1 (stM512 b msg (dst true c msg :: L)) := s2.pick [1, 2, 3, 4]
    exact ⟨c, rfl, (dstShut1 s3).pick [1]⟩
/-- A hash function's numbers and functions. -/
def hcells : Bool → List Value
  | false => [.int .u8 1, .int .i64 32, .int .i64 64, .int .u8 1, .int .i64 64, .func (.func 32) #[] #[], .func (.func 34) #[] #[]]
  | true => [.int .u8 2, .int .i64 64, .int .i64 128, .int .u8 2, .int .i64 128, .func (.func 35) #[] #[], .func (.func 37) #[] #[]]
set_option maxHeartbeats 1000000 in
theorem dOf {W0 w : World} {L : List Assn} (wide : Bool) (hs : Sat W0 w L) : Calls Tryz.prog 18 #[.int .u8 (algN wide)] w fun e w' => e = .returned (.tuple #[.agg (hcells wide).toArray, .int .i64 0]) ∧ Sat W0 w' L := by
  cases wide
  · show Calls Tryz.prog 18 #[.int .u8 1] w _
    go_enter Tryz.func18, Tryz.ntmps18
    go_wp2
    refine bodyPost_ret (v := .tuple #[.agg (hcells false).toArray, .int .i64 0]) (by simp [results, Tryz.results18, go_sem, hcells]) rfl ⟨rfl, ?_⟩
    exact (hs.alloc _ _).tail
  · show Calls Tryz.prog 18 #[.int .u8 2] w _
    go_enter Tryz.func18, Tryz.ntmps18
    go_wp2
    refine bodyPost_ret (v := .tuple #[.agg (hcells true).toArray, .int .i64 0]) (by simp [results, Tryz.results18, go_sem, hcells]) rfl ⟨rfl, ?_⟩
    exact (hs.alloc _ _).tail
def hbare : List Value := [.int .u8 0, .int .i64 0, .int .i64 0, .int .u8 0, .int .i64 0, .nilFunc, .nilFunc]
set_option maxHeartbeats 1000000 in
theorem dOfNone {W0 w : World} {L : List Assn} (a : Int) (h1 : ¬ a = 1) (h2 : ¬ a = 2) (hs : Sat W0 w L) : Calls Tryz.prog 18 #[.int .u8 a] w fun e w' => e = .returned (.tuple #[.agg hbare.toArray, .int .i64 4]) ∧ Sat W0 w' L := by
  have e1 : (a == 1) = false := by simpa using h1
  have e2 : (a == 2) = false := by simpa using h2
  go_enter Tryz.func18, Tryz.ntmps18
  go_wp2
  refine bodyPost_ret (v := .tuple #[.agg hbare.toArray, .int .i64 4]) (by simp [results, Tryz.results18, go_sem, hbare]) rfl ⟨rfl, ?_⟩
  exact (hs.alloc _ _).tail
set_option maxHeartbeats 1000000 in
/-- The package's Sum, of one of the two algorithms. -/
theorem digSum {W0 w : World} {L : List Assn} {cap : Nat} {m : Bool} {sp : Option Addr} (wide : Bool) (p : Option Nat) (rs : List Run3) (bs : List Byte) (hcap : bs.length ≤ cap) (hcm : cap ≤ maxLen) (hb : tot rs + 2 * bs.length + 400 ≤ 2305843009213693952) (hl : rs.length + 1 ≤ 1048576)
    (hs : Sat W0 w (ledO p rs :: bytes m sp bs :: L)) :
    Calls Tryz.prog 17 #[ptrO p, .int .u8 (algN wide), .slice sp bs.length cap] w fun e w' => ∃ q c, e = .returned (.tuple #[.slice q (hsz wide) c, .int .i64 0]) ∧ Sat W0 w' (row q c 1 (hsz wide) (u8s (hash wide bs)) :: ledO p (noteN rs (evK wide) (evS wide) (padN wide bs.length)) :: bytes m sp bs :: L) := by
  have HB := Lib.hid (And.intro hcap (And.intro hcm (And.intro hb hl))); clear hcap hcm hb hl
  cases wide
  · skip
    go_enter Tryz.func17, Tryz.ntmps17
    go_wp2_with fail
    refine (dOf false hs).mono ?_
    rintro e w1 ⟨rfl, s1⟩
    simp only [hcells]
    go_wp2_with fail
    refine (dWhole (L := L) (m := m) false p rs bs HB.out.1 HB.out.2.1 HB.out.2.2.1 HB.out.2.2.2 (s1.alloc' _)).mono ?_
    rintro e w2 ⟨q, c, rfl, s2⟩
    go_wp2
    refine bodyPost_ret (v := .tuple #[.slice q _ c, .int .i64 0]) (by simp [results, Tryz.results17, go_sem]) rfl ⟨q, c, rfl, s2⟩
  · skip
    go_enter Tryz.func17, Tryz.ntmps17
    go_wp2_with fail
    refine (dOf true hs).mono ?_
    rintro e w1 ⟨rfl, s1⟩
    simp only [hcells]
    go_wp2_with fail
    refine (dWhole (L := L) (m := m) true p rs bs HB.out.1 HB.out.2.1 HB.out.2.2.1 HB.out.2.2.2 (s1.alloc' _)).mono ?_
    rintro e w2 ⟨q, c, rfl, s2⟩
    go_wp2
    refine bodyPost_ret (v := .tuple #[.slice q _ c, .int .i64 0]) (by simp [results, Tryz.results17, go_sem]) rfl ⟨q, c, rfl, s2⟩
set_option maxHeartbeats 1000000 in
theorem digSumNone {W0 w : World} {L : List Assn} (a : Int) (h1 : ¬ a = 1) (h2 : ¬ a = 2) (p v : Value) (hs : Sat W0 w L) :
    Calls Tryz.prog 17 #[p, .int .u8 a, v] w fun e w' => e = .returned (.tuple #[.slice none 0 0, .int .i64 4]) ∧ Sat W0 w' L := by
  go_enter Tryz.func17, Tryz.ntmps17
  go_wp2_with fail
  refine (dOfNone a h1 h2 hs).mono ?_
  rintro e w1 ⟨rfl, s1⟩
  simp only [hbare]
  go_wp2
  refine bodyPost_ret (v := .tuple #[.slice none 0 0, .int .i64 4]) (by simp [results, Tryz.results17, go_sem]) rfl ⟨rfl, (s1.alloc _ _).tail⟩
end Go.Proofs.YtlmababpmmhhoaaGreat
