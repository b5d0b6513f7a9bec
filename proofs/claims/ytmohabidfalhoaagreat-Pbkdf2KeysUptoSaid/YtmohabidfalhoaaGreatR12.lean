
/- The document's HMAC: block keys, tags, what is recorded; each under the conditions that it names. -/
import Derived.Test.YtmohabidfalhoaaGreatRd2
import Derived.Test.YtmohabidfalhoaaGreatHmac2
import Derived.Test.YtmohabidfalhoaaGreatRo
namespace Go.Proofs.YtmohabidfalhoaaGreat
open Go.RowKit Go.Sep Go.Bv Go.Sha
set_option linter.unusedVariables false
set_option linter.unusedSimpArgs false
/-- The document's ledger, or none. -/
def rledO (p : Option Nat) (rs : List Run3) : Assn := match p with | none => emp | some l => rled l rs
set_option maxHeartbeats 1000000 in
theorem rnoteO {W0 w : World} {L : List Assn} {nv : Int} {pv : Value} (p : Option Nat) (rs : List Run3) (k s : Int) (n : Nat) (hp : pv = ptrO p) (hv : nv = (n : Int)) (hs : Sat W0 w (rledO p rs :: L)) (hb : tot rs + n ≤ 4611686018427387904) (hl : rs.length ≤ 4294967296) :
    Calls Tryz.prog 81 #[pv, .agg #[.int .u8 k, .int .i64 s], .int .i64 nv] w fun e w' => e = .returned (.tuple #[]) ∧ Sat W0 w' (rledO p (noteN rs k s n) :: L) := by
  subst hp
  cases p with
  | none =>
    refine (rnote_nil w k s nv).mono ?_
    rintro e w' ⟨rfl, rfl⟩
    exact ⟨rfl, (hs.alloc' _ : Sat W0 _ (emp :: L))⟩
  | some l => exact rnoteN rs k s n hv hs hb hl
theorem rblock12 (w : World) (wide : Bool) : Calls Tryz.prog 68 #[.int .u8 (algN wide)] w fun e w' => e = .returned (.int .i64 (bsz wide : Nat)) ∧ w' = w := by
  cases wide
  · show Calls Tryz.prog 68 #[.int .u8 1] w _
    go_enter Tryz.func68, Tryz.ntmps68
    go_wp2
    go_ret
    exact ⟨rfl, rfl⟩
  · show Calls Tryz.prog 68 #[.int .u8 2] w _
    go_enter Tryz.func68, Tryz.ntmps68
    go_wp2
    go_ret
    exact ⟨rfl, rfl⟩
theorem rblock12None (w : World) (a : Int) (h1 : ¬ a = 1) (h2 : ¬ a = 2) : Calls Tryz.prog 68 #[.int .u8 a] w fun e w' => e = .returned (.int .i64 0) ∧ w' = w := by
  have e1 : (a == 1) = false := by simpa using h1
  have e2 : (a == 2) = false := by simpa using h2
  go_enter Tryz.func68, Tryz.ntmps68
  go_wp2
  go_ret
  exact ⟨rfl, rfl⟩
/-- A state of the document's: its message, which may be read alone. -/
def rst (b : Nat) (P : List Byte) : Assn := fun x => ∃ q : Option Addr × Nat, (P.length ≤ q.2 ∧ q.2 ≤ maxLen) ∧ sep (seg true b 0 [.slice q.1 P.length q.2, .bool true]) (bytes false q.1 P) x
theorem rstOpen {W0 w : World} {L : List Assn} {b : Nat} {P : List Byte} (h : Sat W0 w (rst b P :: L)) : ∃ p c, P.length ≤ c ∧ c ≤ maxLen ∧ Sat W0 w (seg true b 0 [.slice p P.length c, .bool true] :: bytes false p P :: L) := by
  obtain ⟨q, h1⟩ := h.exOpen
  obtain ⟨h0, hs, hf⟩ := h1
  obtain ⟨x, t, rfl, hA, ok, hd, hf'⟩ := hf.head
  exact ⟨q.1, q.2, hA.1.1, hA.1.2, Sat.sepOpen ⟨h0, x :: t, .cons hA.2 ok hd hf'⟩⟩
theorem rstShut {W0 w : World} {L : List Assn} {b n : Nat} {P : List Byte} {p : Option Addr} {c : Nat} {m : Bool} (hn : P.length = n) (hc : n ≤ c) (hcm : c ≤ maxLen) (h : Sat W0 w (seg true b 0 [.slice p n c, .bool true] :: bytes m p P :: L)) : Sat W0 w (rst b P :: L) := by
  subst hn
  have h1 : Sat W0 w (bytes false p P :: seg true b 0 [.slice p P.length c, .bool true] :: L) := bytesRo (h.pull 1)
  have h2 : Sat W0 w (sep (seg true b 0 [.slice p P.length c, .bool true]) (bytes false p P) :: L) := (h1.pull 1 : Sat W0 w (seg true b 0 [.slice p P.length c, .bool true] :: bytes false p P :: L)).sepShut
  exact Sat.exShut (A := fun q : Option Addr × Nat => fun x => (P.length ≤ q.2 ∧ q.2 ≤ maxLen) ∧ sep (seg true b 0 [.slice q.1 P.length q.2, .bool true]) (bytes false q.1 P) x) (p, c) (h2.imp fun x hx => ⟨⟨hc, hcm⟩, hx⟩)
set_option maxHeartbeats 1000000 in
theorem rnew05 {W0 w : World} {L : List Assn} (hs : Sat W0 w L) : Calls Tryz.prog 55 #[] w fun e w' => ∃ b, e = .returned (.pointer (some ⟨b, 0, none⟩)) ∧ Sat W0 w' (rst b [] :: L) := by
  go_enter Tryz.func55, Tryz.ntmps55
  go_wp2
  go_ret
  have s1 := (bytesNil true none hs).alloc #[.slice none 0 0, .bool true] 142
  exact ⟨_, rfl, rstShut (n := 0) (p := none) (c := 0) rfl (by decide) (by unfold maxLen; decide) s1⟩
set_option maxHeartbeats 1000000 in
theorem rnone05 {W0 w : World} {L : List Assn} {b : Nat} {v : Value} (hs : Sat W0 w (seg true b 0 [v, .bool true] :: L)) :
    Calls Tryz.prog 80 #[.pointer (some ⟨b, 0, none⟩)] w fun e w' => e = .returned (.bool false) ∧ w' = w := by
  have c1 := hs.at 1 rfl
  have z1 := hs.lt (by simp)
  go_enter Tryz.func80, Tryz.ntmps80
  go_wp2
  go_ret
  exact ⟨rfl, rfl⟩
theorem rlast05 (w : World) (n : Nat) (h : n ≤ 1000000000) : Calls Tryz.prog 85 #[.int .i64 (n : Int)] w fun e w' => e = .returned (.int .i64 (((padN false n : Nat) : Int) - ((n / 64 : Nat) : Int))) ∧ w = w' := by
  by_cases hlt : n % 64 > 55
  · have g1 : (n : Int) % 64 > 55 := by omega
    have g2 : (n : Int).tmod 64 > 55 := by rw [Int.tmod_eq_emod_of_nonneg (by omega)]; exact g1
    have hv : ((padN false n : Nat) : Int) - ((n / 64 : Nat) : Int) = 2 := by simp only [padN, roomN, bsz]; omega
    rw [hv]
    clear hv
    go_enter Tryz.func85, Tryz.ntmps85
    go_wp2
    go_ret
    exact ⟨rfl, rfl⟩
  · have g1 : ¬ (n : Int) % 64 > 55 := by omega
    have g2 : ¬ (n : Int).tmod 64 > 55 := by rw [Int.tmod_eq_emod_of_nonneg (by omega)]; exact g1
    have hv : ((padN false n : Nat) : Int) - ((n / 64 : Nat) : Int) = 1 := by simp only [padN, roomN, bsz]; omega
    rw [hv]
    clear hv
    go_enter Tryz.func85, Tryz.ntmps85
    go_wp2
    go_ret
    exact ⟨rfl, rfl⟩
/-- How many blocks a Sum of n bytes records. -/
def lastN (wide : Bool) (n : Nat) : Nat := padN wide n - n / bsz wide
theorem lastN_ge (wide : Bool) (n : Nat) : n / bsz wide ≤ padN wide n := by cases wide <;> simp only [padN, bsz, roomN] <;> omega
theorem lastN_le (wide : Bool) (n : Nat) : lastN wide n ≤ 2 := by cases wide <;> simp only [lastN, padN, bsz, roomN] <;> omega
theorem rlast12 (w : World) (wide : Bool) (n : Nat) (h : n ≤ 1000000000) : Calls Tryz.prog 93 #[.int .u8 (algN wide), .int .i64 (n : Int)] w fun e w' => e = .returned (.int .i64 (lastN wide n : Nat)) ∧ w' = w := by
  cases wide
  · show Calls Tryz.prog 93 #[.int .u8 1, .int .i64 (n : Int)] w _
    by_cases hlt : n % 64 < 56
    · have g1 : (n : Int) % 64 < 56 := by omega
      have g2 : (n : Int).tmod 64 < 56 := by rw [Int.tmod_eq_emod_of_nonneg (by omega)]; exact g1
      have hv : ((lastN false n : Nat) : Int) = 1 := by simp only [lastN, padN, roomN, bsz]; omega
      rw [hv]
      clear hv
      go_enter Tryz.func93, Tryz.ntmps93
      go_wp2
      go_ret
      exact ⟨rfl, rfl⟩
    · have g1 : ¬ (n : Int) % 64 < 56 := by omega
      have g2 : ¬ (n : Int).tmod 64 < 56 := by rw [Int.tmod_eq_emod_of_nonneg (by omega)]; exact g1
      have hv : ((lastN false n : Nat) : Int) = 2 := by simp only [lastN, padN, roomN, bsz]; omega
      rw [hv]
      clear hv
      go_enter Tryz.func93, Tryz.ntmps93
      go_wp2
      go_ret
      exact ⟨rfl, rfl⟩
  · show Calls Tryz.prog 93 #[.int .u8 2, .int .i64 (n : Int)] w _
    have hv : ((lastN true n : Nat) : Int) = ((padN true n : Nat) : Int) - ((n / 128 : Nat) : Int) := by simp only [lastN, padN, roomN, bsz]; omega
    have h6 := rlast06 w n h
    rw [← hv] at h6
    have H6 := Lib.hid h6; clear h6 hv
    go_enter Tryz.func93, Tryz.ntmps93
    go_wp2_with fail
    refine H6.out.mono ?_
    rintro e w1 ⟨rfl, rfl⟩
    go_wp2
    go_ret
    exact ⟨rfl, rfl⟩
set_option maxHeartbeats 1000000 in
theorem rblocks12 {W0 w : World} {L : List Assn} {nv : Int} {pv : Value} (wide : Bool) (p : Option Nat) (rs : List Run3) (n : Nat) (hp : pv = ptrO p) (hv : nv = (n : Int)) (hs : Sat W0 w (rledO p rs :: L)) (hb : tot rs + n ≤ 4611686018427387904) (hl : rs.length ≤ 4294967296) :
    Calls Tryz.prog 92 #[pv, .int .u8 (algN wide), .int .i64 nv] w fun e w' => e = .returned (.tuple #[]) ∧ Sat W0 w' (rledO p (noteN rs (evK wide) (evS wide) n) :: L) := by
  have HB := Lib.hid (And.intro hp (And.intro hv (And.intro hb hl))); clear hp hv hb hl
  obtain ⟨bx, hbx⟩ : ∃ bx, bx = w.heap.size := ⟨_, rfl⟩
  have s1 := hs.allocAt #[.int .u8 1, .int .i64 64] 65 (q := bx) hbx
  cases wide
  · show Calls Tryz.prog 92 #[pv, .int .u8 1, .int .i64 nv] w _
    go_enter Tryz.func92, Tryz.ntmps92
    go_wp2_with fail
    refine (rnoteO p rs 1 64 n HB.out.1 HB.out.2.1 (s1.drop 0) HB.out.2.2.1 HB.out.2.2.2).mono ?_
    rintro e w1 ⟨rfl, s2⟩
    go_wp2
    exact bodyPost_end (results_none rfl _ _ _) rfl ⟨rfl, s2⟩
  · show Calls Tryz.prog 92 #[pv, .int .u8 2, .int .i64 nv] w _
    have s2 := hs.alloc' (.cells #[.int .u8 2, .int .i64 128] 65)
    go_enter Tryz.func92, Tryz.ntmps92
    go_wp2_with fail
    refine (rnoteO p rs 2 128 n HB.out.1 HB.out.2.1 s2 HB.out.2.2.1 HB.out.2.2.2).mono ?_
    rintro e w1 ⟨rfl, s3⟩
    go_wp2
    exact bodyPost_end (results_none rfl _ _ _) rfl ⟨rfl, s3⟩
end Go.Proofs.YtmohabidfalhoaaGreat
