
/- The document's HMAC: block keys, tags, what is recorded; each under the conditions that it names. -/
import Derived.Test.YtlmababpmmhhoaaGreatRd2
import Derived.Test.YtlmababpmmhhoaaGreatHmac2
import Derived.Test.YtlmababpmmhhoaaGreatRo
namespace Go.Proofs.YtlmababpmmhhoaaGreat
open Go.RowKit Go.Sep Go.Bv Go.Sha
set_option linter.unusedVariables false
set_option linter.unusedSimpArgs false
/-- The document's ledger, or none. -/
def rledO (p : Option Nat) (rs : List Run3) : Assn := match p with | none => emp | some l => rled l rs
set_option maxHeartbeats 1000000 in
theorem rnoteO {W0 w : World} {L : List Assn} {nv : Int} {pv : Value} (p : Option Nat) (rs : List Run3) (k s : Int) (n : Nat) (hp : pv = ptrO p) (hv : nv = (n : Int)) (hs : Sat W0 w (rledO p rs :: L)) (hb : tot rs + n ≤ 4611686018427387904) (hl : rs.length ≤ 4294967296) :
    Calls Tryz.prog 57 #[pv, .agg #[.int .u8 k, .int .i64 s], .int .i64 nv] w fun e w' => e = .returned (.tuple #[]) ∧ Sat W0 w' (rledO p (noteN rs k s n) :: L) := by
  subst hp
  cases p with
  | none =>
    refine (rnote_nil w k s nv).mono ?_
    rintro e w' ⟨rfl, rfl⟩
    exact ⟨rfl, (hs.alloc' _ : Sat W0 _ (emp :: L))⟩
  | some l => exact rnoteN rs k s n hv hs hb hl
/-- A state of the document's: its message, which may be read alone. -/
def rst (b : Nat) (P : List Byte) : Assn := fun x => ∃ q : Option Addr × Nat, (P.length ≤ q.2 ∧ q.2 ≤ maxLen) ∧ sep (seg true b 0 [.slice q.1 P.length q.2, .bool true]) (bytes false q.1 P) x
theorem rstOpen {W0 w : World} {L : List Assn} {b : Nat} {P : List Byte} (h : Sat W0 w (rst b P :: L)) : ∃ p c, P.length ≤ c ∧ c ≤ maxLen ∧ Sat W0 w (seg true b 0 [.slice p P.length c, .bool true] :: bytes false p P :: L) := by
  obtain ⟨q, h1⟩ := h.exOpen
  obtain ⟨h0, hs, hf⟩ := h1
  obtain ⟨x, t, rfl, hA, ok, hd, hf'⟩ := hf.head
  exact ⟨q.1, q.2, hA.1.1, hA.1.2, Sat.sepOpen ⟨h0, x :: t, .cons hA.2 ok hd hf'⟩⟩
theorem rstShut {W0 w : World} {L : List Assn} {b n : Nat} {P : List Byte} {p : Option Addr} {c : Nat} {m : Bool} (hn : P.length = n) (hc : n ≤ c) (hcm : c ≤ maxLen) (h : Sat W0 w (seg true b 0 [.slice p n c, .bool true] :: bytes m p P :: L)) : Sat W0 w (rst b P :: L) := by
  subst hn
  have h1 : Sat W0 w (bytes false p P :: seg true b 0 [.slice p P.length c, .bool true] :: L) := bytesRo (h.pull 1)
  have h2 : Sat W0 w (sep (seg true b 0 [.slice p P.length c, .bool true]) (bytes false p P) :: L) := (h1.pull 1 : Sat W0 w (seg true b 0 [.slice p P.length c, .bool true] :: bytes false p P :: L)).sepShut
  exact Sat.exShut (A := fun q : Option Addr × Nat => fun x => (P.length ≤ q.2 ∧ q.2 ≤ maxLen) ∧ sep (seg true b 0 [.slice q.1 P.length q.2, .bool true]) (bytes false q.1 P) x) (p, c) (h2.imp fun x hx => ⟨⟨hc, hcm⟩, hx⟩)
set_option maxHeartbeats 1000000 in
theorem rnew05 {W0 w : World} {L : List Assn} (hs : Sat W0 w L) : Calls Tryz.prog 38 #[] w fun e w' => ∃ b, e = .returned (.pointer (some ⟨b, 0, none⟩)) ∧ Sat W0 w' (rst b [] :: L) := by
  go_enter Tryz.func38, Tryz.ntmps38
  go_wp2
  go_ret
  have s1 := (bytesNil true none hs).alloc #[.slice none 0 0, .bool true] 115
  exact ⟨_, rfl, rstShut (n := 0) (p := none) (c := 0) rfl (by decide) (by unfold maxLen; decide) s1⟩
set_option maxHeartbeats 1000000 in
theorem rnone05 {W0 w : World} {L : List Assn} {b : Nat} {v : Value} (hs : Sat W0 w (seg true b 0 [v, .bool true] :: L)) :
    Calls Tryz.prog 56 #[.pointer (some ⟨b, 0, none⟩)] w fun e w' => e = .returned (.bool false) ∧ w' = w := by
  have c1 := hs.at 1 rfl
  have z1 := hs.lt (by simp)
  go_enter Tryz.func56, Tryz.ntmps56
  go_wp2
  go_ret
  exact ⟨rfl, rfl⟩
theorem rlast05 (w : World) (n : Nat) (h : n ≤ 1000000000) : Calls Tryz.prog 61 #[.int .i64 (n : Int)] w fun e w' => e = .returned (.int .i64 (((padN false n : Nat) : Int) - ((n / 64 : Nat) : Int))) ∧ w = w' := by
  by_cases hlt : n % 64 > 55
  · have g1 : (n : Int) % 64 > 55 := by omega
    have g2 : (n : Int).tmod 64 > 55 := by rw [Int.tmod_eq_emod_of_nonneg (by omega)]; exact g1
    have hv : ((padN false n : Nat) : Int) - ((n / 64 : Nat) : Int) = 2 := by simp only [padN, roomN, bsz]; omega
    rw [hv]
    clear hv
    go_enter Tryz.func61, Tryz.ntmps61
    go_wp2
    go_ret
    exact ⟨rfl, rfl⟩
  · have g1 : ¬ (n : Int) % 64 > 55 := by omega
    have g2 : ¬ (n : Int).tmod 64 > 55 := by rw [Int.tmod_eq_emod_of_nonneg (by omega)]; exact g1
    have hv : ((padN false n : Nat) : Int) - ((n / 64 : Nat) : Int) = 1 := by simp only [padN, roomN, bsz]; omega
    rw [hv]
    clear hv
    go_enter Tryz.func61, Tryz.ntmps61
    go_wp2
    go_ret
    exact ⟨rfl, rfl⟩
/-- How many blocks a Sum of n bytes records. -/
def lastN (wide : Bool) (n : Nat) : Nat := padN wide n - n / bsz wide
theorem lastN_ge (wide : Bool) (n : Nat) : n / bsz wide ≤ padN wide n := by cases wide <;> simp only [padN, bsz, roomN] <;> omega
theorem lastN_le (wide : Bool) (n : Nat) : lastN wide n ≤ 2 := by cases wide <;> simp only [lastN, padN, bsz, roomN] <;> omega
end Go.Proofs.YtlmababpmmhhoaaGreat
