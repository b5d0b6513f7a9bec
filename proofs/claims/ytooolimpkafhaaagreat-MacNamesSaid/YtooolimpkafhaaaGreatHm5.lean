
/- HMAC: wiped; under the conditions that it names. -/
import Derived.Test.YtooolimpkafhaaaGreatHm4
import Derived.Test.YtooolimpkafhaaaGreatGone
namespace Go.Proofs.YtooolimpkafhaaaGreat
open Go.RowKit Go.Sep Go.Bv Go.Sha
set_option linter.unusedVariables false
set_option linter.unusedSimpArgs false
/-- What is left of the three states behind the first i. -/
def leftW (wide : Bool) (b1 b2 b3 : Nat) (k msg : List Byte) : Nat → List Assn → List Assn
  | 0, L => dst wide b1 (xorKey wide k 54 ++ msg) :: dst wide b2 (xorKey wide k 92) :: dst wide b3 (xorKey wide k 54) :: L
  | 1, L => dst wide b2 (xorKey wide k 92) :: dst wide b3 (xorKey wide k 54) :: L
  | 2, L => dst wide b3 (xorKey wide k 54) :: L
  | _, L => L
set_option maxRecDepth 100000 in
set_option maxHeartbeats 2000000 in
theorem hmacWipe {W0 w : World} {L : List Assn} {c : Nat} {pv : Value} (wide : Bool) (p : Option Nat) (rs : List Run3) (k msg : List Byte) (hp : pv = ptrO p) (hmb : msg.length ≤ 2000000000000000000) (hb : tot rs + 1 ≤ 4611686018427387904) (hl : rs.length ≤ 4294967296) (hs : Sat W0 w (ledO p rs :: mac wide c k msg :: L)) :
    Calls Tryz.prog 96 #[.pointer (some ⟨c, 0, none⟩), pv] w fun e w' => e = .returned (.int .i64 0) ∧ Sat W0 w' (ledO p (note rs 8 (3 * fsz wide : Nat) 1) :: L) := by
  subst hp
  have hfo := hmacForm (c := c) (L := ledO p rs :: L) wide k msg hmb (Sat.sub (hs) (by (repeat (first | with_reducible exact Fr.done | with_reducible exact Fr.nil | (with_reducible apply Fr.cons; (focus ((repeat (first | with_reducible exact Take.here | with_reducible apply Take.there)); done))) | with_reducible apply Fr.skip))))
  obtain ⟨b1, b2, b3, s0⟩ := macOpen ((Sat.sub (hs) (by (repeat (first | with_reducible exact Fr.done | with_reducible exact Fr.nil | (with_reducible apply Fr.cons; (focus ((repeat (first | with_reducible exact Take.here | with_reducible apply Take.there)); done))) | with_reducible apply Fr.skip)))) : Sat W0 w (mac wide c k msg :: ledO p rs :: L))
  clear hs
  have hi := macIs wide s0
  have hnt := fun (w : World) (X : List Assn) (s : Sat W0 w (ledO p rs :: X)) => noteOne p rs 8 ((3 * fsz wide : Nat) : Int) s hb hl
  clear hb hl hmb s0
  cases wide
  · skip
    go_enter Tryz.func96, Tryz.ntmps96
    go_wp2_with fail
    refine hi.mono ?_
    rintro e w' ⟨rfl, rfl⟩
    clear hi
    go_wp2_with fail
    refine hfo.mono ?_
    rintro e w1 ⟨q, cq, rfl, s1⟩
    clear hfo
    go_wp2_with fail
    refine (hnt _ (mac false c k msg :: L) (Sat.sub (s1) (by (repeat (first | with_reducible exact Fr.done | with_reducible exact Fr.nil | (with_reducible apply Fr.cons; (focus ((repeat (first | with_reducible exact Take.here | with_reducible apply Take.there)); done))) | with_reducible apply Fr.skip))))).mono ?_
    rintro e w2 ⟨rfl, s2'⟩
    clear s1 hnt
    obtain ⟨b1, b2, b3, s2⟩ := macOpen ((Sat.sub (s2') (by (repeat (first | with_reducible exact Fr.done | with_reducible exact Fr.nil | (with_reducible apply Fr.cons; (focus ((repeat (first | with_reducible exact Take.here | with_reducible apply Take.there)); done))) | with_reducible apply Fr.skip)))) : Sat W0 w2 (mac false c k msg :: ledO p (note rs 8 (3 * fsz false : Nat) 1) :: L))
    clear s2'
    have hst := hmacStates false s2
    simp only [ifv] at hst
    go_wp2_with fail
    refine hst.mono ?_
    rintro e w3 ⟨rfl, s3'⟩
    clear hst s2
    have s3 : Sat W0 w3 (leftW false b1 b2 b3 k msg 0 (seg true c 0 [.int .i64 (hsz false : Int), ifv false b1, ifv false b2, ifv false b3] :: ledO p (note rs 8 (3 * fsz false : Nat) 1) :: L)) := (s3'.pick [1, 2, 3, 0])
    clear s3'
    go_wp2
    go_loopw [18] (fun t18 wr => ∃ i : Nat, i ≤ 3 ∧ t18 = .int .i64 (i : Int) ∧ Sat W0 wr (leftW false b1 b2 b3 k msg i (seg true c 0 [.int .i64 (hsz false : Int), ifv false b1, ifv false b2, ifv false b3] :: ledO p (note rs 8 (3 * fsz false : Nat) 1) :: L))) (fun t18 _ => 3 - (intOf t18).toNat)
    case atStart => exact ⟨0, by omega, rfl, s3⟩
    case round =>
      clear s3
      obtain ⟨i, hi, rfl, s⟩ := hrel
      have hc : i = 0 ∨ i = 1 ∨ i = 2 ∨ i = 3 := by omega
      rcases hc with rfl | rfl | rfl | rfl
      · simp only [leftW] at s
        go_wp2_with fail
        refine (dWipe false (b := b1) none [] _ (by decide) (by decide) s.emp).mono ?_
        rintro e w4 ⟨rfl, s4⟩
        go_wp2
        go_roundw
        case rel => exact ⟨1, by omega, rfl, (s4.drop 0).drop 0⟩
        case measure => simp [intOf]
      · simp only [leftW] at s
        go_wp2_with fail
        refine (dWipe false (b := b2) none [] _ (by decide) (by decide) s.emp).mono ?_
        rintro e w4 ⟨rfl, s4⟩
        go_wp2
        go_roundw
        case rel => exact ⟨2, by omega, rfl, (s4.drop 0).drop 0⟩
        case measure => simp [intOf]
      · simp only [leftW] at s
        go_wp2_with fail
        refine (dWipe false (b := b3) none [] _ (by decide) (by decide) s.emp).mono ?_
        rintro e w4 ⟨rfl, s4⟩
        go_wp2
        go_roundw
        case rel => exact ⟨3, by omega, rfl, (s4.drop 0).drop 0⟩
        case measure => simp [intOf]
      · simp only [leftW] at s
        have f0 := s.fr 0 (by simp)
        have f1 := s.fr 1 (by simp)
        have f2 := s.fr 2 (by simp)
        have f3 := s.fr 3 (by simp)
        have c0 := s.at 0 rfl
        have c1 := s.at 1 rfl
        have c2 := s.at 2 rfl
        have c3 := s.at 3 rfl
        have z0 := s.lt (by simp)
        have st2 := ((((s.store (i := 0) (by simp) (.int .i64 0) (q := 0) rfl).store (i := 1) (by simp) .nilIface (q := 1) rfl).store (i := 2) (by simp) .nilIface (q := 2) rfl).store (i := 3) (by simp) .nilIface (q := 3) rfl).tail
        have HS := Lib.hid st2; clear st2 s
        go_wp2_with fail
        go_ret
        exact ⟨rfl, HS.out⟩
  · skip
    go_enter Tryz.func96, Tryz.ntmps96
    go_wp2_with fail
    refine hi.mono ?_
    rintro e w' ⟨rfl, rfl⟩
    clear hi
    go_wp2_with fail
    refine hfo.mono ?_
    rintro e w1 ⟨q, cq, rfl, s1⟩
    clear hfo
    go_wp2_with fail
    refine (hnt _ (mac true c k msg :: L) (Sat.sub (s1) (by (repeat (first | with_reducible exact Fr.done | with_reducible exact Fr.nil | (with_reducible apply Fr.cons; (focus ((repeat (first | with_reducible exact Take.here | with_reducible apply Take.there)); done))) | with_reducible apply Fr.skip))))).mono ?_
    rintro e w2 ⟨rfl, s2'⟩
    clear s1 hnt
    obtain ⟨b1, b2, b3, s2⟩ := macOpen ((Sat.sub (s2') (by (repeat (first | with_reducible exact Fr.done | with_reducible exact Fr.nil | (with_reducible apply Fr.cons; (focus ((repeat (first | with_reducible exact Take.here | with_reducible apply Take.there)); done))) | with_reducible apply Fr.skip)))) : Sat W0 w2 (mac true c k msg :: ledO p (note rs 8 (3 * fsz true : Nat) 1) :: L))
    clear s2'
    have hst := hmacStates true s2
    simp only [ifv] at hst
    go_wp2_with fail
    refine hst.mono ?_
    rintro e w3 ⟨rfl, s3'⟩
    clear hst s2
    have s3 : Sat W0 w3 (leftW true b1 b2 b3 k msg 0 (seg true c 0 [.int .i64 (hsz true : Int), ifv true b1, ifv true b2, ifv true b3] :: ledO p (note rs 8 (3 * fsz true : Nat) 1) :: L)) := (s3'.pick [1, 2, 3, 0])
    clear s3'
    go_wp2
    go_loopw [18] (fun t18 wr => ∃ i : Nat, i ≤ 3 ∧ t18 = .int .i64 (i : Int) ∧ Sat W0 wr (leftW true b1 b2 b3 k msg i (seg true c 0 [.int .i64 (hsz true : Int), ifv true b1, ifv true b2, ifv true b3] :: ledO p (note rs 8 (3 * fsz true : Nat) 1) :: L))) (fun t18 _ => 3 - (intOf t18).toNat)
    case atStart => exact ⟨0, by omega, rfl, s3⟩
    case round =>
      clear s3
      obtain ⟨i, hi, rfl, s⟩ := hrel
      have hc : i = 0 ∨ i = 1 ∨ i = 2 ∨ i = 3 := by omega
      rcases hc with rfl | rfl | rfl | rfl
      · simp only [leftW] at s
        go_wp2_with fail
        refine (dWipe true (b := b1) none [] _ (by decide) (by decide) s.emp).mono ?_
        rintro e w4 ⟨rfl, s4⟩
        go_wp2
        go_roundw
        case rel => exact ⟨1, by omega, rfl, (s4.drop 0).drop 0⟩
        case measure => simp [intOf]
      · simp only [leftW] at s
        go_wp2_with fail
        refine (dWipe true (b := b2) none [] _ (by decide) (by decide) s.emp).mono ?_
        rintro e w4 ⟨rfl, s4⟩
        go_wp2
        go_roundw
        case rel => exact ⟨2, by omega, rfl, (s4.drop 0).drop 0⟩
        case measure => simp [intOf]
      · simp only [leftW] at s
        go_wp2_with fail
        refine (dWipe true (b := b3) none [] _ (by decide) (by decide) s.emp).mono ?_
        rintro e w4 ⟨rfl, s4⟩
        go_wp2
        go_roundw
        case rel => exact ⟨3, by omega, rfl, (s4.drop 0).drop 0⟩
        case measure => simp [intOf]
      · simp only [leftW] at s
        have f0 := s.fr 0 (by simp)
        have f1 := s.fr 1 (by simp)
        have f2 := s.fr 2 (by simp)
        have f3 := s.fr 3 (by simp)
        have c0 := s.at 0 rfl
        have c1 := s.at 1 rfl
        have c2 := s.at 2 rfl
        have c3 := s.at 3 rfl
        have z0 := s.lt (by simp)
        have st2 := ((((s.store (i := 0) (by simp) (.int .i64 0) (q := 0) rfl).store (i := 1) (by simp) .nilIface (q := 1) rfl).store (i := 2) (by simp) .nilIface (q := 2) rfl).store (i := 3) (by simp) .nilIface (q := 3) rfl).tail
        have HS := Lib.hid st2; clear st2 s
        go_wp2_with fail
        go_ret
        exact ⟨rfl, HS.out⟩
end Go.Proofs.YtooolimpkafhaaaGreat
