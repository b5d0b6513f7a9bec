
/- Layer 17: what is no session; under the conditions that each names. -/
import Derived.Test.YtooolimpkafhaaaGreatL17f
namespace Go.Proofs.YtooolimpkafhaaaGreat
open Go.RowKit Go.Sep Go.Bv Go.Kec Go.Aes Go.Sha
set_option linter.unusedVariables false
set_option linter.unusedSimpArgs false
/-- No session: no pointer, or one to a session of noughts. -/
def noneS (b : Option Nat) : Assn := match b with | none => emp | some s => wipedS s
theorem nNone {W0 w : World} {L : List Assn} (b : Option Nat) (hs : Sat W0 w (noneS b :: L)) :
    Calls Tryz.prog 46 #[ptrO b] w fun e w' => e = .returned (.bool true) ∧ w' = w := by
  cases b with
  | none =>
    simp only [ptrO, Option.map_none]
    go_enter Tryz.func46, Tryz.ntmps46
    go_wp2
    go_ret
    exact ⟨rfl, rfl⟩
  | some b =>
    simp only [ptrO, Option.map_some, noneS, wipedS] at hs ⊢
    have c0 := hs.at 6 rfl
    have z0 := hs.lt (by simp)
    go_enter Tryz.func46, Tryz.ntmps46
    go_wp2
    go_ret
    exact ⟨rfl, rfl⟩
theorem nSum {W0 w : World} {L : List Assn} (b : Option Nat) (v : Value) (hs : Sat W0 w (noneS b :: L)) :
    Calls Tryz.prog 19 #[ptrO b, v] w fun e w' => e = .returned (.tuple #[.slice none 0 0, .int .i64 1]) ∧ w' = w := by
  go_enter Tryz.func19, Tryz.ntmps19
  go_wp2_with fail
  refine (nNone b hs).mono ?_
  rintro e w1 ⟨rfl, rfl⟩
  go_wp2_with fail
  exact bodyPost_ret (v := .tuple #[.slice none 0 0, .int .i64 1]) (by simp [results, Tryz.results19, go_sem]) rfl ⟨rfl, rfl⟩
theorem nClone {W0 w : World} {L : List Assn} (b : Option Nat) (hs : Sat W0 w (noneS b :: L)) :
    Calls Tryz.prog 28 #[ptrO b] w fun e w' => e = .returned (.tuple #[.pointer none, .int .i64 1]) ∧ w' = w := by
  go_enter Tryz.func28, Tryz.ntmps28
  go_wp2_with fail
  refine (nNone b hs).mono ?_
  rintro e w1 ⟨rfl, rfl⟩
  go_wp2_with fail
  exact bodyPost_ret (v := .tuple #[.pointer none, .int .i64 1]) (by simp [results, Tryz.results28, go_sem]) rfl ⟨rfl, rfl⟩
theorem nVerify {W0 w : World} {L : List Assn} (b : Option Nat) (v : Value) (p : Option Addr) (n c : Nat) (hs : Sat W0 w (noneS b :: L)) :
    Calls Tryz.prog 20 #[ptrO b, v, .slice p n c] w fun e w' => e = .returned (.tuple #[.bool false, .int .i64 1]) ∧ w' = w := by
  go_enter Tryz.func20, Tryz.ntmps20
  go_wp2_with fail
  refine (nNone b hs).mono ?_
  rintro e w1 ⟨rfl, rfl⟩
  go_wp2_with fail
  exact bodyPost_ret (v := .tuple #[.bool false, .int .i64 1]) (by simp [results, Tryz.results20, go_sem]) rfl ⟨rfl, rfl⟩
theorem nWrite {W0 w : World} {L : List Assn} (b : Option Nat) (v : Value) (p : Option Addr) (n c : Nat) (hs : Sat W0 w (noneS b :: L)) :
    Calls Tryz.prog 18 #[ptrO b, v, .slice p n c] w fun e w' => e = .returned (.int .i64 1) ∧ w' = w := by
  go_enter Tryz.func18, Tryz.ntmps18
  go_wp2_with fail
  refine (nNone b hs).mono ?_
  rintro e w1 ⟨rfl, rfl⟩
  go_wp2_with fail
  go_ret
  exact ⟨rfl, rfl⟩
theorem nWipe {W0 w : World} {L : List Assn} (b : Option Nat) (v : Value) (hs : Sat W0 w (noneS b :: L)) :
    Calls Tryz.prog 25 #[ptrO b, v] w fun e w' => e = .returned (.int .i64 1) ∧ w' = w := by
  go_enter Tryz.func25, Tryz.ntmps25
  go_wp2_with fail
  refine (nNone b hs).mono ?_
  rintro e w1 ⟨rfl, rfl⟩
  go_wp2_with fail
  go_ret
  exact ⟨rfl, rfl⟩
theorem nForm {W0 w : World} {L : List Assn} (b : Option Nat) (hs : Sat W0 w (noneS b :: L)) :
    Calls Tryz.prog 30 #[ptrO b] w fun e w' => e = .returned (.slice none 0 0) ∧ w' = w := by
  go_enter Tryz.func30, Tryz.ntmps30
  go_wp2_with fail
  refine (nNone b hs).mono ?_
  rintro e w1 ⟨rfl, rfl⟩
  go_wp2_with fail
  go_ret
  exact ⟨rfl, rfl⟩
theorem nAlg {W0 w : World} {L : List Assn} (b : Option Nat) (hs : Sat W0 w (noneS b :: L)) :
    Calls Tryz.prog 15 #[ptrO b] w fun e w' => e = .returned (.int .u8 0) ∧ w' = w := by
  cases b with
  | none =>
    simp only [ptrO, Option.map_none]
    go_enter Tryz.func15, Tryz.ntmps15
    go_wp2
    go_ret
    exact ⟨rfl, rfl⟩
  | some b =>
    simp only [ptrO, Option.map_some, noneS, wipedS] at hs ⊢
    have c0 := hs.at 5 rfl
    have z0 := hs.lt (by simp)
    go_enter Tryz.func15, Tryz.ntmps15
    go_wp2
    go_ret
    exact ⟨rfl, rfl⟩
theorem nOut {W0 w : World} {L : List Assn} (b : Option Nat) (hs : Sat W0 w (noneS b :: L)) :
    Calls Tryz.prog 16 #[ptrO b] w fun e w' => e = .returned (.int .i64 0) ∧ w' = w := by
  cases b with
  | none =>
    simp only [ptrO, Option.map_none]
    go_enter Tryz.func16, Tryz.ntmps16
    go_wp2
    go_ret
    exact ⟨rfl, rfl⟩
  | some b =>
    simp only [ptrO, Option.map_some, noneS, wipedS] at hs ⊢
    have c0 := hs.at 6 rfl
    have z0 := hs.lt (by simp)
    go_enter Tryz.func16, Tryz.ntmps16
    go_wp2
    go_ret
    exact ⟨rfl, rfl⟩
set_option maxRecDepth 100000 in
set_option maxHeartbeats 2000000 in
theorem empty17 {W0 w : World} {L : List Assn} (b : Option Nat) (p : Option Addr) (n c : Nat) (hs : Sat W0 w (noneS b :: L)) :
    Calls Tryz.prog 39 #[ptrO b, .slice p n c] w fun e w' => e = .returned (.bool true) ∧ Sat W0 w' (noneS b :: L) := by
  go_enter Tryz.func39, Tryz.ntmps39
  go_wp2_with fail
  refine (ledNewF hs).mono ?_
  rintro e w1 ⟨l, rfl, s1⟩
  have sn : Sat W0 w1 (noneS b :: []) := (Sat.sub (s1) (by (repeat (first | with_reducible exact Fr.done | with_reducible exact Fr.nil | (with_reducible apply Fr.cons; (focus ((repeat (first | with_reducible exact Take.here | with_reducible apply Take.there)); done))) | with_reducible apply Fr.skip))))
  have sl : Sat W0 w1 (ledO (some l) [] :: []) := (Sat.sub (s1) (by (repeat (first | with_reducible exact Fr.done | with_reducible exact Fr.nil | (with_reducible apply Fr.cons; (focus ((repeat (first | with_reducible exact Take.here | with_reducible apply Take.there)); done))) | with_reducible apply Fr.skip))))
  have HS := Lib.hid (s1.drop 0); clear s1 hs
  go_wp2_with fail
  refine (nSum b _ sn).mono ?_
  rintro e w2 ⟨rfl, rfl⟩
  go_wp2_with fail
  refine (nClone b sn).mono ?_
  rintro e w2 ⟨rfl, rfl⟩
  go_wp2_with fail
  refine (nVerify b _ p n c sn).mono ?_
  rintro e w2 ⟨rfl, rfl⟩
  go_wp2_with fail
  refine (nWrite b _ p n c sn).mono ?_
  rintro e w2 ⟨rfl, rfl⟩
  go_wp2_with fail
  refine (nWipe b _ sn).mono ?_
  rintro e w2 ⟨rfl, rfl⟩
  go_wp2_with fail
  refine (nForm b sn).mono ?_
  rintro e w2 ⟨rfl, rfl⟩
  go_wp2_with fail
  refine (nAlg b sn).mono ?_
  rintro e w2 ⟨rfl, rfl⟩
  go_wp2_with fail
  refine (nOut b sn).mono ?_
  rintro e w2 ⟨rfl, rfl⟩
  go_wp2_with fail
  refine (ledLenF sl).mono ?_
  rintro e w2 ⟨rfl, rfl⟩
  simp only [tot]
  go_wp2_with fail
  go_ret
  exact ⟨rfl, HS.out⟩
end Go.Proofs.YtooolimpkafhaaaGreat
