
/- Layer 12's program: a mac's form, size, clone, refusal; under the conditions that each names. -/
import Derived.Test.YtooolimpkafhaaaGreatPbk
import Derived.Test.YtooolimpkafhaaaGreatGG
namespace Go.Proofs.YtooolimpkafhaaaGreat
open Go.RowKit Go.Sep Go.Bv Go.Sha
set_option linter.unusedVariables false
set_option linter.unusedSimpArgs false
def formsH (wide : Bool) (k msg : List Byte) : Nat → List Byte
  | 0 => []
  | 1 => formH wide (xorKey wide k 54 ++ msg)
  | 2 => formH wide (xorKey wide k 54 ++ msg) ++ formH wide (xorKey wide k 92)
  | _ => formH wide (xorKey wide k 54 ++ msg) ++ formH wide (xorKey wide k 92) ++ formH wide (xorKey wide k 54)
/-- A mac's memory. -/
def macForm (wide : Bool) (k msg : List Byte) : List Byte := formsH wide k msg 3
set_option maxHeartbeats 1000000 in
theorem hmacStates {W0 w : World} {L : List Assn} {c b1 b2 b3 : Nat} (wide : Bool) (hs : Sat W0 w (seg true c 0 [.int .i64 (hsz wide : Int), ifv wide b1, ifv wide b2, ifv wide b3] :: L)) :
    Calls Tryz.prog 153 #[.pointer (some ⟨c, 0, none⟩)] w fun e w' => e = .returned (.agg #[ifv wide b1, ifv wide b2, ifv wide b3]) ∧ Sat W0 w' (seg true c 0 [.int .i64 (hsz wide : Int), ifv wide b1, ifv wide b2, ifv wide b3] :: L) := by
  have c1 := hs.at 1 rfl
  have c2 := hs.at 2 rfl
  have c3 := hs.at 3 rfl
  have z := hs.lt (by simp)
  have HS := Lib.hid hs; clear hs
  cases wide
  · skip
    simp only [ifv] at c1 c2 c3 ⊢
    go_enter Tryz.func153, Tryz.ntmps153
    go_wp2_with fail
    refine wp_region_quiet_tail_lit 13 (by kernel_rfl) (by kernel_rfl) ?_
    simp only [List.take_succ_cons, List.take_zero, List.drop_succ_cons, List.drop_zero]
    repeat (go_big_quiet_step (fail))
    refine wpQuiet_nil ?_
    rintro _ ⟨nq, rfl⟩
    go_wp2
    refine bodyPost_ret (v := .agg #[ifv false b1, ifv false b2, ifv false b3]) (by simp [results, Tryz.results153, go_sem, ifv]) rfl ⟨rfl, ?_⟩
    exact (((((HS.out.alloc #[.nilIface, .nilIface, .nilIface] 199).drewN nq).store (i := 0) (by simp) _ (q := 0) rfl).store (i := 1) (by simp) _ (q := 1) rfl).store (i := 2) (by simp) _ (q := 2) rfl).tail
  · skip
    simp only [ifv] at c1 c2 c3 ⊢
    go_enter Tryz.func153, Tryz.ntmps153
    go_wp2_with fail
    refine wp_region_quiet_tail_lit 13 (by kernel_rfl) (by kernel_rfl) ?_
    simp only [List.take_succ_cons, List.take_zero, List.drop_succ_cons, List.drop_zero]
    repeat (go_big_quiet_step (fail))
    refine wpQuiet_nil ?_
    rintro _ ⟨nq, rfl⟩
    go_wp2
    refine bodyPost_ret (v := .agg #[ifv true b1, ifv true b2, ifv true b3]) (by simp [results, Tryz.results153, go_sem, ifv]) rfl ⟨rfl, ?_⟩
    exact (((((HS.out.alloc #[.nilIface, .nilIface, .nilIface] 199).drewN nq).store (i := 0) (by simp) _ (q := 0) rfl).store (i := 1) (by simp) _ (q := 1) rfl).store (i := 2) (by simp) _ (q := 2) rfl).tail
theorem macTwin {W0 w : World} {L : List Assn} {wide : Bool} {c b1 b2 b3 d1 d2 d3 : Nat} {T : TypeId} {k msg : List Byte} (s : Sat W0 w (dst wide d3 (xorKey wide k 54) :: dst wide b3 (xorKey wide k 54) :: dst wide d2 (xorKey wide k 92) :: dst wide b2 (xorKey wide k 92) :: dst wide d1 (xorKey wide k 54 ++ msg) :: dst wide b1 (xorKey wide k 54 ++ msg) :: seg true c 0 [.int .i64 (hsz wide : Int), ifv wide b1, ifv wide b2, ifv wide b3] :: L)) :
    Sat W0 (w.alloc (.cells #[.int .i64 (hsz wide : Int), ifv wide d1, ifv wide d2, ifv wide d3] T)) (mac wide w.heap.size k msg :: mac wide c k msg :: L) := by
  have s1 := s.alloc #[.int .i64 (hsz wide : Int), ifv wide d1, ifv wide d2, ifv wide d3] T
  have s2 : Sat W0 _ (macP wide w.heap.size d1 d2 d3 k msg (seg true c 0 [.int .i64 (hsz wide : Int), ifv wide b1, ifv wide b2, ifv wide b3] :: dst wide b1 (xorKey wide k 54 ++ msg) :: dst wide b2 (xorKey wide k 92) :: dst wide b3 (xorKey wide k 54) :: L)) := s1.pick [0, 5, 3, 1, 7, 6, 4, 2]
  exact (macShut ((macShut s2).pick [1, 2, 3, 4, 0])).pick [1]
set_option maxRecDepth 100000 in
set_option maxHeartbeats 2000000 in
theorem hmacClone {W0 w : World} {L : List Assn} {c : Nat} (wide : Bool) (k msg : List Byte) (hs : Sat W0 w (mac wide c k msg :: L)) :
    Calls Tryz.prog 99 #[.pointer (some ⟨c, 0, none⟩)] w fun e w' => ∃ d, e = .returned (.tuple #[.pointer (some ⟨d, 0, none⟩), .int .i64 0]) ∧ Sat W0 w' (mac wide d k msg :: mac wide c k msg :: L) := by
  obtain ⟨b1, b2, b3, s0⟩ := macOpen hs
  clear hs
  have hi := macIs wide s0
  have hK : ∀ wx, Sat W0 wx (seg true c 0 [.int .i64 (hsz wide : Int), ifv wide b1, ifv wide b2, ifv wide b3] :: []) → wx.cell? ⟨c, 0, none⟩ = some (.int .i64 (hsz wide : Int)) ∧ wx.cell? ⟨c, 1, none⟩ = some (ifv wide b1) ∧ wx.cell? ⟨c, 2, none⟩ = some (ifv wide b2) ∧ wx.cell? ⟨c, 3, none⟩ = some (ifv wide b3) := fun wx h => ⟨h.at 0 rfl, h.at 1 rfl, h.at 2 rfl, h.at 3 rfl⟩
  cases wide
  · skip
    have HK := Lib.hid hK; clear hK
    simp only [macP, ifv, hsz] at HK s0 ⊢
    go_enter Tryz.func99, Tryz.ntmps99
    go_wp2_with fail
    refine hi.mono ?_
    rintro e w' ⟨rfl, rfl⟩
    go_wp2_with fail
    go_region_held3 (fun w' => w'.cell? ⟨c, 0, none⟩ = some (.int .i64 32) ∧ w'.cell? ⟨c, 1, none⟩ = some (.iface 194 (.agg #[.pointer (some ⟨b1, 0, none⟩)])) ∧ w'.cell? ⟨c, 2, none⟩ = some (.iface 194 (.agg #[.pointer (some ⟨b2, 0, none⟩)])) ∧ w'.cell? ⟨c, 3, none⟩ = some (.iface 194 (.agg #[.pointer (some ⟨b3, 0, none⟩)]))) (first | exact HK.out _ (Sat.sub (s0) (by (repeat (first | with_reducible exact Fr.done | with_reducible exact Fr.nil | (with_reducible apply Fr.cons; (focus ((repeat (first | with_reducible exact Take.here | with_reducible apply Take.there)); done))) | with_reducible apply Fr.skip)))) | exact HK.out _ (Sat.sub (s0.drew) (by (repeat (first | with_reducible exact Fr.done | with_reducible exact Fr.nil | (with_reducible apply Fr.cons; (focus ((repeat (first | with_reducible exact Take.here | with_reducible apply Take.there)); done))) | with_reducible apply Fr.skip)))) | exact HK.out _ (Sat.sub ((s0.alloc' _)) (by (repeat (first | with_reducible exact Fr.done | with_reducible exact Fr.nil | (with_reducible apply Fr.cons; (focus ((repeat (first | with_reducible exact Take.here | with_reducible apply Take.there)); done))) | with_reducible apply Fr.skip))))) ((refine (dCopy false _ (by first | exact (Sat.sub (s0) (by (repeat (first | with_reducible exact Fr.done | with_reducible exact Fr.nil | (with_reducible apply Fr.cons; (focus ((repeat (first | with_reducible exact Take.here | with_reducible apply Take.there)); done))) | with_reducible apply Fr.skip)))) | exact (Sat.sub (s0.drew) (by (repeat (first | with_reducible exact Fr.done | with_reducible exact Fr.nil | (with_reducible apply Fr.cons; (focus ((repeat (first | with_reducible exact Take.here | with_reducible apply Take.there)); done))) | with_reducible apply Fr.skip)))))).mono ?_; rintro e w1 ⟨d1, rfl, s0⟩; simp only [ifv]))
    all_goals
      go_wp2
      refine bodyPost_ret (v := .tuple #[.pointer (some ⟨w1.heap.size, 0, none⟩), .int .i64 0]) (by simp [results, Tryz.results99, go_sem]) rfl ⟨_, rfl, ?_⟩
      exact macTwin (wide := false) s0
  · skip
    have HK := Lib.hid hK; clear hK
    simp only [macP, ifv, hsz] at HK s0 ⊢
    go_enter Tryz.func99, Tryz.ntmps99
    go_wp2_with fail
    refine hi.mono ?_
    rintro e w' ⟨rfl, rfl⟩
    go_wp2_with fail
    go_region_held3 (fun w' => w'.cell? ⟨c, 0, none⟩ = some (.int .i64 64) ∧ w'.cell? ⟨c, 1, none⟩ = some (.iface 198 (.agg #[.pointer (some ⟨b1, 0, none⟩)])) ∧ w'.cell? ⟨c, 2, none⟩ = some (.iface 198 (.agg #[.pointer (some ⟨b2, 0, none⟩)])) ∧ w'.cell? ⟨c, 3, none⟩ = some (.iface 198 (.agg #[.pointer (some ⟨b3, 0, none⟩)]))) (first | exact HK.out _ (Sat.sub (s0) (by (repeat (first | with_reducible exact Fr.done | with_reducible exact Fr.nil | (with_reducible apply Fr.cons; (focus ((repeat (first | with_reducible exact Take.here | with_reducible apply Take.there)); done))) | with_reducible apply Fr.skip)))) | exact HK.out _ (Sat.sub (s0.drew) (by (repeat (first | with_reducible exact Fr.done | with_reducible exact Fr.nil | (with_reducible apply Fr.cons; (focus ((repeat (first | with_reducible exact Take.here | with_reducible apply Take.there)); done))) | with_reducible apply Fr.skip)))) | exact HK.out _ (Sat.sub ((s0.alloc' _)) (by (repeat (first | with_reducible exact Fr.done | with_reducible exact Fr.nil | (with_reducible apply Fr.cons; (focus ((repeat (first | with_reducible exact Take.here | with_reducible apply Take.there)); done))) | with_reducible apply Fr.skip))))) ((refine (dCopy true _ (by first | exact (Sat.sub (s0) (by (repeat (first | with_reducible exact Fr.done | with_reducible exact Fr.nil | (with_reducible apply Fr.cons; (focus ((repeat (first | with_reducible exact Take.here | with_reducible apply Take.there)); done))) | with_reducible apply Fr.skip)))) | exact (Sat.sub (s0.drew) (by (repeat (first | with_reducible exact Fr.done | with_reducible exact Fr.nil | (with_reducible apply Fr.cons; (focus ((repeat (first | with_reducible exact Take.here | with_reducible apply Take.there)); done))) | with_reducible apply Fr.skip)))))).mono ?_; rintro e w1 ⟨d1, rfl, s0⟩; simp only [ifv]))
    all_goals
      go_wp2
      refine bodyPost_ret (v := .tuple #[.pointer (some ⟨w1.heap.size, 0, none⟩), .int .i64 0]) (by simp [results, Tryz.results99, go_sem]) rfl ⟨_, rfl, ?_⟩
      exact macTwin (wide := true) s0
end Go.Proofs.YtooolimpkafhaaaGreat
