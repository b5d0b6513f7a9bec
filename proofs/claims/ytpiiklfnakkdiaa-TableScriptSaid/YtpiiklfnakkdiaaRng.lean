
/- A range over a function, in the separation logic: the statement; a round; each under the conditions that it names. -/
import Derived.RangeFuncLeaves
import Derived.RangeFuncRecord
import Derived.RangeFuncSeq
import Derived.RangeFuncCalls
import Derived.WalkKit
import Derived.Test.YtpiiklfnakkdiaaSep
namespace Go.Sep
open Go.RowKit
set_option linter.unusedVariables false
/-- A loop's record. -/
abbrev loopRec (fn : FuncId) (tmps : Array Value) (ps : Array Tmp) (assign body : Code) (D : Nat) (st : LoopState) (pe : Option Code) : Obj := .loop { state := st, pending := pe, fn, tmps, params := ps, assign, body, defers := D }
/-- What an activation puts among its deferred calls. -/
abbrev markOf (D : Nat) : Deferred := { target := .collected D, args := #[] }
theorem wpIn_rangeSat {F : Fence} {n : Nat} {P : Program} {W0 w : World} {L : List Assn} {g : Operand} {ps : Array Tmp} {assign body : Code} {Q : Exit → Act → World → Prop} {a : Act}
    (hro : F.round = none) (h1 : 1 ≤ n) {gf : Nat} {lb : Array Value} (hg : a.eval g = .func (.func gf) #[] lb) (hFg : F.fn gf) (eg : ∀ args w, (callFunc gf args).run P w = .ok (.enter gf args) w)
    (hs : Sat W0 w L)
    (h : ∀ (fn : FuncId) (l D : Nat) (rd : LoopState → Option Code → Obj) (W1 : World), F.fn fn → l = w.heap.size + 1 → D = w.heap.size → rd = loopRec fn a.tmps ps assign body D → Sat W0 W1 (obj l (rd .ready none) :: obj D (.deferred (some [])) :: L) →
      CallsIn F (n - 1) P gf (#[.func (.yield l) #[] #[]] ++ lb) W1 fun e W' => (∃ v, e = .returned v) ∧ ∃ st pe L', st ≠ .busy ∧ Sat W0 W' (obj l (rd st pe) :: obj D (.deferred (some [])) :: L') ∧
        ∀ W2, Sat W0 W2 (obj D (.deferred (some [])) :: L') → W2.heap[D]? = some (.deferred (some [])) → (match pe with | none => Q .normal { a with defers := markOf D :: a.defers } W2 | some c => c.wpIn F n P Q { a with defers := markOf D :: a.defers } W2)) :
    (Code.rangeFunc g ps assign body).wpIn F n P Q a w := by
  refine wpIn_rangeFunc ?_
  intro fn hfn
  rw [hro]
  have s1 := hs.allocObj (.deferred (some [])) rfl rfl
  have s2 := s1.allocObj (loopRec fn a.tmps ps assign body w.heap.size .ready none) rfl (q := w.heap.size + 1) (by simp)
  refine ⟨w.heap.size + 1, [markOf w.heap.size], (w.alloc (.deferred (some []))).alloc (loopRec fn a.tmps ps assign body w.heap.size .ready none), { target := .fn (.func gf) lb, args := #[.func (.yield (w.heap.size + 1)) #[] #[]] }, (w.alloc (.deferred (some []))).alloc (loopRec fn a.tmps ps assign body w.heap.size .ready none), gf, #[.func (.yield (w.heap.size + 1)) #[] #[]] ++ lb, (w.alloc (.deferred (some []))).alloc (loopRec fn a.tmps ps assign body w.heap.size .ready none), run_enterLoop_outer _ _ _ _ _, ?_, ?_, ?_, fun _ => h1, ?_⟩
  · simp only [resolve, hg]
    simp [go_sem]
  · intro f' hf'; simp [Target.leads] at hf'; subst hf'; exact hFg
  · simp [invoke, go_sem, eg]
  · refine (h fn (w.heap.size + 1) w.heap.size _ _ hfn rfl rfl rfl s2).mono ?_
    rintro e W' ⟨⟨v, rfl⟩, st, pe, L', hst, s3, h3⟩
    have s4 := s3.putObj (loopRec fn a.tmps ps assign body w.heap.size .exhausted pe) rfl
    have s5 : Sat W0 _ (obj w.heap.size (.deferred (some [])) :: L') := s4.tail
    refine ⟨pe, _, run_endLoop s3.obj.1 hst, ?_⟩
    have h4 := h3 _ s5 s5.obj.1
    cases pe with
    | none => exact h4
    | some c => exact h4
/-- A round: the body is walked from the world in which the record is busy. -/
theorem yieldSat {F : Fence} {n : Nat} {P : Program} {W0 W : World} {L : List Assn} {l D : Nat} {fn : FuncId} {tmps : Array Value} {ps : Array Tmp} {assign body : Code} {args : Array Value} {R : Ending → World → Prop}
    (hsz : args.size = ps.size) (hfn : F.fn fn) (hs : Sat W0 W (obj l (loopRec fn tmps ps assign body D .ready none) :: L)) (a1 : Act)
    (hassign : ∀ K : Act → World → Prop, K a1 W → assign.wpIn (F.inRound l) n P (Exit.then K (fun _ _ _ => False)) { tmps := (ps.zip args).foldl (fun t (p, v) => t.setIfInBounds p v) tmps, defers := [] } W)
    (hbody : ∀ W2, Sat W0 W2 (obj l (loopRec fn tmps ps assign body D .busy none) :: L) → body.wpIn (F.inRound l) n P (fun e _ W3 => ∃ L3, Sat W0 W3 (obj l (loopRec fn tmps ps assign body D .busy none) :: L3) ∧
        (match e with
        | .normal => ∀ W4, Sat W0 W4 (obj l (loopRec fn tmps ps assign body D .ready none) :: L3) → R (.returned (.bool true)) W4
        | .exit id => ∀ W4, Sat W0 W4 (obj l (loopRec fn tmps ps assign body D .done (some (.exit id))) :: L3) → R (.returned (.bool false)) W4
        | .ret => ∀ W4, Sat W0 W4 (obj l (loopRec fn tmps ps assign body D .done (some .ret)) :: L3) → R (.returned (.bool false)) W4
        | _ => False)) a1 W2) :
    YieldAt F n P l args W R := by
  refine ⟨fn, _, assign, body, run_yield hs.obj.1 hsz, roundIn_of_wpIn hfn (hassign _ ⟨_, run_beginRound hs.obj.1 rfl, ?_⟩)⟩
  refine wpIn_mono (hbody _ (hs.putObj (loopRec fn tmps ps assign body D .busy none) rfl)) ?_
  rintro e a3 W3 ⟨L3, s3, h3⟩
  cases e with
  | normal => exact ⟨_, _, run_endRound none s3.obj.1, h3 _ (s3.putObj (loopRec fn tmps ps assign body D .ready none) rfl)⟩
  | ret => exact ⟨_, _, run_endRound (some .ret) s3.obj.1, h3 _ (s3.putObj (loopRec fn tmps ps assign body D .done (some .ret)) rfl)⟩
  | exit id => exact ⟨_, _, run_endRound (some (.exit id)) s3.obj.1, h3 _ (s3.putObj (loopRec fn tmps ps assign body D .done (some (.exit id))) rfl)⟩
  | goto t => exact h3.elim
  | panic c => exact h3.elim
  | outgrown => exact h3.elim
end Go.Sep
