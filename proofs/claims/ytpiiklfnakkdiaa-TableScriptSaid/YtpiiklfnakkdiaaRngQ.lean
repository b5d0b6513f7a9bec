
/- A drawn region inside a round of a range over a function: one walk of the lexical order, where the operations leave the world alone; and a round whose variables are allocated; each under the conditions that it names. -/
import Derived.Test.YtpiiklfnakkdiaaRng
import Derived.Sort.BigQuietIn
namespace Go.Sep
open Go.RowKit
set_option linter.unusedVariables false
theorem wpOpsIn_inRound {F : Fence} {n : Nat} {P : Program} {ops : Array Oper} {Q : Exit → Act → World → Prop} (l : Nat) (hro : F.round = none) (hnd : ∀ (j : Nat) (o : Oper), ops[j]? = some o → ∀ c, o.op ≠ .defer c) :
    ∀ (is : List Nat) (a : Act) (w : World), wpOpsIn F n P ops Q is a w → wpOpsIn (F.inRound l) n P ops Q is a w
  | [], _, _, h => h
  | i :: is, a, w, h => by
    have ih := fun a w => wpOpsIn_inRound (F := F) (n := n) (P := P) (Q := Q) l hro hnd is a w
    simp only [wpOpsIn] at h ⊢
    cases ho : ops[i]? with
    | none => simp only [ho] at h ⊢; exact ih _ _ h
    | some o =>
      simp only [ho] at h ⊢
      by_cases hw : Region.wanted o (yielded ops a.tmps) = true
      · simp only [hw, if_true] at h ⊢
        obtain ⟨h1, h2⟩ := h
        refine ⟨h1, ?_⟩
        rw [hro, Oper.semAt_none] at h2
        rw [show (F.inRound l).round = some l from rfl, Oper.semAt_some l _ _ (hnd i o ho)]
        generalize Sem.run P (execOp a.eval o) w = r at h2 ⊢
        cases r with
        | ok x w' =>
          cases x with
          | value v => exact ih _ _ h2
          | skip => exact ih _ _ h2
          | defer d => exact ih _ _ h2
          | enter f args =>
            refine ⟨h2.1, CallsIn.inRound l (h2.2.mono ?_)⟩
            intro e w'' he
            cases e with
            | returned v => exact ih _ _ he
            | panicked c => exact he
            | outgrown => exact he
          | row rw args => exact ⟨h2.1, RowsIn.mono h2.2 fun v w'' he => ih _ _ he⟩
          | round k f t as b =>
            refine ⟨h2.1, RoundIn.mono h2.2 ?_⟩
            intro e w'' he
            cases e with
            | returned v => exact ih _ _ he
            | panicked c => exact he
            | outgrown => exact he
          | _ => exact h2.elim
        | halt x w' => cases x <;> exact h2
      · simp only [hw, if_false, Bool.false_eq_true] at h ⊢
        exact ⟨h.1, ih _ _ h.2⟩
def noDefer (l : List Oper) : Bool := l.all fun o => match o.op with | .defer _ => false | _ => true
theorem noDefer_spec {l : List Oper} (h : noDefer l = true) (j : Nat) (o : Oper) (ho : l.toArray[j]? = some o) (c : Call) : o.op ≠ .defer c := fun e => by
  have hm : o ∈ l := List.mem_of_getElem? (by simpa using ho)
  have := List.all_eq_true.1 h o hm
  rw [e] at this
  cases this
theorem wpIn_round_quiet_lit {F : Fence} {n k : Nat} {P : Program} {id : Nat} {Q : Exit → Act → World → Prop} {a : Act} {w : World} {l : List Oper} (hro : F.round = none) (hm : P.follows .mixedOrders = true) (hB : Region.lexB .any l.toArray = true) (hnd : noDefer l = true)
    (h : wpQuietIn F n P l.toArray (fun w' => ∃ n, w' = w.drewN n) (fun a' => ∀ w', (∃ n, w' = w.drewN n) → Q .normal a' w') l a) : (Code.region id l.toArray true).wpIn (F.inRound k) n P Q a w := by
  refine wpIn_region_draw fun t => wpOpsIn_inRound k hro (fun j o ho c => noDefer_spec hnd j o ho c) _ _ _ ?_
  simp only [Region.schedule, hm, Bool.true_or, if_true]
  simp only [Region.lexB, Bool.and_eq_true] at hB
  refine wpAnyIn_sound _ t _ a _ (wpAnyIn_of_quiet (C := fun w' => ∃ n, w' = w.drewN n) (Q := fun a' => ∀ w', (∃ n, w' = w.drewN n) → Q .normal a' w') hro (fun _ w' hw' h => h w' hw') _ _ _ _ ⟨1, rfl⟩ ?_)
  have := wpAnyQIn_lex (F := F) (n := n) (C := fun w' => ∃ n, w' = w.drewN n) (md := .any) hB.1 l.toArray.toList 0 (Array.replicate l.toArray.size false) a (by simp) (by simpa using hB.2) (by simpa using h)
  simpa using this
/-- A round whose variables are allocated. -/
theorem yieldSatA {F : Fence} {n : Nat} {P : Program} {W0 W : World} {L L' : List Assn} {l D : Nat} {fn : FuncId} {tmps : Array Value} {ps : Array Tmp} {assign body : Code} {args : Array Value} {R : Ending → World → Prop}
    (hsz : args.size = ps.size) (hfn : F.fn fn) (hs : Sat W0 W (obj l (loopRec fn tmps ps assign body D .ready none) :: L)) (a1 : Act)
    (hassign : ∀ K : Act → World → Prop, (∀ W', Sat W0 W' (obj l (loopRec fn tmps ps assign body D .ready none) :: L') → K a1 W') → assign.wpIn (F.inRound l) n P (Exit.then K (fun _ _ _ => False)) { tmps := (ps.zip args).foldl (fun t (p, v) => t.setIfInBounds p v) tmps, defers := [] } W)
    (hbody : ∀ W2, Sat W0 W2 (obj l (loopRec fn tmps ps assign body D .busy none) :: L') → body.wpIn (F.inRound l) n P (fun e _ W3 => ∃ L3, Sat W0 W3 (obj l (loopRec fn tmps ps assign body D .busy none) :: L3) ∧
        (match e with
        | .normal => ∀ W4, Sat W0 W4 (obj l (loopRec fn tmps ps assign body D .ready none) :: L3) → R (.returned (.bool true)) W4
        | .exit id => ∀ W4, Sat W0 W4 (obj l (loopRec fn tmps ps assign body D .done (some (.exit id))) :: L3) → R (.returned (.bool false)) W4
        | .ret => ∀ W4, Sat W0 W4 (obj l (loopRec fn tmps ps assign body D .done (some .ret)) :: L3) → R (.returned (.bool false)) W4
        | _ => False)) a1 W2) :
    YieldAt F n P l args W R := by
  refine ⟨fn, _, assign, body, run_yield hs.obj.1 hsz, roundIn_of_wpIn hfn (hassign _ fun W' hs' => ⟨_, run_beginRound hs'.obj.1 rfl, ?_⟩)⟩
  refine wpIn_mono (hbody _ (hs'.putObj (loopRec fn tmps ps assign body D .busy none) rfl)) ?_
  rintro e a3 W3 ⟨L3, s3, h3⟩
  cases e with
  | normal => exact ⟨_, _, run_endRound none s3.obj.1, h3 _ (s3.putObj (loopRec fn tmps ps assign body D .ready none) rfl)⟩
  | ret => exact ⟨_, _, run_endRound (some .ret) s3.obj.1, h3 _ (s3.putObj (loopRec fn tmps ps assign body D .done (some .ret)) rfl)⟩
  | exit id => exact ⟨_, _, run_endRound (some (.exit id)) s3.obj.1, h3 _ (s3.putObj (loopRec fn tmps ps assign body D .done (some (.exit id))) rfl)⟩
  | goto t => exact h3.elim
  | panic c => exact h3.elim
  | outgrown => exact h3.elim
end Go.Sep
