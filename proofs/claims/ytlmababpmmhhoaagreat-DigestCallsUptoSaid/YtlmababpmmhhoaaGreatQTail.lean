
/- A region that draws its order: its first operations only read, or call what leaves a class of worlds; the others come up in one order, behind all of these: one walk in the text's order serves every order. Under the two Bools that are named. -/
import Derived.Deep.Quiet
import Derived.StillTail
import Derived.Deep.QuietTactic
import Derived.BigQuiet
namespace Go.Sep
set_option linter.unusedVariables false
section
variable {P : Program} {ops : Array Oper} {md : Region.Mode} {C : World → Prop}
/-- The head in whatever order: f operations are still to come up, all of them below n; then T. -/
def headQ (P : Program) (md : Region.Mode) (ops : Array Oper) (C : World → Prop) (n : Nat) (T : Array Bool → Act → Prop) : Nat → Array Bool → Act → Prop
  | 0, done, a => T done a
  | f + 1, done, a => Region.ready md ops done ≠ [] ∧ ∀ i ∈ Region.ready md ops done, i < n ∧ qOp P ops C i (headQ P md ops C n T f (done.setIfInBounds i true)) a
theorem headQ_any {n g : Nat} {T : Array Bool → Act → Prop} {Q : Exit → Act → World → Prop} (hT : ∀ done a w, C w → T done a → wpAny P md ops Q g done a w) (f : Nat) :
    ∀ (done : Array Bool) (a : Act) (w : World), C w → headQ P md ops C n T f done a → wpAny P md ops Q (f + g) done a w := by
  induction f with
  | zero => intro done a w hw h; rw [Nat.zero_add]; exact hT _ _ _ hw h
  | succ f ih =>
    intro done a w hw h
    rw [Nat.succ_add]
    exact ⟨fun h0 => absurd h0 h.1, fun i hi => wpOp_of_qOp hw (fun a' w' hw' h' => ih _ a' w' hw' h') (h.2 i hi).2⟩
/-- Each operation from k to n - 1 is waited for by one behind it, n at the latest. -/
def sinkFrom (md : Region.Mode) (ops : Array Oper) (k n : Nat) : Bool := (List.range n).all fun i => decide (i < k) || (List.range (n + 1)).any fun j => decide (i < j) && Region.waitsFor md ops j i
/-- While an operation of the head is not done, none of the tail may come up. -/
theorem tail_late {k n : Nat} {done : Array Bool} (hs : sinkFrom md ops k n = true) (hc : Region.chainB md ops n = true) (inv : HeadInv md ops n done) (d : Nat) :
    ∀ i, n - i ≤ d → k ≤ i → i < n → done.getD i true = false → ∀ t, t ∈ Region.ready md ops done → t < n := by
  induction d with
  | zero => intro i hd _ hi; omega
  | succ d ih =>
    intro i hd hk hi hun t hr
    refine Nat.lt_of_not_le fun ht => ?_
    obtain ⟨_, x, hx, hall⟩ := mem_ready.1 hr
    have hlt : t < ops.size := (Array.getElem?_eq_some_iff.1 hx).1
    rcases Nat.lt_or_ge n t with htn | htn
    · have h1 := List.all_eq_true.1 hc t (List.mem_range.2 hlt)
      simp only [Bool.or_eq_true, decide_eq_true_eq] at h1
      obtain ⟨y, hy, e, he, hb, hon⟩ := Region.waitsFor_spec (h1.resolve_left (by omega))
      obtain rfl : x = y := Option.some.inj (hx.symm.trans hy)
      have := hall e he hb
      rw [hon, getD_both (inv.tail (t - 1) (by omega) (by omega))] at this
      cases this
    · obtain rfl : t = n := by omega
      have h1 := List.all_eq_true.1 hs i (List.mem_range.2 hi)
      simp only [Bool.or_eq_true, decide_eq_true_eq] at h1
      obtain ⟨j, hj, h2⟩ := List.any_eq_true.1 (h1.resolve_left (by omega))
      simp only [Bool.and_eq_true, decide_eq_true_eq] at h2
      obtain ⟨y, hy, e, he, hb, hon⟩ := Region.waitsFor_spec h2.2
      have hjt : j ≤ t := by have := List.mem_range.1 hj; omega
      by_cases ejt : j = t
      · subst ejt
        obtain rfl : x = y := Option.some.inj (hx.symm.trans hy)
        have := hall e he hb
        rw [hon, getD_both hun] at this
        cases this
      · cases hd2 : done.getD j false with
        | true =>
          have := inv.closed j y hy hd2 e he hb
          rw [hon, getD_both hun] at this
          cases this
        | false =>
          have := ih j (by omega) (by omega) (by omega) (getD_in (by rw [inv.size]; omega) hd2) t hr
          omega
/-- A head operation that is ready, and apart from all that need not wait for it, may be taken first. -/
theorem headQ_first {k n i : Nat} {x : Oper} {v : Value} {T : Array Bool → Act → Prop} (hx : ops[i]? = some x) (hsel : ∀ (j : Nat) (o : Oper) cs b, ops[j]? = some o → o.op ≠ .select cs b)
    (hs : sinkFrom md ops k n = true) (hc : Region.chainB md ops n = true) (hki : k ≤ i) (hin : i < n) (hT : ∀ done a, T done a → ∀ j ∈ Region.ready md ops done, n ≤ j) (f : Nat) :
    ∀ (done : Array Bool) (a : Act), HeadInv md ops n done → (∀ j y, ops[j]? = some y → j ≠ i → done.getD j true = false → (∀ e ∈ y.after, Region.binds md e = true → e.on ≠ i) → x.apart ops y = true) →
      i ∈ Region.ready md ops done → YieldsIn P ops C x v a → headQ P md ops C n T f (done.setIfInBounds i true) (a.put x.dst v) → headQ P md ops C n T (f + 1) done a := by
  induction f with
  | zero =>
    intro done a inv hfree hr hy H
    have hun := (mem_ready.1 hr).1
    refine ⟨List.ne_nil_of_mem hr, fun j hj => ?_⟩
    have hjn : j < n := tail_late hs hc inv _ i (Nat.le_refl _) hki hin hun j hj
    by_cases e : j = i
    · subst e; exact ⟨hjn, hy.qOp hx H⟩
    · have := hT _ _ H j (ready_mono hj e); omega
  | succ f ih =>
    intro done a inv hfree hr hy H
    have hun := (mem_ready.1 hr).1
    refine ⟨List.ne_nil_of_mem hr, fun j hj => ?_⟩
    have hjn : j < n := tail_late hs hc inv _ i (Nat.le_refl _) hki hin hun j hj
    by_cases e : j = i
    · subst e; exact ⟨hjn, hy.qOp hx H⟩
    obtain ⟨hjun, y, hyj, hall⟩ := mem_ready.1 hj
    have hno : ∀ e ∈ y.after, Region.binds md e = true → e.on ≠ i := fun e he hb heq => by
      have h1 := hall e he hb
      rw [heq, getD_both hun] at h1
      cases h1
    have h2 := qOp_put hyj (hfree j y hyj e hjun hno) (fun cs b => hsel i x cs b hx) (fun cs b => hsel j y cs b hyj) hy (H.2 j (ready_mono hj e)).2
    refine ⟨hjn, qOp_mono (fun a' h3 => ?_) h2⟩
    refine ih (done.setIfInBounds j true) a' (inv.set hj hjn) (fun k z hk hki hkun hkno => hfree k z hk hki ?_ hkno) (ready_mono hr (Ne.symm e)) h3.1 (by rw [Array.setIfInBounds_comm _ _ e]; exact h3.2)
    by_cases hjk : j = k
    · subst hjk; exact hjun
    · rwa [getD_set_ne true hjk] at hkun
theorem headQ_lex {k0 n g : Nat} {R : Act → Prop} (hsel : Region.noSelect ops = true) (hs : sinkFrom md ops k0 n = true) (hc : Region.chainB md ops n = true) :
    ∀ (l : List Oper) (k : Nat) (done : Array Bool) (a : Act), (∀ j, j < l.length → l[j]? = ops[k + j]?) → k0 ≤ k → k + l.length = n → HeadInv md ops n done →
    Region.lexHead md ops g l.length k done = true → wpQuiet P ops C R l a → headQ P md ops C n (fun d b => Region.seqB md ops g n d = true ∧ R b) l.length done a := by
  intro l
  induction l with
  | nil =>
    intro k done a _ _ hk _ hB h
    obtain rfl : k = n := by simpa using hk
    exact ⟨hB, h⟩
  | cons x l ih =>
    intro k done a hl hk0 hk inv hB h
    have h0 : ops[k]? = some x := by simpa using (hl 0 (by simp)).symm
    simp only [List.length_cons, Region.lexHead, Bool.and_eq_true] at hB
    simp only [List.length_cons] at hk
    have hr : k ∈ Region.ready md ops done := by simpa using hB.1.1
    obtain ⟨v, hy, hK⟩ := yieldsIn_of_qOp (K := wpQuiet P ops C R l) h0 (by unfold qOp; simp only [h0]; exact h)
    refine headQ_first h0 (Region.noSelect_spec hsel) hs hc hk0 (by omega) (fun d b hd => seqB_ready hd.1) l.length done a inv (Region.free_spec h0 hB.1.2) hr hy ?_
    exact ih (k + 1) _ _ (fun j hj => by have := hl (j + 1) (by simp; omega); simpa [Nat.add_assoc, Nat.add_comm 1 j] using this) (by omega) (by omega) (inv.set hr (by omega)) hB.2 hK
/-- What the two theorems below ask of a region's edges: the first k operations are moves, taken ahead of all; the rest of the first n may be taken in the text's order; those from n on come in their order, behind these. -/
def tailFrom (md : Region.Mode) (ops : Array Oper) (n : Nat) : Bool :=
  Region.noSelect ops && decide (0 < n) && decide (n < ops.size) && sinkFrom md ops 1 n && Region.chainB md ops n && Region.free md ops (Array.replicate ops.size false) 0 && (Region.ready md ops (Array.replicate ops.size false)).contains 0 &&
    Region.lexHead md ops (ops.size - n) (n - 1) 1 ((Array.replicate ops.size false).setIfInBounds 0 true)
/-- A first move whose value only the tail reads; then the head's operations, quiet in a class of worlds; the tail is walked from every world of the class. -/
theorem wp_region_move_tail {id : Nat} {Q : Exit → Act → World → Prop} {a : Act} {w : World} {o : Oper} {l : List Oper} (C : World → Prop) (n : Nat) (hm : P.follows .mixedOrders = true) (hB : tailFrom .any (o :: l).toArray n = true) (hC : C { w with drawn := w.drawn + 1 })
    (x : Operand) (ho : o.op = .move x) (hg : o.guard = none) (hQ : ∀ c (a : Act) v w, Q (.panic c) (a.put o.dst v) w → Q (.panic c) a w)
    (h : wpQuiet P (o :: l).toArray C (fun b => ∀ w', C w' → wpList P (o :: l).toArray Q ((o :: l).drop n) b w') (l.take (n - 1)) (a.put o.dst (a.eval x))) : (Code.region id (o :: l).toArray true).wp P Q a w := by
  simp only [tailFrom, Bool.and_eq_true, decide_eq_true_eq] at hB
  obtain ⟨⟨⟨⟨⟨⟨⟨hsel, h0⟩, hn⟩, hs⟩, hc⟩, hfr⟩, hrd⟩, hlex⟩ := hB
  have hn' : n < l.length + 1 := by simpa using hn
  have htl : (l.take (n - 1)).length = n - 1 := by simp; omega
  have hdl : ((o :: l).drop n).length = (o :: l).toArray.size - n := by simp
  have hr0 : 0 ∈ Region.ready .any (o :: l).toArray (Array.replicate (o :: l).toArray.size false) := by simpa using hrd
  have inv0 : HeadInv .any (o :: l).toArray n (Array.replicate (o :: l).toArray.size false) :=
    ⟨by simp, fun j y _ hl => (by rw [getD_replicate_false] at hl; cases hl), fun t _ ht => getD_in (by simpa using ht) (getD_replicate_false _ _)⟩
  have H := headQ_lex (md := .any) (g := (o :: l).toArray.size - n) hsel hs hc (l.take (n - 1)) 1 ((Array.replicate (o :: l).toArray.size false).setIfInBounds 0 true) (a.put o.dst (a.eval x))
    (fun j hj => by rw [htl] at hj; rw [List.getElem?_take, if_pos hj, Nat.add_comm]; simp) (Nat.le_refl _) (by rw [htl]; omega) (inv0.set hr0 h0) (by rw [htl]; exact hlex) h
  refine wp_region_any hm ?_
  have H2 := headQ_any (Q := Q) (g := (o :: l).toArray.size - n) (fun d b w' hw' hd => by
    have := wpAny_of_seq (md := .any) (Q' := Q) ((o :: l).drop n) n d b w' (fun j => by simp [List.getElem?_drop]) (by rw [hdl]; exact hd.1) (hd.2 w' hw')
    rwa [hdl] at this) _ _ _ _ hC H
  have e : (o :: l).toArray.size = (l.take (n - 1)).length + ((o :: l).toArray.size - n) + 1 := by rw [htl]; omega
  rw [show wpAny P .any (o :: l).toArray Q (o :: l).toArray.size = wpAny P .any (o :: l).toArray Q ((l.take (n - 1)).length + ((o :: l).toArray.size - n) + 1) from congrArg _ e]
  exact wpAny_take (i := 0) (v := a.eval x) (by simp) hsel hfr hrd (fun c a w => hQ c a _ w) (Or.inl ⟨by simp [Region.wanted, hg], fun w => by simp [execOp, ho]⟩) H2
theorem wp_region_move_tail_lit {id : Nat} {Q : Exit → Act → World → Prop} {a : Act} {w : World} {o : Oper} {l : List Oper} (n : Nat) (hm : P.follows .mixedOrders = true) (hB : tailFrom .any (o :: l).toArray n = true)
    (x : Operand) (ho : o.op = .move x) (hg : o.guard = none) (hQ : ∀ c (a : Act) v w, Q (.panic c) (a.put o.dst v) w → Q (.panic c) a w)
    (h : wpQuiet P (o :: l).toArray (fun w' => ∃ k, w' = w.drewN k) (fun b => ∀ w', (∃ k, w' = w.drewN k) → wpList P (o :: l).toArray Q ((o :: l).drop n) b w') (l.take (n - 1)) (a.put o.dst (a.eval x))) : (Code.region id (o :: l).toArray true).wp P Q a w :=
  wp_region_move_tail (fun w' => ∃ k, w' = w.drewN k) n hm hB ⟨1, rfl⟩ x ho hg hQ h
/-- The head's n operations are quiet in a class of worlds; the tail is walked from every world of the class. -/
theorem wp_region_quiet_tail {id : Nat} {Q : Exit → Act → World → Prop} {a : Act} {w : World} {l : List Oper} (C : World → Prop) (n : Nat) (hm : P.follows .mixedOrders = true) (hB : Region.lexTailB .any l.toArray n = true) (hC : C { w with drawn := w.drawn + 1 })
    (h : wpQuiet P l.toArray C (fun b => ∀ w', C w' → wpList P l.toArray Q (l.drop n) b w') (l.take n) a) : (Code.region id l.toArray true).wp P Q a w := by
  simp only [Region.lexTailB, Bool.and_eq_true, decide_eq_true_eq] at hB
  obtain ⟨⟨⟨⟨hsel, hn⟩, hs⟩, hc⟩, hlex⟩ := hB
  have htl : (l.take n).length = n := by simp at hn ⊢; omega
  have hdl : (l.drop n).length = l.toArray.size - n := by simp
  have hs' : sinkFrom .any l.toArray 0 n = true := by
    unfold sinkFrom; unfold Region.sinkB at hs
    simpa using hs
  have H := headQ_lex (md := .any) (g := l.toArray.size - n) hsel hs' hc (l.take n) 0 (Array.replicate l.toArray.size false) a (fun j hj => by rw [htl] at hj; simp [hj]) (Nat.le_refl _) (by rw [htl, Nat.zero_add])
    ⟨by simp, fun j y _ hl => (by rw [getD_replicate_false] at hl; cases hl), fun t _ ht => getD_in (by simpa using ht) (getD_replicate_false _ _)⟩ (by rw [htl]; exact hlex) h
  refine wp_region_any hm ?_
  have := headQ_any (Q := Q) (g := l.toArray.size - n) (fun d b w' hw' hd => by
    have := wpAny_of_seq (md := .any) (Q' := Q) (l.drop n) n d b w' (fun j => by simp [List.getElem?_drop]) (by rw [hdl]; exact hd.1) (hd.2 w' hw')
    rwa [hdl] at this) _ _ _ _ hC H
  rwa [htl, show n + (l.toArray.size - n) = l.toArray.size by simp at hn ⊢; omega] at this
/-- The same at the class 'w after some draws'. -/
theorem wp_region_quiet_tail_lit {id : Nat} {Q : Exit → Act → World → Prop} {a : Act} {w : World} {l : List Oper} (n : Nat) (hm : P.follows .mixedOrders = true) (hB : Region.lexTailB .any l.toArray n = true)
    (h : wpQuiet P l.toArray (fun w' => ∃ k, w' = w.drewN k) (fun b => ∀ w', (∃ k, w' = w.drewN k) → wpList P l.toArray Q (l.drop n) b w') (l.take n) a) : (Code.region id l.toArray true).wp P Q a w :=
  wp_region_quiet_tail (fun w' => ∃ k, w' = w.drewN k) n hm hB ⟨1, rfl⟩ h
end
end Go.Sep
