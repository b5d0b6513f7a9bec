
/- Regions that draw, with loads that hold only till a store of the same region: S is asked behind an operation only if that operation does not wait for all of 'hs', the operations that read under S. -/
import Derived.Deep.RegionHeld
namespace Go.Sep
set_option linter.unusedVariables false
section
variable {P : Program} {ops : Array Oper} {Q : Exit → Act → World → Prop} {md : Region.Mode} {S : World → Prop} {hs : List Nat}
/-- Operation j waits for every one of hs. -/
def behind (md : Region.Mode) (ops : Array Oper) (hs : List Nat) (j : Nat) : Bool :=
  hs.all fun i => match ops[j]? with
    | some y => y.after.any fun e => Region.binds md e && e.on == i
    | none => false
theorem behind_spec {i j : Nat} {y : Oper} (hj : ops[j]? = some y) (h : behind md ops hs j = true) (hi : i ∈ hs) : ∃ e ∈ y.after, Region.binds md e = true ∧ e.on = i := by
  have h1 := List.all_eq_true.1 h i hi
  simp only [hj] at h1
  rw [Array.any_eq_true'] at h1
  obtain ⟨e, he, h2⟩ := h1
  simp only [Bool.and_eq_true, beq_iff_eq] at h2
  exact ⟨e, he, h2.1, h2.2⟩
/-- In whatever order; S behind each operation that does not wait for all of hs. -/
def anyE (P : Program) (md : Region.Mode) (ops : Array Oper) (Q : Exit → Act → World → Prop) (S : World → Prop) (hs : List Nat) : Nat → Array Bool → Act → World → Prop
  | 0, done, a, w => Region.ready md ops done = [] ∧ Q .normal a w
  | f + 1, done, a, w => (Region.ready md ops done = [] → Q .normal a w) ∧
    ∀ i ∈ Region.ready md ops done, wpOp P ops Q i (fun a' w' => (behind md ops hs i = true ∨ (S w → S w')) ∧ anyE P md ops Q S hs f (done.setIfInBounds i true) a' w') a w
theorem anyE_any : ∀ (f : Nat) (done : Array Bool) (a : Act) (w : World), anyE P md ops Q S hs f done a w → wpAny P md ops Q f done a w
  | 0, _, _, _, h => h
  | f + 1, _, _, _, h => ⟨h.1, fun i hi => wpOp_mono (fun a' w' h' => anyE_any f _ a' w' h'.2) (h.2 i hi)⟩
/-- An operation that may come up is taken first: where it reads under S it is one of hs. -/
theorem anyE_first {i : Nat} {x : Oper} {v : Value} {S' : World → Prop} (hi : ops[i]? = some x) (hsel : ∀ (j : Nat) (o : Oper) cs b, ops[j]? = some o → o.op ≠ .select cs b)
    (hQ : ∀ c a w, Q (.panic c) (a.put x.dst v) w → Q (.panic c) a w) (hk : (i ∈ hs ∧ S' = S) ∨ S' = fun _ => True) :
    ∀ (f : Nat) (done : Array Bool) (a : Act) (w : World),
      (∀ j y, ops[j]? = some y → j ≠ i → done.getD j true = false → (∀ e ∈ y.after, Region.binds md e = true → e.on ≠ i) → x.apart ops y = true) →
      i ∈ Region.ready md ops done → YieldsIf P ops S' x v a → S' w →
      anyE P md ops Q S hs f (done.setIfInBounds i true) (a.put x.dst v) w → anyE P md ops Q S hs (f + 1) done a w := by
  intro f
  induction f with
  | zero =>
    intro done a w _ hr hy hS H
    refine ⟨fun h => (by rw [h] at hr; cases hr), fun j hj => ?_⟩
    by_cases e : j = i
    · subst e; exact hy.wpOp hi hS ⟨Or.inr id, H⟩
    · have := ready_mono hj e
      rw [H.1] at this
      cases this
  | succ f ih =>
    intro done a w hfree hr hy hS H
    refine ⟨fun h => (by rw [h] at hr; cases hr), fun j hj => ?_⟩
    by_cases e : j = i
    · subst e; exact hy.wpOp hi hS ⟨Or.inr id, H⟩
    have h1 := H.2 j (ready_mono hj e)
    obtain ⟨hjun, y, hyj, hall⟩ := mem_ready.1 hj
    have hun := (mem_ready.1 hr).1
    have hno : ∀ e ∈ y.after, Region.binds md e = true → e.on ≠ i := fun e he hb heq => by
      have h1 := hall e he hb
      rw [heq] at h1
      rcases Nat.lt_or_ge i done.size with h' | h'
      · simp [h'] at hun h1; rw [hun] at h1; cases h1
      · simp [Array.getElem?_eq_none h'] at h1
    have h2 := wpOp_putIf hyj (hfree j y hyj e hjun hno) (fun cs b => hsel i x cs b hi) (fun cs b => hsel j y cs b hyj) hQ hy h1
    refine wpOp_mono (fun a' w' h3 => ⟨h3.2.1, ?_⟩) h2
    have hS' : S' w' := by
      rcases hk with ⟨hm, rfl⟩ | rfl
      · rcases h3.2.1 with hb | hb
        · obtain ⟨e', he', hb', hon⟩ := behind_spec hyj hb hm
          exact absurd hon (hno e' he' hb')
        · exact hb hS
      · trivial
    refine ih (done.setIfInBounds j true) a' w' (fun k z hk hki hkun hkno => hfree k z hk hki ?_ hkno) (ready_mono hr (Ne.symm e)) h3.1 hS' (by rw [Array.setIfInBounds_comm _ _ e]; exact h3.2.2)
    by_cases hjk : j = k
    · subst hjk; exact hjun
    · rwa [getD_set_ne true hjk] at hkun
/-- Reads under S: one of hs. -/
theorem anyE_take {i : Nat} {x : Oper} {v : Value} {f : Nat} {done : Array Bool} {a : Act} {w : World} (hi : ops[i]? = some x)
    (h0 : Region.noSelect ops = true) (hf : Region.free md ops done i = true) (hr : (Region.ready md ops done).contains i = true) (hm : hs.contains i = true)
    (hQ : ∀ c a w, Q (.panic c) (a.put x.dst v) w → Q (.panic c) a w) (hy : YieldsIf P ops S x v a) (hS : S w)
    (h : anyE P md ops Q S hs f (done.setIfInBounds i true) (a.put x.dst v) w) : anyE P md ops Q S hs (f + 1) done a w :=
  anyE_first hi (Region.noSelect_spec h0) hQ (Or.inl ⟨by simpa using hm, rfl⟩) f done a w (Region.free_spec hi hf) (by simpa using hr) hy hS h
/-- Needs nothing of the world. -/
theorem anyE_pure {i : Nat} {x : Oper} {v : Value} {f : Nat} {done : Array Bool} {a : Act} {w : World} (hi : ops[i]? = some x)
    (h0 : Region.noSelect ops = true) (hf : Region.free md ops done i = true) (hr : (Region.ready md ops done).contains i = true)
    (hQ : ∀ c a w, Q (.panic c) (a.put x.dst v) w → Q (.panic c) a w) (hy : YieldsIf P ops (fun _ => True) x v a)
    (h : anyE P md ops Q S hs f (done.setIfInBounds i true) (a.put x.dst v) w) : anyE P md ops Q S hs (f + 1) done a w :=
  anyE_first hi (Region.noSelect_spec h0) hQ (Or.inr rfl) f done a w (Region.free_spec hi hf) (by simpa using hr) hy trivial h
/-- One operation alone may come up; behind it S holds as before, -/
theorem anyE_one {i : Nat} {x : Oper} {f : Nat} {done : Array Bool} {a : Act} {w : World} (hi : ops[i]? = some x) (hr : Region.ready md ops done = [i])
    (h : ∀ K' : Act → World → Prop, Shut (∀ a w, S w → anyE P md ops Q S hs f (done.setIfInBounds i true) a w → K' a w) → if Region.wanted x (yielded ops a.tmps) = true then Oper.wp P x a w K' Q else K' (a.put x.dst undef) w) : anyE P md ops Q S hs (f + 1) done a w :=
  ⟨fun h0 => absurd (hr ▸ h0) (by simp), fun j hj => by
    rw [hr] at hj
    obtain rfl := List.mem_singleton.1 hj
    exact wpOp_step hi (fun K' hK => h K' (fun a w hS hW => hK a w ⟨Or.inr fun _ => hS, hW⟩))⟩
/-- or it waits for all of hs. -/
theorem anyE_last {i : Nat} {x : Oper} {f : Nat} {done : Array Bool} {a : Act} {w : World} (hi : ops[i]? = some x) (hr : Region.ready md ops done = [i]) (hb : behind md ops hs i = true)
    (h : ∀ K' : Act → World → Prop, Shut (∀ a w, anyE P md ops Q S hs f (done.setIfInBounds i true) a w → K' a w) → if Region.wanted x (yielded ops a.tmps) = true then Oper.wp P x a w K' Q else K' (a.put x.dst undef) w) : anyE P md ops Q S hs (f + 1) done a w :=
  ⟨fun h0 => absurd (hr ▸ h0) (by simp), fun j hj => by
    rw [hr] at hj
    obtain rfl := List.mem_singleton.1 hj
    exact wpOp_step hi (fun K' hK => h K' (fun a w hW => hK a w ⟨Or.inl hb, hW⟩))⟩
/-- Either of two may come up. -/
theorem anyE_two {i j : Nat} {x y : Oper} {f : Nat} {done : Array Bool} {a : Act} {w : World} (hi : ops[i]? = some x) (hj : ops[j]? = some y) (hr : Region.ready md ops done = [i, j])
    (h : ∀ K' : Act → World → Prop, Shut (∀ a w, S w → anyE P md ops Q S hs f (done.setIfInBounds i true) a w → K' a w) → if Region.wanted x (yielded ops a.tmps) = true then Oper.wp P x a w K' Q else K' (a.put x.dst undef) w)
    (h' : ∀ K' : Act → World → Prop, Shut (∀ a w, S w → anyE P md ops Q S hs f (done.setIfInBounds j true) a w → K' a w) → if Region.wanted y (yielded ops a.tmps) = true then Oper.wp P y a w K' Q else K' (a.put y.dst undef) w) : anyE P md ops Q S hs (f + 1) done a w :=
  ⟨fun h0 => absurd (hr ▸ h0) (by simp), fun k hk => by
    rw [hr] at hk
    rcases List.mem_cons.1 hk with e | hk
    · subst e; exact wpOp_step hi (fun K' hK => h K' (fun a w hS hW => hK a w ⟨Or.inr fun _ => hS, hW⟩))
    · obtain rfl := List.mem_singleton.1 hk
      exact wpOp_step hj (fun K' hK => h' K' (fun a w hS hW => hK a w ⟨Or.inr fun _ => hS, hW⟩))⟩
theorem anyE_done {done : Array Bool} {a : Act} {w : World} (hr : Region.ready md ops done = []) (h : Q .normal a w) : ∀ f, anyE P md ops Q S hs f done a w
  | 0 => ⟨hr, h⟩
  | _ + 1 => ⟨fun _ => h, by rw [hr]; simp⟩
theorem region_E {id : Nat} {a : Act} {w : World} (S : World → Prop) (hs : List Nat) (hm : P.follows .mixedOrders = true)
    (h : anyE P .any ops Q S hs ops.size (Array.replicate ops.size false) a w.drew) : (Code.region id ops true).wp P Q a w := wp_region_any hm (anyE_any _ _ _ _ h)
theorem gE1 {α : Type} (l : List α) (i : Nat) : l.toArray[i]? = l[i]? := List.getElem?_toArray ..
theorem gE2 {α : Type} (a : α) (l : List α) (i : Nat) : (a :: l)[i + 1]? = l[i]? := List.getElem?_cons_succ
theorem gE3 {α : Type} (a : α) (l : List α) : (a :: l)[0]? = some a := List.getElem?_cons_zero
theorem pA1 (a : Act) (d : Option Tmp) (v : Value) : a.put d v = match d with | some t => { a with tmps := a.tmps.setIfInBounds t v } | none => a := by cases d <;> rfl
theorem pA2 {α : Type} (l : List α) (i : Nat) (a : α) : l.toArray.setIfInBounds i a = (l.set i a).toArray := List.setIfInBounds_toArray ..
theorem pA3 {α : Type} (x a : α) (l : List α) : (x :: l).set 0 a = a :: l := List.set_cons_zero ..
theorem pA4 {α : Type} (x a : α) (l : List α) (i : Nat) : (x :: l).set (i + 1) a = x :: l.set i a := List.set_cons_succ ..
/-- Which operation is taken next (no more than a proposal). -/
def quietOp : Op → Bool
  | .move _ | .assign _ | .pick _ _ _ | .nilCheck _ | .binOp .. | .unOp .. | .convert .. | .slice .. | .fieldAddr .. | .field .. | .indexAddr .. | .index .. | .extract .. | .build .. => true
  | .call c => match c.callee with
    | .builtin .len => true
    | .builtin .cap => true
    | _ => false
  | _ => false
def nextQ (hs : List Nat) : List Oper → List Bool → Nat → Option Nat
  | o :: os, d :: ds, i => match d, quietOp o.op || hs.contains i with
    | false, true => some i
    | _, _ => nextQ hs os ds (i + 1)
  | _, _, _ => none
theorem autoT {i : Nat} {x : Oper} {v : Value} {f : Nat} {done : Array Bool} {a : Act} {w : World} (hS : S w) (hp : nextQ hs ops.toList done.toList 0 = some i) (hm : hs.contains i = true) (hi : ops[i]? = some x)
    (hc : (Region.noSelect ops && Region.free md ops done i && (Region.ready md ops done).contains i) = true)
    (hQ : ∀ c a w, Q (.panic c) (a.put x.dst v) w → Q (.panic c) a w) (hy : YieldsIf P ops S x v a)
    (h : anyE P md ops Q S hs f (done.setIfInBounds i true) (a.put x.dst v) w) : anyE P md ops Q S hs (f + 1) done a w := by
  simp only [Bool.and_eq_true] at hc
  exact anyE_take hi hc.1.1 hc.1.2 hc.2 hm hQ hy hS h
theorem autoP {i : Nat} {x : Oper} {v : Value} {f : Nat} {done : Array Bool} {a : Act} {w : World} (hp : nextQ hs ops.toList done.toList 0 = some i) (hi : ops[i]? = some x)
    (hc : (Region.noSelect ops && Region.free md ops done i && (Region.ready md ops done).contains i) = true)
    (hQ : ∀ c a w, Q (.panic c) (a.put x.dst v) w → Q (.panic c) a w) (hy : YieldsIf P ops (fun _ => True) x v a)
    (h : anyE P md ops Q S hs f (done.setIfInBounds i true) (a.put x.dst v) w) : anyE P md ops Q S hs (f + 1) done a w := by
  simp only [Bool.and_eq_true] at hc
  exact anyE_pure hi hc.1.1 hc.1.2 hc.2 hQ hy h
end
end Go.Sep
