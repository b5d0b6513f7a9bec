
/- Rules for the walk, said in the separation logic of Sep: whole arrays and structs loaded and stored, copy, append; each under the conditions that it names. -/
import Derived.Test.YtlmababpmmhhoaaGreatSep
import Derived.Laws.AppendOwn
import Derived.Laws.CopyRow
import Derived.Laws.IdiomCopy
namespace Go.Sep
set_option linter.unusedVariables false
set_option linter.unusedSimpArgs false
open Go.RowKit
variable {P : Program} {W0 w : World} {L : List Assn}
theorem add_lit' (b o n : Nat) : (⟨b, o, none⟩ : Addr).add n = ⟨b, o + n, none⟩ := by unfold Addr.add; split <;> simp_all
theorem Sat.run_storeCells {b o : Nat} (q k : Nat) : ∀ (cs : List Value) (i : Nat) (vs : List Value) (w : World), Sat W0 w (seg true b o vs :: L) → q = o + k → k + i + cs.length ≤ vs.length → (∀ v ∈ cs, v.oneCell' = true) →
    ∃ w', (storeCells ⟨b, q, none⟩ cs i).run P w = .ok () w' ∧ Sat W0 w' (seg true b o (setL vs (k + i) cs) :: L)
  | [], i, vs, w, h, _, _, _ => ⟨w, rfl, h⟩
  | v :: rest, i, vs, w, h, hq, hl, h1 => by
    simp only [List.length_cons] at hl
    have hi : k + i < vs.length := by omega
    have hcell := h.cell (i := k + i) (v := vs[k + i]) (by simp [hi])
    have hfree := (h.free hi).1
    have hadd : (⟨b, q, none⟩ : Addr).add i = ⟨b, o + (k + i), none⟩ := by rw [add_lit', hq, Nat.add_assoc]
    have hst := h.store hi v (q := o + (k + i)) rfl
    obtain ⟨w', hr, hs⟩ := Sat.run_storeCells q k rest (i + 1) _ _ hst hq (by simp; omega) (fun x hx => h1 x (by simp [hx]))
    refine ⟨w', ?_, ?_⟩
    · simp only [storeCells]
      rw [Sem.run_bind, hadd, run_store P w _ v _ (h1 v (by simp)), hcell]
      simp [hfree, hr]
    · rw [setL, Nat.add_assoc]; exact hs
theorem Sat.allocAt (h : Sat W0 w L) (cs : Array Value) (T : TypeId) {q : Nat} (hq : q = w.heap.size) : Sat W0 (w.alloc (.cells cs T)) (seg true q 0 cs.toList :: L) := by
  subst hq; exact h.alloc cs T
/-- Cells that lie there, as append and copy ask for them. -/
theorem Sat.news {m : Bool} {b o : Nat} {vs : List Value} (h : Sat W0 w (seg m b o vs :: L)) : ∀ j u, vs[j]? = some u → ∃ ad, (some ⟨b, o, none⟩ : Option Addr) = some ad ∧ w.cell? (ad.add j) = some u :=
  fun j u hu => ⟨_, rfl, by rw [add_lit']; exact h.cell hu⟩
theorem setL_all : ∀ (cs vs : List Value), cs.length = vs.length → setL vs 0 cs = cs := by
  intro cs vs h
  apply List.ext_getElem?
  intro k
  rw [getElem?_setL _ _ _ _ (by omega)]
  by_cases hk : k < cs.length
  · rw [if_pos ⟨Nat.zero_le _, by omega⟩]; simp
  · rw [if_neg (by omega), List.getElem?_eq_none (by omega), List.getElem?_eq_none (by omega)]
theorem setL_mid (A B C cs : List Value) (h : cs.length = B.length) : setL (A ++ B ++ C) A.length cs = A ++ cs ++ C := by
  apply List.ext_getElem?
  intro k
  rw [getElem?_setL _ _ _ _ (by simp; omega)]
  by_cases h1 : A.length ≤ k ∧ k < A.length + cs.length
  · rw [if_pos h1, List.getElem?_append_left (by simp; omega), List.getElem?_append_right (by omega)]
  · rw [if_neg h1]
    by_cases h2 : k < A.length
    · rw [List.append_assoc, List.append_assoc, List.getElem?_append_left h2, List.getElem?_append_left h2]
    · rw [List.getElem?_append_right (by simp; omega), List.getElem?_append_right (by simp; omega)]
      simp [h]
theorem Sat.run_loadCells {m : Bool} {b o : Nat} {vs : List Value} (h : Sat W0 w (seg m b o vs :: L)) (k n q : Nat) (hq : q = o + k) (hn : k + n ≤ vs.length) :
    (loadCells ⟨b, q, none⟩ n).run P w = .ok ((vs.drop k).take n).toArray w := by
  have hl : ((vs.drop k).take n).length = n := by simp; omega
  have := run_loadCells_list (P := P) w ⟨b, q, none⟩ ((vs.drop k).take n) (fun j v hv => by
    rw [add_lit', hq, Nat.add_assoc]
    refine h.cell ?_
    rw [List.getElem?_take] at hv
    split at hv
    · rw [List.getElem?_drop] at hv; exact hv
    · cases hv)
  rw [hl] at this
  exact this
section
variable {ops : Array Oper} {rest : List Oper} {o : Oper} {a : Act} {Q : Exit → Act → World → Prop}
theorem run_isAgg {ty : TypeId} {d : TypeDesc} (hu : P.underlying ty = some d) (hd : (match d with | .struct _ | .array _ _ => true | _ => false) = true) (w : World) : (isAgg ty).run P w = .ok true w := by
  unfold isAgg
  rw [Sem.run_bind, run_underlying hu w]
  cases d <;> simp_all
/-- A whole array or struct is loaded. -/
theorem run_loadVar_agg {ty : TypeId} {d : TypeDesc} (hu : P.underlying ty = some d) (hd : (match d with | .struct _ | .array _ _ => true | _ => false) = true) {n : Nat} (hi : (P.info? ty).map (·.size) = some n)
    {m : Bool} {b off : Nat} {vs : List Value} (h : Sat W0 w (seg m b off vs :: L)) (k q : Nat) (hq : q = off + k) (hn : k + n ≤ vs.length) :
    (loadVar ty ⟨b, q, none⟩).run P w = .ok (.agg ((vs.drop k).take n).toArray) w := by
  have hl := h.run_loadCells (P := P) k n q hq hn
  cases hq' : P.info? ty with
  | none => simp [hq'] at hi
  | some i =>
    have hs : i.size = n := by simpa [hq'] using hi
    simp [loadVar, Sem.run_bind, run_isAgg hu hd w, sizeOf, typeInfo, hq', hs, hl]
theorem wpl_load_agg (hgd : o.guard = none) (ty : TypeId) (x : Operand) (ho : o.op = .load ty x) {d : TypeDesc} (hu : P.underlying ty = some d) (hd : (match d with | .struct _ | .array _ _ => true | _ => false) = true)
    {n : Nat} (hi : (P.info? ty).map (·.size) = some n) {m : Bool} {b off : Nat} {vs : List Value} (hs : Sat W0 w (seg m b off vs :: L)) (k q : Nat) (hx : a.eval x = .pointer (some ⟨b, q, none⟩)) (hq : q = off + k) (hn : k + n ≤ vs.length)
    (h : wpList P ops Q rest (a.put o.dst (.agg ((vs.drop k).take n).toArray)) w) : wpList P ops Q (o :: rest) a w := by
  refine wpList_plain hgd fun _ hK => ?_
  unfold Oper.wp execOp
  simp only [ho, hx, Instr.loadAt, Instr.sureAddr, Sem.run_bind, Sem.run_pure, Result.andThen_ok, run_loadVar_agg hu hd hi hs k q hq hn]
  exact hK _ _ h
/-- A whole array or struct is stored into cells of one's own. -/
theorem wpl_store_agg (hgd : o.guard = none) (hdst : o.dst = none) (ty : TypeId) (x y : Operand) (ho : o.op = .store ty x y) {b off : Nat} {vs cs : List Value} (hs : Sat W0 w (seg true b off vs :: L)) (k q : Nat)
    (hi : (P.info? ty).map (·.size) = some cs.length) (hx : a.eval x = .pointer (some ⟨b, q, none⟩)) (hy : a.eval y = .agg cs.toArray) (hq : q = off + k) (hn : k + cs.length ≤ vs.length) (h1 : ∀ v ∈ cs, v.oneCell' = true)
    (h : ∀ w', Sat W0 w' (seg true b off (setL vs k cs) :: L) → wpList P ops Q rest a w') : wpList P ops Q (o :: rest) a w := by
  refine wpList_plain hgd fun _ hK => ?_
  obtain ⟨w', hr, hs'⟩ := Sat.run_storeCells (P := P) q k cs 0 vs w hs hq (by simpa using hn) h1
  have hst : (storeVar ty ⟨b, q, none⟩ (.agg cs.toArray)).run P w = .ok () w' := by
    cases hq' : P.info? ty with
    | none => simp [hq'] at hi
    | some i =>
      have hsz : i.size = cs.length := by simpa [hq'] using hi
      simp [storeVar, sizeOf, typeInfo, hq', Value.cells, hsz, hr]
  unfold Oper.wp execOp
  simp only [ho, hx, hy, Instr.storeAt, Instr.sureAddr, Sem.run_bind, Sem.run_pure, Result.andThen_ok, hst]
  refine hK _ _ ?_
  rw [hdst]
  exact h w' (by simpa using hs')
/-- A new variable, holding its zero value. -/
theorem wpl_alloc (hgd : o.guard = none) (ty : TypeId) (ho : o.op = .alloc ty) (hs : Sat W0 w L) {z : Value} (hz : (zeroValue ty).run P w = .ok z w)
    (h : ∀ w' g, Sat W0 w' (seg true g 0 z.cells.toList :: L) → w.heap.size = g → g < w'.heap.size → wpList P ops Q rest (a.put o.dst (.pointer (some ⟨g, 0, none⟩))) w') : wpList P ops Q (o :: rest) a w := by
  refine wpList_plain hgd fun _ hK => ?_
  unfold Oper.wp execOp
  have := h (w.alloc (.cells z.cells ty)) w.heap.size (hs.alloc z.cells ty) rfl (by simp)
  simp [ho, Instr.alloc, newVar, newRow, hz, Sem.run_bind]
  exact hK _ _ this
theorem wpl_alloc_agg (hgd : o.guard = none) (ty : TypeId) (ho : o.op = .alloc ty) (hs : Sat W0 w L) (cs : List Value) (hz : (zeroValue ty).run P w = .ok (.agg cs.toArray) w)
    (h : ∀ w' g, Sat W0 w' (seg true g 0 cs :: L) → g < w'.heap.size → wpList P ops Q rest (a.put o.dst (.pointer (some ⟨g, 0, none⟩))) w') : wpList P ops Q (o :: rest) a w :=
  wpl_alloc hgd ty ho hs hz fun w' g h1 _ h3 => h w' g h1 h3
/-- copy into cells of one's own. -/
theorem wpl_copy (hgd : o.guard = none) (d s : Operand) (dT sT : TypeId) (ho : o.op = .call { callee := .builtin .copy, args := #[d, s], argTypes := #[dT, sT] }) {elem : TypeId} (hu : P.underlying dT = some (.slice elem)) (hsz : (P.info? elem).map (·.size) = some 1)
    {b off : Nat} {vs : List Value} (hs : Sat W0 w (seg true b off vs :: L)) (k q dLen dCap sLen sCap : Nat) (sp : Option Addr) (cs : List Value) (hd : a.eval d = .slice (some ⟨b, q, none⟩) dLen dCap) (hx : a.eval s = .slice sp sLen sCap)
    (hq : q = off + k) (hn : cs.length = Nat.min sLen dLen) (hfit : k + cs.length ≤ vs.length) (hsrc : ∀ j v, cs[j]? = some v → ∃ ad, sp = some ad ∧ w.cell? (ad.add j) = some v) (h1 : ∀ v ∈ cs, v.oneCell' = true)
    (h : ∀ w', Sat W0 w' (seg true b off (setL vs k cs) :: L) → wpList P ops Q rest (a.put o.dst (.int .i64 (cs.length : Int))) w') : wpList P ops Q (o :: rest) a w := by
  refine wpList_plain hgd fun _ hK => ?_
  cases hq' : P.info? elem with
  | none => simp [hq'] at hsz
  | some i =>
    have hsz' : i.size = 1 := by simpa [hq'] using hsz
    have hmin : Nat.min sLen dLen = cs.length := hn.symm
    obtain ⟨w', hr, hs'⟩ := Sat.run_storeCells (P := P) q k cs 0 vs w hs hq (by simpa using hfit) h1
    have hrun : (Builtin.copy_ #[dT, sT] o.type #[.slice (some ⟨b, q, none⟩) dLen dCap, .slice sp sLen sCap]).run P w = .ok (goInt cs.length) w' := by
      have hf : (Builtin.firstCells 1 cs.length (.slice sp sLen sCap)).run P w = .ok cs.toArray w := by
        cases sp with
        | none =>
          have : cs = [] := by
            cases cs with
            | nil => rfl
            | cons v r => obtain ⟨ad, h, _⟩ := hsrc 0 v rfl; cases h
          subst this
          rfl
        | some ad => exact run_firstCells_some w 1 cs.length ad sLen sCap cs (by simp) (fun j v hv => by obtain ⟨ad', h, hc⟩ := hsrc j v hv; cases h; exact hc)
      simp [Builtin.copy_, run_underlying hu, Builtin.lenOf, sizeOf, typeInfo, hq', hsz', hmin, hf, hr]
    unfold Oper.wp
    simp [execOp, ho, resolve, invoke, builtin, hd, hx, hrun, Result.andThen]
    exact hK _ _ (h w' (by simpa using hs'))
end
/-- A slice of one's own, with all its room: the value '.slice p n c' has n elements of sz cells each, xs in all. -/
def row (p : Option Addr) (c sz n : Nat) (xs : List Value) : Assn := fun h =>
  xs.length = n * sz ∧ ((p = none ∧ c = 0 ∧ n = 0) ∨ ∃ g rest, p = some ⟨g, 0, none⟩ ∧ n ≤ c ∧ c ≤ maxLen ∧ (xs ++ rest).length = c * sz ∧ seg true g 0 (xs ++ rest) h)
theorem Sat.rowNil (h : Sat W0 w L) (sz : Nat) : Sat W0 w (row none 0 sz 0 [] :: L) := by
  obtain ⟨hb, hs, hf⟩ := h
  exact ⟨hb, Hp.zero :: hs, .cons ⟨by simp, .inl ⟨rfl, rfl, rfl⟩⟩ (Hp.zero_ok _ _) (fun _ _ => Hp.zero_dis _) hf⟩
theorem Sat.rowMade {g sz n cap : Nat} {xs rest : List Value} (h : Sat W0 w (seg true g 0 (xs ++ rest) :: L)) (hl : xs.length = n * sz) (hc : (xs ++ rest).length = cap * sz) (hn : n ≤ cap) (hm : cap ≤ maxLen) :
    Sat W0 w (row (some ⟨g, 0, none⟩) cap sz n xs :: L) :=
  h.imp fun x hx => ⟨hl, .inr ⟨g, rest, rfl, hn, hm, hc, hx⟩⟩
theorem Sat.rowFull {g n : Nat} {xs : List Value} (h : Sat W0 w (seg true g 0 xs :: L)) (hl : xs.length = n) (hm : n ≤ maxLen) : Sat W0 w (row (some ⟨g, 0, none⟩) n 1 n xs :: L) := by
  have h' : Sat W0 w (seg true g 0 (xs ++ []) :: L) := by rw [List.append_nil]; exact h
  exact h'.rowMade (by simp [hl]) (by simp [hl]) (Nat.le_refl _) hm
theorem Sat.rowOpen {p : Option Addr} {c sz n : Nat} {xs : List Value} (h : Sat W0 w (row p c sz n xs :: L)) : xs.length = n * sz ∧
    ((p = none ∧ c = 0 ∧ n = 0 ∧ xs = [] ∧ Sat W0 w L) ∨ ∃ g rest, p = some ⟨g, 0, none⟩ ∧ n ≤ c ∧ c ≤ maxLen ∧ (xs ++ rest).length = c * sz ∧ Sat W0 w (seg true g 0 (xs ++ rest) :: L)) := by
  obtain ⟨h0, hs, hf⟩ := h
  obtain ⟨x, t, rfl, hA, ok, hd, hf'⟩ := hf.head
  obtain ⟨hl, hA⟩ := hA
  refine ⟨hl, ?_⟩
  rcases hA with ⟨rfl, rfl, rfl⟩ | ⟨g, rest, rfl, hn, hm, hc, hx⟩
  · exact .inl ⟨rfl, rfl, rfl, List.eq_nil_of_length_eq_zero (by simpa using hl), h0, t, hf'⟩
  · exact .inr ⟨g, rest, rfl, hn, hm, hc, h0, x :: t, .cons hx ok hd hf'⟩
/-- append onto a slice of one's own. -/
theorem run_append_row (t ty e : TypeId) {i : TypeInfo} {z : Value} {size bytes : Nat} (ht : P.underlying t = some (.slice e)) (hi : P.info? e = some i) (hz : i.zero = some z) (hsize : i.size = size) (hby : i.bytes = bytes) (hzs : z.cells.size = size) (hsz : 0 < size)
    {p : Option Addr} {cp n : Nat} {xs : List Value} (hs : Sat W0 w (row p cp size n xs :: L)) (sp : Option Addr) (m c : Nat) (news : List Value) (hl : news.length = m * size) (hnews : ∀ j u, news[j]? = some u → ∃ ad, sp = some ad ∧ w.cell? (ad.add j) = some u)
    (hnil : sp = none → m = 0) (h1 : ∀ u ∈ news, u.oneCell' = true) (h63 : n + m ≤ maxLen) (hbytes : (n + m) * bytes ≤ 140737488355328) :
    ∃ p' c' w', (Builtin.append_ #[t, t] ty #[.slice p n cp, .slice sp m c]).run P w = .ok (.slice p' (n + m) c') w' ∧ Sat W0 w' (row p' c' size (n + m) (xs ++ news) :: L) ∧ (m = 0 → p' = p ∧ c' = cp) ∧ (p' = none → p = none ∧ m = 0) := by
  subst hsize
  subst hby
  have hsmall : n + m ≤ 9223372036854775807 := by simp only [maxLen] at h63; omega
  obtain ⟨hxl, hopen⟩ := hs.rowOpen
  have hlen : (xs ++ news).length = (n + m) * i.size := by rw [List.length_append, hxl, hl, Nat.add_mul]
  have hzl : ∀ k, (Builtin.zeroCells z.cells k).size = k * i.size := fun k => by rw [size_zeroCells, hzs]
  have fresh : ∀ old, Sat W0 w L → n + m ≤ grownCap w (n + m) old e → Sat W0 (w.drew.alloc (.cells (xs.toArray ++ news.toArray ++ Builtin.zeroCells z.cells (grownCap w (n + m) old e - (n + m))) e))
      (row (some ⟨w.heap.size, 0, none⟩) (grownCap w (n + m) old e) i.size (n + m) (xs ++ news) :: L) := by
    intro old hL hge
    have := hL.drew.alloc (xs.toArray ++ news.toArray ++ Builtin.zeroCells z.cells (grownCap w (n + m) old e - (n + m))) e
    simp only [Array.toList_append] at this
    refine this.rowMade hlen ?_ hge (grownCap_le_maxLen w _ _ e h63)
    rw [List.length_append, hlen, Array.length_toList, hzl, ← Nat.add_mul]
    congr 1; omega
  cases sp with
  | none =>
    obtain rfl : m = 0 := hnil rfl
    obtain rfl : news = [] := List.eq_nil_of_length_eq_zero (by simpa using hl)
    have hf : (Builtin.firstCells i.size 0 (.slice none 0 c)).run P w = .ok #[] w := rfl
    rcases hopen with ⟨rfl, rfl, rfl, rfl, hL⟩ | ⟨g, rest, rfl, hn, hm, hc, hL⟩
    · refine ⟨none, 0, w, ?_, hs, fun _ => ⟨rfl, rfl⟩, fun _ => ⟨rfl, rfl⟩⟩
      simp [Builtin.append_, run_underlying ht, sizeOf, typeInfo, hi, Builtin.lenOf, Builtin.firstCells, loadCells, loadCellsFrom]
    · refine ⟨some ⟨g, 0, none⟩, cp, w, ?_, by simpa using hs, fun _ => ⟨rfl, rfl⟩, by simp⟩
      simp [Builtin.append_, run_underlying ht, sizeOf, typeInfo, hi, Builtin.lenOf, hn, Builtin.firstCells, storeCells]
  | some ad =>
    have hnews' : ∀ j u, news[j]? = some u → w.cell? (ad.add j) = some u := fun j u hu => by obtain ⟨ad', h, hc⟩ := hnews j u hu; cases h; exact hc
    have hf := run_firstCells_some (P := P) w i.size m ad m c news hl hnews'
    rcases hopen with ⟨rfl, rfl, rfl, rfl, hL⟩ | ⟨g, rest, rfl, hn, hm, hc, hL⟩
    · by_cases hm : m = 0
      · subst hm
        obtain rfl : news = [] := List.eq_nil_of_length_eq_zero (by simpa using hl)
        refine ⟨none, 0, w, ?_, hs, fun _ => ⟨rfl, rfl⟩, fun _ => ⟨rfl, rfl⟩⟩
        simp [Builtin.append_, run_underlying ht, sizeOf, typeInfo, hi, Builtin.lenOf, Builtin.firstCells, loadCells, loadCellsFrom]
      · have hr := run_append_nil (P := P) w t ty e i z ht hi hz ad m c news hl hnews' (by omega) (by omega) (by have hb := hbytes; simp only [Nat.zero_add] at hb; omega)
        have := fresh 0 hL (grownCap_ge w _ _ e)
        simp only [Nat.zero_add, List.nil_append] at this ⊢
        have e0 : (([] : List Value).toArray ++ news.toArray) = news.toArray := by simp
        rw [e0] at this
        exact ⟨_, _, _, hr, this, fun h => absurd h hm, by simp⟩
    · by_cases hroom : n + m ≤ cp
      · have hfit : n * i.size + 0 + news.length ≤ (xs ++ rest).length := by rw [hc, hl, Nat.add_zero, ← Nat.add_mul]; exact Nat.mul_le_mul_right _ hroom
        obtain ⟨w', hr, hs'⟩ := Sat.run_storeCells (P := P) (n * i.size) (n * i.size) news 0 _ w hL (by simp) hfit h1
        have hset : setL (xs ++ rest) (n * i.size + 0) news = (xs ++ news) ++ rest.drop news.length := by
          have hrl : news.length ≤ rest.length := by rw [List.length_append, hxl] at hfit; omega
          have := setL_mid xs (rest.take news.length) (rest.drop news.length) news (by simp; omega)
          rw [List.append_assoc, List.take_append_drop, hxl] at this
          rw [Nat.add_zero, this]
        rw [hset] at hs'
        refine ⟨some ⟨g, 0, none⟩, cp, w', ?_, hs'.rowMade hlen ?_ hroom hm, fun _ => ⟨rfl, rfl⟩, by simp⟩
        · have hadd : (⟨g, 0, none⟩ : Addr).add (n * i.size) = ⟨g, n * i.size, none⟩ := by rw [add_lit', Nat.zero_add]
          simp [Builtin.append_, run_underlying ht, sizeOf, typeInfo, hi, Builtin.lenOf, hroom, hf, hadd, hr]
        · have h9 : (xs ++ rest).length = (xs ++ news ++ rest.drop news.length).length := by
            simp only [List.length_append, List.length_drop] at hfit ⊢
            omega
          rw [← h9]; exact hc
      · have holds : ∀ j u, xs[j]? = some u → w.cell? ((⟨g, 0, none⟩ : Addr).add j) = some u := fun j u hu => by
          rw [add_lit']
          refine hL.cell ?_
          rw [List.getElem?_append_left (List.getElem?_eq_some_iff.1 hu).1]; exact hu
        have hr := run_append_grow (P := P) w t ty e i z ht hi hz ⟨g, 0, none⟩ n cp xs hxl holds ad m c news hl hnews' (by omega) (by omega) (growslice_fits (by omega) hbytes)
        exact ⟨_, _, _, hr, fresh cp hL.tail (grownCap_ge w _ _ e), fun h0 => by omega, by simp⟩
section
variable {ops : Array Oper} {rest : List Oper} {o : Oper} {a : Act} {Q : Exit → Act → World → Prop}
theorem wpl_append (hgd : o.guard = none) (s x : Operand) (t : TypeId) (ho : o.op = .call { callee := .builtin .append, args := #[s, x], argTypes := #[t, t] }) {e : TypeId} {i : TypeInfo} {z : Value} {size bytes : Nat}
    (ht : P.underlying t = some (.slice e)) (hi : P.info? e = some i) (hz : i.zero = some z) (hsize : i.size = size) (hby : i.bytes = bytes) (hzs : z.cells.size = size) (hsz : 0 < size)
    {p : Option Addr} {cp n : Nat} {xs : List Value} (hs : Sat W0 w (row p cp size n xs :: L)) (hv : a.eval s = .slice p n cp) (sp : Option Addr) (m c : Nat) (hx : a.eval x = .slice sp m c) (news : List Value) (hl : news.length = m * size)
    (hnews : ∀ j u, news[j]? = some u → ∃ ad, sp = some ad ∧ w.cell? (ad.add j) = some u) (hnil : sp = none → m = 0) (h1 : ∀ u ∈ news, u.oneCell' = true) (h63 : n + m ≤ maxLen) (hbytes : (n + m) * bytes ≤ 140737488355328)
    (h : ∀ p' c' w', Sat W0 w' (row p' c' size (n + m) (xs ++ news) :: L) → (m = 0 → p' = p ∧ c' = cp) → (p' = none → p = none ∧ m = 0) → wpList P ops Q rest (a.put o.dst (.slice p' (n + m) c')) w') : wpList P ops Q (o :: rest) a w := by
  refine wpList_plain hgd fun _ hK => ?_
  obtain ⟨p', c', w', hr, h2, h3, h4⟩ := run_append_row (P := P) t o.type e ht hi hz hsize hby hzs hsz hs sp m c news hl hnews hnil h1 h63 hbytes
  unfold Oper.wp execOp
  simp only [ho, resolve, invoke, builtin, Sem.run_bind, Sem.run_pure, Result.andThen_ok, List.map_toArray, List.map_cons, List.map_nil, hv, hx, hr]
  exact hK _ _ (h p' c' w' h2 h3 h4)
end
/-- The same as one step of a region that draws its order. -/
theorem step_append {ops : Array Oper} {o : Oper} {a : Act} {K : Act → World → Prop} {Q : Exit → Act → World → Prop} {E : Prop} (hgd : o.guard = none) (s x : Operand) (t : TypeId) (ho : o.op = .call { callee := .builtin .append, args := #[s, x], argTypes := #[t, t] }) {e : TypeId} {i : TypeInfo} {z : Value} {size bytes : Nat}
    (ht : P.underlying t = some (.slice e)) (hi : P.info? e = some i) (hz : i.zero = some z) (hsize : i.size = size) (hby : i.bytes = bytes) (hzs : z.cells.size = size) (hsz : 0 < size)
    {p : Option Addr} {cp n : Nat} {xs : List Value} (hs : Sat W0 w (row p cp size n xs :: L)) (hv : a.eval s = .slice p n cp) (sp : Option Addr) (m c : Nat) (hx : a.eval x = .slice sp m c) (news : List Value) (hl : news.length = m * size)
    (hnews : ∀ j u, news[j]? = some u → ∃ ad, sp = some ad ∧ w.cell? (ad.add j) = some u) (hnil : sp = none → m = 0) (h1 : ∀ u ∈ news, u.oneCell' = true) (h63 : n + m ≤ maxLen) (hbytes : (n + m) * bytes ≤ 140737488355328)
    (h : ∀ p' c' w', Sat W0 w' (row p' c' size (n + m) (xs ++ news) :: L) → (m = 0 → p' = p ∧ c' = cp) → (p' = none → p = none ∧ m = 0) → K (a.put o.dst (.slice p' (n + m) c')) w') :
    if Region.wanted o (yielded ops a.tmps) = true then Oper.wp P o a w K Q else E := by
  rw [if_pos (by simp [Region.wanted, hgd])]
  obtain ⟨p', c', w', hr, h2, h3, h4⟩ := run_append_row (P := P) t o.type e ht hi hz hsize hby hzs hsz hs sp m c news hl hnews hnil h1 h63 hbytes
  unfold Oper.wp execOp
  simp only [ho, resolve, invoke, builtin, Sem.run_bind, Sem.run_pure, Result.andThen_ok, List.map_toArray, List.map_cons, List.map_nil, hv, hx, hr]
  exact h p' c' w' h2 h3 h4
/-- copy as one step of a region that draws its order. -/
theorem step_copy {ops : Array Oper} {o : Oper} {a : Act} {K : Act → World → Prop} {Q : Exit → Act → World → Prop} {E : Prop} (hgd : o.guard = none) (d s : Operand) (dT sT : TypeId) (ho : o.op = .call { callee := .builtin .copy, args := #[d, s], argTypes := #[dT, sT] }) {elem : TypeId} (hu : P.underlying dT = some (.slice elem)) (hsz : (P.info? elem).map (·.size) = some 1)
    {b off : Nat} {vs : List Value} (hs : Sat W0 w (seg true b off vs :: L)) (k q dLen dCap sLen sCap : Nat) (sp : Option Addr) (cs : List Value) (hd : a.eval d = .slice (some ⟨b, q, none⟩) dLen dCap) (hx : a.eval s = .slice sp sLen sCap)
    (hq : q = off + k) (hn : cs.length = Nat.min sLen dLen) (hfit : k + cs.length ≤ vs.length) (hsrc : ∀ j v, cs[j]? = some v → ∃ ad, sp = some ad ∧ w.cell? (ad.add j) = some v) (h1 : ∀ v ∈ cs, v.oneCell' = true)
    (h : ∀ w', Sat W0 w' (seg true b off (setL vs k cs) :: L) → K (a.put o.dst (.int .i64 (cs.length : Int))) w') :
    if Region.wanted o (yielded ops a.tmps) = true then Oper.wp P o a w K Q else E := by
  rw [if_pos (by simp [Region.wanted, hgd])]
  cases hq' : P.info? elem with
  | none => simp [hq'] at hsz
  | some i =>
    have hsz' : i.size = 1 := by simpa [hq'] using hsz
    have hmin : Nat.min sLen dLen = cs.length := hn.symm
    obtain ⟨w', hr, hs'⟩ := Sat.run_storeCells (P := P) q k cs 0 vs w hs hq (by simpa using hfit) h1
    have hrun : (Builtin.copy_ #[dT, sT] o.type #[.slice (some ⟨b, q, none⟩) dLen dCap, .slice sp sLen sCap]).run P w = .ok (goInt cs.length) w' := by
      have hf : (Builtin.firstCells 1 cs.length (.slice sp sLen sCap)).run P w = .ok cs.toArray w := by
        cases sp with
        | none =>
          have : cs = [] := by
            cases cs with
            | nil => rfl
            | cons v r => obtain ⟨ad, h, _⟩ := hsrc 0 v rfl; cases h
          subst this
          rfl
        | some ad => exact run_firstCells_some w 1 cs.length ad sLen sCap cs (by simp) (fun j v hv => by obtain ⟨ad', h, hc⟩ := hsrc j v hv; cases h; exact hc)
      simp [Builtin.copy_, run_underlying hu, Builtin.lenOf, sizeOf, typeInfo, hq', hsz', hmin, hf, hr]
    unfold Oper.wp
    simp [execOp, ho, resolve, invoke, builtin, hd, hx, hrun, Result.andThen]
    exact h w' (by simpa using hs')
/-- An element of an array of numbers. -/
theorem run_index_list {t e : TypeId} {n : Nat} (ht : P.underlying t = some (.array n e)) (hz : (P.info? e).map (·.size) = some 1) (hag : ∀ w, (isAgg e).run P w = .ok false w) (vs : List Value) (hl : vs.length = n) (i : Nat) (hi : i < n) (w : World) :
    (Instr.index t (.agg vs.toArray) (.int .i64 (i : Int))).run P w = .ok (vs.getD i undef) w := by
  subst hl
  cases hq : P.info? e with
  | none => simp [hq] at hz
  | some inf =>
    have hz' : inf.size = 1 := by simpa [hq] using hz
    have h0 : (0 : Int) ≤ (i : Int) := by omega
    have h2 : (i : Int) < (vs.length : Int) := by omega
    simp [Instr.index, asIntOf, run_underlying ht, h0, h2, sizeOf, typeInfo, hq, hz', part, hag, hi]
end Go.Sep
