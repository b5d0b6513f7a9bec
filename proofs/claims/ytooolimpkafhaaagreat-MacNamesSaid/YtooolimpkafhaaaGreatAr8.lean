
/- Rules for the walk at arrays of bytes: loaded, stored, made, boxed, indexed, handed back; under the conditions that each names. -/
import Derived.Test.YtooolimpkafhaaaGreatGE
namespace Go.Sep
open Go.RowKit Go.Bv
set_option linter.unusedVariables false
set_option linter.unusedSimpArgs false
theorem u8s_drop (B : List Byte) (k : Nat) : (u8s B).drop k = u8s (B.drop k) := by simp [u8s, List.map_drop]
theorem u8s_take (B : List Byte) (k : Nat) : (u8s B).take k = u8s (B.take k) := by simp [u8s, List.map_take]
theorem bpad (W : List Byte) (x : Byte) (i n : Nat) (h : W.length = i) (hn : i < n) : (W ++ List.replicate (n - i) 0).set i x = (W ++ [x]) ++ List.replicate (n - (i + 1)) 0 := by
  subst h
  rw [List.set_append_right _ _ (Nat.le_refl _), Nat.sub_self, show n - W.length = (n - (W.length + 1)) + 1 by omega, List.replicate_succ]
  simp
/-- Bytes laid over bytes from a place on. -/
def putB (B : List Byte) (k : Nat) (C : List Byte) : List Byte := B.take k ++ C ++ B.drop (k + C.length)
theorem putB_len (B C : List Byte) (k : Nat) (h : k + C.length ≤ B.length) : (putB B k C).length = B.length := by simp [putB]; omega
theorem putB_next (W C : List Byte) (i n : Nat) (h : W.length = i) (hn : i + C.length ≤ n) : putB (W ++ List.replicate (n - i) 0) i C = W ++ C ++ List.replicate (n - (i + C.length)) 0 := by
  subst h
  unfold putB
  rw [List.take_append_of_le_length (Nat.le_refl _), List.take_length]
  congr 1
  rw [List.drop_append, List.drop_eq_nil_of_le (by omega), List.nil_append, List.drop_replicate]
  congr 1
  omega
theorem setL_u8s (B C : List Byte) (k : Nat) (h : k + C.length ≤ B.length) : setL (u8s B) k (u8s C) = u8s (putB B k C) := by
  have e : u8s B = u8s (B.take k) ++ u8s ((B.drop k).take C.length) ++ u8s (B.drop (k + C.length)) := by
    rw [← u8s_append, ← u8s_append]
    congr 1
    rw [List.append_assoc, ← List.drop_drop, List.take_append_drop, List.take_append_drop]
  have key := setL_mid (u8s (B.take k)) (u8s ((B.drop k).take C.length)) (u8s (B.drop (k + C.length))) (u8s C) (by rw [u8s_len, u8s_len, List.length_take, List.length_drop]; omega)
  rw [u8s_len, List.length_take, Nat.min_eq_left (by omega)] at key
  rw [e, key]
  unfold putB
  rw [u8s_append, u8s_append]
theorem foldl_set : ∀ (vs : List Value) (k off : Nat) (arr : Array Value), ((vs.zipIdx k).foldl (fun cs x => cs.setIfInBounds (off + x.2) x.1) arr).toList = setL arr.toList (off + k) vs
  | [], _, _, _ => rfl
  | v :: vs, k, off, arr => by
    rw [List.zipIdx_cons, List.foldl_cons, foldl_set vs (k + 1) off, setL, Array.toList_setIfInBounds, Nat.add_assoc]
section
variable {P : Program} {W0 w : World} {L : List Assn} {ops : Array Oper} {rest : List Oper} {o : Oper} {a : Act} {Q : Exit → Act → World → Prop} {T U : TypeId} {n N : Nat}
theorem run_build_struct {fields : Array Field} (hu : P.underlying T = some (.struct fields)) {zs cells : Array Value} (hz : (zeroValue T).run P w = .ok (.agg zs) w) {places : Array (Nat × Nat)} (hp : (fields.mapM fun f : Field => do pure (f.offset, ← sizeOf f.type)).run P w = .ok places w) {parts : Array (Nat × Value)} (hf : Instr.fill (places[·]?) zs parts.toList = some cells) : (Instr.build T parts).run P w = .ok (.agg cells) w := by
  unfold Instr.build
  simp only [Sem.run_bind, hz, Result.andThen_ok, run_underlying hu, hp]
  have e : (Value.agg zs).cells = zs := rfl
  simp only [e, hf]
  rfl
/-- A part of cells is laid into the cells of a struct. -/
theorem fill_one {place : Nat → Option (Nat × Nat)} {i off size : Nat} {v : Value} {rest : List (Nat × Value)} {zs : Array Value} (hp : place i = some (off, size)) (hv : v.cells.size = size) (hl : off + size ≤ zs.size) : Instr.fill place zs ((i, v) :: rest) = Instr.fill place (setL zs.toList off v.cells.toList).toArray rest := by
  have h := foldl_set v.cells.toList 0 off zs
  rw [Instr.fill, hp]
  simp only [hv]
  rw [if_neg (by simp; omega)]
  congr 1
  apply Array.ext'
  rw [Nat.add_zero] at h
  rw [← Array.foldl_toList, Array.toList_zipIdx]
  exact h
theorem wpl_ld8 (hgd : o.guard = none) (x : Operand) (ho : o.op = .load T x) (hu : P.underlying T = some (.array N U)) (hi : (P.info? T).map (·.size) = some n) {m : Bool} {b off q k : Nat} {B : List Byte} (hs : Sat W0 w (seg m b off (u8s B) :: L)) (hx : a.eval x = .pointer (some ⟨b, q, none⟩)) (hq : q = off + k) (hB : k + n ≤ B.length)
    (h : wpList P ops Q rest (a.put o.dst (.agg (u8s ((B.drop k).take n)).toArray)) w) : wpList P ops Q (o :: rest) a w := by
  refine wpl_load_agg hgd T x ho hu rfl hi hs k q hx hq (by rw [u8s_len]; exact hB) ?_
  rw [u8s_drop, u8s_take]
  exact h
theorem wpl_ld8a (hgd : o.guard = none) (x : Operand) (ho : o.op = .load T x) (hu : P.underlying T = some (.array N U)) (hi : (P.info? T).map (·.size) = some n) {m : Bool} {b off : Nat} {B : List Byte} (hs : Sat W0 w (seg m b off (u8s B) :: L)) (hx : a.eval x = .pointer (some ⟨b, off, none⟩)) (hB : B.length = n)
    (h : wpList P ops Q rest (a.put o.dst (.agg (u8s B).toArray)) w) : wpList P ops Q (o :: rest) a w := by
  refine wpl_ld8 (k := 0) hgd x ho hu hi hs hx rfl (by omega) ?_
  rw [List.drop_zero, List.take_of_length_le (by omega)]
  exact h
theorem wpl_st8 (hgd : o.guard = none) (hdst : o.dst = none) (x y : Operand) (ho : o.op = .store T x y) {b off q k : Nat} {B C : List Byte} (hs : Sat W0 w (seg true b off (u8s B) :: L)) (hi : (P.info? T).map (·.size) = some n) (hx : a.eval x = .pointer (some ⟨b, q, none⟩)) (hy : a.eval y = .agg (u8s C).toArray) (hq : q = off + k) (hC : C.length = n) (hB : k + n ≤ B.length)
    (h : ∀ w', Sat W0 w' (seg true b off (u8s (putB B k C)) :: L) → wpList P ops Q rest a w') : wpList P ops Q (o :: rest) a w := by
  refine wpl_store_agg hgd hdst T x y ho hs k q (by rw [u8s_len, hC]; exact hi) hx hy hq (by rw [u8s_len, u8s_len, hC]; exact hB) (u8s_one _) ?_
  intro w' s
  rw [setL_u8s B C k (by omega)] at s
  exact h w' s
theorem wpl_st8a (hgd : o.guard = none) (hdst : o.dst = none) (x y : Operand) (ho : o.op = .store T x y) {b off : Nat} {B C : List Byte} (hs : Sat W0 w (seg true b off (u8s B) :: L)) (hi : (P.info? T).map (·.size) = some n) (hx : a.eval x = .pointer (some ⟨b, off, none⟩)) (hy : a.eval y = .agg (u8s C).toArray) (hC : C.length = n) (hB : B.length = n)
    (h : ∀ w', Sat W0 w' (seg true b off (u8s C) :: L) → wpList P ops Q rest a w') : wpList P ops Q (o :: rest) a w := by
  refine wpl_st8 (k := 0) hgd hdst x y ho hs hi hx hy rfl hC (by omega) ?_
  intro w' s
  refine h w' (s.to ?_)
  unfold putB
  rw [List.take_zero, List.nil_append, List.drop_eq_nil_of_le (by omega), List.append_nil]
theorem wpl_al8 (hgd : o.guard = none) (ho : o.op = .alloc T) (hs : Sat W0 w L) (hz : (zeroValue T).run P w = .ok (.agg (u8s (List.replicate n 0)).toArray) w)
    (h : ∀ w' g, Sat W0 w' (seg true g 0 (u8s (List.replicate n 0)) :: L) → g < w'.heap.size → wpList P ops Q rest (a.put o.dst (.pointer (some ⟨g, 0, none⟩))) w') : wpList P ops Q (o :: rest) a w :=
  wpl_alloc_agg hgd T ho hs _ hz h
/-- What an array variable of a function hands back. -/
theorem run_ret8 (hu : P.underlying T = some (.array N U)) (hi : (P.info? T).map (·.size) = some n) {m : Bool} {b : Nat} {B : List Byte} (hs : Sat W0 w (seg m b 0 (u8s B) :: L)) (hB : B.length = n) : (loadVar T ⟨b, 0, none⟩).run P w = .ok (.agg (u8s B).toArray) w := by
  have hr := run_loadVar_agg (P := P) (ty := T) hu rfl hi hs 0 0 rfl (by rw [u8s_len]; omega)
  rw [List.drop_zero, List.take_of_length_le (by rw [u8s_len]; omega)] at hr
  exact hr
theorem run_sliceFrom (hu : P.underlying T = some (.array n U)) (hz : (P.info? U).map (·.size) = some 1) (b o r : Nat) (hr : r < n) (w : World) :
    (Instr.sliceAt T (.pointer (some ⟨b, o, none⟩)) (some (.int .i64 (r : Int))) none none).run P w = .ok (.slice (some ⟨b, o + r, none⟩) (n - r) (n - r)) w := by
  cases hq : P.info? U with
  | none => simp [hq] at hz
  | some inf =>
    have hz' : inf.size = 1 := by simpa [hq] using hz
    have h2 : r ≤ n := by omega
    have h3 : ¬ n = r := by omega
    simp [Instr.sliceAt, Instr.sliceBounds, Instr.sliceBound, asIntOf, Instr.sureAddr, run_underlying hu, h2, h3, sizeOf, typeInfo, hq, hz', Addr.add]
theorem run_sliceTo (hu : P.underlying T = some (.array n U)) {m : Nat} (hz : (P.info? U).map (·.size) = some m) (b o r : Nat) (hr : r ≤ n) (hn : 0 < n) (w : World) :
    (Instr.sliceAt T (.pointer (some ⟨b, o, none⟩)) none (some (.int .i64 (r : Int))) none).run P w = .ok (.slice (some ⟨b, o, none⟩) r n) w := by
  cases hq : P.info? U with
  | none => simp [hq] at hz
  | some inf =>
    have hz' : inf.size = m := by simpa [hq] using hz
    have h3 : ¬ n = 0 := by omega
    simp [Instr.sliceAt, Instr.sliceBounds, Instr.sliceBound, asIntOf, Instr.sureAddr, run_underlying hu, hr, h3, sizeOf, typeInfo, hq, hz', Addr.add]
theorem run_sliceAll (hu : P.underlying T = some (.array n U)) (hz : (P.info? U).map (·.size) = some 1) (b o : Nat) (w : World) :
    (Instr.sliceAt T (.pointer (some ⟨b, o, none⟩)) none none none).run P w = .ok (.slice (some ⟨b, o, none⟩) n n) w := by
  cases hq : P.info? U with
  | none => simp [hq] at hz
  | some inf =>
    have hz' : inf.size = 1 := by simpa [hq] using hz
    simp [Instr.sliceAt, Instr.sliceBounds, asIntOf, Instr.sureAddr, run_underlying hu, sizeOf, typeInfo, hq, hz', Addr.add]
theorem run_index_part {e : TypeId} {m : Nat} (ht : P.underlying T = some (.array n e)) (hz : (P.info? e).map (·.size) = some m) (hag : ∀ w, (isAgg e).run P w = .ok true w) (vs : List Value) (hl : vs.length = n * m) (i : Nat) (hi : i < n) (w : World) :
    (Instr.index T (.agg vs.toArray) (.int .i64 (i : Int))).run P w = .ok (.agg ((vs.drop (i * m)).take m).toArray) w := by
  cases hq : P.info? e with
  | none => simp [hq] at hz
  | some inf =>
    have hz' : inf.size = m := by simpa [hq] using hz
    have h0 : (0 : Int) ≤ (i : Int) := by omega
    have h2 : (i : Int) < (n : Int) := by omega
    have h3 : i * m + m ≤ vs.length := by rw [hl, ← Nat.succ_mul]; exact Nat.mul_le_mul_right _ hi
    simp [Instr.index, asIntOf, run_underlying ht, h0, h2, sizeOf, typeInfo, hq, hz', part, hag, h3]
    all_goals (intro h; omega)
theorem run_idx8 (hu : P.underlying T = some (.array n U)) (hz : (P.info? U).map (·.size) = some 1) (hag : ∀ w, (isAgg U).run P w = .ok false w) (B : List Byte) (hB : B.length = n) (i : Nat) (hi : i < n) (w : World) :
    (Instr.index T (.agg (u8s B).toArray) (.int .i64 (i : Int))).run P w = .ok (.int .u8 (v8 (B.getD i 0))) w := by
  rw [run_index_list hu hz hag (u8s B) (by rw [u8s_len, hB]) i hi w]
  rw [List.getD_eq_getElem?_getD, u8s_get B i (by omega)]
  rfl
end
end Go.Sep
