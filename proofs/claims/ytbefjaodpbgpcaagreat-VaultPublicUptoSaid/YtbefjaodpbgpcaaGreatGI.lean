/- Rng, WplIn, Ar8, HeldE, Big, Mpi: texts that lie apart elsewhere, as one; each under the conditions that it names. -/
import Derived.RangeFuncLeaves
import Derived.RangeFuncRecord
import Derived.RangeFuncSeq
import Derived.RangeFuncCalls
import Derived.WalkKit
import Derived.Test.YtbefjaodpbgpcaaGreatGA
import Derived.RangeFuncNested
import Derived.RangeFuncBound
import Derived.Shelf.RegionOpen
import Derived.OwnWalkIn
import Derived.TacticsInMore
import Derived.LoopNIn
import Derived.LoopIn
import Derived.Test.YtbefjaodpbgpcaaGreatGE
import Derived.Deep.RegionHeld
import Derived.Deep.QuietTactic
import Derived.RegionTactic
import Derived.MapKept
set_option linter.unusedVariables false
set_option linter.unusedSimpArgs false
set_option maxRecDepth 100000
set_option maxHeartbeats 16000000

/- A range over a function, in the separation logic: the statement; a round; each under the conditions that it names. -/
namespace Go.Sep
open Go.RowKit
abbrev loopRec (fn : FuncId) (tmps : Array Value) (ps : Array Tmp) (assign body : Code) (D : Nat) (st : LoopState) (pe : Option Code) : Obj := .loop { state := st, pending := pe, fn, tmps, params := ps, assign, body, defers := D }
abbrev markOf (D : Nat) : Deferred := { target := .collected D, args := #[] }
theorem wpIn_rangeSat {F : Fence} {n : Nat} {P : Program} {W0 w : World} {L : List Assn} {g : Operand} {ps : Array Tmp} {assign body : Code} {Q : Exit → Act → World → Prop} {a : Act}
  (hro : F.round = none) (h1 : 1 ≤ n) {gf : Nat} {lb : Array Value} (hg : a.eval g = .func (.func gf) #[] lb) (hFg : F.fn gf) (eg : ∀ args w, (callFunc gf args).run P w = .ok (.enter gf args) w)
  (hs : Sat W0 w L)
  (h : ∀ (fn : FuncId) (l D : Nat) (rd : LoopState → Option Code → Obj) (W1 : World), F.fn fn → l = w.heap.size + 1 → D = w.heap.size → rd = loopRec fn a.tmps ps assign body D → Sat W0 W1 (obj l (rd .ready none) :: obj D (.deferred (some [])) :: L) →
   CallsIn F (n - 1) P gf (#[.func (.yield l) #[] #[]] ++ lb) W1 fun e W' => (∃ v, e = .returned v) ∧ ∃ st pe L', st ≠ .busy ∧ Sat W0 W' (obj l (rd st pe) :: obj D (.deferred (some [])) :: L') ∧
    ∀ W2, Sat W0 W2 (obj D (.deferred (some [])) :: L') → W2.heap[D]? = some (.deferred (some [])) → (match pe with | none => Q .normal { a with defers := markOf D :: a.defers } W2 | some c => c.wpIn F n P Q { a with defers := markOf D :: a.defers } W2)) :
  (Code.rangeFunc g ps assign body).wpIn F n P Q a w := by
 refine wpIn_rangeFunc ?_
 intro fn hfn
 rw [hro]
 have s1 := hs.allocObj (.deferred (some [])) rfl rfl
 have s2 := s1.allocObj (loopRec fn a.tmps ps assign body w.heap.size .ready none) rfl (q := w.heap.size + 1) (by simp)
 refine ⟨w.heap.size + 1, [markOf w.heap.size], (w.alloc (.deferred (some []))).alloc (loopRec fn a.tmps ps assign body w.heap.size .ready none), { target := .fn (.func gf) lb, args := #[.func (.yield (w.heap.size + 1)) #[] #[]] }, (w.alloc (.deferred (some []))).alloc (loopRec fn a.tmps ps assign body w.heap.size .ready none), gf, #[.func (.yield (w.heap.size + 1)) #[] #[]] ++ lb, (w.alloc (.deferred (some []))).alloc (loopRec fn a.tmps ps assign body w.heap.size .ready none), run_enterLoop_outer _ _ _ _ _, ?_, ?_, ?_, fun _ => h1, ?_⟩
 ·simp only [resolve, hg]
  simp [go_sem]
 ·intro f' hf'; simp [Target.leads] at hf'; subst hf'; exact hFg
 ·simp [invoke, go_sem, eg]
 ·refine (h fn (w.heap.size + 1) w.heap.size _ _ hfn rfl rfl rfl s2).mono ?_
  rintro e W' ⟨⟨v, rfl⟩, st, pe, L', hst, s3, h3⟩
  have s4 := s3.putObj (loopRec fn a.tmps ps assign body w.heap.size .exhausted pe) rfl
  have s5 : Sat W0 _ (obj w.heap.size (.deferred (some [])) :: L') := s4.tail
  refine ⟨pe, _, run_endLoop s3.obj.1 hst, ?_⟩
  have h4 := h3 _ s5 s5.obj.1
  cases pe with
  | none => exact h4
  | some c => exact h4
theorem yieldSat {F : Fence} {n : Nat} {P : Program} {W0 W : World} {L : List Assn} {l D : Nat} {fn : FuncId} {tmps : Array Value} {ps : Array Tmp} {assign body : Code} {args : Array Value} {R : Ending → World → Prop}
  (hsz : args.size = ps.size) (hfn : F.fn fn) (hs : Sat W0 W (obj l (loopRec fn tmps ps assign body D .ready none) :: L)) (a1 : Act)
  (hassign : ∀ K : Act → World → Prop, K a1 W → assign.wpIn (F.inRound l) n P (Exit.then K (fun _ _ _ => False)) { tmps := (ps.zip args).foldl (fun t (p, v) => t.setIfInBounds p v) tmps, defers := [] } W)
  (hbody : ∀ W2, Sat W0 W2 (obj l (loopRec fn tmps ps assign body D .busy none) :: L) → body.wpIn (F.inRound l) n P (fun e _ W3 => ∃ L3, Sat W0 W3 (obj l (loopRec fn tmps ps assign body D .busy none) :: L3) ∧
    (match e with
    | .normal => ∀ W4, Sat W0 W4 (obj l (loopRec fn tmps ps assign body D .ready none) :: L3) → R (.returned (.bool true)) W4
    | .exit id => ∀ W4, Sat W0 W4 (obj l (loopRec fn tmps ps assign body D .done (some (.exit id))) :: L3) → R (.returned (.bool false)) W4
    | .ret => ∀ W4, Sat W0 W4 (obj l (loopRec fn tmps ps assign body D .done (some .ret)) :: L3) → R (.returned (.bool false)) W4
    | _ => False)) a1 W2) :
  YieldAt F n P l args W R := by
 refine ⟨fn, _, assign, body, run_yield hs.obj.1 hsz, roundIn_of_wpIn hfn (hassign _ ⟨_, run_beginRound hs.obj.1 rfl, ?_⟩)⟩
 refine wpIn_mono (hbody _ (hs.putObj (loopRec fn tmps ps assign body D .busy none) rfl)) ?_
 rintro e a3 W3 ⟨L3, s3, h3⟩
 cases e with
 | normal => exact ⟨_, _, run_endRound none s3.obj.1, h3 _ (s3.putObj (loopRec fn tmps ps assign body D .ready none) rfl)⟩
 | ret => exact ⟨_, _, run_endRound (some .ret) s3.obj.1, h3 _ (s3.putObj (loopRec fn tmps ps assign body D .done (some .ret)) rfl)⟩
 | exit id => exact ⟨_, _, run_endRound (some (.exit id)) s3.obj.1, h3 _ (s3.putObj (loopRec fn tmps ps assign body D .done (some (.exit id))) rfl)⟩
 | goto t => exact h3.elim
 | panic c => exact h3.elim
 | outgrown => exact h3.elim
end Go.Sep

/- Rules for the walk inside a fence, said in the separation logic: whole structs loaded, stored and allocated; append; each under the conditions that it names. -/
namespace Go.Sep
open Go.RowKit
theorem wplIn_append {F : Fence} {n0 : Nat} {P : Program} {W0 w : World} {L : List Assn} {ops : Array Oper} {rest : List Oper} {o : Oper} {a : Act} {Q : Exit → Act → World → Prop} (hgd : o.guard = none) (s x : Operand) (t : TypeId) (ho : o.op = .call { callee := .builtin .append, args := #[s, x], argTypes := #[t, t] }) {e : TypeId} {i : TypeInfo} {z : Value} {size bytes : Nat}
  (ht : P.underlying t = some (.slice e)) (hi : P.info? e = some i) (hz : i.zero = some z) (hsize : i.size = size) (hby : i.bytes = bytes) (hzs : z.cells.size = size) (hsz : 0 < size)
  {p : Option Addr} {cp n : Nat} {xs : List Value} (hs : Sat W0 w (row p cp size n xs :: L)) (hv : a.eval s = .slice p n cp) (sp : Option Addr) (m c : Nat) (hx : a.eval x = .slice sp m c) (news : List Value) (hl : news.length = m * size)
  (hnews : ∀ j u, news[j]? = some u → ∃ ad, sp = some ad ∧ w.cell? (ad.add j) = some u) (hnil : sp = none → m = 0) (h1 : ∀ u ∈ news, u.oneCell' = true) (h63 : n + m ≤ maxLen) (hbytes : (n + m) * bytes ≤ 140737488355328)
  (h : ∀ p' c' w', Sat W0 w' (row p' c' size (n + m) (xs ++ news) :: L) → wpListIn F n0 P ops Q rest (a.put o.dst (.slice p' (n + m) c')) w') : wpListIn F n0 P ops Q (o :: rest) a w := by
 refine wpListIn_plain hgd fun K hK => ?_
 obtain ⟨p', c', w', hr, h2, h3, h4⟩ := run_append_row (P := P) t o.type e ht hi hz hsize hby hzs hsz hs sp m c news hl hnews hnil h1 h63 hbytes
 unfold Oper.wpIn
 refine ⟨?_, ?_⟩
 ·simp [Oper.about, ho, resolve, Target.leads, Sem.run_pure]
 ·rw [Oper.semAt_plain F _ _ (by rw [ho]; intro c hc'; cases hc')]
  simp only [execOp, ho, resolve, invoke, builtin, Sem.run_bind, Sem.run_pure, Result.andThen_ok, List.map_toArray, List.map_cons, List.map_nil, hv, hx, hr]
  exact hK _ _ (h p' c' w' h2)
section
variable {F : Fence} {n0 : Nat} {P : Program} {W0 w : World} {L : List Assn} {ops : Array Oper} {rest : List Oper} {o : Oper} {a : Act} {Q : Exit → Act → World → Prop}
end
end Go.Sep

/- Rules for the walk at arrays of bytes: loaded, stored, made, boxed, indexed, handed back; under the conditions that each names. -/
namespace Go.Sep
open Go.RowKit Go.Bv
theorem u8s_drop (B : List Byte) (k : Nat) : (u8s B).drop k = u8s (B.drop k) := by simp [u8s, List.map_drop]
theorem u8s_take (B : List Byte) (k : Nat) : (u8s B).take k = u8s (B.take k) := by simp [u8s, List.map_take]
theorem bpad (W : List Byte) (x : Byte) (i n : Nat) (h : W.length = i) (hn : i < n) : (W ++ List.replicate (n - i) 0).set i x = (W ++ [x]) ++ List.replicate (n - (i + 1)) 0 := by
 subst h
 rw [List.set_append_right _ _ (Nat.le_refl _), Nat.sub_self, show n - W.length = (n - (W.length + 1)) + 1 by omega, List.replicate_succ]
 simp
def putB (B : List Byte) (k : Nat) (C : List Byte) : List Byte := B.take k ++ C ++ B.drop (k + C.length)
theorem putB_next (W C : List Byte) (i n : Nat) (h : W.length = i) (hn : i + C.length ≤ n) : putB (W ++ List.replicate (n - i) 0) i C = W ++ C ++ List.replicate (n - (i + C.length)) 0 := by
 subst h
 unfold putB
 rw [List.take_append_of_le_length (Nat.le_refl _), List.take_length]
 congr 1
 rw [List.drop_append, List.drop_eq_nil_of_le (by omega), List.nil_append, List.drop_replicate]
 congr 1
 omega
theorem setL_u8s (B C : List Byte) (k : Nat) (h : k + C.length ≤ B.length) : setL (u8s B) k (u8s C) = u8s (putB B k C) := by
 have e : u8s B = u8s (B.take k) ++ u8s ((B.drop k).take C.length) ++ u8s (B.drop (k + C.length)) := by
  rw [← u8s_append, ← u8s_append]
  congr 1
  rw [List.append_assoc, ← List.drop_drop, List.take_append_drop, List.take_append_drop]
 have key := setL_mid (u8s (B.take k)) (u8s ((B.drop k).take C.length)) (u8s (B.drop (k + C.length))) (u8s C) (by rw [u8s_len, u8s_len, List.length_take, List.length_drop]; omega)
 rw [u8s_len, List.length_take, Nat.min_eq_left (by omega)] at key
 rw [e, key]
 unfold putB
 rw [u8s_append, u8s_append]
theorem foldl_set : ∀ (vs : List Value) (k off : Nat) (arr : Array Value), ((vs.zipIdx k).foldl (fun cs x => cs.setIfInBounds (off + x.2) x.1) arr).toList = setL arr.toList (off + k) vs
 | [], _, _, _ => rfl
 | v :: vs, k, off, arr => by
  rw [List.zipIdx_cons, List.foldl_cons, foldl_set vs (k + 1) off, setL, Array.toList_setIfInBounds, Nat.add_assoc]
section
variable {P : Program} {W0 w : World} {L : List Assn} {ops : Array Oper} {rest : List Oper} {o : Oper} {a : Act} {Q : Exit → Act → World → Prop} {T U : TypeId} {n N : Nat}
theorem run_build_struct {fields : Array Field} (hu : P.underlying T = some (.struct fields)) {zs cells : Array Value} (hz : (zeroValue T).run P w = .ok (.agg zs) w) {places : Array (Nat × Nat)} (hp : (fields.mapM fun f : Field => do pure (f.offset, ← sizeOf f.type)).run P w = .ok places w) {parts : Array (Nat × Value)} (hf : Instr.fill (places[·]?) zs parts.toList = some cells) : (Instr.build T parts).run P w = .ok (.agg cells) w := by
 unfold Instr.build
 simp only [Sem.run_bind, hz, Result.andThen_ok, run_underlying hu, hp]
 have e : (Value.agg zs).cells = zs := rfl
 simp only [e, hf]
 rfl
theorem fill_one {place : Nat → Option (Nat × Nat)} {i off size : Nat} {v : Value} {rest : List (Nat × Value)} {zs : Array Value} (hp : place i = some (off, size)) (hv : v.cells.size = size) (hl : off + size ≤ zs.size) : Instr.fill place zs ((i, v) :: rest) = Instr.fill place (setL zs.toList off v.cells.toList).toArray rest := by
 have h := foldl_set v.cells.toList 0 off zs
 rw [Instr.fill, hp]
 simp only [hv]
 rw [if_neg (by simp; omega)]
 congr 1
 apply Array.ext'
 rw [Nat.add_zero] at h
 rw [← Array.foldl_toList, Array.toList_zipIdx]
 exact h
theorem wpl_ld8 (hgd : o.guard = none) (x : Operand) (ho : o.op = .load T x) (hu : P.underlying T = some (.array N U)) (hi : (P.info? T).map (·.size) = some n) {m : Bool} {b off q k : Nat} {B : List Byte} (hs : Sat W0 w (seg m b off (u8s B) :: L)) (hx : a.eval x = .pointer (some ⟨b, q, none⟩)) (hq : q = off + k) (hB : k + n ≤ B.length)
  (h : wpList P ops Q rest (a.put o.dst (.agg (u8s ((B.drop k).take n)).toArray)) w) : wpList P ops Q (o :: rest) a w := by
 refine wpl_load_agg hgd T x ho hu rfl hi hs k q hx hq (by rw [u8s_len]; exact hB) ?_
 rw [u8s_drop, u8s_take]
 exact h
theorem wpl_ld8a (hgd : o.guard = none) (x : Operand) (ho : o.op = .load T x) (hu : P.underlying T = some (.array N U)) (hi : (P.info? T).map (·.size) = some n) {m : Bool} {b off : Nat} {B : List Byte} (hs : Sat W0 w (seg m b off (u8s B) :: L)) (hx : a.eval x = .pointer (some ⟨b, off, none⟩)) (hB : B.length = n)
  (h : wpList P ops Q rest (a.put o.dst (.agg (u8s B).toArray)) w) : wpList P ops Q (o :: rest) a w := by
 refine wpl_ld8 (k := 0) hgd x ho hu hi hs hx rfl (by omega) ?_
 rw [List.drop_zero, List.take_of_length_le (by omega)]
 exact h
theorem wpl_st8 (hgd : o.guard = none) (hdst : o.dst = none) (x y : Operand) (ho : o.op = .store T x y) {b off q k : Nat} {B C : List Byte} (hs : Sat W0 w (seg true b off (u8s B) :: L)) (hi : (P.info? T).map (·.size) = some n) (hx : a.eval x = .pointer (some ⟨b, q, none⟩)) (hy : a.eval y = .agg (u8s C).toArray) (hq : q = off + k) (hC : C.length = n) (hB : k + n ≤ B.length)
  (h : ∀ w', Sat W0 w' (seg true b off (u8s (putB B k C)) :: L) → wpList P ops Q rest a w') : wpList P ops Q (o :: rest) a w := by
 refine wpl_store_agg hgd hdst T x y ho hs k q (by rw [u8s_len, hC]; exact hi) hx hy hq (by rw [u8s_len, u8s_len, hC]; exact hB) (u8s_one _) ?_
 intro w' s
 rw [setL_u8s B C k (by omega)] at s
 exact h w' s
theorem wpl_st8a (hgd : o.guard = none) (hdst : o.dst = none) (x y : Operand) (ho : o.op = .store T x y) {b off : Nat} {B C : List Byte} (hs : Sat W0 w (seg true b off (u8s B) :: L)) (hi : (P.info? T).map (·.size) = some n) (hx : a.eval x = .pointer (some ⟨b, off, none⟩)) (hy : a.eval y = .agg (u8s C).toArray) (hC : C.length = n) (hB : B.length = n)
  (h : ∀ w', Sat W0 w' (seg true b off (u8s C) :: L) → wpList P ops Q rest a w') : wpList P ops Q (o :: rest) a w := by
 refine wpl_st8 (k := 0) hgd hdst x y ho hs hi hx hy rfl hC (by omega) ?_
 intro w' s
 refine h w' (s.to ?_)
 unfold putB
 rw [List.take_zero, List.nil_append, List.drop_eq_nil_of_le (by omega), List.append_nil]
theorem wpl_al8 (hgd : o.guard = none) (ho : o.op = .alloc T) (hs : Sat W0 w L) (hz : (zeroValue T).run P w = .ok (.agg (u8s (List.replicate n 0)).toArray) w)
  (h : ∀ w' g, Sat W0 w' (seg true g 0 (u8s (List.replicate n 0)) :: L) → g < w'.heap.size → wpList P ops Q rest (a.put o.dst (.pointer (some ⟨g, 0, none⟩))) w') : wpList P ops Q (o :: rest) a w :=
 wpl_alloc_agg hgd T ho hs _ hz h
theorem run_ret8 (hu : P.underlying T = some (.array N U)) (hi : (P.info? T).map (·.size) = some n) {m : Bool} {b : Nat} {B : List Byte} (hs : Sat W0 w (seg m b 0 (u8s B) :: L)) (hB : B.length = n) : (loadVar T ⟨b, 0, none⟩).run P w = .ok (.agg (u8s B).toArray) w := by
 have hr := run_loadVar_agg (P := P) (ty := T) hu rfl hi hs 0 0 rfl (by rw [u8s_len]; omega)
 rw [List.drop_zero, List.take_of_length_le (by rw [u8s_len]; omega)] at hr
 exact hr
theorem run_sliceFrom (hu : P.underlying T = some (.array n U)) (hz : (P.info? U).map (·.size) = some 1) (b o r : Nat) (hr : r < n) (w : World) :
  (Instr.sliceAt T (.pointer (some ⟨b, o, none⟩)) (some (.int .i64 (r : Int))) none none).run P w = .ok (.slice (some ⟨b, o + r, none⟩) (n - r) (n - r)) w := by
 cases hq : P.info? U with
 | none => simp [hq] at hz
 | some inf =>
  have hz' : inf.size = 1 := by simpa [hq] using hz
  have h2 : r ≤ n := by omega
  have h3 : ¬ n = r := by omega
  simp [Instr.sliceAt, Instr.sliceBounds, Instr.sliceBound, asIntOf, Instr.sureAddr, run_underlying hu, h2, h3, sizeOf, typeInfo, hq, hz', Addr.add]
theorem run_sliceTo (hu : P.underlying T = some (.array n U)) {m : Nat} (hz : (P.info? U).map (·.size) = some m) (b o r : Nat) (hr : r ≤ n) (hn : 0 < n) (w : World) :
  (Instr.sliceAt T (.pointer (some ⟨b, o, none⟩)) none (some (.int .i64 (r : Int))) none).run P w = .ok (.slice (some ⟨b, o, none⟩) r n) w := by
 cases hq : P.info? U with
 | none => simp [hq] at hz
 | some inf =>
  have hz' : inf.size = m := by simpa [hq] using hz
  have h3 : ¬ n = 0 := by omega
  simp [Instr.sliceAt, Instr.sliceBounds, Instr.sliceBound, asIntOf, Instr.sureAddr, run_underlying hu, hr, h3, sizeOf, typeInfo, hq, hz', Addr.add]
theorem run_sliceAll (hu : P.underlying T = some (.array n U)) (hz : (P.info? U).map (·.size) = some 1) (b o : Nat) (w : World) :
  (Instr.sliceAt T (.pointer (some ⟨b, o, none⟩)) none none none).run P w = .ok (.slice (some ⟨b, o, none⟩) n n) w := by
 cases hq : P.info? U with
 | none => simp [hq] at hz
 | some inf =>
  have hz' : inf.size = 1 := by simpa [hq] using hz
  simp [Instr.sliceAt, Instr.sliceBounds, asIntOf, Instr.sureAddr, run_underlying hu, sizeOf, typeInfo, hq, hz', Addr.add]
theorem run_index_part {e : TypeId} {m : Nat} (ht : P.underlying T = some (.array n e)) (hz : (P.info? e).map (·.size) = some m) (hag : ∀ w, (isAgg e).run P w = .ok true w) (vs : List Value) (hl : vs.length = n * m) (i : Nat) (hi : i < n) (w : World) :
  (Instr.index T (.agg vs.toArray) (.int .i64 (i : Int))).run P w = .ok (.agg ((vs.drop (i * m)).take m).toArray) w := by
 cases hq : P.info? e with
 | none => simp [hq] at hz
 | some inf =>
  have hz' : inf.size = m := by simpa [hq] using hz
  have h0 : (0 : Int) ≤ (i : Int) := by omega
  have h2 : (i : Int) < (n : Int) := by omega
  have h3 : i * m + m ≤ vs.length := by rw [hl, ← Nat.succ_mul]; exact Nat.mul_le_mul_right _ hi
  simp [Instr.index, asIntOf, run_underlying ht, h0, h2, sizeOf, typeInfo, hq, hz', part, hag, h3]
  all_goals (intro h; omega)
theorem run_idx8 (hu : P.underlying T = some (.array n U)) (hz : (P.info? U).map (·.size) = some 1) (hag : ∀ w, (isAgg U).run P w = .ok false w) (B : List Byte) (hB : B.length = n) (i : Nat) (hi : i < n) (w : World) :
  (Instr.index T (.agg (u8s B).toArray) (.int .i64 (i : Int))).run P w = .ok (.int .u8 (v8 (B.getD i 0))) w := by
 rw [run_index_list hu hz hag (u8s B) (by rw [u8s_len, hB]) i hi w]
 rw [List.getD_eq_getElem?_getD, u8s_get B i (by omega)]
 rfl
end
end Go.Sep

/- Regions that draw, with loads that hold only till a store of the same region: S is asked behind an operation only if that operation does not wait for all of 'hs', the operations that read under S. -/
namespace Go.Sep
section
variable {P : Program} {ops : Array Oper} {Q : Exit → Act → World → Prop} {md : Region.Mode} {S : World → Prop} {hs : List Nat}
def behind (md : Region.Mode) (ops : Array Oper) (hs : List Nat) (j : Nat) : Bool :=
 hs.all fun i => match ops[j]? with
  | some y => y.after.any fun e => Region.binds md e && e.on == i
  | none => false
theorem behind_spec {i j : Nat} {y : Oper} (hj : ops[j]? = some y) (h : behind md ops hs j = true) (hi : i ∈ hs) : ∃ e ∈ y.after, Region.binds md e = true ∧ e.on = i := by
 have h1 := List.all_eq_true.1 h i hi
 simp only [hj] at h1
 rw [Array.any_eq_true'] at h1
 obtain ⟨e, he, h2⟩ := h1
 simp only [Bool.and_eq_true, beq_iff_eq] at h2
 exact ⟨e, he, h2.1, h2.2⟩
def anyE (P : Program) (md : Region.Mode) (ops : Array Oper) (Q : Exit → Act → World → Prop) (S : World → Prop) (hs : List Nat) : Nat → Array Bool → Act → World → Prop
 | 0, done, a, w => Region.ready md ops done = [] ∧ Q .normal a w
 | f + 1, done, a, w => (Region.ready md ops done = [] → Q .normal a w) ∧
  ∀ i ∈ Region.ready md ops done, wpOp P ops Q i (fun a' w' => (behind md ops hs i = true ∨ (S w → S w')) ∧ anyE P md ops Q S hs f (done.setIfInBounds i true) a' w') a w
theorem anyE_any : ∀ (f : Nat) (done : Array Bool) (a : Act) (w : World), anyE P md ops Q S hs f done a w → wpAny P md ops Q f done a w
 | 0, _, _, _, h => h
 | f + 1, _, _, _, h => ⟨h.1, fun i hi => wpOp_mono (fun a' w' h' => anyE_any f _ a' w' h'.2) (h.2 i hi)⟩
theorem anyE_first {i : Nat} {x : Oper} {v : Value} {S' : World → Prop} (hi : ops[i]? = some x) (hsel : ∀ (j : Nat) (o : Oper) cs b, ops[j]? = some o → o.op ≠ .select cs b)
  (hQ : ∀ c a w, Q (.panic c) (a.put x.dst v) w → Q (.panic c) a w) (hk : (i ∈ hs ∧ S' = S) ∨ S' = fun _ => True) :
  ∀ (f : Nat) (done : Array Bool) (a : Act) (w : World),
   (∀ j y, ops[j]? = some y → j ≠ i → done.getD j true = false → (∀ e ∈ y.after, Region.binds md e = true → e.on ≠ i) → x.apart ops y = true) →
   i ∈ Region.ready md ops done → YieldsIf P ops S' x v a → S' w →
   anyE P md ops Q S hs f (done.setIfInBounds i true) (a.put x.dst v) w → anyE P md ops Q S hs (f + 1) done a w := by
 intro f
 induction f with
 | zero =>
  intro done a w _ hr hy hS H
  refine ⟨fun h => (by rw [h] at hr; cases hr), fun j hj => ?_⟩
  by_cases e : j = i
  ·subst e; exact hy.wpOp hi hS ⟨Or.inr id, H⟩
  ·have := ready_mono hj e
   rw [H.1] at this
   cases this
 | succ f ih =>
  intro done a w hfree hr hy hS H
  refine ⟨fun h => (by rw [h] at hr; cases hr), fun j hj => ?_⟩
  by_cases e : j = i
  ·subst e; exact hy.wpOp hi hS ⟨Or.inr id, H⟩
  have h1 := H.2 j (ready_mono hj e)
  obtain ⟨hjun, y, hyj, hall⟩ := mem_ready.1 hj
  have hun := (mem_ready.1 hr).1
  have hno : ∀ e ∈ y.after, Region.binds md e = true → e.on ≠ i := fun e he hb heq => by
   have h1 := hall e he hb
   rw [heq] at h1
   rcases Nat.lt_or_ge i done.size with h' | h'
   ·simp [h'] at hun h1; rw [hun] at h1; cases h1
   ·simp [Array.getElem?_eq_none h'] at h1
  have h2 := wpOp_putIf hyj (hfree j y hyj e hjun hno) (fun cs b => hsel i x cs b hi) (fun cs b => hsel j y cs b hyj) hQ hy h1
  refine wpOp_mono (fun a' w' h3 => ⟨h3.2.1, ?_⟩) h2
  have hS' : S' w' := by
   rcases hk with ⟨hm, rfl⟩ | rfl
   ·rcases h3.2.1 with hb | hb
    ·obtain ⟨e', he', hb', hon⟩ := behind_spec hyj hb hm
     exact absurd hon (hno e' he' hb')
    ·exact hb hS
   ·trivial
  refine ih (done.setIfInBounds j true) a' w' (fun k z hk hki hkun hkno => hfree k z hk hki ?_ hkno) (ready_mono hr (Ne.symm e)) h3.1 hS' (by rw [Array.setIfInBounds_comm _ _ e]; exact h3.2.2)
  by_cases hjk : j = k
  ·subst hjk; exact hjun
  ·rwa [getD_set_ne true hjk] at hkun
theorem anyE_take {i : Nat} {x : Oper} {v : Value} {f : Nat} {done : Array Bool} {a : Act} {w : World} (hi : ops[i]? = some x)
  (h0 : Region.noSelect ops = true) (hf : Region.free md ops done i = true) (hr : (Region.ready md ops done).contains i = true) (hm : hs.contains i = true)
  (hQ : ∀ c a w, Q (.panic c) (a.put x.dst v) w → Q (.panic c) a w) (hy : YieldsIf P ops S x v a) (hS : S w)
  (h : anyE P md ops Q S hs f (done.setIfInBounds i true) (a.put x.dst v) w) : anyE P md ops Q S hs (f + 1) done a w :=
 anyE_first hi (Region.noSelect_spec h0) hQ (Or.inl ⟨by simpa using hm, rfl⟩) f done a w (Region.free_spec hi hf) (by simpa using hr) hy hS h
theorem anyE_pure {i : Nat} {x : Oper} {v : Value} {f : Nat} {done : Array Bool} {a : Act} {w : World} (hi : ops[i]? = some x)
  (h0 : Region.noSelect ops = true) (hf : Region.free md ops done i = true) (hr : (Region.ready md ops done).contains i = true)
  (hQ : ∀ c a w, Q (.panic c) (a.put x.dst v) w → Q (.panic c) a w) (hy : YieldsIf P ops (fun _ => True) x v a)
  (h : anyE P md ops Q S hs f (done.setIfInBounds i true) (a.put x.dst v) w) : anyE P md ops Q S hs (f + 1) done a w :=
 anyE_first hi (Region.noSelect_spec h0) hQ (Or.inr rfl) f done a w (Region.free_spec hi hf) (by simpa using hr) hy trivial h
theorem anyE_one {i : Nat} {x : Oper} {f : Nat} {done : Array Bool} {a : Act} {w : World} (hi : ops[i]? = some x) (hr : Region.ready md ops done = [i])
  (h : ∀ K' : Act → World → Prop, Shut (∀ a w, S w → anyE P md ops Q S hs f (done.setIfInBounds i true) a w → K' a w) → if Region.wanted x (yielded ops a.tmps) = true then Oper.wp P x a w K' Q else K' (a.put x.dst undef) w) : anyE P md ops Q S hs (f + 1) done a w :=
 ⟨fun h0 => absurd (hr ▸ h0) (by simp), fun j hj => by
  rw [hr] at hj
  obtain rfl := List.mem_singleton.1 hj
  exact wpOp_step hi (fun K' hK => h K' (fun a w hS hW => hK a w ⟨Or.inr fun _ => hS, hW⟩))⟩
theorem anyE_last {i : Nat} {x : Oper} {f : Nat} {done : Array Bool} {a : Act} {w : World} (hi : ops[i]? = some x) (hr : Region.ready md ops done = [i]) (hb : behind md ops hs i = true)
  (h : ∀ K' : Act → World → Prop, Shut (∀ a w, anyE P md ops Q S hs f (done.setIfInBounds i true) a w → K' a w) → if Region.wanted x (yielded ops a.tmps) = true then Oper.wp P x a w K' Q else K' (a.put x.dst undef) w) : anyE P md ops Q S hs (f + 1) done a w :=
 ⟨fun h0 => absurd (hr ▸ h0) (by simp), fun j hj => by
  rw [hr] at hj
  obtain rfl := List.mem_singleton.1 hj
  exact wpOp_step hi (fun K' hK => h K' (fun a w hW => hK a w ⟨Or.inl hb, hW⟩))⟩
theorem anyE_two {i j : Nat} {x y : Oper} {f : Nat} {done : Array Bool} {a : Act} {w : World} (hi : ops[i]? = some x) (hj : ops[j]? = some y) (hr : Region.ready md ops done = [i, j])
  (h : ∀ K' : Act → World → Prop, Shut (∀ a w, S w → anyE P md ops Q S hs f (done.setIfInBounds i true) a w → K' a w) → if Region.wanted x (yielded ops a.tmps) = true then Oper.wp P x a w K' Q else K' (a.put x.dst undef) w)
  (h' : ∀ K' : Act → World → Prop, Shut (∀ a w, S w → anyE P md ops Q S hs f (done.setIfInBounds j true) a w → K' a w) → if Region.wanted y (yielded ops a.tmps) = true then Oper.wp P y a w K' Q else K' (a.put y.dst undef) w) : anyE P md ops Q S hs (f + 1) done a w :=
 ⟨fun h0 => absurd (hr ▸ h0) (by simp), fun k hk => by
  rw [hr] at hk
  rcases List.mem_cons.1 hk with e | hk
  ·subst e; exact wpOp_step hi (fun K' hK => h K' (fun a w hS hW => hK a w ⟨Or.inr fun _ => hS, hW⟩))
  ·obtain rfl := List.mem_singleton.1 hk
   exact wpOp_step hj (fun K' hK => h' K' (fun a w hS hW => hK a w ⟨Or.inr fun _ => hS, hW⟩))⟩
theorem anyE_done {done : Array Bool} {a : Act} {w : World} (hr : Region.ready md ops done = []) (h : Q .normal a w) : ∀ f, anyE P md ops Q S hs f done a w
 | 0 => ⟨hr, h⟩
 | _ + 1 => ⟨fun _ => h, by rw [hr]; simp⟩
theorem region_E {id : Nat} {a : Act} {w : World} (S : World → Prop) (hs : List Nat) (hm : P.follows .mixedOrders = true)
  (h : anyE P .any ops Q S hs ops.size (Array.replicate ops.size false) a w.drew) : (Code.region id ops true).wp P Q a w := wp_region_any hm (anyE_any _ _ _ _ h)
theorem gE1 {α : Type} (l : List α) (i : Nat) : l.toArray[i]? = l[i]? := List.getElem?_toArray ..
theorem gE2 {α : Type} (a : α) (l : List α) (i : Nat) : (a :: l)[i + 1]? = l[i]? := List.getElem?_cons_succ
theorem gE3 {α : Type} (a : α) (l : List α) : (a :: l)[0]? = some a := List.getElem?_cons_zero
theorem pA1 (a : Act) (d : Option Tmp) (v : Value) : a.put d v = match d with | some t => { a with tmps := a.tmps.setIfInBounds t v } | none => a := by cases d <;> rfl
theorem pA2 {α : Type} (l : List α) (i : Nat) (a : α) : l.toArray.setIfInBounds i a = (l.set i a).toArray := List.setIfInBounds_toArray ..
theorem pA3 {α : Type} (x a : α) (l : List α) : (x :: l).set 0 a = a :: l := List.set_cons_zero ..
theorem pA4 {α : Type} (x a : α) (l : List α) (i : Nat) : (x :: l).set (i + 1) a = x :: l.set i a := List.set_cons_succ ..
def quietOp : Op → Bool
 | .move _ | .assign _ | .pick _ _ _ | .nilCheck _ | .binOp .. | .unOp .. | .convert .. | .slice .. | .fieldAddr .. | .field .. | .indexAddr .. | .index .. | .extract .. | .build .. => true
 | .call c => match c.callee with
  | .builtin .len => true
  | .builtin .cap => true
  | _ => false
 | _ => false
def nextQ (hs : List Nat) : List Oper → List Bool → Nat → Option Nat
 | o :: os, d :: ds, i => match d, quietOp o.op || hs.contains i with
  | false, true => some i
  | _, _ => nextQ hs os ds (i + 1)
 | _, _, _ => none
theorem autoT {i : Nat} {x : Oper} {v : Value} {f : Nat} {done : Array Bool} {a : Act} {w : World} (hS : S w) (hp : nextQ hs ops.toList done.toList 0 = some i) (hm : hs.contains i = true) (hi : ops[i]? = some x)
  (hc : (Region.noSelect ops && Region.free md ops done i && (Region.ready md ops done).contains i) = true)
  (hQ : ∀ c a w, Q (.panic c) (a.put x.dst v) w → Q (.panic c) a w) (hy : YieldsIf P ops S x v a)
  (h : anyE P md ops Q S hs f (done.setIfInBounds i true) (a.put x.dst v) w) : anyE P md ops Q S hs (f + 1) done a w := by
 simp only [Bool.and_eq_true] at hc
 exact anyE_take hi hc.1.1 hc.1.2 hc.2 hm hQ hy hS h
theorem autoP {i : Nat} {x : Oper} {v : Value} {f : Nat} {done : Array Bool} {a : Act} {w : World} (hp : nextQ hs ops.toList done.toList 0 = some i) (hi : ops[i]? = some x)
  (hc : (Region.noSelect ops && Region.free md ops done i && (Region.ready md ops done).contains i) = true)
  (hQ : ∀ c a w, Q (.panic c) (a.put x.dst v) w → Q (.panic c) a w) (hy : YieldsIf P ops (fun _ => True) x v a)
  (h : anyE P md ops Q S hs f (done.setIfInBounds i true) (a.put x.dst v) w) : anyE P md ops Q S hs (f + 1) done a w := by
 simp only [Bool.and_eq_true] at hc
 exact anyE_pure hi hc.1.1 hc.1.2 hc.2 hQ hy h
theorem autoT' {i : Nat} {x : Oper} {v : Value} {f : Nat} {done : Array Bool} {a : Act} {w : World} (hS : S w) (hp : nextQ hs ops.toList done.toList 0 = some i := by rfl) (hm : hs.contains i = true := by rfl) (hi : ops[i]? = some x := by (simp only [gE1, gE2, gE3]; rfl))
  (hc : (Region.noSelect ops && Region.free md ops done i && (Region.ready md ops done).contains i) = true := by kernel_rfl)
  (hQ : ∀ c a w, Q (.panic c) (a.put x.dst v) w → Q (.panic c) a w := by exact fun _ _ _ h => h) (hy : YieldsIf P ops S x v a := by (refine Or.inl ⟨by rfl, fun w hSw => ?_⟩; (try dsimp only at hSw); go_simp; try (with_reducible rfl)))
  (h : anyE P md ops Q S hs f (done.setIfInBounds i true) (a.put x.dst v) w) : anyE P md ops Q S hs (f + 1) done a w := autoT hS hp hm hi hc hQ hy h
theorem autoP' {i : Nat} {x : Oper} {v : Value} {f : Nat} {done : Array Bool} {a : Act} {w : World} (hp : nextQ hs ops.toList done.toList 0 = some i := by rfl) (hi : ops[i]? = some x := by (simp only [gE1, gE2, gE3]; rfl))
  (hc : (Region.noSelect ops && Region.free md ops done i && (Region.ready md ops done).contains i) = true := by kernel_rfl)
  (hQ : ∀ c a w, Q (.panic c) (a.put x.dst v) w → Q (.panic c) a w := by exact fun _ _ _ h => h) (hy : YieldsIf P ops (fun _ => True) x v a := by (refine Or.inl ⟨by rfl, fun w hSw => ?_⟩; (try dsimp only at hSw); go_simp; try (with_reducible rfl)))
  (h : anyE P md ops Q S hs f (done.setIfInBounds i true) (a.put x.dst v) w) : anyE P md ops Q S hs (f + 1) done a w := autoP hp hi hc hQ hy h
theorem anyE_one' {i : Nat} {x : Oper} {f : Nat} {done : Array Bool} {a : Act} {w : World} (hi : ops[i]? = some x := by (simp only [gE1, gE2, gE3]; rfl)) (hr : Region.ready md ops done = [i] := by kernel_rfl)
  (h : ∀ K' : Act → World → Prop, Shut (∀ a w, S w → anyE P md ops Q S hs f (done.setIfInBounds i true) a w → K' a w) → if Region.wanted x (yielded ops a.tmps) = true then Oper.wp P x a w K' Q else K' (a.put x.dst undef) w) : anyE P md ops Q S hs (f + 1) done a w := anyE_one hi hr h
theorem anyE_last' {i : Nat} {x : Oper} {f : Nat} {done : Array Bool} {a : Act} {w : World} (hi : ops[i]? = some x := by (simp only [gE1, gE2, gE3]; rfl)) (hr : Region.ready md ops done = [i] := by kernel_rfl) (hb : behind md ops hs i = true := by kernel_rfl)
  (h : ∀ K' : Act → World → Prop, Shut (∀ a w, anyE P md ops Q S hs f (done.setIfInBounds i true) a w → K' a w) → if Region.wanted x (yielded ops a.tmps) = true then Oper.wp P x a w K' Q else K' (a.put x.dst undef) w) : anyE P md ops Q S hs (f + 1) done a w := anyE_last hi hr hb h
end
end Go.Sep

/- Assertions as one. No condition. -/
namespace Go.Sep
open Go.RowKit
def big : List Assn → Assn
 | [] => emp
 | A :: L => sep A (big L)
theorem Take.mid {A : Assn} {L : List Assn} : ∀ (K : List Assn), Take A (K ++ A :: L) (K ++ L)
 | [] => .here
 | _ :: K => .there (Take.mid K)
theorem Fr.rot {A : Assn} {L : List Assn} : ∀ (K : List Assn), Fr (K ++ A :: L) (A :: (K ++ L))
 | [] => .done
 | _ :: K => .cons (.there .here) (Fr.rot K)
theorem Sat.bigOpen {W0 w : World} : ∀ {K L : List Assn}, Sat W0 w (big K :: L) → Sat W0 w (K ++ L)
 | [], L, h => h.tail
 | A :: K, L, h => by
  have h1 : Sat W0 w (A :: big K :: L) := Sat.sepOpen h
  have h2 : Sat W0 w (K ++ A :: L) := Sat.bigOpen (h1.pull 1)
  exact h2.sub (.cons (Take.mid K) .done)
theorem Sat.bigShut {W0 w : World} : ∀ {K L : List Assn}, Sat W0 w (K ++ L) → Sat W0 w (big K :: L)
 | [], L, h => h.addEmp
 | A :: K, L, h => by
  have h0 : Sat W0 w (A :: (K ++ L)) := h
  have h2 : Sat W0 w (big K :: A :: L) := Sat.bigShut (h0.sub (Fr.rot K))
  exact Sat.sepShut (h2.pull 1)
end Go.Sep

/- Maps with integer keys, in the separation logic: a store of a new key, a look-up; each under the conditions that it names. -/
namespace Go.Sep
open Go.RowKit
section
variable {P : Program} {W0 w : World} {L : List Assn} {ops : Array Oper} {Q : Exit → Act → World → Prop} {o : Oper} {rest : List Oper} {a : Act}
theorem run_mapPut {mty kt et : TypeId} {r clock : Nat} {es : Array MapEntry} {kd : IntKind} {z : Int} {val : Value} (hm : P.underlying mty = some (.map kt et)) (hk : P.underlying kt = some (.int kd)) (hb : w.heap[r]? = some (.map es clock))
  (hf : Instr.findNow (.int kd) (.int kd z) es.toList 0 = some none) :
  (Instr.mapUpdate mty (.map (some r)) (.int kd z) val).run P w = .ok () (w.putObj r (.map (es.push { key := .int kd z, val := val, born := clock }) (clock + 1))) := by
 have hc : (Instr.checkKey false 10000 kt (.int kd z)).run P w = .ok () w := MapKept.run_checkKey (k := .int kd z) hk (by simp [MapKept.IsKey]) false 9999
 simp [Instr.mapUpdate, run_underlying hm, MapKept.run_getObj_map hb, hc, MapKept.run_findKey hk hf, MapKept.run_setObj_map _ hb, Result.andThen, World.putObj]
theorem run_mapHas {mty kt et : TypeId} {r clock : Nat} {es : Array MapEntry} {kd : IntKind} {z : Int} {i : Nat} {v : Value} (hm : P.underlying mty = some (.map kt et)) (hk : P.underlying kt = some (.int kd)) (hb : w.heap[r]? = some (.map es clock))
  (hf : Instr.findNow (.int kd) (.int kd z) es.toList 0 = some (some (i, v))) :
  (Instr.lookup mty (.map (some r)) (.int kd z) true).run P w = .ok (.tuple #[v, .bool true]) w := by
 have hc : (Instr.checkKey es.isEmpty 10000 kt (.int kd z)).run P w = .ok () w := MapKept.run_checkKey (k := .int kd z) hk (by simp [MapKept.IsKey]) _ 9999
 simp [Instr.lookup, run_underlying hm, MapKept.run_getObj_map hb, hc, MapKept.run_findKey hk hf, Result.andThen]
theorem run_mapHasNot {mty kt et : TypeId} {r clock : Nat} {es : Array MapEntry} {kd : IntKind} {z : Int} {v : Value} (hm : P.underlying mty = some (.map kt et)) (hk : P.underlying kt = some (.int kd)) (hb : w.heap[r]? = some (.map es clock))
  (hf : Instr.findNow (.int kd) (.int kd z) es.toList 0 = some none) (hz : (zeroValue et).run P w = .ok v w) :
  (Instr.lookup mty (.map (some r)) (.int kd z) true).run P w = .ok (.tuple #[v, .bool false]) w := by
 have hc : (Instr.checkKey es.isEmpty 10000 kt (.int kd z)).run P w = .ok () w := MapKept.run_checkKey (k := .int kd z) hk (by simp [MapKept.IsKey]) _ 9999
 simp [Instr.lookup, run_underlying hm, MapKept.run_getObj_map hb, hc, MapKept.run_findKey hk hf, hz, Result.andThen]
theorem wpl_makeMap (hgd : o.guard = none) (mty : TypeId) (h? : Option Operand) (ho : o.op = .makeMap mty h?) (hn : h? = none) (hs : Sat W0 w L)
  (h : ∀ w' r, Sat W0 w' (obj r (.map #[] 0) :: L) → wpList P ops Q rest (a.put o.dst (.map (some r))) w') : wpList P ops Q (o :: rest) a w := by
 subst hn
 refine wpList_plain hgd fun _ hK => ?_
 unfold Oper.wp execOp
 simp only [ho, Option.map_none, Sem.run_bind, Sem.run_pure, Result.andThen_ok, show (Instr.makeMap mty none).run P w = .ok (.map (some w.heap.size)) (w.alloc (.map #[] 0)) from rfl]
 exact hK _ _ (h _ _ (hs.allocObj (.map #[] 0) rfl rfl))
theorem wpl_mapPut (hgd : o.guard = none) (hdst : o.dst = none) (mty : TypeId) (mm kk vv : Operand) (ho : o.op = .mapUpdate mty mm kk vv ∨ o.op = .insert mty mm kk vv) {kt et : TypeId} {kd : IntKind} {r clock : Nat} {es : Array MapEntry} {z : Int} {val : Value}
  (hm : P.underlying mty = some (.map kt et)) (hk : P.underlying kt = some (.int kd)) (hs : Sat W0 w (obj r (.map es clock) :: L)) (hmv : a.eval mm = .map (some r)) (hkv : a.eval kk = .int kd z) (hvv : a.eval vv = val) (hf : Instr.findNow (.int kd) (.int kd z) es.toList 0 = some none)
  (h : ∀ w', Sat W0 w' (obj r (.map (es.push { key := .int kd z, val := val, born := clock }) (clock + 1)) :: L) → wpList P ops Q rest a w') : wpList P ops Q (o :: rest) a w := by
 refine wpList_plain hgd fun _ hK => ?_
 have hr := run_mapPut (P := P) (val := val) hm hk hs.obj.1 hf
 unfold Oper.wp execOp
 rcases ho with ho | ho
 all_goals
  simp only [ho, hmv, hkv, hvv, Sem.run_bind, Sem.run_pure, Result.andThen_ok, hr]
  refine hK _ _ ?_
  rw [hdst]
  exact h _ (hs.putObj _ rfl)
end
end Go.Sep
