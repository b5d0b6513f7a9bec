
import Derived.Test.YtbefjaodpbgpcaaGreatVp7
import Derived.Test.YtbefjaodpbgpcaaGreatGG
import Derived.Deep.Slices
set_option linter.unusedVariables false
set_option linter.unusedSimpArgs false
set_option maxRecDepth 100000
set_option maxHeartbeats 16000000
namespace Go.Sep
open Go.RowKit
def argsA (W : World) : Assn := fun h => ∀ b o v, W.cell? ⟨b, o, none⟩ = some v → h b o = some (false, v)
theorem Sat.allW {W w : World} {L : List Assn} (h : Sat W w L) : Sat W w (argsA W :: L) := by
 have hold := h
 obtain ⟨hb, hs, hf⟩ := h
 refine ⟨hb, Hp.of (fun b o => (W.cell? ⟨b, o, none⟩).map (false, ·)) :: hs, .cons ?_ (Hp.of_ok ?_) (fun k hk => Hp.of_dis ?_) hf⟩
 ·intro b o v hv
  show (W.cell? ⟨b, o, none⟩).map (false, ·) = _
  rw [hv]; rfl
 ·intro b' o' m v hx
  simp only [Option.map_eq_some_iff, Prod.mk.injEq] at hx
  obtain ⟨u, hu, rfl, rfl⟩ := hx
  exact ⟨hold.old hu, fun h => by cases h⟩
 ·intro b' o' x y hx hy
  simp only [Option.map_eq_some_iff] at hx
  obtain ⟨u, h0, rfl⟩ := hx
  have h1 := hold.old h0
  obtain ⟨h2, h3⟩ := (hf.okAll k hk).1 b' o' y.1 y.2 hy
  have h4 : y.1 = false := by
   cases hy1 : y.1 with
   | false => rfl
   | true =>
    have h5 := (h3 hy1).2
    have h6 := World.block_lt_of_cell? W _ h0
    exact absurd h6 (Nat.not_lt.2 h5)
  rw [h1] at h2
  cases h2
  obtain ⟨y1, y2⟩ := y
  simp only at h4
  subst h4
  exact ⟨rfl, rfl⟩
end Go.Sep
namespace Go.Proofs.YtbefjaodpbgpcaaGreat
open Go.RowKit Go.Sep Go.Bv Go.Kec Go.Aes Go.Sha
open Go.ChangeShapes Go.WideShapes Go.ChangeAt Go.Deep
structure OpV where
 kd : Int
 hd : Int
 ag : Int
 ct : Int
 ot : Int
 dp : Option Addr
 dn : Nat
 dc : Nat
 ep : Option Addr
 en : Nat
 ec : Nat
abbrev CellsO (kd hd ag ct ot : Int) (dp : Option Addr) (dn dc : Nat) (ep : Option Addr) (en ec : Nat) : List Value := [.int .u8 kd, .int .i64 hd, .int .u8 ag, .int .i64 ct, .int .i64 ot, .slice dp dn dc, .slice ep en ec]
def encO (x : OpV) : List Value := CellsO x.kd x.hd x.ag x.ct x.ot x.dp x.dn x.dc x.ep x.en x.ec
def OpA (W : World) (x : OpV) (data more : List Byte) : Prop :=
 (0 ≤ x.kd ∧ x.kd < 256) ∧ (0 ≤ x.ag ∧ x.ag < 256) ∧ IsBytes W x.dp x.dn x.dc data ∧ IsBytes W x.ep x.en x.ec more ∧ (-9223372036854775808 ≤ x.hd ∧ x.hd ≤ 9223372036854775807) ∧ (-9223372036854775808 ≤ x.ct ∧ x.ct ≤ 9223372036854775807) ∧ (-9223372036854775808 ≤ x.ot ∧ x.ot ≤ 9223372036854775807)
theorem blk1 {H : Type} (d : DataW H) : 1 ≤ Rows.uptoBulk d := by
 cases d with
 | lit l => cases l <;> simp [Rows.uptoBulk]
 | _ => simp [Rows.uptoBulk]
theorem cells_kind25 : Tryz.prog.cellsOf 23 = 1 := by kernel_rfl
theorem cells_alg25 : Tryz.prog.cellsOf 24 = 1 := by kernel_rfl
theorem cells_sl825 : Tryz.prog.cellsOf 25 = 1 := by kernel_rfl
theorem cells_int25 : Tryz.prog.cellsOf 3 = 1 := by kernel_rfl
theorem wf_u825 (z : Int) (h : (Lit.int .u8 z).wf = true) : 0 ≤ z ∧ z < 256 := by
 simp only [Lit.wf, Bool.and_eq_true, decide_eq_true_eq] at h
 have h1 : IntKind.u8.min = 0 := rfl
 have h2 : IntKind.u8.max = 255 := rfl
 rw [h1, h2] at h
 omega
theorem wf_i6425 (z : Int) (h : (Lit.int .i64 z).wf = true) : -9223372036854775808 ≤ z ∧ z ≤ 9223372036854775807 := by
 simp only [Lit.wf, Bool.and_eq_true, decide_eq_true_eq] at h
 have h1 : IntKind.i64.min = -9223372036854775808 := rfl
 have h2 : IntKind.i64.max = 9223372036854775807 := rfl
 rw [h1, h2] at h
 exact h
theorem trod_op {H : Type} {enc : TypeId × Value → H} {W : World} {base : Nat} {held : Bool} {fuel : Nat} {cs : List Value} (hcl : cs.length = 7) {x : DataW H × List MemPlace} (hf : DataW.trod enc Tryz.prog W base (fun _ => true) held fuel 27 cs = some x) :
  ∃ q : OpV × List Byte × List Byte, cs = encO q.1 ∧ OpA W q.1 q.2.1 q.2.2 ∧ 8 + q.1.dc + q.1.ec ≤ Rows.uptoBulk x.1 := by
 obtain ⟨xs, n, _, hx, hl, hlen, hfld⟩ := DataW.trod_struct Tryz.underlying27 hf
 match xs, hlen with
 | [x0, x1, x2, x3, x4, x5, x6], _ =>
  have f0 : DataW.trod enc Tryz.prog W base (fun _ => true) held n 23 ((cs.drop 0).take (Tryz.prog.cellsOf 23)) = some x0 := hfld 0 _ rfl
  have f1 : DataW.trod enc Tryz.prog W base (fun _ => true) held n 3 ((cs.drop 1).take (Tryz.prog.cellsOf 3)) = some x1 := hfld 1 _ rfl
  have f2 : DataW.trod enc Tryz.prog W base (fun _ => true) held n 24 ((cs.drop 2).take (Tryz.prog.cellsOf 24)) = some x2 := hfld 2 _ rfl
  have f3 : DataW.trod enc Tryz.prog W base (fun _ => true) held n 3 ((cs.drop 3).take (Tryz.prog.cellsOf 3)) = some x3 := hfld 3 _ rfl
  have f4 : DataW.trod enc Tryz.prog W base (fun _ => true) held n 3 ((cs.drop 4).take (Tryz.prog.cellsOf 3)) = some x4 := hfld 4 _ rfl
  have f5 : DataW.trod enc Tryz.prog W base (fun _ => true) held n 25 ((cs.drop 5).take (Tryz.prog.cellsOf 25)) = some x5 := hfld 5 _ rfl
  have f6 : DataW.trod enc Tryz.prog W base (fun _ => true) held n 25 ((cs.drop 6).take (Tryz.prog.cellsOf 25)) = some x6 := hfld 6 _ rfl
  rw [cells_kind25] at f0
  rw [cells_alg25] at f2
  rw [cells_sl825] at f5 f6
  rw [cells_int25] at f1 f3 f4
  match hc : cs, hcl with
  | [c0, c1, c2, c3, c4, c5, c6], _ =>
   obtain ⟨z0, h0, _, hw0⟩ := DataW.trod_int Tryz.underlying23 f0
   obtain ⟨z1, h1, _, hw1⟩ := DataW.trod_int Tryz.underlying3 f1
   obtain ⟨z2, h2, _, hw2⟩ := DataW.trod_int Tryz.underlying24 f2
   obtain ⟨z3, h3, _, hw3⟩ := DataW.trod_int Tryz.underlying3 f3
   obtain ⟨z4, h4, _, hw4⟩ := DataW.trod_int Tryz.underlying3 f4
   obtain ⟨y1, y2⟩ := x5
   obtain ⟨u1, u2⟩ := x6
   obtain ⟨q1, h5, hb1, hu1⟩ := trod_bytes f5
   obtain ⟨q2, h6, hb2, hu2⟩ := trod_bytes f6
   simp only [List.drop_zero, List.drop_succ_cons, List.take_succ_cons, List.take_zero, List.cons.injEq, and_true] at h0 h1 h2 h3 h4 h5 h6
   subst h0 h1 h2 h3 h4 h5 h6
   refine ⟨(⟨z0, z1, z2, z3, z4, q1.1, q1.2.1, q1.2.2.1, q2.1, q2.2.1, q2.2.2.1⟩, q1.2.2.2, q2.2.2.2), rfl, ⟨wf_u825 z0 hw0, wf_u825 z2 hw2, hb1, hb2, wf_i6425 z1 hw1, wf_i6425 z3 hw3, wf_i6425 z4 hw4⟩, ?_⟩
   obtain ⟨xd, xp⟩ := x
   simp only [Prod.mk.injEq] at hx
   obtain ⟨rfl, _⟩ := hx
   have n0 := blk1 x0.1
   have n1 := blk1 x1.1
   have n2 := blk1 x2.1
   have n3 := blk1 x3.1
   have n4 := blk1 x4.1
   simp only [List.map_cons, List.map_nil, Rows.uptoBulk, Rows.uptoBulkAll]
   omega
instance : Inhabited OpV := ⟨⟨0, 0, 0, 0, 0, none, 0, 0, none, 0, 0⟩⟩
abbrev OpX := OpV × List Byte × List Byte
def IsOps (W : World) (p : Option Addr) (xs : List OpX) : Prop := ∀ i x, xs[i]? = some x → OpA W x.1 x.2.1 x.2.2 ∧ x.1.dc + x.1.ec ≤ 1048576 ∧ ∃ b o, p = some ⟨b, o, none⟩ ∧ ∀ k u, (encO x.1)[k]? = some u → W.cell? ⟨b, o + i * 7 + k, none⟩ = some u
def toM (y : OpX) : OpM := ⟨y.1.kd.toNat, y.1.hd, y.1.ag.toNat, y.1.ct, y.1.ot, y.1.dp, y.1.dn, y.1.dc, y.1.ep, y.1.en, y.1.ec, y.2.1, y.2.2⟩
theorem bulkAll_map {H : Type} {α : Type} (D : α → DataW H) : ∀ l : List α, Rows.uptoBulkAll (l.map D) = (l.map fun i => Rows.uptoBulk (D i)).sum
 | [] => rfl
 | x :: l => by
  have h := bulkAll_map D l
  simp only [List.map_cons, List.sum_cons, Rows.uptoBulkAll]
  omega
theorem sum_le {α : Type} (l : List α) (a b : α → Nat) (h : ∀ i ∈ l, a i ≤ b i) : (l.map a).sum ≤ (l.map b).sum := by
 induction l with
 | nil => exact Nat.le_refl _
 | cons x l ih =>
  have h1 := ih fun i hi => h i (List.mem_cons_of_mem _ hi)
  have h2 := h x (List.mem_cons_self ..)
  simp only [List.map_cons, List.sum_cons]
  omega
theorem cells_op : Tryz.prog.cellsOf 27 = 7 := by kernel_rfl
theorem addO {b o n : Nat} : (Addr.mk b o none).add n = ⟨b, o + n, none⟩ := by unfold Addr.add; split <;> simp_all
theorem bulkAll_get {H : Type} : ∀ (ds : List (DataW H)) (d : DataW H), d ∈ ds → Rows.uptoBulk d ≤ Rows.uptoBulkAll ds
 | [], _, h => by cases h
 | x :: ds, d, h => by
  simp only [Rows.uptoBulkAll]
  rcases List.mem_cons.1 h with rfl | h
  ·omega
  ·have := bulkAll_get ds d h; omega
theorem open_ops {H : Type} {enc : TypeId × Value → H} {W : World} {base b0 : Nat} {held : Bool} {v : Value} {d : DataW H} {p : List MemPlace} (hv : Value.okWide Tryz.prog W .any b0 22 v) (h : DataW.Trod enc Tryz.prog W base (fun _ => true) held 22 v d p) :
  ∃ q : Option Addr × Nat × Nat × List OpX, v = .slice q.1 q.2.1 q.2.2.1 ∧ (Rows.uptoBulk d ≤ 1048576 → IsOps W q.1 q.2.2.2 ∧ dsum (q.2.2.2.map toM) ≤ 1048576) ∧ q.2.2.2.length = q.2.1 ∧ q.2.1 ≤ q.2.2.1 ∧ q.2.2.1 ≤ maxLen := by
 obtain ⟨a, len, cap, rfl⟩ := okWide_slice Tryz.underlying22 hv
 obtain ⟨fuel, hf⟩ := h
 rcases open_slice Tryz.underlying22 hf with ⟨hcs, hx⟩ | ⟨x, l, c, m, n, D, Pl, hcs, _, hl, hm, hmm, hx, hi⟩
 ·simp [Value.cells] at hcs
  obtain ⟨rfl, rfl, rfl⟩ := hcs
  exact ⟨(none, 0, 0, []), rfl, (fun _ => ⟨fun i x hx => by simp at hx, Nat.zero_le _⟩), rfl, Nat.le_refl _, Nat.zero_le _⟩
 ·simp [Value.cells] at hcs
  obtain ⟨rfl, rfl, rfl⟩ := hcs
  simp only [if_true] at hmm
  subst hmm
  rw [cells_op] at hi
  have key : ∀ i, i < len → ∃ y : OpX, OpA W y.1 y.2.1 y.2.2 ∧ 8 + y.1.dc + y.1.ec ≤ Rows.uptoBulk (D i) ∧ ∃ b o, x = ⟨b, o, none⟩ ∧ ∀ k u, (encO y.1)[k]? = some u → W.cell? ⟨b, o + i * 7 + k, none⟩ = some u := by
   intro i hil
   obtain ⟨cs', hc, ht⟩ := hi i (by omega)
   obtain ⟨_, hcl, hat⟩ := World.cells?_some hc
   obtain ⟨q, h1, h2, h3⟩ := trod_op hcl ht
   have hx0 : x.spot = none := by
    obtain ⟨cs0, hc0, _⟩ := hi 0 (by omega)
    obtain ⟨_, hcl0, hat0⟩ := World.cells?_some hc0
    have h4 : W.cell? ((x.add (0 * 7)).add 0) = some (cs0[0]'(by omega)) := by rw [hat0 0 (by omega), List.getElem?_eq_getElem (by omega)]
    rw [Nat.zero_mul] at h4
    have e0 : x.add 0 = x := by unfold Addr.add; rw [if_pos rfl]
    rw [e0, e0] at h4
    exact spot_none h4
   obtain ⟨b, o, sp⟩ := x
   simp only at hx0
   subst hx0
   refine ⟨q, h2, h3, b, o, rfl, fun k u hu => ?_⟩
   have hk : k < 7 := (List.getElem?_eq_some_iff.1 hu).1
   have h4 := hat k (by omega)
   rw [addO, addO] at h4
   rw [h4, ← hu, ← h1]
  obtain ⟨f, hff⟩ := choose_lt (p := fun i (y : OpX) => OpA W y.1 y.2.1 y.2.2 ∧ 8 + y.1.dc + y.1.ec ≤ Rows.uptoBulk (D i) ∧ ∃ b o, x = ⟨b, o, none⟩ ∧ ∀ k u, (encO y.1)[k]? = some u → W.cell? ⟨b, o + i * 7 + k, none⟩ = some u) key
  simp only [Prod.mk.injEq] at hx
  obtain ⟨rfl, _⟩ := hx
  refine ⟨(some x, len, _, (List.range len).map f), rfl, fun hbd => ⟨fun i y hy => ?_, ?_⟩, by simp, hl, hm⟩
  rotate_left
  ·have h7 := sum_le (List.range len) (fun i => 8 + (toM (f i)).dn + (toM (f i)).en) (fun i => Rows.uptoBulk (D i)) fun i hi => by
    obtain ⟨⟨-, -, g3, g4, -⟩, g2, -⟩ := hff i (List.mem_range.1 hi)
    have g5 := g3.2.1
    have g6 := g4.2.1
    show 8 + (f i).1.dn + (f i).1.en ≤ _
    omega
   rw [← bulkAll_map] at h7
   have h8 : dsum (((List.range len).map f).map toM) = ((List.range len).map fun i => 8 + (toM (f i)).dn + (toM (f i)).en).sum := by
    unfold dsum
    rw [List.map_map, List.map_map]; rfl
   rw [h8]
   simp only [Rows.uptoBulk] at hbd
   omega
  simp only [List.getElem?_map, Option.map_eq_some_iff] at hy
  obtain ⟨j, hj, rfl⟩ := hy
  have hjl := (List.getElem?_eq_some_iff.1 hj).1
  rw [List.length_range] at hjl
  obtain rfl : i = j := by
   have := (List.getElem?_eq_some_iff.1 hj).2
   simpa using this
  obtain ⟨g1, g2, b, o, rfl, g4⟩ := hff i hjl
  refine ⟨g1, ?_, b, o, rfl, g4⟩
  have h6 := bulkAll_get ((List.range len).map D) (D i) (List.mem_map.2 ⟨i, List.mem_range.2 hjl, rfl⟩)
  simp only [Rows.uptoBulk] at hbd
  omega
theorem toM_cells {y : OpX} (h1 : 0 ≤ y.1.kd) (h2 : 0 ≤ y.1.ag) : (toM y).cells = encO y.1 := by
 have e1 : ((y.1.kd.toNat : Nat) : Int) = y.1.kd := Int.toNat_of_nonneg h1
 have e2 : ((y.1.ag.toNat : Nat) : Int) = y.1.ag := Int.toNat_of_nonneg h2
 show [Value.int .u8 ((y.1.kd.toNat : Nat) : Int), Value.int .i64 y.1.hd, Value.int .u8 ((y.1.ag.toNat : Nat) : Int), Value.int .i64 y.1.ct, Value.int .i64 y.1.ot, Value.slice y.1.dp y.1.dn y.1.dc, Value.slice y.1.ep y.1.en y.1.ec] = _
 rw [e1, e2]
 rfl
theorem bytesAll {W : World} {p : Option Addr} {n c : Nat} {bs : List Byte} {x : Hp} (h : IsBytes W p n c bs) (hA : argsA W x) : bytes false p bs x := by
 obtain ⟨_, _, _, rfl | ⟨b, o, rfl, hc⟩⟩ := h
 ·exact .inl rfl
 ·exact .inr ⟨b, o, rfl, fun i v hv => hA _ _ _ (hc i v hv)⟩
theorem opsArg {W w : World} {L : List Assn} {p : Option Addr} {xs : List OpX} (hx : IsOps W p xs) (hs : Sat W w L) : Sat W w (opsR p (xs.map toM) :: L) := hs.allW.imp fun x hA i z hz => by
 rw [List.getElem?_map, Option.map_eq_some_iff] at hz
 obtain ⟨y, hy, rfl⟩ := hz
 obtain ⟨⟨⟨hk0, hk1⟩, ⟨ha0, ha1⟩, hdat, hmor, _⟩, hblk, b, o, rfl, hc⟩ := hx i y hy
 refine ⟨⟨⟨?_, ?_⟩, ⟨hdat.1, hdat.2.1, hdat.2.2.1⟩, ⟨hmor.1, hmor.2.1, hmor.2.2.1⟩, ?_, ?_⟩, b, o, rfl, fun k u hu => ?_, bytesAll hdat hA, bytesAll hmor hA⟩
 ·show y.1.kd.toNat < 256; omega
 ·show y.1.ag.toNat < 256; omega
 ·show y.1.dn ≤ 1048576; have := hdat.2.1; omega
 ·show y.1.en ≤ 1048576; have := hmor.2.1; omega
 ·rw [toM_cells hk0 ha0] at hu
  exact hA _ _ _ (hc k u hu)
theorem public_any (W : World) (p : Option Addr) (n c : Nat) (xs : List OpX) (z : Int) (hz : (Lit.int .u8 z).wf = true) (hx : IsOps W p xs ∧ dsum (xs.map toM) ≤ 1048576) (hn : xs.length = n) :
  Calls Tryz.prog 4 #[.slice p n c, .int .u8 z] W fun e W' => e = .returned (.bool true) ∧ Below W.heap.size W W' := by
 obtain ⟨h0, h1⟩ := wf_u825 z hz
 have h := public_walk (c := c) (n := n) (BitVec.ofInt 8 z) (xs.map toM) (by rw [List.length_map]; exact hn) hx.2 (opsArg hx.1 (Sat.nil W))
 rw [v8_ofInt z h0 h1] at h
 exact h.mono fun e W' hh => ⟨hh.1, hh.2.below⟩
end Go.Proofs.YtbefjaodpbgpcaaGreat
