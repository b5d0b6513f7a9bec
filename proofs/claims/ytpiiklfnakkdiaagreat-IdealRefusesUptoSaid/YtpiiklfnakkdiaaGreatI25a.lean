
/- Layer 25's statements: an operation as an argument; two answers held against each other; a vault that is none; under the conditions that each names. -/
import Derived.Test.YtpiiklfnakkdiaaGreatIdl19
import Derived.Test.YtpiiklfnakkdiaaGreatGG
namespace Go.Proofs.YtpiiklfnakkdiaaGreat
open Go.RowKit Go.Sep Go.Bv Go.Kec Go.Aes Go.Sha
open Go.ChangeShapes Go.WideShapes Go.ChangeAt
set_option linter.unusedVariables false
set_option linter.unusedSimpArgs false
/-- An operation, as its cells. -/
structure OpV where
 kd : Int
 hd : Int
 ag : Int
 ct : Int
 ot : Int
 dp : Option Addr
 dn : Nat
 dc : Nat
 ep : Option Addr
 en : Nat
 ec : Nat
abbrev CellsO (kd hd ag ct ot : Int) (dp : Option Addr) (dn dc : Nat) (ep : Option Addr) (en ec : Nat) : List Value := [.int .u8 kd, .int .i64 hd, .int .u8 ag, .int .i64 ct, .int .i64 ot, .slice dp dn dc, .slice ep en ec]
def encO (x : OpV) : List Value := CellsO x.kd x.hd x.ag x.ct x.ot x.dp x.dn x.dc x.ep x.en x.ec
def OpA (W : World) (x : OpV) (data more : List Byte) : Prop :=
 (0 ≤ x.kd ∧ x.kd < 256) ∧ (0 ≤ x.ag ∧ x.ag < 256) ∧ IsBytes W x.dp x.dn x.dc data ∧ IsBytes W x.ep x.en x.ec more ∧ (-9223372036854775808 ≤ x.hd ∧ x.hd ≤ 9223372036854775807) ∧ (-9223372036854775808 ≤ x.ct ∧ x.ct ≤ 9223372036854775807) ∧ (-9223372036854775808 ≤ x.ot ∧ x.ot ≤ 9223372036854775807)
theorem cells_kind25 : Tryz.prog.cellsOf 22 = 1 := by kernel_rfl
theorem cells_alg25 : Tryz.prog.cellsOf 23 = 1 := by kernel_rfl
theorem cells_sl825 : Tryz.prog.cellsOf 24 = 1 := by kernel_rfl
theorem cells_int25 : Tryz.prog.cellsOf 3 = 1 := by kernel_rfl
theorem wf_u825 (z : Int) (h : (Lit.int .u8 z).wf = true) : 0 ≤ z ∧ z < 256 := by
 simp only [Lit.wf, Bool.and_eq_true, decide_eq_true_eq] at h
 have h1 : IntKind.u8.min = 0 := rfl
 have h2 : IntKind.u8.max = 255 := rfl
 rw [h1, h2] at h
 omega
theorem wf_i6425 (z : Int) (h : (Lit.int .i64 z).wf = true) : -9223372036854775808 ≤ z ∧ z ≤ 9223372036854775807 := by
 simp only [Lit.wf, Bool.and_eq_true, decide_eq_true_eq] at h
 have h1 : IntKind.i64.min = -9223372036854775808 := rfl
 have h2 : IntKind.i64.max = 9223372036854775807 := rfl
 rw [h1, h2] at h
 exact h
set_option maxRecDepth 100000 in
theorem trod_op {H : Type} {enc : TypeId × Value → H} {W : World} {base : Nat} {held : Bool} {fuel : Nat} {cs : List Value} (hcl : cs.length = 7) {x : DataW H × List MemPlace} (hf : DataW.trod enc Tryz.prog W base (fun _ => true) held fuel 26 cs = some x) :
  ∃ q : OpV × List Byte × List Byte, cs = encO q.1 ∧ OpA W q.1 q.2.1 q.2.2 ∧ q.1.dc + q.1.ec ≤ Rows.uptoBulk x.1 := by
 obtain ⟨xs, n, _, hx, hl, hlen, hfld⟩ := DataW.trod_struct Tryz.underlying26 hf
 match xs, hlen with
 | [x0, x1, x2, x3, x4, x5, x6], _ =>
  have f0 : DataW.trod enc Tryz.prog W base (fun _ => true) held n 22 ((cs.drop 0).take (Tryz.prog.cellsOf 22)) = some x0 := hfld 0 _ rfl
  have f1 : DataW.trod enc Tryz.prog W base (fun _ => true) held n 3 ((cs.drop 1).take (Tryz.prog.cellsOf 3)) = some x1 := hfld 1 _ rfl
  have f2 : DataW.trod enc Tryz.prog W base (fun _ => true) held n 23 ((cs.drop 2).take (Tryz.prog.cellsOf 23)) = some x2 := hfld 2 _ rfl
  have f3 : DataW.trod enc Tryz.prog W base (fun _ => true) held n 3 ((cs.drop 3).take (Tryz.prog.cellsOf 3)) = some x3 := hfld 3 _ rfl
  have f4 : DataW.trod enc Tryz.prog W base (fun _ => true) held n 3 ((cs.drop 4).take (Tryz.prog.cellsOf 3)) = some x4 := hfld 4 _ rfl
  have f5 : DataW.trod enc Tryz.prog W base (fun _ => true) held n 24 ((cs.drop 5).take (Tryz.prog.cellsOf 24)) = some x5 := hfld 5 _ rfl
  have f6 : DataW.trod enc Tryz.prog W base (fun _ => true) held n 24 ((cs.drop 6).take (Tryz.prog.cellsOf 24)) = some x6 := hfld 6 _ rfl
  rw [cells_kind25] at f0
  rw [cells_alg25] at f2
  rw [cells_sl825] at f5 f6
  rw [cells_int25] at f1 f3 f4
  match hc : cs, hcl with
  | [c0, c1, c2, c3, c4, c5, c6], _ =>
   obtain ⟨z0, h0, _, hw0⟩ := DataW.trod_int Tryz.underlying22 f0
   obtain ⟨z1, h1, _, hw1⟩ := DataW.trod_int Tryz.underlying3 f1
   obtain ⟨z2, h2, _, hw2⟩ := DataW.trod_int Tryz.underlying23 f2
   obtain ⟨z3, h3, _, hw3⟩ := DataW.trod_int Tryz.underlying3 f3
   obtain ⟨z4, h4, _, hw4⟩ := DataW.trod_int Tryz.underlying3 f4
   obtain ⟨y1, y2⟩ := x5
   obtain ⟨u1, u2⟩ := x6
   obtain ⟨q1, h5, hb1, hu1⟩ := trod_bytes f5
   obtain ⟨q2, h6, hb2, hu2⟩ := trod_bytes f6
   simp only [List.drop_zero, List.drop_succ_cons, List.take_succ_cons, List.take_zero, List.cons.injEq, and_true] at h0 h1 h2 h3 h4 h5 h6
   subst h0 h1 h2 h3 h4 h5 h6
   refine ⟨(⟨z0, z1, z2, z3, z4, q1.1, q1.2.1, q1.2.2.1, q2.1, q2.2.1, q2.2.2.1⟩, q1.2.2.2, q2.2.2.2), rfl, ⟨wf_u825 z0 hw0, wf_u825 z2 hw2, hb1, hb2, wf_i6425 z1 hw1, wf_i6425 z3 hw3, wf_i6425 z4 hw4⟩, ?_⟩
   obtain ⟨xd, xp⟩ := x
   simp only [Prod.mk.injEq] at hx
   obtain ⟨rfl, _⟩ := hx
   simp only [List.map_cons, List.map_nil, Rows.uptoBulk, Rows.uptoBulkAll]
   omega
set_option maxRecDepth 100000 in
theorem open_op {H : Type} {enc : TypeId × Value → H} {W : World} {base b0 : Nat} {held : Bool} {v : Value} {d : DataW H} {p : List MemPlace} (hv : Value.okWide Tryz.prog W .any b0 26 v) (h : DataW.Trod enc Tryz.prog W base (fun _ => true) held 26 v d p) :
  ∃ q : OpV × List Byte × List Byte, v = .agg (encO q.1).toArray ∧ OpA W q.1 q.2.1 q.2.2 ∧ q.1.dc + q.1.ec ≤ Rows.uptoBulk d := by
 obtain ⟨cs, rfl, hsz⟩ := okWide_struct Tryz.underlying26 hv
 obtain ⟨fuel, hf⟩ := h
 have hcl : cs.toList.length = 7 := by
  have h4 : Tryz.prog.cellsOf 26 = 7 := by kernel_rfl
  rw [Array.length_toList, hsz, h4]
 obtain ⟨q, h1, h2, h3⟩ := trod_op hcl hf
 refine ⟨q, ?_, h2, h3⟩
 rw [← h1]
end Go.Proofs.YtpiiklfnakkdiaaGreat
