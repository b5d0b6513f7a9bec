/- Arg, L12, App, Led2, Ro, Cut, Gone, Opn: texts that lie apart elsewhere, as one; each under the conditions that it names. -/
import Derived.Test.YtpiiklfnakkdiaaGreatGF
import Derived.ProofKit
import Derived.OpenShut
import Derived.ChangeOld
import Derived.Lib.SmallJoins
import Derived.Deep.Slices

/- Arguments that are bytes: how they read, and that they are kept; under the conditions that each names. -/
namespace Go.Sep
open Go.RowKit
set_option linter.unusedVariables false
/-- What lay there when the call began. -/
theorem Sat.arg {W : World} {L : List Assn} {b o : Nat} {vs : List Value} (h : Sat W W L) (hc : ∀ i v, vs[i]? = some v → W.cell? ⟨b, o + i, none⟩ = some v) : Sat W W (seg false b o vs :: L) := by
 obtain ⟨hb, hs, hf⟩ := h
 refine ⟨hb, Hp.of (fun b' o' => if b' = b ∧ o ≤ o' then (vs[o' - o]?).map (false, ·) else none) :: hs, .cons ?_ (Hp.of_ok ?_) (fun k hk => Hp.of_dis ?_) hf⟩
 ·intro i v hv
  show (if _ then _ else _) = _
  rw [if_pos ⟨rfl, by omega⟩, Nat.add_sub_cancel_left, hv]; rfl
 ·intro b' o' m v hx
  split at hx
  ·rename_i e
   obtain ⟨rfl, ho⟩ := e
   simp only [Option.map_eq_some_iff, Prod.mk.injEq] at hx
   obtain ⟨u, hu, rfl, rfl⟩ := hx
   refine ⟨?_, fun h => by cases h⟩
   have := hc _ _ hu
   rwa [show o + (o' - o) = o' by omega] at this
  ·cases hx
 ·intro b' o' x y hx hy
  split at hx
  ·rename_i e
   obtain ⟨rfl, ho⟩ := e
   simp only [Option.map_eq_some_iff] at hx
   obtain ⟨u, hu, rfl⟩ := hx
   have h1 := hc _ _ hu
   rw [show o + (o' - o) = o' by omega] at h1
   obtain ⟨h2, h3⟩ := (hf.okAll k hk).1 b' o' y.1 y.2 hy
   have h4 : y.1 = false := by
    cases hy1 : y.1 with
    | false => rfl
    | true =>
     have h5 := (h3 hy1).2
     have h6 := World.block_lt_of_cell? W _ h2
     exact absurd h6 (Nat.not_lt.2 h5)
   rw [h1] at h2
   cases h2
   obtain ⟨y1, y2⟩ := y
   simp only at h4
   subst h4
   exact ⟨rfl, rfl⟩
  ·cases hx
end Go.Sep
namespace Go.Proofs.YtpiiklfnakkdiaaGreat
open Go.RowKit Go.Sep Go.Bv Go.Sha
open Go.ChangeShapes Go.WideShapes Go.ChangeAt
set_option linter.unusedVariables false
set_option linter.unusedSimpArgs false
/-- A slice that reads as bytes. -/
def IsBytes (W : World) (p : Option Addr) (n c : Nat) (bs : List Byte) : Prop :=
 bs.length = n ∧ n ≤ c ∧ c ≤ maxLen ∧ (bs = [] ∨ ∃ b o, p = some ⟨b, o, none⟩ ∧ ∀ i v, (u8s bs)[i]? = some v → W.cell? ⟨b, o + i, none⟩ = some v)
theorem IsBytes.sat {W : World} {L : List Assn} {p : Option Addr} {n c : Nat} {bs : List Byte} (h : IsBytes W p n c bs) (hs : Sat W W L) : Sat W W (bytes false p bs :: L) := by
 obtain ⟨_, _, _, rfl | ⟨b, o, rfl, hc⟩⟩ := h
 ·exact bytesNil false p hs
 ·exact bytesOf (hs.arg hc)
theorem cells_u8 : Tryz.prog.cellsOf 5 = 1 := by kernel_rfl
theorem v8_ofInt (z : Int) (h1 : 0 ≤ z) (h2 : z < 256) : v8 (BitVec.ofInt 8 z) = z := by
 unfold v8; rw [BitVec.toNat_ofInt]; omega
theorem bulk_lits {H : Type} (k : IntKind) : ∀ (zs : List Int), Rows.uptoBulkAll (H := H) (lits k zs) = zs.length
 | [] => rfl
 | z :: zs => by
  have := bulk_lits (H := H) k zs
  simp only [lits, List.map_cons, Rows.uptoBulkAll, Rows.uptoBulk, List.length_cons] at this ⊢
  omega
set_option maxRecDepth 100000 in
theorem open_bytes {H : Type} {enc : TypeId × Value → H} {W : World} {base b0 : Nat} {held : Bool} {v : Value} {d : DataW H} {p : List MemPlace} (hv : Value.okWide Tryz.prog W .any b0 24 v) (h : DataW.Trod enc Tryz.prog W base (fun _ => true) held 24 v d p) :
  ∃ q : Option Addr × Nat × Nat × List Byte, v = .slice q.1 q.2.1 q.2.2.1 ∧ IsBytes W q.1 q.2.1 q.2.2.1 q.2.2.2 ∧ q.2.2.1 + 1 ≤ Rows.uptoBulk d := by
 obtain ⟨a, len, cap, rfl⟩ := okWide_slice Tryz.underlying24 hv
 obtain ⟨fuel, hf⟩ := h
 rcases open_ints (k := .u8) Tryz.underlying24 Tryz.underlying5 cells_u8 hf with ⟨hcs, hx⟩ | ⟨x, l, c, zs, hcs, _, hl, hm, hz, hx, hc, hwf⟩
 ·simp [Value.cells] at hcs
  obtain ⟨rfl, rfl, rfl⟩ := hcs
  simp only [Prod.mk.injEq] at hx
  obtain ⟨rfl, _⟩ := hx
  exact ⟨(none, 0, 0, []), rfl, ⟨rfl, Nat.le_refl _, Nat.zero_le _, .inl rfl⟩, by simp [Rows.uptoBulk]⟩
 ·simp [Value.cells] at hcs
  obtain ⟨rfl, rfl, rfl⟩ := hcs
  simp only [if_true] at hz
  simp only [Prod.mk.injEq] at hx
  obtain ⟨rfl, _⟩ := hx
  have hlen : (zs.take len).length = len := by rw [List.length_take]; omega
  refine ⟨(some x, len, cap, (zs.take len).map (BitVec.ofInt 8)), rfl, ⟨by rw [List.length_map, hlen], hl, hm, ?_⟩, ?_⟩
  ·by_cases h0 : len = 0
   ·subst h0; exact .inl (by simp)
   ·have hc0 := hc 0 (by omega)
    have hx0 : x.spot = none := by
     unfold World.cell? at hc0
     cases hs : x.spot with
     | none => rfl
     | some s =>
      simp only [Addr.add, hs] at hc0
      split at hc0 <;> simp_all
    obtain ⟨b, o, sp⟩ := x
    simp only at hx0
    subst hx0
    refine .inr ⟨b, o, rfl, fun i v hv => ?_⟩
    simp only [u8s, List.map_map, List.getElem?_map, Option.map_eq_some_iff, Function.comp] at hv
    obtain ⟨z, hz1, rfl⟩ := hv
    rw [List.getElem?_take] at hz1
    split at hz1
    ·rename_i hi
     have hc1 := hc i (by omega)
     have hzm : z ∈ zs := List.mem_of_getElem? hz1
     have hw := hwf z hzm
     have hzb : 0 ≤ z ∧ z < 256 := by
      simp only [Lit.wf, Bool.and_eq_true, decide_eq_true_eq] at hw
      have h1 : IntKind.u8.min = 0 := rfl
      have h2 : IntKind.u8.max = 255 := rfl
      rw [h1, h2] at hw
      omega
     rw [v8_ofInt z hzb.1 hzb.2]
     rw [add_lit'] at hc1
     rw [hc1, List.getD_eq_getElem?_getD, hz1]; rfl
    ·cases hz1
  ·simp only [Rows.uptoBulk, bulk_lits, List.length_take, List.length_drop]
   omega
end Go.Proofs.YtpiiklfnakkdiaaGreat

/- The helpers of layer 12's statements: alg, unhex, fox, awake; each under the conditions that it names. -/
namespace Go.Sep
open Go.RowKit
set_option linter.unusedVariables false
theorem Sat.emp {W0 w : World} {L : List Assn} (h : Sat W0 w L) : Sat W0 w (emp :: L) := by
 obtain ⟨hb, hs, hf⟩ := h
 exact ⟨hb, Hp.zero :: hs, .cons trivial (Hp.zero_ok _ _) (fun _ _ => Hp.zero_dis _) hf⟩
/-- A new block of a constant's bytes, marked behind its last cell. -/
theorem Sat.allocMark {W0 w : World} {L : List Assn} (h : Sat W0 w L) (cs : Array Value) (T : TypeId) : Sat W0 (w.alloc (.cells cs T (cs.size, cs.size + 1))) (seg true w.heap.size 0 cs.toList :: L) := by
 have h' := h.alloc' (.cells cs T (cs.size, cs.size + 1))
 obtain ⟨hb, hs, hf⟩ := h
 have hok := hf.okAll
 obtain ⟨hb', _⟩ := h'
 have hblk : (w.alloc (.cells cs T (cs.size, cs.size + 1))).heap[w.heap.size]? = some (.cells cs T (cs.size, cs.size + 1)) := by
  show (w.heap.push _)[w.heap.size]? = _
  simp
 refine ⟨hb', Hp.of (fun b o => if b = w.heap.size then (cs[o]?).map (true, ·) else none) :: hs, .cons ?_ (Hp.of_ok ?_) (fun k hk => Hp.of_dis ?_) (hf.move fun k hk => (hok k hk).later fun j hj => Below.heap_alloc w _ j hj)⟩
 ·intro i v hv
  have : cs[i]? = some v := by simpa using hv
  simp [this]
 ·intro b o m v hx
  by_cases e : b = w.heap.size
  ·subst e
   simp only [if_true, Option.map_eq_some_iff, Prod.mk.injEq] at hx
   obtain ⟨u, hu, rfl, rfl⟩ := hx
   have ho : o < cs.size := (Array.getElem?_eq_some_iff.1 hu).1
   refine ⟨by rw [World.cell?_alloc_mark]; exact hu, fun _ => ⟨?_, hb.size⟩⟩
   unfold World.frozen?
   rw [hblk]
   simp only [Bool.and_eq_false_iff, decide_eq_false_iff_not]
   omega
  ·simp [e] at hx
 ·intro b o x y hx hy
  by_cases e : b = w.heap.size
  ·subst e
   exact absurd ((hok k hk).lt hy) (by omega)
  ·simp [e] at hx
end Go.Sep
namespace Go.Proofs.YtpiiklfnakkdiaaGreat
open Go.RowKit Go.Sep Go.Bv Go.Sha
set_option linter.unusedVariables false
set_option linter.unusedSimpArgs false
theorem ledNone {W0 w : World} {L : List Assn} (h : Sat W0 w L) : Sat W0 w (ledO none [] :: L) := h.emp
theorem bytesTake {W0 w : World} {L : List Assn} {m : Bool} {sp : Option Addr} {bs : List Byte} (n : Nat) (h : Sat W0 w (bytes m sp bs :: L)) : Sat W0 w (bytes m sp (bs.take n) :: L) :=
 h.imp fun x hx => by
  rcases hx with rfl | ⟨b, o, rfl, hx⟩
  ·exact .inl (by simp)
  ·refine .inr ⟨b, o, rfl, fun i v hv => hx i v ?_⟩
   simp only [u8s, List.map_take, List.getElem?_take] at hv
   split at hv
   ·exact hv
   ·cases hv
end Go.Proofs.YtpiiklfnakkdiaaGreat

/- Shorter forms of the rules and contracts for bytes: append, comparison; under the conditions that each names. -/
namespace Go.Proofs.YtpiiklfnakkdiaaGreat
open Go.RowKit Go.Sep Go.Bv Go.Sha
set_option linter.unusedVariables false
set_option linter.unusedSimpArgs false
theorem bytesNone0 {W0 w : World} {L : List Assn} {m : Bool} {sp : Option Addr} {bs : List Byte} {n : Nat} (h : Sat W0 w (bytes m sp bs :: L)) (hn : bs.length = n) : sp = none → n = 0 := by
 rintro rfl
 by_cases h0 : bs = []
 ·rw [← hn, h0]; rfl
 ·obtain ⟨_, _, h', _⟩ := bytesCell h h0; cases h'
section
variable {W0 w : World} {L : List Assn} {ops : Array Oper} {rest : List Oper} {o : Oper} {a : Act} {Q : Exit → Act → World → Prop}
theorem wpl_app8 (hgd : o.guard = none) (s x : Operand) (ho : o.op = .call { callee := .builtin .append, args := #[s, x], argTypes := #[24, 24] })
  {p : Option Addr} {cp n : Nat} {xs : List Byte} {m : Bool} {q : Option Addr} {k cq : Nat} {ys : List Byte} (hv : a.eval s = .slice p n cp) (hx : a.eval x = .slice q k cq)
  (hs : Sat W0 w (row p cp 1 n (u8s xs) :: bytes m q ys :: L)) (hk : ys.length = k) (hb : n + k ≤ 140737488355328)
  (h : ∀ p' c' w', Sat W0 w' (row p' c' 1 (n + k) (u8s (xs ++ ys)) :: bytes m q ys :: L) → wpList Tryz.prog ops Q rest (a.put o.dst (.slice p' (n + k) c')) w') : wpList Tryz.prog ops Q (o :: rest) a w := by
 obtain ⟨i3, hi3, hz3, hs3, hb3⟩ := info_parts Tryz.info_u8
 have hB : Sat W0 w (bytes m q ys :: row p cp 1 n (u8s xs) :: L) := hs.pull 1
 refine wpl_append hgd s x 24 ho Tryz.underlying24 hi3 hz3 hs3 hb3 rfl (by decide) hs hv q k cq hx (u8s ys) (by rw [u8s_len, hk, Nat.mul_one]) (bytesNews hB) (bytesNone0 hB hk) (u8s_one _) (by unfold maxLen; omega) (by omega) ?_
 intro p' c' w' h1 _ _
 rw [← u8s_append] at h1
 exact h p' c' w' h1
end
/-- Two lists of bytes held against each other. -/
theorem sameS {W0 w : World} {L : List Assn} {ca cb n k : Nat} {m1 m2 : Bool} {pa pb : Option Addr} (xs ys : List Byte) (hx : xs.length = n) (hy : ys.length = k) (hn : n ≤ maxLen) (hk : k ≤ maxLen) (hs : Sat W0 w (bytes m1 pa xs :: bytes m2 pb ys :: L)) :
  Calls Tryz.prog 16 #[.slice pa n ca, .slice pb k cb] w fun e w' => e = .returned (.bool (sameB xs ys)) ∧ Sat W0 w' (bytes m1 pa xs :: bytes m2 pb ys :: L) := by
 subst hx hy
 refine (sameBytes xs ys hn hk hs).mono ?_
 rintro e w' ⟨rfl, k, rfl⟩
 exact ⟨rfl, hs.drewN k⟩
theorem sameT {W0 w : World} {L : List Assn} {ca cb n k : Nat} {m1 m2 : Bool} {pa pb : Option Addr} (xs ys : List Byte) (hx : xs.length = n) (hy : ys.length = k) (hn : n ≤ 1000000000000) (he : xs = ys) (hs : Sat W0 w (bytes m1 pa xs :: bytes m2 pb ys :: L)) :
  Calls Tryz.prog 16 #[.slice pa n ca, .slice pb k cb] w fun e w' => e = .returned (.bool true) ∧ Sat W0 w' (bytes m1 pa xs :: bytes m2 pb ys :: L) := by
 have h := sameS (ca := ca) (cb := cb) xs ys hx hy (by unfold maxLen; omega) (by rw [← hy, ← he, hx]; unfold maxLen; omega) hs
 rwa [sameB_eq he] at h
end Go.Proofs.YtpiiklfnakkdiaaGreat

/- More of the ledger: Runs, Reset, the list of runs held against another; under the conditions that each names. -/
namespace Go.Proofs.YtpiiklfnakkdiaaGreat
open Go.RowKit Go.Sep Go.Bv Go.Sha
set_option linter.unusedVariables false
set_option linter.unusedSimpArgs false
end Go.Proofs.YtpiiklfnakkdiaaGreat

/- Read-only copies of what one's own memory holds, and bundles of them; under the conditions that each names. -/
namespace Go.Sep
set_option linter.unusedVariables false
set_option linter.unusedSimpArgs false
/-- An assertion that only reads holds of the cells that none may write. -/
def Reads (A : Assn) : Prop := ∀ x y : Hp, (∀ b o v, x b o = some (false, v) → y b o = some (false, v)) → A x → A y
/-- Two assertions that only read, as one of the parts of both. -/
theorem Sat.both {W0 w : World} {L : List Assn} {A B C : Assn} (h : Sat W0 w (A :: B :: L)) (hA : Reads A) (hB : Reads B) (hC : ∀ x, A x → B x → C x) : Sat W0 w (C :: L) := by
 obtain ⟨h0, hs, hf⟩ := h
 obtain ⟨x, t, rfl, hx, ok, hd, hf'⟩ := hf.head
 obtain ⟨y, t', rfl, hy, ok', hd', hf''⟩ := hf'.head
 refine ⟨h0, x.cup y :: t', .cons (hC _ (hA x _ (fun b o v e => (Hp.le_cup x y).1 b o _ e) hx) (hB y _ (fun b o v e => (Hp.cup_le (hd y (by simp))).1 b o _ e) hy)) (ok.cup ok') (fun k hk => (hd k (by simp [hk])).cup (hd' k hk)) hf''⟩
end Go.Sep
namespace Go.Proofs.YtpiiklfnakkdiaaGreat
open Go.RowKit Go.Sep Go.Bv Go.Sha
set_option linter.unusedVariables false
set_option linter.unusedSimpArgs false
end Go.Proofs.YtpiiklfnakkdiaaGreat

/- Lists of lists of bytes: append of one, CutInto; under the conditions that each names. -/
namespace Go.Proofs.YtpiiklfnakkdiaaGreat
open Go.RowKit Go.Sep Go.Bv Go.Sha
set_option linter.unusedVariables false
set_option linter.unusedSimpArgs false
section
variable {W0 w : World} {L : List Assn} {ops : Array Oper} {rest : List Oper} {o : Oper} {a : Act} {Q : Exit → Act → World → Prop}
end
end Go.Proofs.YtpiiklfnakkdiaaGreat

/- States that were wiped: they refuse all; under the conditions that each names. -/
namespace Go.Proofs.YtpiiklfnakkdiaaGreat
open Go.RowKit Go.Sep Go.Bv Go.Sha
set_option linter.unusedVariables false
set_option linter.unusedSimpArgs false
@[go_sem] theorem eql_small (b : Nat) (w : World) : (binOp .eql 103 (.iface 139 (.agg #[.pointer (some ⟨b, 0, none⟩)])) .nilIface).run Tryz.prog w = .ok (.bool false) w := by kernel_rfl
@[go_sem] theorem eql_big (b : Nat) (w : World) : (binOp .eql 103 (.iface 143 (.agg #[.pointer (some ⟨b, 0, none⟩)])) .nilIface).run Tryz.prog w = .ok (.bool false) w := by kernel_rfl
@[go_sem] theorem eql_nilif (w : World) : (binOp .eql 103 .nilIface .nilIface).run Tryz.prog w = .ok (.bool true) w := by kernel_rfl
@[go_sem] theorem eqlFunc26 (f : FuncId) (w : World) : (binOp .eql 93 (.func (.func f) #[] #[]) .nilFunc).run Tryz.prog w = .ok (.bool false) w := by kernel_rfl
@[go_sem] theorem eqlFunc27 (f : FuncId) (w : World) : (binOp .eql 94 (.func (.func f) #[] #[]) .nilFunc).run Tryz.prog w = .ok (.bool false) w := by kernel_rfl
end Go.Proofs.YtpiiklfnakkdiaaGreat

/- Arguments that are lists of calls with bytes in them: how they read; under the conditions that each names. -/
namespace Go.Proofs.YtpiiklfnakkdiaaGreat
open Go.RowKit Go.Sep Go.Bv Go.Sha
open Go.ChangeShapes Go.WideShapes Go.ChangeAt
set_option linter.unusedVariables false
set_option linter.unusedSimpArgs false
theorem spot_none {W : World} {x : Addr} {v : Value} (h : W.cell? x = some v) : x.spot = none := by
 unfold World.cell? at h
 cases hs : x.spot with
 | none => rfl
 | some s => simp only [hs] at h; split at h <;> simp_all
/-- Bytes out of a value that reads as bytes, where it stands among others. -/
theorem trod_bytes {H : Type} {enc : TypeId × Value → H} {W : World} {base : Nat} {held : Bool} {fuel : Nat} {cs : List Value} {d : DataW H} {p : List MemPlace} (h : DataW.trod enc Tryz.prog W base (fun _ => true) held fuel 24 cs = some (d, p)) :
  ∃ q : Option Addr × Nat × Nat × List Byte, cs = [.slice q.1 q.2.1 q.2.2.1] ∧ IsBytes W q.1 q.2.1 q.2.2.1 q.2.2.2 ∧ q.2.2.1 + 1 ≤ Rows.uptoBulk d := by
 rcases open_ints (k := .u8) Tryz.underlying24 Tryz.underlying5 cells_u8 h with ⟨hcs, hx⟩ | ⟨x, l, c, zs, hcs, _, hl, hm, hz, hx, hc, hwf⟩
 ·simp only [Prod.mk.injEq] at hx
  obtain ⟨rfl, _⟩ := hx
  exact ⟨(none, 0, 0, []), hcs, ⟨rfl, Nat.le_refl _, Nat.zero_le _, .inl rfl⟩, by simp [Rows.uptoBulk]⟩
 ·simp only [if_true] at hz
  simp only [Prod.mk.injEq] at hx
  obtain ⟨rfl, _⟩ := hx
  have hlen : (zs.take l).length = l := by rw [List.length_take]; omega
  refine ⟨(some x, l, c, (zs.take l).map (BitVec.ofInt 8)), hcs, ⟨by rw [List.length_map, hlen], hl, hm, ?_⟩, ?_⟩
  ·by_cases h0 : l = 0
   ·subst h0; exact .inl (by simp)
   ·have hx0 := spot_none (hc 0 (by omega))
    obtain ⟨b, o, sp⟩ := x
    have hsp : sp = none := by
     have : (Addr.add ⟨b, o, sp⟩ 0).spot = none := hx0
     unfold Addr.add at this
     cases sp with
     | none => rfl
     | some s => simp at this
    subst hsp
    refine .inr ⟨b, o, rfl, fun i v hv => ?_⟩
    simp only [u8s, List.map_map, List.getElem?_map, Option.map_eq_some_iff, Function.comp] at hv
    obtain ⟨z, hz1, rfl⟩ := hv
    rw [List.getElem?_take] at hz1
    split at hz1
    ·rename_i hi
     have hc1 := hc i (by omega)
     have hzm : z ∈ zs := List.mem_of_getElem? hz1
     have hw := hwf z hzm
     have hzb : 0 ≤ z ∧ z < 256 := by
      simp only [Lit.wf, Bool.and_eq_true, decide_eq_true_eq] at hw
      have h1 : IntKind.u8.min = 0 := rfl
      have h2 : IntKind.u8.max = 255 := rfl
      rw [h1, h2] at hw
      omega
     rw [v8_ofInt z hzb.1 hzb.2]
     rw [add_lit'] at hc1
     rw [hc1, List.getD_eq_getElem?_getD, hz1]; rfl
    ·cases hz1
  ·simp only [Rows.uptoBulk, bulk_lits, List.length_take, List.length_drop]
   omega
end Go.Proofs.YtpiiklfnakkdiaaGreat
