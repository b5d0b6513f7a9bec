/- Arg, L12, App, Led2, Ro, Cut, Gone, Opn: texts that lie apart elsewhere, as one; each under the conditions that it names. -/
import Derived.Test.YtpiiklfnakkdiaaGreatGF
import Derived.ProofKit
import Derived.OpenShut
import Derived.ChangeOld
import Derived.Lib.SmallJoins
import Derived.Deep.Slices

/- Arguments that are bytes: how they read, and that they are kept; under the conditions that each names. -/
namespace Go.Sep
open Go.RowKit
set_option linter.unusedVariables false
/-- What lay there when the call began. -/
theorem Sat.arg {W : World} {L : List Assn} {b o : Nat} {vs : List Value} (h : Sat W W L) (hc : ∀ i v, vs[i]? = some v → W.cell? ⟨b, o + i, none⟩ = some v) : Sat W W (seg false b o vs :: L) := by
 obtain ⟨hb, hs, hf⟩ := h
 refine ⟨hb, Hp.of (fun b' o' => if b' = b ∧ o ≤ o' then (vs[o' - o]?).map (false, ·) else none) :: hs, .cons ?_ (Hp.of_ok ?_) (fun k hk => Hp.of_dis ?_) hf⟩
 ·intro i v hv
  show (if _ then _ else _) = _
  rw [if_pos ⟨rfl, by omega⟩, Nat.add_sub_cancel_left, hv]; rfl
 ·intro b' o' m v hx
  split at hx
  ·rename_i e
   obtain ⟨rfl, ho⟩ := e
   simp only [Option.map_eq_some_iff, Prod.mk.injEq] at hx
   obtain ⟨u, hu, rfl, rfl⟩ := hx
   refine ⟨?_, fun h => by cases h⟩
   have := hc _ _ hu
   rwa [show o + (o' - o) = o' by omega] at this
  ·cases hx
 ·intro b' o' x y hx hy
  split at hx
  ·rename_i e
   obtain ⟨rfl, ho⟩ := e
   simp only [Option.map_eq_some_iff] at hx
   obtain ⟨u, hu, rfl⟩ := hx
   have h1 := hc _ _ hu
   rw [show o + (o' - o) = o' by omega] at h1
   obtain ⟨h2, h3⟩ := (hf.okAll k hk).1 b' o' y.1 y.2 hy
   have h4 : y.1 = false := by
    cases hy1 : y.1 with
    | false => rfl
    | true =>
     have h5 := (h3 hy1).2
     have h6 := World.block_lt_of_cell? W _ h2
     exact absurd h6 (Nat.not_lt.2 h5)
   rw [h1] at h2
   cases h2
   obtain ⟨y1, y2⟩ := y
   simp only at h4
   subst h4
   exact ⟨rfl, rfl⟩
  ·cases hx
end Go.Sep
namespace Go.Proofs.YtpiiklfnakkdiaaGreat
open Go.RowKit Go.Sep Go.Bv Go.Sha
open Go.ChangeShapes Go.WideShapes Go.ChangeAt
set_option linter.unusedVariables false
set_option linter.unusedSimpArgs false
/-- A slice that reads as bytes. -/
def IsBytes (W : World) (p : Option Addr) (n c : Nat) (bs : List Byte) : Prop :=
 bs.length = n ∧ n ≤ c ∧ c ≤ maxLen ∧ (bs = [] ∨ ∃ b o, p = some ⟨b, o, none⟩ ∧ ∀ i v, (u8s bs)[i]? = some v → W.cell? ⟨b, o + i, none⟩ = some v)
theorem IsBytes.sat {W : World} {L : List Assn} {p : Option Addr} {n c : Nat} {bs : List Byte} (h : IsBytes W p n c bs) (hs : Sat W W L) : Sat W W (bytes false p bs :: L) := by
 obtain ⟨_, _, _, rfl | ⟨b, o, rfl, hc⟩⟩ := h
 ·exact bytesNil false p hs
 ·exact bytesOf (hs.arg hc)
theorem cells_u8 : Tryz.prog.cellsOf 5 = 1 := by kernel_rfl
theorem v8_ofInt (z : Int) (h1 : 0 ≤ z) (h2 : z < 256) : v8 (BitVec.ofInt 8 z) = z := by
 unfold v8; rw [BitVec.toNat_ofInt]; omega
theorem bulk_lits {H : Type} (k : IntKind) : ∀ (zs : List Int), Rows.uptoBulkAll (H := H) (lits k zs) = zs.length
 | [] => rfl
 | z :: zs => by
  have := bulk_lits (H := H) k zs
  simp only [lits, List.map_cons, Rows.uptoBulkAll, Rows.uptoBulk, List.length_cons] at this ⊢
  omega
set_option maxRecDepth 100000 in
theorem open_bytes {H : Type} {enc : TypeId × Value → H} {W : World} {base b0 : Nat} {held : Bool} {v : Value} {d : DataW H} {p : List MemPlace} (hv : Value.okWide Tryz.prog W .any b0 24 v) (h : DataW.Trod enc Tryz.prog W base (fun _ => true) held 24 v d p) :
  ∃ q : Option Addr × Nat × Nat × List Byte, v = .slice q.1 q.2.1 q.2.2.1 ∧ IsBytes W q.1 q.2.1 q.2.2.1 q.2.2.2 ∧ q.2.2.1 + 1 ≤ Rows.uptoBulk d := by
 obtain ⟨a, len, cap, rfl⟩ := okWide_slice Tryz.underlying24 hv
 obtain ⟨fuel, hf⟩ := h
 rcases open_ints (k := .u8) Tryz.underlying24 Tryz.underlying5 cells_u8 hf with ⟨hcs, hx⟩ | ⟨x, l, c, zs, hcs, _, hl, hm, hz, hx, hc, hwf⟩
 ·simp [Value.cells] at hcs
  obtain ⟨rfl, rfl, rfl⟩ := hcs
  simp only [Prod.mk.injEq] at hx
  obtain ⟨rfl, _⟩ := hx
  exact ⟨(none, 0, 0, []), rfl, ⟨rfl, Nat.le_refl _, Nat.zero_le _, .inl rfl⟩, by simp [Rows.uptoBulk]⟩
 ·simp [Value.cells] at hcs
  obtain ⟨rfl, rfl, rfl⟩ := hcs
  simp only [if_true] at hz
  simp only [Prod.mk.injEq] at hx
  obtain ⟨rfl, _⟩ := hx
  have hlen : (zs.take len).length = len := by rw [List.length_take]; omega
  refine ⟨(some x, len, cap, (zs.take len).map (BitVec.ofInt 8)), rfl, ⟨by rw [List.length_map, hlen], hl, hm, ?_⟩, ?_⟩
  ·by_cases h0 : len = 0
   ·subst h0; exact .inl (by simp)
   ·have hc0 := hc 0 (by omega)
    have hx0 : x.spot = none := by
     unfold World.cell? at hc0
     cases hs : x.spot with
     | none => rfl
     | some s =>
      simp only [Addr.add, hs] at hc0
      split at hc0 <;> simp_all
    obtain ⟨b, o, sp⟩ := x
    simp only at hx0
    subst hx0
    refine .inr ⟨b, o, rfl, fun i v hv => ?_⟩
    simp only [u8s, List.map_map, List.getElem?_map, Option.map_eq_some_iff, Function.comp] at hv
    obtain ⟨z, hz1, rfl⟩ := hv
    rw [List.getElem?_take] at hz1
    split at hz1
    ·rename_i hi
     have hc1 := hc i (by omega)
     have hzm : z ∈ zs := List.mem_of_getElem? hz1
     have hw := hwf z hzm
     have hzb : 0 ≤ z ∧ z < 256 := by
      simp only [Lit.wf, Bool.and_eq_true, decide_eq_true_eq] at hw
      have h1 : IntKind.u8.min = 0 := rfl
      have h2 : IntKind.u8.max = 255 := rfl
      rw [h1, h2] at hw
      omega
     rw [v8_ofInt z hzb.1 hzb.2]
     rw [add_lit'] at hc1
     rw [hc1, List.getD_eq_getElem?_getD, hz1]; rfl
    ·cases hz1
  ·simp only [Rows.uptoBulk, bulk_lits, List.length_take, List.length_drop]
   omega
end Go.Proofs.YtpiiklfnakkdiaaGreat

/- The helpers of layer 12's statements: alg, unhex, fox, awake; each under the conditions that it names. -/
namespace Go.Sep
open Go.RowKit
set_option linter.unusedVariables false
theorem Sat.emp {W0 w : World} {L : List Assn} (h : Sat W0 w L) : Sat W0 w (emp :: L) := by
 obtain ⟨hb, hs, hf⟩ := h
 exact ⟨hb, Hp.zero :: hs, .cons trivial (Hp.zero_ok _ _) (fun _ _ => Hp.zero_dis _) hf⟩
/-- A new block of a constant's bytes, marked behind its last cell. -/
theorem Sat.allocMark {W0 w : World} {L : List Assn} (h : Sat W0 w L) (cs : Array Value) (T : TypeId) : Sat W0 (w.alloc (.cells cs T (cs.size, cs.size + 1))) (seg true w.heap.size 0 cs.toList :: L) := by
 have h' := h.alloc' (.cells cs T (cs.size, cs.size + 1))
 obtain ⟨hb, hs, hf⟩ := h
 have hok := hf.okAll
 obtain ⟨hb', _⟩ := h'
 have hblk : (w.alloc (.cells cs T (cs.size, cs.size + 1))).heap[w.heap.size]? = some (.cells cs T (cs.size, cs.size + 1)) := by
  show (w.heap.push _)[w.heap.size]? = _
  simp
 refine ⟨hb', Hp.of (fun b o => if b = w.heap.size then (cs[o]?).map (true, ·) else none) :: hs, .cons ?_ (Hp.of_ok ?_) (fun k hk => Hp.of_dis ?_) (hf.move fun k hk => (hok k hk).later fun j hj => Below.heap_alloc w _ j hj)⟩
 ·intro i v hv
  have : cs[i]? = some v := by simpa using hv
  simp [this]
 ·intro b o m v hx
  by_cases e : b = w.heap.size
  ·subst e
   simp only [if_true, Option.map_eq_some_iff, Prod.mk.injEq] at hx
   obtain ⟨u, hu, rfl, rfl⟩ := hx
   have ho : o < cs.size := (Array.getElem?_eq_some_iff.1 hu).1
   refine ⟨by rw [World.cell?_alloc_mark]; exact hu, fun _ => ⟨?_, hb.size⟩⟩
   unfold World.frozen?
   rw [hblk]
   simp only [Bool.and_eq_false_iff, decide_eq_false_iff_not]
   omega
  ·simp [e] at hx
 ·intro b o x y hx hy
  by_cases e : b = w.heap.size
  ·subst e
   exact absurd ((hok k hk).lt hy) (by omega)
  ·simp [e] at hx
end Go.Sep
namespace Go.Proofs.YtpiiklfnakkdiaaGreat
open Go.RowKit Go.Sep Go.Bv Go.Sha
set_option linter.unusedVariables false
set_option linter.unusedSimpArgs false
theorem ledNone {W0 w : World} {L : List Assn} (h : Sat W0 w L) : Sat W0 w (ledO none [] :: L) := h.emp
theorem sameTrue {W0 w : World} {L : List Assn} {ca cb : Nat} {m1 m2 : Bool} {pa pb : Option Addr} (xs ys : List Byte) (h : xs = ys) (hx : xs.length ≤ maxLen) (hs : Sat W0 w (bytes m1 pa xs :: bytes m2 pb ys :: L)) :
  Calls Tryz.prog 16 #[.slice pa xs.length ca, .slice pb ys.length cb] w fun e w' => e = .returned (.bool true) ∧ ∃ n, w' = w.drewN n := by
 have := sameBytes (ca := ca) (cb := cb) xs ys hx (by rw [← h]; exact hx) hs
 rwa [sameB_eq h] at this
theorem bytesTake {W0 w : World} {L : List Assn} {m : Bool} {sp : Option Addr} {bs : List Byte} (n : Nat) (h : Sat W0 w (bytes m sp bs :: L)) : Sat W0 w (bytes m sp (bs.take n) :: L) :=
 h.imp fun x hx => by
  rcases hx with rfl | ⟨b, o, rfl, hx⟩
  ·exact .inl (by simp)
  ·refine .inr ⟨b, o, rfl, fun i v hv => hx i v ?_⟩
   simp only [u8s, List.map_take, List.getElem?_take] at hv
   split at hv
   ·exact hv
   ·cases hv
theorem mod_u8_v8 (z : Int) : z % 256 = v8 (BitVec.ofInt 8 z) := by
 unfold v8
 rw [BitVec.toNat_ofInt]
 omega
theorem wrap_u8_v8 (z : Int) : IntKind.u8.wrap z = v8 (BitVec.ofInt 8 z) := by
 rw [IntKind.wrap_u8]
 unfold v8
 rw [BitVec.toNat_ofInt]
 omega
end Go.Proofs.YtpiiklfnakkdiaaGreat

/- Shorter forms of the rules and contracts for bytes: append, comparison; under the conditions that each names. -/
namespace Go.Proofs.YtpiiklfnakkdiaaGreat
open Go.RowKit Go.Sep Go.Bv Go.Sha
set_option linter.unusedVariables false
set_option linter.unusedSimpArgs false
theorem bytesNone0 {W0 w : World} {L : List Assn} {m : Bool} {sp : Option Addr} {bs : List Byte} {n : Nat} (h : Sat W0 w (bytes m sp bs :: L)) (hn : bs.length = n) : sp = none → n = 0 := by
 rintro rfl
 by_cases h0 : bs = []
 ·rw [← hn, h0]; rfl
 ·obtain ⟨_, _, h', _⟩ := bytesCell h h0; cases h'
section
variable {W0 w : World} {L : List Assn} {ops : Array Oper} {rest : List Oper} {o : Oper} {a : Act} {Q : Exit → Act → World → Prop}
theorem wpl_app8 (hgd : o.guard = none) (s x : Operand) (ho : o.op = .call { callee := .builtin .append, args := #[s, x], argTypes := #[24, 24] })
  {p : Option Addr} {cp n : Nat} {xs : List Byte} {m : Bool} {q : Option Addr} {k cq : Nat} {ys : List Byte} (hv : a.eval s = .slice p n cp) (hx : a.eval x = .slice q k cq)
  (hs : Sat W0 w (row p cp 1 n (u8s xs) :: bytes m q ys :: L)) (hk : ys.length = k) (hb : n + k ≤ 140737488355328)
  (h : ∀ p' c' w', Sat W0 w' (row p' c' 1 (n + k) (u8s (xs ++ ys)) :: bytes m q ys :: L) → wpList Tryz.prog ops Q rest (a.put o.dst (.slice p' (n + k) c')) w') : wpList Tryz.prog ops Q (o :: rest) a w := by
 obtain ⟨i3, hi3, hz3, hs3, hb3⟩ := info_parts Tryz.info_u8
 have hB : Sat W0 w (bytes m q ys :: row p cp 1 n (u8s xs) :: L) := hs.pull 1
 refine wpl_append hgd s x 24 ho Tryz.underlying24 hi3 hz3 hs3 hb3 rfl (by decide) hs hv q k cq hx (u8s ys) (by rw [u8s_len, hk, Nat.mul_one]) (bytesNews hB) (bytesNone0 hB hk) (u8s_one _) (by unfold maxLen; omega) (by omega) ?_
 intro p' c' w' h1 _ _
 rw [← u8s_append] at h1
 exact h p' c' w' h1
end
/-- Two lists of bytes held against each other. -/
theorem sameS {W0 w : World} {L : List Assn} {ca cb n k : Nat} {m1 m2 : Bool} {pa pb : Option Addr} (xs ys : List Byte) (hx : xs.length = n) (hy : ys.length = k) (hn : n ≤ maxLen) (hk : k ≤ maxLen) (hs : Sat W0 w (bytes m1 pa xs :: bytes m2 pb ys :: L)) :
  Calls Tryz.prog 16 #[.slice pa n ca, .slice pb k cb] w fun e w' => e = .returned (.bool (sameB xs ys)) ∧ Sat W0 w' (bytes m1 pa xs :: bytes m2 pb ys :: L) := by
 subst hx hy
 refine (sameBytes xs ys hn hk hs).mono ?_
 rintro e w' ⟨rfl, k, rfl⟩
 exact ⟨rfl, hs.drewN k⟩
theorem sameT {W0 w : World} {L : List Assn} {ca cb n k : Nat} {m1 m2 : Bool} {pa pb : Option Addr} (xs ys : List Byte) (hx : xs.length = n) (hy : ys.length = k) (hn : n ≤ 1000000000000) (he : xs = ys) (hs : Sat W0 w (bytes m1 pa xs :: bytes m2 pb ys :: L)) :
  Calls Tryz.prog 16 #[.slice pa n ca, .slice pb k cb] w fun e w' => e = .returned (.bool true) ∧ Sat W0 w' (bytes m1 pa xs :: bytes m2 pb ys :: L) := by
 have h := sameS (ca := ca) (cb := cb) xs ys hx hy (by unfold maxLen; omega) (by rw [← hy, ← he, hx]; unfold maxLen; omega) hs
 rwa [sameB_eq he] at h
theorem copyS {W0 w : World} {L : List Assn} {ca n : Nat} {m : Bool} {pa : Option Addr} (xs : List Byte) (hn : xs.length = n) (hx : n ≤ 140737488355328) (hs : Sat W0 w (bytes m pa xs :: L)) :
  Calls Tryz.prog 15 #[.slice pa n ca] w fun e w' => ∃ p c, e = .returned (.slice p n c) ∧ Sat W0 w' (row p c 1 n (u8s xs) :: bytes m pa xs :: L) := by
 subst hn
 exact copyBytes xs hx hs
/-- The beginning of bytes, by itself. -/
theorem bytesTake' {W0 w : World} {L : List Assn} {m : Bool} {sp : Option Addr} {bs : List Byte} (n : Nat) (h : Sat W0 w (bytes m sp bs :: L)) : Sat W0 w (bytes m sp (bs.take n) :: L) := bytesTake n h
end Go.Proofs.YtpiiklfnakkdiaaGreat

/- More of the ledger: Runs, Reset, the list of runs held against another; under the conditions that each names. -/
namespace Go.Proofs.YtpiiklfnakkdiaaGreat
open Go.RowKit Go.Sep Go.Bv Go.Sha
set_option linter.unusedVariables false
set_option linter.unusedSimpArgs false
end Go.Proofs.YtpiiklfnakkdiaaGreat

/- Read-only copies of what one's own memory holds, and bundles of them; under the conditions that each names. -/
namespace Go.Sep
set_option linter.unusedVariables false
set_option linter.unusedSimpArgs false
/-- The same cells, none of which may be written. -/
def Hp.ro (h : Hp) : Hp := Hp.of fun b o => match h b o with | some (_, v) => some (false, v) | none => none
theorem Hp.ro_some {h : Hp} {b o : Nat} {m : Bool} {v : Value} (e : h b o = some (m, v)) : h.ro b o = some (false, v) := by show (match h.c b o with | some (_, v) => some (false, v) | none => none) = _; rw [e]
theorem Hp.ro_of {h : Hp} {b o : Nat} {x : Bool × Value} (e : h.ro b o = some x) : ∃ m, h b o = some (m, x.2) ∧ x.1 = false := by
 have e : (match h.c b o with | some (_, v) => some (false, v) | none => none) = some x := e
 cases e' : h.c b o with
 | none => rw [e'] at e; cases e
 | some y => rw [e'] at e; cases e; exact ⟨y.1, rfl, rfl⟩
theorem Hp.ok.ro {W0 w : World} {h : Hp} (ok : h.ok W0 w) : h.ro.ok W0 w := by
 refine Hp.of_ok fun b o m v hx => ?_
 obtain ⟨m', h1, h2⟩ := Hp.ro_of hx
 simp only at h2
 subst h2
 exact ⟨(ok.1 b o m' v h1).1, fun h => by cases h⟩
theorem Hp.dis.ro {h k : Hp} (d : h.dis k) : h.ro.dis k := by
 refine Hp.of_dis fun b o x y hx hy => ?_
 obtain ⟨m, h1, h2⟩ := Hp.ro_of hx
 obtain ⟨h3, h4⟩ := d.1 b o _ y h1 hy
 simp only at h4
 subst h4
 refine ⟨?_, h2⟩
 rw [← h3]
 obtain ⟨x1, x2⟩ := x
 simp only at h2
 subst h2
 rfl
/-- What one owns is let go: it may be read from now on. -/
theorem Sat.ro {W0 w : World} {L : List Assn} {A B : Assn} (h : Sat W0 w (A :: L)) (hAB : ∀ x, A x → B x.ro) : Sat W0 w (B :: L) := by
 obtain ⟨h0, hs, hf⟩ := h
 obtain ⟨x, t, rfl, hA, ok, hd, hf'⟩ := hf.head
 exact ⟨h0, x.ro :: t, .cons (hAB x hA) ok.ro (fun k hk => (hd k hk).ro) hf'⟩
theorem seg_ro {m : Bool} {b o : Nat} {vs : List Value} (x : Hp) (h : seg m b o vs x) : seg false b o vs x.ro := fun i v hv => Hp.ro_some (h i v hv)
/-- An assertion that only reads holds of the cells that none may write. -/
def Reads (A : Assn) : Prop := ∀ x y : Hp, (∀ b o v, x b o = some (false, v) → y b o = some (false, v)) → A x → A y
theorem seg_reads (b o : Nat) (vs : List Value) : Reads (seg false b o vs) := fun x y hxy h i v hv => hxy _ _ _ (h i v hv)
/-- What is only read may be had twice. -/
theorem Sat.dup {W0 w : World} {L : List Assn} {A : Assn} (hA : Reads A) (h : Sat W0 w (A :: L)) : Sat W0 w (A :: A :: L) := by
 obtain ⟨h0, hs, hf⟩ := h
 obtain ⟨x, t, rfl, hx, ok, hd, hf'⟩ := hf.head
 let z : Hp := Hp.of fun b o => match x b o with | some (false, v) => some (false, v) | _ => none
 have hz : ∀ b o y, z b o = some y → x b o = some y ∧ y.1 = false := by
  intro b o y e
  have e : (match x.c b o with | some (false, v) => some (false, v) | _ => none) = some y := e
  split at e
  ·rename_i v e'
   cases e
   exact ⟨e', rfl⟩
  ·cases e
 refine ⟨h0, z :: x :: t, .cons (hA x z (fun b o v e => ?_) hx) (Hp.of_ok fun b o m v e => ok.1 b o m v (hz b o _ e).1) (fun k hk => Hp.of_dis ?_) (.cons hx ok hd hf')⟩
 ·show (match x.c b o with | some (false, v) => some (false, v) | _ => none) = _; rw [e]
 ·intro b o p q hp hq
  obtain ⟨e1, e2⟩ := hz _ _ _ hp
  rcases List.mem_cons.1 hk with rfl | hk
  ·rw [e1] at hq; cases hq; exact ⟨rfl, e2⟩
  ·exact (hd k hk).1 b o p q e1 hq
/-- Two assertions that only read, as one of the parts of both. -/
theorem Sat.both {W0 w : World} {L : List Assn} {A B C : Assn} (h : Sat W0 w (A :: B :: L)) (hA : Reads A) (hB : Reads B) (hC : ∀ x, A x → B x → C x) : Sat W0 w (C :: L) := by
 obtain ⟨h0, hs, hf⟩ := h
 obtain ⟨x, t, rfl, hx, ok, hd, hf'⟩ := hf.head
 obtain ⟨y, t', rfl, hy, ok', hd', hf''⟩ := hf'.head
 refine ⟨h0, x.cup y :: t', .cons (hC _ (hA x _ (fun b o v e => (Hp.le_cup x y).1 b o _ e) hx) (hB y _ (fun b o v e => (Hp.cup_le (hd y (by simp))).1 b o _ e) hy)) (ok.cup ok') (fun k hk => (hd k (by simp [hk])).cup (hd' k hk)) hf''⟩
end Go.Sep
namespace Go.Proofs.YtpiiklfnakkdiaaGreat
open Go.RowKit Go.Sep Go.Bv Go.Sha
set_option linter.unusedVariables false
set_option linter.unusedSimpArgs false
theorem bytes_ro {m : Bool} {p : Option Addr} {bs : List Byte} (x : Hp) (h : bytes m p bs x) : bytes false p bs x.ro := by
 rcases h with h | ⟨b, o, rfl, h⟩
 ·exact .inl h
 ·exact .inr ⟨b, o, rfl, seg_ro x h⟩
theorem bytes_reads (p : Option Addr) (bs : List Byte) : Reads (bytes false p bs) := by
 intro x y hxy h
 rcases h with h | ⟨b, o, rfl, h⟩
 ·exact .inl h
 ·exact .inr ⟨b, o, rfl, seg_reads b o _ x y hxy h⟩
theorem bytesRo {W0 w : World} {L : List Assn} {m : Bool} {p : Option Addr} {bs : List Byte} (h : Sat W0 w (bytes m p bs :: L)) : Sat W0 w (bytes false p bs :: L) := h.ro bytes_ro
theorem bytesDup {W0 w : World} {L : List Assn} {p : Option Addr} {bs : List Byte} (h : Sat W0 w (bytes false p bs :: L)) : Sat W0 w (bytes false p bs :: bytes false p bs :: L) := h.dup (bytes_reads p bs)
/-- Slices of bytes, each with its pointer and room: what they hold. -/
abbrev Piece := Option Addr × Nat × List Byte
def pieceV (t : Piece) : Value := .slice t.1 t.2.2.length t.2.1
def allRo (ts : List Piece) : Assn := fun x => ∀ t ∈ ts, bytes false t.1 t.2.2 x
theorem allRo_reads (ts : List Piece) : Reads (allRo ts) := fun x y hxy h t ht => bytes_reads _ _ x y hxy (h t ht)
theorem allNil {W0 w : World} {L : List Assn} (h : Sat W0 w L) : Sat W0 w (allRo [] :: L) := h.emp.imp fun x _ t ht => by cases ht
theorem allPush {W0 w : World} {L : List Assn} {m : Bool} {t : Piece} {ts : List Piece} (h : Sat W0 w (bytes m t.1 t.2.2 :: allRo ts :: L)) : Sat W0 w (allRo (ts ++ [t]) :: L) := by
 refine (bytesRo h).both (bytes_reads _ _) (allRo_reads ts) fun x h1 h2 u hu => ?_
 rcases List.mem_append.1 hu with hu | hu
 ·exact h2 u hu
 ·rw [List.mem_singleton.1 hu]; exact h1
theorem allPeek {W0 w : World} {L : List Assn} {ts : List Piece} {t : Piece} (h : Sat W0 w (allRo ts :: L)) (ht : t ∈ ts) : Sat W0 w (bytes false t.1 t.2.2 :: allRo ts :: L) :=
 (h.dup (allRo_reads ts)).imp fun x hx => hx t ht
end Go.Proofs.YtpiiklfnakkdiaaGreat

/- Lists of lists of bytes: append of one, CutInto; under the conditions that each names. -/
namespace Go.Proofs.YtpiiklfnakkdiaaGreat
open Go.RowKit Go.Sep Go.Bv Go.Sha
set_option linter.unusedVariables false
set_option linter.unusedSimpArgs false
theorem Tryz.info_bss : (Tryz.prog.info? 24).map (fun i => (i.zero, i.size, i.bytes)) = some (some (.slice none 0 0), 1, 24) := by kernel_rfl
section
variable {W0 w : World} {L : List Assn} {ops : Array Oper} {rest : List Oper} {o : Oper} {a : Act} {Q : Exit → Act → World → Prop}
theorem wpl_appP (hgd : o.guard = none) (s x : Operand) (ho : o.op = .call { callee := .builtin .append, args := #[s, x], argTypes := #[42, 42] })
  {p : Option Addr} {cp n g : Nat} {vs : List Value} {v : Value} (hv : a.eval s = .slice p n cp) (hx : a.eval x = .slice (some ⟨g, 0, none⟩) 1 1)
  (hs : Sat W0 w (row p cp 1 n vs :: seg true g 0 [v] :: L)) (h1 : v.oneCell' = true) (hb : n + 1 ≤ 1000000000)
  (h : ∀ p' c' w', Sat W0 w' (row p' c' 1 (n + 1) (vs ++ [v]) :: L) → wpList Tryz.prog ops Q rest (a.put o.dst (.slice p' (n + 1) c')) w') : wpList Tryz.prog ops Q (o :: rest) a w := by
 obtain ⟨i3, hi3, hz3, hs3, hb3⟩ := info_parts Tryz.info_bss
 have hB : Sat W0 w (seg true g 0 [v] :: row p cp 1 n vs :: L) := hs.pull 1
 refine wpl_append hgd s x 42 ho Tryz.underlying42 hi3 hz3 hs3 hb3 rfl (by decide) hs hv (some ⟨g, 0, none⟩) 1 1 hx [v] rfl hB.news (fun h => by cases h) (by simpa using h1) (by unfold maxLen; omega) (by omega) ?_
 intro p' c' w' h2 _ _
 exact h p' c' w' (h2.drop 1)
end
theorem bytesDropAny {W0 w : World} {L : List Assn} {m : Bool} {b o : Nat} {bs : List Byte} (n : Nat) (q : Option Addr) (hq : n < bs.length → q = some ⟨b, o + n, none⟩) (h : Sat W0 w (bytes m (some ⟨b, o, none⟩) bs :: L)) : Sat W0 w (bytes m q (bs.drop n) :: L) :=
 h.imp fun x hx => by
  by_cases hn : n < bs.length
  ·rcases hx with rfl | ⟨b', o', e, hx⟩
   ·exact .inl (by simp)
   ·cases e
    refine .inr ⟨b, o + n, hq hn, fun i v hv => ?_⟩
    rw [Nat.add_assoc]
    refine hx (n + i) v ?_
    simp only [u8s, List.getElem?_map, List.getElem?_drop] at hv ⊢
    exact hv
  ·exact .inl (List.drop_eq_nil_of_le (by omega))
theorem pieceV_one (t : Piece) : (pieceV t).oneCell' = true := rfl
/-- Pieces, and what lies in them. -/
def flatP (ts : List Piece) : List Byte := ts.flatMap fun t => t.2.2
def okP (ts : List Piece) : Prop := ∀ t ∈ ts, t.2.2.length ≤ t.2.1 ∧ t.2.1 ≤ maxLen
theorem flatP_snoc (ts : List Piece) (t : Piece) : flatP (ts ++ [t]) = flatP ts ++ t.2.2 := by simp [flatP]
theorem okP_snoc {ts : List Piece} {t : Piece} (h : okP ts) (h1 : t.2.2.length ≤ t.2.1) (h2 : t.2.1 ≤ maxLen) : okP (ts ++ [t]) := by
 intro u hu
 rcases List.mem_append.1 hu with hu | hu
 ·exact h u hu
 ·rw [List.mem_singleton.1 hu]; exact ⟨h1, h2⟩
set_option maxRecDepth 100000 in
set_option maxHeartbeats 1000000 in
theorem cutInto {W0 w : World} {L : List Assn} {pp pc : Option Addr} {cp cc n k : Nat} (P C : List Byte) (hP : P.length = n) (hC : C.length = k) (hn : n ≤ 1000000000) (hk : k ≤ 100000000) (hcp : n ≤ cp) (hcm : cp ≤ maxLen) (hs : Sat W0 w (bytes false pp P :: bytes false pc C :: L)) :
  Calls Tryz.prog 13 #[.slice pp n cp, .slice pc k cc] w fun e w' => ∃ (q : Option Addr) (c : Nat) (ts : List Piece), e = .returned (.slice q ts.length c) ∧ 0 < ts.length ∧ flatP ts = P ∧ okP ts ∧ Sat W0 w' (row q c 1 ts.length (ts.map pieceV) :: allRo ts :: bytes false pp P :: bytes false pc C :: L) := by
 unfold maxLen at hcm
 have HN := Lib.hid (And.intro hP hC); clear hP hC
 go_enter Tryz.func13, Tryz.ntmps13
 go_wp2
 go_loopw [0, 5, 6] (fun t0 t5 t6 wr => ∃ (i j l : Nat) (q : Option Addr) (cq : Nat) (po : Option Addr) (co : Nat) (ts : List Piece), i ≤ k ∧ ts.length = i ∧ j + l = n ∧ l ≤ cq ∧ cq ≤ 9223372036854775807 ∧ t6 = .int .i64 (i : Int) ∧ t0 = .slice q l cq ∧ t5 = .slice po i co ∧ flatP ts = P.take j ∧ okP ts ∧ Sat W0 wr (row po co 1 i (ts.map pieceV) :: allRo ts :: bytes false q (P.drop j) :: bytes false pp P :: bytes false pc C :: L)) (fun _ _ t6 _ => k - (intOf t6).toNat)
 case atStart => exact ⟨0, 0, n, pp, cp, none, 0, [], Nat.zero_le _, rfl, by omega, hcp, hcm, rfl, rfl, rfl, by simp [flatP], (fun t ht => by cases ht), ((allNil (bytesDup hs)).rowNil 1)⟩
 case round =>
  clear hs
  obtain ⟨i, j, l, q, cq, po, co, ts, hi, hts, hjl, hlq, hcq, rfl, rfl, rfl, hfl, hok, s⟩ := hrel
  have hdl : (P.drop j).length = l := by rw [List.length_drop, HN.out.1]; omega
  have HJ := Lib.hid (And.intro hts (And.intro hfl (And.intro hok (And.intro hdl hjl)))); clear hts hfl hok hdl hjl
  by_cases hin : i < k ∧ 0 < l
  ·obtain ⟨hik, hl0⟩ := hin
   obtain ⟨b, o, rfl, s1⟩ := bytesCell ((by (repeat (first | with_reducible apply Sat.sub (s) | with_reducible apply Sat.alloc' | with_reducible apply Sat.drew | with_reducible apply Sat.drewN)); (repeat (first | with_reducible exact Fr.done | with_reducible exact Fr.nil | (with_reducible apply Fr.cons; (focus ((repeat (first | with_reducible exact Take.here | with_reducible apply Take.there)); done))) | with_reducible apply Fr.skip)); done) : Sat W0 wr (bytes false q (P.drop j) :: bytes false pc C :: row po co 1 i (ts.map pieceV) :: allRo ts :: bytes false pp P :: L)) (by intro h; have := HJ.out.2.2.2.1; rw [h] at this; simp at this; omega)
   obtain ⟨bc, oc, rfl, s2⟩ := bytesCell (s1.pull 1 : Sat W0 wr (bytes false pc C :: _)) (by intro h; have := HN.out.2; rw [h] at this; simp at this; omega)
   have cc1 := s2.cell (u8s_get _ i (by rw [HN.out.2]; exact hik))
   have s3 : Sat W0 wr (bytes false (some ⟨bc, oc, none⟩) C :: seg false b o (u8s (P.drop j)) :: _) := bytesOf s2
   have s4 : Sat W0 wr (bytes false (some ⟨b, o, none⟩) (P.drop j) :: bytes false (some ⟨bc, oc, none⟩) C :: row po co 1 i (ts.map pieceV) :: allRo ts :: bytes false pp P :: L) := bytesOf (s3.pull 1)
   have s5 := bytesDup s4
   clear s s1 s2 s3 s4
   obtain ⟨y, hy⟩ : ∃ y : Nat, (y : Int) = v8 (C.getD i 0) := ⟨(C.getD i 0).toNat, rfl⟩
   rw [← hy] at cc1
   have hy2 : y < 256 := by have := (v8_bd (C.getD i 0)).2; omega
   clear hy
   obtain ⟨r, hr⟩ : ∃ r, r = y % 200 := ⟨_, rfl⟩
   have er : (y : Int) % 200 = (r : Int) := by omega
   have er2 : (y : Int).tmod 200 = (r : Int) := by rw [Int.tmod_eq_emod_of_nonneg (by omega)]; exact er
   have hr2 : r < 200 := by omega
   clear hr
   by_cases hrl : l < r
   ·have hx : ((P.drop j).take l).length = l := by rw [List.length_take, HJ.out.2.2.2.1]; omega
    obtain ⟨T, hT⟩ : ∃ T, T = (P.drop j).take l := ⟨_, rfl⟩
    have s6 := bytesTake l s5
    rw [← hT] at hx s6
    have hrl' : (l : Int) < (r : Int) := by omega
    have hjl := HJ.out.2.2.2.2
    have HX := Lib.hid (And.intro hx hT); clear hx hT hjl
    go_wp2_with fail
    refine (copyS T HX.out.1 (by omega) s6).mono ?_
    rintro e w2 ⟨p7, c7, rfl, s7⟩
    clear s5 s6
    obtain ⟨-, hc71, hc72, s8⟩ := rowBytes s7
    have s9 : Sat W0 _ (seg true w2.heap.size 0 [.slice p7 l c7] :: _) := s8.alloc #[.slice p7 l c7] 24
    have HC := Lib.hid hc72; clear hc72 s7 s8
    go_wp2_with (at_builtin; refine wpl_appP rfl (.tmp 31) (.tmp 36) rfl rfl rfl (by (repeat (first | with_reducible apply Sat.sub (s9) | with_reducible apply Sat.alloc' | with_reducible apply Sat.drew | with_reducible apply Sat.drewN)); (repeat (first | with_reducible exact Fr.done | with_reducible exact Fr.nil | (with_reducible apply Fr.cons; (focus ((repeat (first | with_reducible exact Take.here | with_reducible apply Take.there)); done))) | with_reducible apply Fr.skip)); done) (by rfl) (by omega) ?_; intro p9 c9 w9 s10)
    all_goals
     go_roundw
     case rel =>
      have hlen : (i + 1 = (ts ++ [((p7, c7, T) : Piece)]).length) := by simp [HJ.out.1]
      have u1 : Sat W0 w9 (bytes true p7 T :: allRo ts :: bytes false (some ⟨b, o, none⟩) (P.drop j) :: row p9 c9 1 (i + 1) (ts.map pieceV ++ [.slice p7 l c7]) :: bytes false pp P :: bytes false (some ⟨bc, oc, none⟩) C :: L) := (by (repeat (first | with_reducible apply Sat.sub (s10) | with_reducible apply Sat.alloc' | with_reducible apply Sat.drew | with_reducible apply Sat.drewN)); (repeat (first | with_reducible exact Fr.done | with_reducible exact Fr.nil | (with_reducible apply Fr.cons; (focus ((repeat (first | with_reducible exact Take.here | with_reducible apply Take.there)); done))) | with_reducible apply Fr.skip)); done)
      have u2 := allPush (t := ((p7, c7, T) : Piece)) u1
      have u3 : Sat W0 w9 (bytes false (some ⟨b, o, none⟩) (P.drop j) :: row p9 c9 1 (i + 1) (ts.map pieceV ++ [.slice p7 l c7]) :: allRo (ts ++ [((p7, c7, T) : Piece)]) :: bytes false pp P :: bytes false (some ⟨bc, oc, none⟩) C :: L) := (by (repeat (first | with_reducible apply Sat.sub (u2) | with_reducible apply Sat.alloc' | with_reducible apply Sat.drew | with_reducible apply Sat.drewN)); (repeat (first | with_reducible exact Fr.done | with_reducible exact Fr.nil | (with_reducible apply Fr.cons; (focus ((repeat (first | with_reducible exact Take.here | with_reducible apply Take.there)); done))) | with_reducible apply Fr.skip)); done)
      have e1 : ts.map pieceV ++ [Value.slice p7 l c7] = (ts ++ [((p7, c7, T) : Piece)]).map pieceV := by rw [List.map_append]; simp only [List.map_cons, List.map_nil, pieceV]; rw [HX.out.1]
      rw [e1] at u3
      have e2 : flatP (ts ++ [((p7, c7, T) : Piece)]) = P.take (j + l) := by rw [flatP_snoc, HJ.out.2.1, List.take_add]; show _ ++ T = _; rw [HX.out.2]
      have u5 : ∀ q' : Option Addr, (l < l → q' = some ⟨b, o + l, none⟩) → Sat W0 w9 (row p9 c9 1 (i + 1) ((ts ++ [((p7, c7, T) : Piece)]).map pieceV) :: allRo (ts ++ [((p7, c7, T) : Piece)]) :: bytes false q' (P.drop (j + l)) :: bytes false pp P :: bytes false (some ⟨bc, oc, none⟩) C :: L) := by
       intro q' hq'
       have u4 := bytesDropAny l q' (by rw [HJ.out.2.2.2.1]; exact hq') u3
       rw [List.drop_drop] at u4
       exact (by (repeat (first | with_reducible apply Sat.sub (u4) | with_reducible apply Sat.alloc' | with_reducible apply Sat.drew | with_reducible apply Sat.drewN)); (repeat (first | with_reducible exact Fr.done | with_reducible exact Fr.nil | (with_reducible apply Fr.cons; (focus ((repeat (first | with_reducible exact Take.here | with_reducible apply Take.there)); done))) | with_reducible apply Fr.skip)); done)
      refine ⟨i + 1, j + l, 0, _, cq - l, p9, c9, ts ++ [((p7, c7, T) : Piece)], by omega, hlen.symm, by have := HJ.out.2.2.2.2; omega, by omega, by omega, by go_num, rfl, rfl, e2, okP_snoc HJ.out.2.2.1 (by show T.length ≤ c7; rw [HX.out.1]; exact hc71) HC.out, ?_⟩
      first
       | exact u5 _ (fun h => rfl)
       | exact u5 _ (fun h => by first | rw [if_neg (by omega)] | (exfalso; omega))
     case measure => simp [intOf]; omega
   ·have hx : ((P.drop j).take r).length = r := by rw [List.length_take, HJ.out.2.2.2.1]; omega
    obtain ⟨T, hT⟩ : ∃ T, T = (P.drop j).take r := ⟨_, rfl⟩
    have s6 := bytesTake r s5
    rw [← hT] at hx s6
    have hrl' : ¬ (l : Int) < (r : Int) := by omega
    have hjl := HJ.out.2.2.2.2
    have HX := Lib.hid (And.intro hx hT); clear hx hT hjl
    go_wp2_with fail
    refine (copyS T HX.out.1 (by omega) s6).mono ?_
    rintro e w2 ⟨p7, c7, rfl, s7⟩
    clear s5 s6
    obtain ⟨-, hc71, hc72, s8⟩ := rowBytes s7
    have s9 : Sat W0 _ (seg true w2.heap.size 0 [.slice p7 r c7] :: _) := s8.alloc #[.slice p7 r c7] 24
    have HC := Lib.hid hc72; clear hc72 s7 s8
    go_wp2_with (at_builtin; refine wpl_appP rfl (.tmp 31) (.tmp 36) rfl rfl rfl (by (repeat (first | with_reducible apply Sat.sub (s9) | with_reducible apply Sat.alloc' | with_reducible apply Sat.drew | with_reducible apply Sat.drewN)); (repeat (first | with_reducible exact Fr.done | with_reducible exact Fr.nil | (with_reducible apply Fr.cons; (focus ((repeat (first | with_reducible exact Take.here | with_reducible apply Take.there)); done))) | with_reducible apply Fr.skip)); done) (by rfl) (by omega) ?_; intro p9 c9 w9 s10)
    all_goals
     go_roundw
     case rel =>
      have hlen : (i + 1 = (ts ++ [((p7, c7, T) : Piece)]).length) := by simp [HJ.out.1]
      have u1 : Sat W0 w9 (bytes true p7 T :: allRo ts :: bytes false (some ⟨b, o, none⟩) (P.drop j) :: row p9 c9 1 (i + 1) (ts.map pieceV ++ [.slice p7 r c7]) :: bytes false pp P :: bytes false (some ⟨bc, oc, none⟩) C :: L) := (by (repeat (first | with_reducible apply Sat.sub (s10) | with_reducible apply Sat.alloc' | with_reducible apply Sat.drew | with_reducible apply Sat.drewN)); (repeat (first | with_reducible exact Fr.done | with_reducible exact Fr.nil | (with_reducible apply Fr.cons; (focus ((repeat (first | with_reducible exact Take.here | with_reducible apply Take.there)); done))) | with_reducible apply Fr.skip)); done)
      have u2 := allPush (t := ((p7, c7, T) : Piece)) u1
      have u3 : Sat W0 w9 (bytes false (some ⟨b, o, none⟩) (P.drop j) :: row p9 c9 1 (i + 1) (ts.map pieceV ++ [.slice p7 r c7]) :: allRo (ts ++ [((p7, c7, T) : Piece)]) :: bytes false pp P :: bytes false (some ⟨bc, oc, none⟩) C :: L) := (by (repeat (first | with_reducible apply Sat.sub (u2) | with_reducible apply Sat.alloc' | with_reducible apply Sat.drew | with_reducible apply Sat.drewN)); (repeat (first | with_reducible exact Fr.done | with_reducible exact Fr.nil | (with_reducible apply Fr.cons; (focus ((repeat (first | with_reducible exact Take.here | with_reducible apply Take.there)); done))) | with_reducible apply Fr.skip)); done)
      have e1 : ts.map pieceV ++ [Value.slice p7 r c7] = (ts ++ [((p7, c7, T) : Piece)]).map pieceV := by rw [List.map_append]; simp only [List.map_cons, List.map_nil, pieceV]; rw [HX.out.1]
      rw [e1] at u3
      have e2 : flatP (ts ++ [((p7, c7, T) : Piece)]) = P.take (j + r) := by rw [flatP_snoc, HJ.out.2.1, List.take_add]; show _ ++ T = _; rw [HX.out.2]
      have u5 : ∀ q' : Option Addr, (r < l → q' = some ⟨b, o + r, none⟩) → Sat W0 w9 (row p9 c9 1 (i + 1) ((ts ++ [((p7, c7, T) : Piece)]).map pieceV) :: allRo (ts ++ [((p7, c7, T) : Piece)]) :: bytes false q' (P.drop (j + r)) :: bytes false pp P :: bytes false (some ⟨bc, oc, none⟩) C :: L) := by
       intro q' hq'
       have u4 := bytesDropAny r q' (by rw [HJ.out.2.2.2.1]; exact hq') u3
       rw [List.drop_drop] at u4
       exact (by (repeat (first | with_reducible apply Sat.sub (u4) | with_reducible apply Sat.alloc' | with_reducible apply Sat.drew | with_reducible apply Sat.drewN)); (repeat (first | with_reducible exact Fr.done | with_reducible exact Fr.nil | (with_reducible apply Fr.cons; (focus ((repeat (first | with_reducible exact Take.here | with_reducible apply Take.there)); done))) | with_reducible apply Fr.skip)); done)
      refine ⟨i + 1, j + r, l - r, _, cq - r, p9, c9, ts ++ [((p7, c7, T) : Piece)], by omega, hlen.symm, by have := HJ.out.2.2.2.2; omega, by omega, by omega, by go_num, rfl, rfl, e2, okP_snoc HJ.out.2.2.1 (by show T.length ≤ c7; rw [HX.out.1]; exact hc71) HC.out, ?_⟩
      first
       | exact u5 _ (fun h => rfl)
       | exact u5 _ (fun h => by first | rw [if_neg (by omega)] | (exfalso; omega))
     case measure => simp [intOf]; omega
  ·have hdl := HJ.out.2.2.2.1
   have hend : i < k → l = 0 := by intro h; by_cases h0 : 0 < l; exact absurd ⟨h, h0⟩ hin; omega
   have hfl : flatP ts ++ P.drop j = P := by rw [HJ.out.2.1, List.take_append_drop]
   have hjl := HJ.out.2.2.2.2
   have HX := Lib.hid (And.intro hdl hfl); clear hdl hfl hjl hin
   by_cases hik : i < k
   ·skip
    obtain rfl : l = 0 := hend hik
    clear hend
    go_wp2_with fail
    refine (copyS (P.drop j) HX.out.1 (by have := HJ.out.2.2.2.2; omega) (by (repeat (first | with_reducible apply Sat.sub (s) | with_reducible apply Sat.alloc' | with_reducible apply Sat.drew | with_reducible apply Sat.drewN)); (repeat (first | with_reducible exact Fr.done | with_reducible exact Fr.nil | (with_reducible apply Fr.cons; (focus ((repeat (first | with_reducible exact Take.here | with_reducible apply Take.there)); done))) | with_reducible apply Fr.skip)); done)).mono ?_
    rintro e w2 ⟨p7, c7, rfl, s7⟩
    clear s
    obtain ⟨-, hc71, hc72, s8⟩ := rowBytes s7
    have s9 : Sat W0 _ (seg true w2.heap.size 0 [.slice p7 0 c7] :: _) := s8.alloc #[.slice p7 0 c7] 24
    have HC := Lib.hid hc72; clear hc72 s7 s8
    go_wp2_with (at_builtin; refine wpl_appP rfl (.tmp 41) (.tmp 44) rfl rfl rfl (by (repeat (first | with_reducible apply Sat.sub (s9) | with_reducible apply Sat.alloc' | with_reducible apply Sat.drew | with_reducible apply Sat.drewN)); (repeat (first | with_reducible exact Fr.done | with_reducible exact Fr.nil | (with_reducible apply Fr.cons; (focus ((repeat (first | with_reducible exact Take.here | with_reducible apply Take.there)); done))) | with_reducible apply Fr.skip)); done) (by rfl) (by omega) ?_; intro p9 c9 w9 s10)
    go_ret
    obtain ⟨T, hT⟩ : ∃ T, T = P.drop j := ⟨_, rfl⟩
    have hX := HX.out
    rw [← hT] at s10 hX
    have hlen : (i + 1 = (ts ++ [((p7, c7, T) : Piece)]).length) := by simp [HJ.out.1]
    have u1 : Sat W0 w9 (bytes true p7 T :: allRo ts :: row p9 c9 1 (i + 1) (ts.map pieceV ++ [.slice p7 0 c7]) :: bytes false pp P :: bytes false pc C :: L) := (by (repeat (first | with_reducible apply Sat.sub (s10) | with_reducible apply Sat.alloc' | with_reducible apply Sat.drew | with_reducible apply Sat.drewN)); (repeat (first | with_reducible exact Fr.done | with_reducible exact Fr.nil | (with_reducible apply Fr.cons; (focus ((repeat (first | with_reducible exact Take.here | with_reducible apply Take.there)); done))) | with_reducible apply Fr.skip)); done)
    have u2 := allPush (t := ((p7, c7, T) : Piece)) u1
    have e1 : ts.map pieceV ++ [Value.slice p7 0 c7] = (ts ++ [((p7, c7, T) : Piece)]).map pieceV := by rw [List.map_append]; simp only [List.map_cons, List.map_nil, pieceV]; rw [hX.1]
    rw [e1] at u2
    refine ⟨p9, c9, ts ++ [((p7, c7, T) : Piece)], by rw [← hlen]; rfl, by rw [← hlen]; omega, by rw [flatP_snoc]; exact hX.2, okP_snoc HJ.out.2.2.1 (by show T.length ≤ c7; rw [hX.1]; exact hc71) HC.out, ?_⟩
    rw [← hlen]
    exact (by (repeat (first | with_reducible apply Sat.sub (u2) | with_reducible apply Sat.alloc' | with_reducible apply Sat.drew | with_reducible apply Sat.drewN)); (repeat (first | with_reducible exact Fr.done | with_reducible exact Fr.nil | (with_reducible apply Fr.cons; (focus ((repeat (first | with_reducible exact Take.here | with_reducible apply Take.there)); done))) | with_reducible apply Fr.skip)); done)
   ·skip
    clear hend
    go_wp2_with fail
    refine (copyS (P.drop j) HX.out.1 (by have := HJ.out.2.2.2.2; omega) (by (repeat (first | with_reducible apply Sat.sub (s) | with_reducible apply Sat.alloc' | with_reducible apply Sat.drew | with_reducible apply Sat.drewN)); (repeat (first | with_reducible exact Fr.done | with_reducible exact Fr.nil | (with_reducible apply Fr.cons; (focus ((repeat (first | with_reducible exact Take.here | with_reducible apply Take.there)); done))) | with_reducible apply Fr.skip)); done)).mono ?_
    rintro e w2 ⟨p7, c7, rfl, s7⟩
    clear s
    obtain ⟨-, hc71, hc72, s8⟩ := rowBytes s7
    have s9 : Sat W0 _ (seg true w2.heap.size 0 [.slice p7 l c7] :: _) := s8.alloc #[.slice p7 l c7] 24
    have HC := Lib.hid hc72; clear hc72 s7 s8
    go_wp2_with (at_builtin; refine wpl_appP rfl (.tmp 41) (.tmp 44) rfl rfl rfl (by (repeat (first | with_reducible apply Sat.sub (s9) | with_reducible apply Sat.alloc' | with_reducible apply Sat.drew | with_reducible apply Sat.drewN)); (repeat (first | with_reducible exact Fr.done | with_reducible exact Fr.nil | (with_reducible apply Fr.cons; (focus ((repeat (first | with_reducible exact Take.here | with_reducible apply Take.there)); done))) | with_reducible apply Fr.skip)); done) (by rfl) (by omega) ?_; intro p9 c9 w9 s10)
    go_ret
    obtain ⟨T, hT⟩ : ∃ T, T = P.drop j := ⟨_, rfl⟩
    have hX := HX.out
    rw [← hT] at s10 hX
    have hlen : (i + 1 = (ts ++ [((p7, c7, T) : Piece)]).length) := by simp [HJ.out.1]
    have u1 : Sat W0 w9 (bytes true p7 T :: allRo ts :: row p9 c9 1 (i + 1) (ts.map pieceV ++ [.slice p7 l c7]) :: bytes false pp P :: bytes false pc C :: L) := (by (repeat (first | with_reducible apply Sat.sub (s10) | with_reducible apply Sat.alloc' | with_reducible apply Sat.drew | with_reducible apply Sat.drewN)); (repeat (first | with_reducible exact Fr.done | with_reducible exact Fr.nil | (with_reducible apply Fr.cons; (focus ((repeat (first | with_reducible exact Take.here | with_reducible apply Take.there)); done))) | with_reducible apply Fr.skip)); done)
    have u2 := allPush (t := ((p7, c7, T) : Piece)) u1
    have e1 : ts.map pieceV ++ [Value.slice p7 l c7] = (ts ++ [((p7, c7, T) : Piece)]).map pieceV := by rw [List.map_append]; simp only [List.map_cons, List.map_nil, pieceV]; rw [hX.1]
    rw [e1] at u2
    refine ⟨p9, c9, ts ++ [((p7, c7, T) : Piece)], by rw [← hlen]; rfl, by rw [← hlen]; omega, by rw [flatP_snoc]; exact hX.2, okP_snoc HJ.out.2.2.1 (by show T.length ≤ c7; rw [hX.1]; exact hc71) HC.out, ?_⟩
    rw [← hlen]
    exact (by (repeat (first | with_reducible apply Sat.sub (u2) | with_reducible apply Sat.alloc' | with_reducible apply Sat.drew | with_reducible apply Sat.drewN)); (repeat (first | with_reducible exact Fr.done | with_reducible exact Fr.nil | (with_reducible apply Fr.cons; (focus ((repeat (first | with_reducible exact Take.here | with_reducible apply Take.there)); done))) | with_reducible apply Fr.skip)); done)
end Go.Proofs.YtpiiklfnakkdiaaGreat

/- States that were wiped: they refuse all; under the conditions that each names. -/
namespace Go.Proofs.YtpiiklfnakkdiaaGreat
open Go.RowKit Go.Sep Go.Bv Go.Sha
set_option linter.unusedVariables false
set_option linter.unusedSimpArgs false
@[go_sem] theorem eql_small (b : Nat) (w : World) : (binOp .eql 103 (.iface 139 (.agg #[.pointer (some ⟨b, 0, none⟩)])) .nilIface).run Tryz.prog w = .ok (.bool false) w := by kernel_rfl
@[go_sem] theorem eql_big (b : Nat) (w : World) : (binOp .eql 103 (.iface 143 (.agg #[.pointer (some ⟨b, 0, none⟩)])) .nilIface).run Tryz.prog w = .ok (.bool false) w := by kernel_rfl
@[go_sem] theorem eql_nilif (w : World) : (binOp .eql 103 .nilIface .nilIface).run Tryz.prog w = .ok (.bool true) w := by kernel_rfl
@[go_sem] theorem eqlFunc26 (f : FuncId) (w : World) : (binOp .eql 93 (.func (.func f) #[] #[]) .nilFunc).run Tryz.prog w = .ok (.bool false) w := by kernel_rfl
@[go_sem] theorem eqlFunc27 (f : FuncId) (w : World) : (binOp .eql 94 (.func (.func f) #[] #[]) .nilFunc).run Tryz.prog w = .ok (.bool false) w := by kernel_rfl
end Go.Proofs.YtpiiklfnakkdiaaGreat

/- Arguments that are lists of calls with bytes in them: how they read; under the conditions that each names. -/
namespace Go.Proofs.YtpiiklfnakkdiaaGreat
open Go.RowKit Go.Sep Go.Bv Go.Sha
open Go.ChangeShapes Go.WideShapes Go.ChangeAt
set_option linter.unusedVariables false
set_option linter.unusedSimpArgs false
theorem spot_none {W : World} {x : Addr} {v : Value} (h : W.cell? x = some v) : x.spot = none := by
 unfold World.cell? at h
 cases hs : x.spot with
 | none => rfl
 | some s => simp only [hs] at h; split at h <;> simp_all
/-- Bytes out of a value that reads as bytes, where it stands among others. -/
theorem trod_bytes {H : Type} {enc : TypeId × Value → H} {W : World} {base : Nat} {held : Bool} {fuel : Nat} {cs : List Value} {d : DataW H} {p : List MemPlace} (h : DataW.trod enc Tryz.prog W base (fun _ => true) held fuel 24 cs = some (d, p)) :
  ∃ q : Option Addr × Nat × Nat × List Byte, cs = [.slice q.1 q.2.1 q.2.2.1] ∧ IsBytes W q.1 q.2.1 q.2.2.1 q.2.2.2 ∧ q.2.2.1 + 1 ≤ Rows.uptoBulk d := by
 rcases open_ints (k := .u8) Tryz.underlying24 Tryz.underlying5 cells_u8 h with ⟨hcs, hx⟩ | ⟨x, l, c, zs, hcs, _, hl, hm, hz, hx, hc, hwf⟩
 ·simp only [Prod.mk.injEq] at hx
  obtain ⟨rfl, _⟩ := hx
  exact ⟨(none, 0, 0, []), hcs, ⟨rfl, Nat.le_refl _, Nat.zero_le _, .inl rfl⟩, by simp [Rows.uptoBulk]⟩
 ·simp only [if_true] at hz
  simp only [Prod.mk.injEq] at hx
  obtain ⟨rfl, _⟩ := hx
  have hlen : (zs.take l).length = l := by rw [List.length_take]; omega
  refine ⟨(some x, l, c, (zs.take l).map (BitVec.ofInt 8)), hcs, ⟨by rw [List.length_map, hlen], hl, hm, ?_⟩, ?_⟩
  ·by_cases h0 : l = 0
   ·subst h0; exact .inl (by simp)
   ·have hx0 := spot_none (hc 0 (by omega))
    obtain ⟨b, o, sp⟩ := x
    have hsp : sp = none := by
     have : (Addr.add ⟨b, o, sp⟩ 0).spot = none := hx0
     unfold Addr.add at this
     cases sp with
     | none => rfl
     | some s => simp at this
    subst hsp
    refine .inr ⟨b, o, rfl, fun i v hv => ?_⟩
    simp only [u8s, List.map_map, List.getElem?_map, Option.map_eq_some_iff, Function.comp] at hv
    obtain ⟨z, hz1, rfl⟩ := hv
    rw [List.getElem?_take] at hz1
    split at hz1
    ·rename_i hi
     have hc1 := hc i (by omega)
     have hzm : z ∈ zs := List.mem_of_getElem? hz1
     have hw := hwf z hzm
     have hzb : 0 ≤ z ∧ z < 256 := by
      simp only [Lit.wf, Bool.and_eq_true, decide_eq_true_eq] at hw
      have h1 : IntKind.u8.min = 0 := rfl
      have h2 : IntKind.u8.max = 255 := rfl
      rw [h1, h2] at hw
      omega
     rw [v8_ofInt z hzb.1 hzb.2]
     rw [add_lit'] at hc1
     rw [hc1, List.getD_eq_getElem?_getD, hz1]; rfl
    ·cases hz1
  ·simp only [Rows.uptoBulk, bulk_lits, List.length_take, List.length_drop]
   omega
end Go.Proofs.YtpiiklfnakkdiaaGreat
