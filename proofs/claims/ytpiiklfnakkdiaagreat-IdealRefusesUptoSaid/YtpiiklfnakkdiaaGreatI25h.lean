
/- Layer 25's statements: operations as an argument; what is too heavy; a handle looked up in a row of holdings; under the conditions that each names. -/
import Derived.Test.YtpiiklfnakkdiaaGreatI25a
import Derived.Deep.Slices
namespace Go.Sep
open Go.RowKit
set_option linter.unusedVariables false
set_option linter.unusedSimpArgs false
/-- What lay there when the call began, still later. -/
theorem Sat.argW {W w : World} {L : List Assn} {b o : Nat} {vs : List Value} (h : Sat W w L) (hc : ∀ i v, vs[i]? = some v → W.cell? ⟨b, o + i, none⟩ = some v) : Sat W w (seg false b o vs :: L) := by
 have hold := h
 obtain ⟨hb, hs, hf⟩ := h
 refine ⟨hb, Hp.of (fun b' o' => if b' = b ∧ o ≤ o' then (vs[o' - o]?).map (false, ·) else none) :: hs, .cons ?_ (Hp.of_ok ?_) (fun k hk => Hp.of_dis ?_) hf⟩
 ·intro i v hv
  show (if _ then _ else _) = _
  rw [if_pos ⟨rfl, by omega⟩, Nat.add_sub_cancel_left, hv]; rfl
 ·intro b' o' m v hx
  split at hx
  ·rename_i e
   obtain ⟨rfl, ho⟩ := e
   simp only [Option.map_eq_some_iff, Prod.mk.injEq] at hx
   obtain ⟨u, hu, rfl, rfl⟩ := hx
   refine ⟨?_, fun h => by cases h⟩
   have := hold.old (hc _ _ hu)
   rwa [show o + (o' - o) = o' by omega] at this
  ·cases hx
 ·intro b' o' x y hx hy
  split at hx
  ·rename_i e
   obtain ⟨rfl, ho⟩ := e
   simp only [Option.map_eq_some_iff] at hx
   obtain ⟨u, hu, rfl⟩ := hx
   have h0 := hc _ _ hu
   have h1 := hold.old h0
   rw [show o + (o' - o) = o' by omega] at h1 h0
   obtain ⟨h2, h3⟩ := (hf.okAll k hk).1 b' o' y.1 y.2 hy
   have h4 : y.1 = false := by
    cases hy1 : y.1 with
    | false => rfl
    | true =>
     have h5 := (h3 hy1).2
     have h6 := World.block_lt_of_cell? W _ h0
     exact absurd h6 (Nat.not_lt.2 h5)
   rw [h1] at h2
   cases h2
   obtain ⟨y1, y2⟩ := y
   simp only at h4
   subst h4
   exact ⟨rfl, rfl⟩
  ·cases hx
end Go.Sep
namespace Go.Proofs.YtpiiklfnakkdiaaGreat
open Go.RowKit Go.Sep Go.Bv Go.Kec Go.Aes Go.Sha
open Go.ChangeShapes Go.WideShapes Go.ChangeAt Go.Deep
set_option linter.unusedVariables false
set_option linter.unusedSimpArgs false
theorem IsBytes.satW {W w : World} {L : List Assn} {p : Option Addr} {n c : Nat} {bs : List Byte} (h : IsBytes W p n c bs) (hs : Sat W w L) : Sat W w (bytes false p bs :: L) := by
 obtain ⟨_, _, _, rfl | ⟨b, o, rfl, hc⟩⟩ := h
 ·exact bytesNil false p hs
 ·exact bytesOf (hs.argW hc)
instance : Inhabited OpV := ⟨⟨0, 0, 0, 0, 0, none, 0, 0, none, 0, 0⟩⟩
abbrev OpX := OpV × List Byte × List Byte
/-- A list of operations, as it lay when the call began. -/
def IsOps (W : World) (p : Option Addr) (xs : List OpX) : Prop := ∀ i x, xs[i]? = some x → OpA W x.1 x.2.1 x.2.2 ∧ x.1.dc + x.1.ec ≤ 1048576 ∧ ∃ b o, p = some ⟨b, o, none⟩ ∧ ∀ k u, (encO x.1)[k]? = some u → W.cell? ⟨b, o + i * 7 + k, none⟩ = some u
theorem cells_op : Tryz.prog.cellsOf 26 = 7 := by kernel_rfl
theorem addO {b o n : Nat} : (Addr.mk b o none).add n = ⟨b, o + n, none⟩ := by unfold Addr.add; split <;> simp_all
theorem bulkAll_get {H : Type} : ∀ (ds : List (DataW H)) (d : DataW H), d ∈ ds → Rows.uptoBulk d ≤ Rows.uptoBulkAll ds
 | [], _, h => by cases h
 | x :: ds, d, h => by
  simp only [Rows.uptoBulkAll]
  rcases List.mem_cons.1 h with rfl | h
  ·omega
  ·have := bulkAll_get ds d h; omega
set_option maxRecDepth 100000 in
theorem open_ops {H : Type} {enc : TypeId × Value → H} {W : World} {base b0 : Nat} {held : Bool} {v : Value} {d : DataW H} {p : List MemPlace} (hv : Value.okWide Tryz.prog W .any b0 56 v) (h : DataW.Trod enc Tryz.prog W base (fun _ => true) held 56 v d p) :
  ∃ q : Option Addr × Nat × Nat × List OpX, v = .slice q.1 q.2.1 q.2.2.1 ∧ (Rows.uptoBulk d ≤ 1048576 → IsOps W q.1 q.2.2.2) ∧ q.2.2.2.length = q.2.1 ∧ q.2.1 ≤ q.2.2.1 ∧ q.2.2.1 ≤ maxLen := by
 obtain ⟨a, len, cap, rfl⟩ := okWide_slice Tryz.underlying56 hv
 obtain ⟨fuel, hf⟩ := h
 rcases open_slice Tryz.underlying56 hf with ⟨hcs, hx⟩ | ⟨x, l, c, m, n, D, Pl, hcs, _, hl, hm, hmm, hx, hi⟩
 ·simp [Value.cells] at hcs
  obtain ⟨rfl, rfl, rfl⟩ := hcs
  exact ⟨(none, 0, 0, []), rfl, (fun _ i x hx => by simp at hx), rfl, Nat.le_refl _, Nat.zero_le _⟩
 ·simp [Value.cells] at hcs
  obtain ⟨rfl, rfl, rfl⟩ := hcs
  simp only [if_true] at hmm
  subst hmm
  rw [cells_op] at hi
  have key : ∀ i, i < len → ∃ y : OpX, OpA W y.1 y.2.1 y.2.2 ∧ y.1.dc + y.1.ec ≤ Rows.uptoBulk (D i) ∧ ∃ b o, x = ⟨b, o, none⟩ ∧ ∀ k u, (encO y.1)[k]? = some u → W.cell? ⟨b, o + i * 7 + k, none⟩ = some u := by
   intro i hil
   obtain ⟨cs', hc, ht⟩ := hi i (by omega)
   obtain ⟨_, hcl, hat⟩ := World.cells?_some hc
   obtain ⟨q, h1, h2, h3⟩ := trod_op hcl ht
   have hx0 : x.spot = none := by
    obtain ⟨cs0, hc0, _⟩ := hi 0 (by omega)
    obtain ⟨_, hcl0, hat0⟩ := World.cells?_some hc0
    have h4 : W.cell? ((x.add (0 * 7)).add 0) = some (cs0[0]'(by omega)) := by rw [hat0 0 (by omega), List.getElem?_eq_getElem (by omega)]
    rw [Nat.zero_mul] at h4
    have e0 : x.add 0 = x := by unfold Addr.add; rw [if_pos rfl]
    rw [e0, e0] at h4
    exact spot_none h4
   obtain ⟨b, o, sp⟩ := x
   simp only at hx0
   subst hx0
   refine ⟨q, h2, h3, b, o, rfl, fun k u hu => ?_⟩
   have hk : k < 7 := (List.getElem?_eq_some_iff.1 hu).1
   have h4 := hat k (by omega)
   rw [addO, addO] at h4
   rw [h4, ← hu, ← h1]
  obtain ⟨f, hff⟩ := choose_lt (p := fun i (y : OpX) => OpA W y.1 y.2.1 y.2.2 ∧ y.1.dc + y.1.ec ≤ Rows.uptoBulk (D i) ∧ ∃ b o, x = ⟨b, o, none⟩ ∧ ∀ k u, (encO y.1)[k]? = some u → W.cell? ⟨b, o + i * 7 + k, none⟩ = some u) key
  simp only [Prod.mk.injEq] at hx
  obtain ⟨rfl, _⟩ := hx
  refine ⟨(some x, len, _, (List.range len).map f), rfl, fun hbd i y hy => ?_, by simp, hl, hm⟩
  simp only [List.getElem?_map, Option.map_eq_some_iff] at hy
  obtain ⟨j, hj, rfl⟩ := hy
  have hjl := (List.getElem?_eq_some_iff.1 hj).1
  rw [List.length_range] at hjl
  obtain rfl : i = j := by
   have := (List.getElem?_eq_some_iff.1 hj).2
   simpa using this
  obtain ⟨g1, g2, b, o, rfl, g4⟩ := hff i hjl
  refine ⟨g1, ?_, b, o, rfl, g4⟩
  have h6 := bulkAll_get ((List.range len).map D) (D i) (List.mem_map.2 ⟨i, List.mem_range.2 hjl, rfl⟩)
  simp only [Rows.uptoBulk] at hbd
  omega
end Go.Proofs.YtpiiklfnakkdiaaGreat
