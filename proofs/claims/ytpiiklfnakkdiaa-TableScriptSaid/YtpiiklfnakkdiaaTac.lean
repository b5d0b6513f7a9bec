
/- TableScript: calls as an argument; under the conditions that each names. -/
import Derived.Test.YtpiiklfnakkdiaaRfh
import Derived.Deep.Slices
import Derived.ProofKit
import Derived.OpenShut
import Derived.ChangeOld
import Derived.JoinedCond
import Derived.Carry
namespace Go.Proofs.Ytpiiklfnakkdiaa
open Go.RowKit Go.Sep
open Go.ChangeShapes Go.WideShapes Go.ChangeAt Go.Deep
set_option linter.unusedVariables false
set_option linter.unusedSimpArgs false
abbrev A4 := Int × Int × Int × Int
def IsActs (W : World) (a : Option Addr) (len : Nat) (acts : List A4) : Prop :=
  acts.length = len ∧ len ≤ 9223372036854775807 ∧ ∀ i x, acts[i]? = some x → ∃ b o, a = some ⟨b, o, none⟩ ∧
    W.cell? ⟨b, o + i * 4, none⟩ = some (.int .i64 x.1) ∧ W.cell? ⟨b, o + i * 4 + 1, none⟩ = some (.int .i64 x.2.1) ∧
    W.cell? ⟨b, o + i * 4 + 2, none⟩ = some (.int .i64 x.2.2.1) ∧ W.cell? ⟨b, o + i * 4 + 3, none⟩ = some (.int .i64 x.2.2.2) ∧
    (-9223372036854775808 ≤ x.2.1 ∧ x.2.1 ≤ 9223372036854775807) ∧ (-9223372036854775808 ≤ x.2.2.1 ∧ x.2.2.1 ≤ 9223372036854775807)
theorem wf64 {n : Int} (h : (Lit.int .i64 n).wf = true) : -9223372036854775808 ≤ n ∧ n ≤ 9223372036854775807 := by
  simpa [Lit.wf, IntKind.min, IntKind.max, IntKind.signed, IntKind.bits] using h
theorem cells29 : Try.prog.cellsOf 44 = 4 := by kernel_rfl
theorem cells3 : Try.prog.cellsOf 3 = 1 := by kernel_rfl
theorem add_at {b o n : Nat} : (Addr.mk b o none).add n = ⟨b, o + n, none⟩ := by
  unfold Addr.add; split <;> simp_all
set_option maxRecDepth 100000 in
theorem open_acts {H : Type} {enc : TypeId × Value → H} {W : World} {base b0 : Nat} {held : Bool} {v : Value} {d : DataW H} {p : List MemPlace} (hv : Value.okWide Try.prog W .any b0 22 v) (h : DataW.Trod enc Try.prog W base (fun _ => true) held 22 v d p) :
    ∃ q : Option Addr × Nat × Nat × List A4, v = .slice q.1 q.2.1 q.2.2.1 ∧ IsActs W q.1 q.2.1 q.2.2.2 := by
  obtain ⟨a, len, cap, rfl⟩ := okWide_slice Try.underlying22 hv
  obtain ⟨fuel, hf⟩ := h
  rcases open_slice Try.underlying22 hf with ⟨hcs, hx⟩ | ⟨x, l, c, m, n, D, Pl, hcs, _, hl, hm, hmm, hx, hi⟩
  · simp [Value.cells] at hcs
    obtain ⟨rfl, rfl, rfl⟩ := hcs
    refine ⟨(none, 0, 0, []), rfl, rfl, Nat.zero_le _, ?_⟩
    intro i y hy
    cases hy
  · simp [Value.cells] at hcs
    obtain ⟨rfl, rfl, rfl⟩ := hcs
    simp only [if_true] at hmm
    subst hmm
    rw [cells29] at hi
    have key : ∀ i, i < len → ∃ y : A4, ∃ b o, x = ⟨b, o, none⟩ ∧
        W.cell? ⟨b, o + i * 4, none⟩ = some (.int .i64 y.1) ∧ W.cell? ⟨b, o + i * 4 + 1, none⟩ = some (.int .i64 y.2.1) ∧
        W.cell? ⟨b, o + i * 4 + 2, none⟩ = some (.int .i64 y.2.2.1) ∧ W.cell? ⟨b, o + i * 4 + 3, none⟩ = some (.int .i64 y.2.2.2) ∧
        (-9223372036854775808 ≤ y.2.1 ∧ y.2.1 ≤ 9223372036854775807) ∧ (-9223372036854775808 ≤ y.2.2.1 ∧ y.2.2.1 ≤ 9223372036854775807) := by
      intro i hil
      obtain ⟨cs', hc, ht⟩ := hi i (by omega)
      obtain ⟨xs, n', _, _, _, hlen, hfld⟩ := DataW.trod_struct Try.underlying44 ht
      obtain ⟨_, hcl, hat⟩ := World.cells?_some hc
      match cs', hcl with
      | [c0, c1, c2, c3], _ =>
        match xs, hlen with
        | [y0, y1, y2, y3], _ =>
          have f0 : DataW.trod enc Try.prog W base (fun _ => true) held n' 3 (List.take (Try.prog.cellsOf 3) (List.drop 0 [c0, c1, c2, c3])) = some y0 := hfld 0 _ rfl
          have f1 : DataW.trod enc Try.prog W base (fun _ => true) held n' 3 (List.take (Try.prog.cellsOf 3) (List.drop 1 [c0, c1, c2, c3])) = some y1 := hfld 1 _ rfl
          have f2 : DataW.trod enc Try.prog W base (fun _ => true) held n' 3 (List.take (Try.prog.cellsOf 3) (List.drop 2 [c0, c1, c2, c3])) = some y2 := hfld 2 _ rfl
          have f3 : DataW.trod enc Try.prog W base (fun _ => true) held n' 3 (List.take (Try.prog.cellsOf 3) (List.drop 3 [c0, c1, c2, c3])) = some y3 := hfld 3 _ rfl
          rw [cells3] at f0 f1 f2 f3
          obtain ⟨n0, e0, _, w0⟩ := DataW.trod_int Try.underlying3 f0
          obtain ⟨n1, e1, _, w1⟩ := DataW.trod_int Try.underlying3 f1
          obtain ⟨n2, e2, _, w2⟩ := DataW.trod_int Try.underlying3 f2
          obtain ⟨n3, e3, _, w3⟩ := DataW.trod_int Try.underlying3 f3
          simp at e0 e1 e2 e3
          subst e0 e1 e2 e3
          have g0 := hat 0 (by omega)
          have g1 := hat 1 (by omega)
          have g2 := hat 2 (by omega)
          have g3 := hat 3 (by omega)
          obtain ⟨b, o, sp⟩ := x
          have hsp : sp = none := by
            obtain ⟨cs0, hc0, _⟩ := hi 0 (by omega)
            obtain ⟨_, hcl0, hat0⟩ := World.cells?_some hc0
            have h1 := hat0 0 (by omega)
            rw [List.getElem?_eq_getElem (by omega)] at h1
            have h2 := World.cell?_spot h1
            simpa [Addr.add] using h2
          subst hsp
          rw [add_at, add_at] at g0 g1 g2 g3
          exact ⟨(n0, n1, n2, n3), b, o, rfl, g0, g1, g2, g3, wf64 w1, wf64 w2⟩
    obtain ⟨V, hV⟩ := choose_lt key
    refine ⟨(some x, len, _, (List.range len).map V), rfl, by simp, by show len ≤ _; unfold maxLen at hm; omega, ?_⟩
    intro i y hy
    simp only [List.getElem?_map] at hy
    by_cases hil : i < len
    · rw [List.getElem?_range hil] at hy
      simp only [Option.map_some, Option.some.injEq] at hy
      subst hy
      obtain ⟨b, o, rfl, h⟩ := hV i hil
      exact ⟨b, o, rfl, h⟩
    · rw [List.getElem?_eq_none (by simp; omega)] at hy
      simp at hy
end Go.Proofs.Ytpiiklfnakkdiaa
