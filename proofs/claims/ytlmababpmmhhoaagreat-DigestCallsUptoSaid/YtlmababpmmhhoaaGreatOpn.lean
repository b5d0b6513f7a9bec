
/- Arguments that are lists of calls with bytes in them: how they read; under the conditions that each names. -/
import Derived.Test.YtlmababpmmhhoaaGreatArg
import Derived.Deep.Slices
namespace Go.Proofs.YtlmababpmmhhoaaGreat
open Go.RowKit Go.Sep Go.Bv Go.Sha
open Go.ChangeShapes Go.WideShapes Go.ChangeAt
set_option linter.unusedVariables false
set_option linter.unusedSimpArgs false
theorem spot_none {W : World} {x : Addr} {v : Value} (h : W.cell? x = some v) : x.spot = none := by
  unfold World.cell? at h
  cases hs : x.spot with
  | none => rfl
  | some s => simp only [hs] at h; split at h <;> simp_all
/-- Bytes out of a value that reads as bytes, where it stands among others. -/
theorem trod_bytes {H : Type} {enc : TypeId × Value → H} {W : World} {base : Nat} {held : Bool} {fuel : Nat} {cs : List Value} {d : DataW H} {p : List MemPlace} (h : DataW.trod enc Tryz.prog W base (fun _ => true) held fuel 41 cs = some (d, p)) :
    ∃ q : Option Addr × Nat × Nat × List Byte, cs = [.slice q.1 q.2.1 q.2.2.1] ∧ IsBytes W q.1 q.2.1 q.2.2.1 q.2.2.2 ∧ q.2.2.1 + 1 ≤ Rows.uptoBulk d := by
  rcases open_ints (k := .u8) Tryz.underlying41 Tryz.underlying5 cells_u8 h with ⟨hcs, hx⟩ | ⟨x, l, c, zs, hcs, _, hl, hm, hz, hx, hc, hwf⟩
  · simp only [Prod.mk.injEq] at hx
    obtain ⟨rfl, _⟩ := hx
    exact ⟨(none, 0, 0, []), hcs, ⟨rfl, Nat.le_refl _, Nat.zero_le _, .inl rfl⟩, by simp [Rows.uptoBulk]⟩
  · simp only [if_true] at hz
    simp only [Prod.mk.injEq] at hx
    obtain ⟨rfl, _⟩ := hx
    have hlen : (zs.take l).length = l := by rw [List.length_take]; omega
    refine ⟨(some x, l, c, (zs.take l).map (BitVec.ofInt 8)), hcs, ⟨by rw [List.length_map, hlen], hl, hm, ?_⟩, ?_⟩
    · by_cases h0 : l = 0
      · subst h0; exact .inl (by simp)
      · have hx0 := spot_none (hc 0 (by omega))
        obtain ⟨b, o, sp⟩ := x
        have hsp : sp = none := by
          have : (Addr.add ⟨b, o, sp⟩ 0).spot = none := hx0
          unfold Addr.add at this
          cases sp with
          | none => rfl
          | some s => simp at this
        subst hsp
        refine .inr ⟨b, o, rfl, fun i v hv => ?_⟩
        simp only [u8s, List.map_map, List.getElem?_map, Option.map_eq_some_iff, Function.comp] at hv
        obtain ⟨z, hz1, rfl⟩ := hv
        rw [List.getElem?_take] at hz1
        split at hz1
        · rename_i hi
          have hc1 := hc i (by omega)
          have hzm : z ∈ zs := List.mem_of_getElem? hz1
          have hw := hwf z hzm
          have hzb : 0 ≤ z ∧ z < 256 := by
            simp only [Lit.wf, Bool.and_eq_true, decide_eq_true_eq] at hw
            have h1 : IntKind.u8.min = 0 := rfl
            have h2 : IntKind.u8.max = 255 := rfl
            rw [h1, h2] at hw
            omega
          rw [v8_ofInt z hzb.1 hzb.2]
          rw [add_lit'] at hc1
          rw [hc1, List.getD_eq_getElem?_getD, hz1]; rfl
        · cases hz1
    · simp only [Rows.uptoBulk, bulk_lits, List.length_take, List.length_drop]
      omega
end Go.Proofs.YtlmababpmmhhoaaGreat
