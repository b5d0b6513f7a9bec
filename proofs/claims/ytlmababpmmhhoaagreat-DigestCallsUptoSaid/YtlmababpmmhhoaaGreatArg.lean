
/- Arguments that are bytes: how they read, and that they are kept; under the conditions that each names. -/
import Derived.Test.YtlmababpmmhhoaaGreatKit
import Derived.ProofKit
import Derived.OpenShut
import Derived.ChangeOld
namespace Go.Sep
open Go.RowKit
set_option linter.unusedVariables false
/-- What lay there when the call began. -/
theorem Sat.arg {W : World} {L : List Assn} {b o : Nat} {vs : List Value} (h : Sat W W L) (hc : ∀ i v, vs[i]? = some v → W.cell? ⟨b, o + i, none⟩ = some v) : Sat W W (seg false b o vs :: L) := by
  obtain ⟨hb, hs, hf⟩ := h
  refine ⟨hb, Hp.of (fun b' o' => if b' = b ∧ o ≤ o' then (vs[o' - o]?).map (false, ·) else none) :: hs, .cons ?_ (Hp.of_ok ?_) (fun k hk => Hp.of_dis ?_) hf⟩
  · intro i v hv
    show (if _ then _ else _) = _
    rw [if_pos ⟨rfl, by omega⟩, Nat.add_sub_cancel_left, hv]; rfl
  · intro b' o' m v hx
    split at hx
    · rename_i e
      obtain ⟨rfl, ho⟩ := e
      simp only [Option.map_eq_some_iff, Prod.mk.injEq] at hx
      obtain ⟨u, hu, rfl, rfl⟩ := hx
      refine ⟨?_, fun h => by cases h⟩
      have := hc _ _ hu
      rwa [show o + (o' - o) = o' by omega] at this
    · cases hx
  · intro b' o' x y hx hy
    split at hx
    · rename_i e
      obtain ⟨rfl, ho⟩ := e
      simp only [Option.map_eq_some_iff] at hx
      obtain ⟨u, hu, rfl⟩ := hx
      have h1 := hc _ _ hu
      rw [show o + (o' - o) = o' by omega] at h1
      obtain ⟨h2, h3⟩ := (hf.okAll k hk).1 b' o' y.1 y.2 hy
      have h4 : y.1 = false := by
        cases hy1 : y.1 with
        | false => rfl
        | true =>
          have h5 := (h3 hy1).2
          have h6 := World.block_lt_of_cell? W _ h2
          exact absurd h6 (Nat.not_lt.2 h5)
      rw [h1] at h2
      cases h2
      obtain ⟨y1, y2⟩ := y
      simp only at h4
      subst h4
      exact ⟨rfl, rfl⟩
    · cases hx
end Go.Sep
namespace Go.Proofs.YtlmababpmmhhoaaGreat
open Go.RowKit Go.Sep Go.Bv Go.Sha
open Go.ChangeShapes Go.WideShapes Go.ChangeAt
set_option linter.unusedVariables false
set_option linter.unusedSimpArgs false
/-- A slice that reads as bytes. -/
def IsBytes (W : World) (p : Option Addr) (n c : Nat) (bs : List Byte) : Prop :=
  bs.length = n ∧ n ≤ c ∧ c ≤ maxLen ∧ (bs = [] ∨ ∃ b o, p = some ⟨b, o, none⟩ ∧ ∀ i v, (u8s bs)[i]? = some v → W.cell? ⟨b, o + i, none⟩ = some v)
theorem IsBytes.sat {W : World} {L : List Assn} {p : Option Addr} {n c : Nat} {bs : List Byte} (h : IsBytes W p n c bs) (hs : Sat W W L) : Sat W W (bytes false p bs :: L) := by
  obtain ⟨_, _, _, rfl | ⟨b, o, rfl, hc⟩⟩ := h
  · exact bytesNil false p hs
  · exact bytesOf (hs.arg hc)
theorem cells_u8 : Tryz.prog.cellsOf 5 = 1 := by kernel_rfl
theorem v8_ofInt (z : Int) (h1 : 0 ≤ z) (h2 : z < 256) : v8 (BitVec.ofInt 8 z) = z := by
  unfold v8; rw [BitVec.toNat_ofInt]; omega
theorem bulk_lits {H : Type} (k : IntKind) : ∀ (zs : List Int), Rows.uptoBulkAll (H := H) (lits k zs) = zs.length
  | [] => rfl
  | z :: zs => by
    have := bulk_lits (H := H) k zs
    simp only [lits, List.map_cons, Rows.uptoBulkAll, Rows.uptoBulk, List.length_cons] at this ⊢
    omega
set_option maxRecDepth 100000 in
theorem open_bytes {H : Type} {enc : TypeId × Value → H} {W : World} {base b0 : Nat} {held : Bool} {v : Value} {d : DataW H} {p : List MemPlace} (hv : Value.okWide Tryz.prog W .any b0 41 v) (h : DataW.Trod enc Tryz.prog W base (fun _ => true) held 41 v d p) :
    ∃ q : Option Addr × Nat × Nat × List Byte, v = .slice q.1 q.2.1 q.2.2.1 ∧ IsBytes W q.1 q.2.1 q.2.2.1 q.2.2.2 ∧ q.2.2.1 + 1 ≤ Rows.uptoBulk d := by
  obtain ⟨a, len, cap, rfl⟩ := okWide_slice Tryz.underlying41 hv
  obtain ⟨fuel, hf⟩ := h
  rcases open_ints (k := .u8) Tryz.underlying41 Tryz.underlying5 cells_u8 hf with ⟨hcs, hx⟩ | ⟨x, l, c, zs, hcs, _, hl, hm, hz, hx, hc, hwf⟩
  · simp [Value.cells] at hcs
    obtain ⟨rfl, rfl, rfl⟩ := hcs
    simp only [Prod.mk.injEq] at hx
    obtain ⟨rfl, _⟩ := hx
    exact ⟨(none, 0, 0, []), rfl, ⟨rfl, Nat.le_refl _, Nat.zero_le _, .inl rfl⟩, by simp [Rows.uptoBulk]⟩
  · simp [Value.cells] at hcs
    obtain ⟨rfl, rfl, rfl⟩ := hcs
    simp only [if_true] at hz
    simp only [Prod.mk.injEq] at hx
    obtain ⟨rfl, _⟩ := hx
    have hlen : (zs.take len).length = len := by rw [List.length_take]; omega
    refine ⟨(some x, len, cap, (zs.take len).map (BitVec.ofInt 8)), rfl, ⟨by rw [List.length_map, hlen], hl, hm, ?_⟩, ?_⟩
    · by_cases h0 : len = 0
      · subst h0; exact .inl (by simp)
      · have hc0 := hc 0 (by omega)
        have hx0 : x.spot = none := by
          unfold World.cell? at hc0
          cases hs : x.spot with
          | none => rfl
          | some s =>
            simp only [Addr.add, hs] at hc0
            split at hc0 <;> simp_all
        obtain ⟨b, o, sp⟩ := x
        simp only at hx0
        subst hx0
        refine .inr ⟨b, o, rfl, fun i v hv => ?_⟩
        simp only [u8s, List.map_map, List.getElem?_map, Option.map_eq_some_iff, Function.comp] at hv
        obtain ⟨z, hz1, rfl⟩ := hv
        rw [List.getElem?_take] at hz1
        split at hz1
        · rename_i hi
          have hc1 := hc i (by omega)
          have hzm : z ∈ zs := List.mem_of_getElem? hz1
          have hw := hwf z hzm
          have hzb : 0 ≤ z ∧ z < 256 := by
            simp only [Lit.wf, Bool.and_eq_true, decide_eq_true_eq] at hw
            have h1 : IntKind.u8.min = 0 := rfl
            have h2 : IntKind.u8.max = 255 := rfl
            rw [h1, h2] at hw
            omega
          rw [v8_ofInt z hzb.1 hzb.2]
          rw [add_lit'] at hc1
          rw [hc1, List.getD_eq_getElem?_getD, hz1]; rfl
        · cases hz1
    · simp only [Rows.uptoBulk, bulk_lits, List.length_take, List.length_drop]
      omega
end Go.Proofs.YtlmababpmmhhoaaGreat
