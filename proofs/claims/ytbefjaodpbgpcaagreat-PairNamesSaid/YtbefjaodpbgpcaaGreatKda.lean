
/- The kinds of sessions by their numbers; what the code 0 says; under the conditions that each names. -/
import Derived.Test.YtbefjaodpbgpcaaGreatHB
namespace Go.Proofs.YtbefjaodpbgpcaaGreat
open Go.RowKit Go.Sep Go.Bv Go.Kec Go.Aes Go.Sha
set_option linter.unusedVariables false
set_option linter.unusedSimpArgs false
def kindA : Nat → MKind
 | 1 => .hm false
 | 2 => .hm true
 | 3 => .cm
 | 4 => .km false false
 | 5 => .km true false
 | 6 => .km false true
 | _ => .km true true
theorem kindA_alg : ∀ a, 1 ≤ a → a ≤ 7 → (kindA a).alg = a
 | 0, h, _ => by omega
 | 1, _, _ => rfl
 | 2, _, _ => rfl
 | 3, _, _ => rfl
 | 4, _, _ => rfl
 | 5, _, _ => rfl
 | 6, _, _ => rfl
 | 7, _, _ => rfl
 | n + 8, _, h => by omega
/-- What the code 0 says. -/
theorem code_fits {K : MKind} {key custom : List Byte} {out : Int} (h : K.code key.length custom.length out = 0) (hk : key.length ≤ 100000000) : ∃ o : Nat, out = (o : Int) ∧ K.fits key custom o := by
 unfold MKind.code at h
 by_cases h7 : K.keyOk key.length = false
 ·rw [if_pos h7] at h; cases h
 rw [if_neg h7] at h
 by_cases h2 : 0 < custom.length ∧ K.cust = false
 ·rw [if_pos h2] at h; cases h
 rw [if_neg h2] at h
 by_cases h9 : 64 < custom.length
 ·rw [if_pos h9] at h; cases h
 rw [if_neg h9] at h
 by_cases h11 : out < 1 ∨ (K.most : Int) < out
 ·rw [if_pos h11] at h; cases h
 obtain ⟨o, rfl⟩ : ∃ o : Nat, out = (o : Int) := ⟨out.toNat, by omega⟩
 refine ⟨o, rfl, by omega, by omega, hk, ?_⟩
 cases K with
 | hm wide =>
  simp only [MKind.cust, and_true] at h2
  exact List.eq_nil_of_length_eq_zero (by omega)
 | cm =>
  simp only [MKind.cust, and_true] at h2
  refine ⟨List.eq_nil_of_length_eq_zero (by omega), ?_⟩
  simp only [MKind.keyOk, Bool.not_eq_false, Bool.or_eq_true, beq_iff_eq] at h7
  omega
 | km large xof => simp only; omega
end Go.Proofs.YtbefjaodpbgpcaaGreat
