
/- Layer 12's program: what a mac is asked; under the conditions that each names. -/
import Derived.Test.YtlmababpmmhhoaaGreatHmac
namespace Go.Proofs.YtlmababpmmhhoaaGreat
open Go.RowKit Go.Sep Go.Bv Go.Sha
set_option linter.unusedVariables false
set_option linter.unusedSimpArgs false
@[go_sem] theorem neq_small (b : Nat) (w : World) : (binOp .neq 31 (.iface 87 (.agg #[.pointer (some ⟨b, 0, none⟩)])) .nilIface).run Tryz.prog w = .ok (.bool true) w := by kernel_rfl
@[go_sem] theorem neq_big (b : Nat) (w : World) : (binOp .neq 31 (.iface 91 (.agg #[.pointer (some ⟨b, 0, none⟩)])) .nilIface).run Tryz.prog w = .ok (.bool true) w := by kernel_rfl
/-- How many blocks Sum works on, behind a message of n bytes. -/
def endN (wide : Bool) (n : Nat) : Nat := (padN wide (bsz wide + n) - (bsz wide + n) / bsz wide) + 1
end Go.Proofs.YtlmababpmmhhoaaGreat
