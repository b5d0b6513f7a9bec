
/- awake of layer 16's statements: the chapter's examples; under the condition that it names. -/
import Derived.Test.YtmohabidfalhoaaGreatL16
namespace Go.Proofs.YtmohabidfalhoaaGreat
open Go.RowKit Go.Sep Go.Bv Go.Sha
set_option linter.unusedVariables false
set_option linter.unusedSimpArgs false
theorem pbTake_len (wide : Bool) (key salt : List Byte) (count n : Nat) : ((pbMany wide key salt count (pbM wide n)).take n).length = n := by
  rw [List.length_take, pbMany_len]; have := pbM_ge wide n; omega
end Go.Proofs.YtmohabidfalhoaaGreat
