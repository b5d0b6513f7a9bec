/- Cmac5, Cmac6: texts that lie apart elsewhere, as one; each under the conditions that it names. -/
import Derived.Test.YtpiiklfnakkdiaaGreatCmac4

/- CMAC: a mac copied, its form, wiped; under the conditions that each names. -/
namespace Go.Proofs.YtpiiklfnakkdiaaGreat
open Go.RowKit Go.Sep Go.Bv Go.Aes
set_option linter.unusedVariables false
set_option linter.unusedSimpArgs false
section
variable {P : Program} {w : World} {T : TypeId}
end
end Go.Proofs.YtpiiklfnakkdiaaGreat

/- CMAC: a mac's form, wiped; under the conditions that each names. -/
namespace Go.Proofs.YtpiiklfnakkdiaaGreat
open Go.RowKit Go.Sep Go.Bv Go.Aes
set_option linter.unusedVariables false
set_option linter.unusedSimpArgs false
/-- What a mac's form lays: the round keys, the four blocks, how many bytes wait. -/
def cmForm (kl : Nat) (ks k1 k2 ch wt : List Byte) (n : Nat) : List Byte := ks.take (16 * (kl / 4 + 7)) ++ (k1 ++ k2 ++ ch ++ wt) ++ [BitVec.ofNat 8 n]
end Go.Proofs.YtpiiklfnakkdiaaGreat
