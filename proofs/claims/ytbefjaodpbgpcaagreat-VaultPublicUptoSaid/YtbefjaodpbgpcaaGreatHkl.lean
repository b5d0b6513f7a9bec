
import Derived.Test.YtbefjaodpbgpcaaGreatGH
set_option linter.unusedVariables false
set_option linter.unusedSimpArgs false
set_option maxRecDepth 100000
set_option maxHeartbeats 16000000
namespace Go.Proofs.YtbefjaodpbgpcaaGreat
open Go.RowKit Go.Sep Go.Bv Go.Sha
theorem hkdf_len (wide : Bool) (prk info : List Byte) (n : Nat) (h0 : 0 < n) (h : n ≤ 255 * hsz wide) : (hkdf wide prk info n).length = n := by
 unfold hkdf
 have h1 := hkM_bd wide n h0 h
 rw [List.length_take, hkOut_len]
 omega
end Go.Proofs.YtbefjaodpbgpcaaGreat
