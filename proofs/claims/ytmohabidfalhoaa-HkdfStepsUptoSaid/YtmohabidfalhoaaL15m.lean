/- What layer 15's statements say, in plain Lean: prefixes, pieces, noughts; the chapter's examples; under the conditions that each names. -/
import Derived.Test.YtmohabidfalhoaaHk4
namespace Go.Sha
open Go.Bv
theorem hkM_ge (wide : Bool) (n : Nat) : n ≤ hkM wide n * hsz wide := by cases wide <;> simp only [hkM, hsz] <;> omega
theorem hkOut_take (wide : Bool) (prk info : List Byte) {m k n : Nat} (h1 : n ≤ m * hsz wide) (h2 : n ≤ k * hsz wide) : (hkOut wide prk info m).take n = (hkOut wide prk info k).take n := by
  have key1 : ∀ d m, n ≤ m * hsz wide → (hkOut wide prk info (m + d)).take n = (hkOut wide prk info m).take n := by
    intro d
    induction d with
    | zero => intro m _; rfl
    | succ d ih =>
      intro m h
      rw [← ih m h, ← Nat.add_assoc, hkOut, List.take_append_of_le_length]
      rw [hkOut_len, Nat.add_mul]; omega
  rcases Nat.le_total m k with h | h
  · rw [← key1 (k - m) m h1, Nat.add_sub_cancel' h]
  · rw [← key1 (m - k) k h2, Nat.add_sub_cancel' h]
theorem hkdf_take (wide : Bool) (prk info : List Byte) {k n : Nat} (h : k ≤ n) : (hkdf wide prk info n).take k = hkdf wide prk info k := by
  unfold hkdf
  rw [List.take_take, Nat.min_eq_left h]
  exact hkOut_take wide prk info (by have := hkM_ge wide n; omega) (hkM_ge wide k)
theorem hkdf_len (wide : Bool) (prk info : List Byte) (n : Nat) : (hkdf wide prk info n).length = n := by
  unfold hkdf
  rw [List.length_take, hkOut_len]
  have := hkM_ge wide n
  omega
theorem hkdf_part (wide : Bool) (prk info : List Byte) (i n d : Nat) (h1 : i * hsz wide + d ≤ n) (h2 : d ≤ hsz wide) : ((hkdf wide prk info n).drop (i * hsz wide)).take d = (hkT wide prk info (i + 1)).take d := by
  have e1 : ((hkdf wide prk info n).drop (i * hsz wide)).take d = ((hkdf wide prk info n).take (i * hsz wide + d)).drop (i * hsz wide) := by
    rw [List.drop_take, Nat.add_sub_cancel_left]
  rw [e1, hkdf_take wide prk info h1]
  unfold hkdf
  rw [hkOut_take wide prk info (hkM_ge wide _) (k := i + 1) (by rw [Nat.succ_mul]; omega), hkOut, List.drop_take, Nat.add_sub_cancel_left, List.drop_left' (hkOut_len wide prk info i)]
theorem xorKey_noughts (wide : Bool) (m : Nat) (x : Byte) : xorKey wide (List.replicate m 0) x = xorKey wide [] x := by
  unfold xorKey
  refine List.map_congr_left fun i _ => ?_
  rw [List.getD_eq_getElem?_getD, List.getElem?_replicate]
  split <;> rfl
theorem hmac_noughts (wide : Bool) (m : Nat) (h : m ≤ bsz wide) (msg : List Byte) : hmac wide (List.replicate m 0) msg = hmac wide [] msg := by
  have e : ∀ k : List Byte, k.length ≤ bsz wide → blockKey wide k = k := fun k h => if_neg (by omega)
  unfold hmac
  rw [e _ (by simpa using h), e [] (by simp), xorKey_noughts, xorKey_noughts]
end Go.Sha
namespace Go.Proofs.Ytmohabidfalhoaa
open Go.RowKit Go.Sep Go.Bv Go.Sha
def hex15a : List UInt8 := [48, 55, 55, 55, 48, 57, 51, 54, 50, 99, 50, 101, 51, 50, 100, 102, 48, 100, 100, 99, 51, 102, 48, 100, 99, 52, 55, 98, 98, 97, 54, 51, 57, 48, 98, 54, 99, 55, 51, 98, 98, 53, 48, 102, 57, 99, 51, 49, 50, 50, 101, 99, 56, 52, 52, 97, 100, 55, 99, 50, 98, 51, 101, 53]
def hex15b : List UInt8 := [51, 99, 98, 50, 53, 102, 50, 53, 102, 97, 97, 99, 100, 53, 55, 97, 57, 48, 52, 51, 52, 102, 54, 52, 100, 48, 51, 54, 50, 102, 50, 97, 50, 100, 50, 100, 48, 97, 57, 48, 99, 102, 49, 97, 53, 97, 52, 99, 53, 100, 98, 48, 50, 100, 53, 54, 101, 99, 99, 52, 99, 53, 98, 102, 51, 52, 48, 48, 55, 50, 48, 56, 100, 53, 98, 56, 56, 55, 49, 56, 53, 56, 54, 53]
theorem ex15a : hmac false (risen 0 13) (List.replicate 22 11) = unhexL hex15a := by decide +kernel
theorem ex15b : hkdf false (unhexL hex15a) (risen 240 10) 42 = unhexL hex15b := by decide +kernel
theorem ex15k : hkdf false (hmac false (risen 0 13) (List.replicate 22 11)) (risen 240 10) 42 = unhexL hex15b := by rw [ex15a]; exact ex15b
end Go.Proofs.Ytmohabidfalhoaa
