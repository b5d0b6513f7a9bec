
/- The contracts of layer 16 in forms that fit; what refuses; under the conditions that each names. -/
import Derived.Test.YtmohabidfalhoaaGreatL16a
import Derived.Test.YtmohabidfalhoaaGreatLed2
import Derived.Test.YtmohabidfalhoaaGreatArg
namespace Go.Proofs.YtmohabidfalhoaaGreat
open Go.RowKit Go.Sep Go.Bv Go.Sha
set_option linter.unusedVariables false
set_option linter.unusedSimpArgs false
theorem keyF {W0 w : World} {L : List Assn} {m m2 : Bool} {pk ps : Option Addr} {ck cs nk ns : Nat} {pv : Value} {al cv nv : Int} (wide : Bool) (p : Option Nat) (rs : List Run3) (key salt : List Byte) (count n : Nat) (hnk : key.length = nk) (hns : salt.length = ns) (hp : pv = ptrO p) (ha : al = algN wide) (hcv : cv = (count : Int)) (hnv : nv = (n : Int))
    (hs : Sat W0 w (ledO p rs :: bytes m pk key :: bytes m2 ps salt :: L)) (hk1 : nk ≤ ck) (hk2 : ck ≤ maxLen) (hc1 : ns ≤ cs) (hm1 : cs ≤ maxLen) (h1 : 1 ≤ count) (h2 : count ≤ 1048576) (hn : n ≤ 16320)
    (hb : tot rs + 4 * nk + 1000 * ns + 9000000000 ≤ 2305843009213693952) (hl : rs.length + 16 ≤ 1048576) :
    Calls Tryz.prog 25 #[pv, .int .u8 al, .slice pk nk ck, .slice ps ns cs, .int .i64 cv, .int .i64 nv] w fun e w' => ∃ q, e = .returned (.tuple #[.slice q n n, .int .i64 0]) ∧ Sat W0 w' (bytes true q ((pbMany wide key salt count (pbM wide n)).take n) :: ledO p (noteN rs (evK wide) (evS wide) (keyN wide nk + pbM wide n * pbN wide ns count)) :: bytes m pk key :: bytes m2 ps salt :: L) := by
  subst hnk hns hp ha hcv hnv
  refine (pbKey wide p rs key salt count n hk1 hk2 hc1 hm1 h1 h2 hn hb hl hs).mono ?_
  rintro e w' ⟨q, rfl, s⟩
  exact ⟨q, rfl, (rowBytes s).2.2.2⟩
theorem blockF {W0 w : World} {L : List Assn} {m m2 : Bool} {pk ps : Option Addr} {ck cs nk ns : Nat} {pv : Value} {al cv iv : Int} (wide : Bool) (p : Option Nat) (rs : List Run3) (key salt : List Byte) (count i : Nat) (hnk : key.length = nk) (hns : salt.length = ns) (hp : pv = ptrO p) (ha : al = algN wide) (hcv : cv = (count : Int)) (hiv : iv = (i : Int))
    (hs : Sat W0 w (ledO p rs :: bytes m pk key :: bytes m2 ps salt :: L)) (hk1 : nk ≤ ck) (hk2 : ck ≤ maxLen) (hc1 : ns ≤ cs) (hm1 : cs ≤ maxLen) (h1 : 1 ≤ count) (h2 : count ≤ 1048576) (hi1 : 1 ≤ i) (hi : i < 4294967296)
    (hb : tot rs + 4 * nk + 2 * ns + 9000000 ≤ 2305843009213693952) (hl : rs.length + 16 ≤ 1048576) :
    Calls Tryz.prog 22 #[pv, .int .u8 al, .slice pk nk ck, .slice ps ns cs, .int .i64 cv, .int .i64 iv] w fun e w' => ∃ q cq, e = .returned (.tuple #[.slice q (hsz wide) cq, .int .i64 0]) ∧ Sat W0 w' (bytes true q (pbBlock wide key salt count i) :: ledO p (noteN rs (evK wide) (evS wide) (keyN wide nk + pbN wide ns count)) :: bytes m pk key :: bytes m2 ps salt :: L) := by
  subst hnk hns hp ha hcv hiv
  refine (pbBlockOf wide p rs key salt count i hk1 hk2 hc1 hm1 h1 h2 hi1 hi hb hl hs).mono ?_
  rintro e w' ⟨q, cq, rfl, s⟩
  exact ⟨q, cq, rfl, (rowBytes s).2.2.2⟩
theorem pickF {w : World} {i nv : Int} (n : Nat) (hn : nv = (n : Int)) (h : 0 < n) (hb : n ≤ 4294967296) : Calls Tryz.prog 31 #[.int .i64 i, .int .i64 nv] w fun e w' => ∃ k : Nat, k < n ∧ e = .returned (.int .i64 (k : Int)) ∧ w = w' := by
  subst hn
  refine (pick16 w i n h hb).mono ?_
  rintro e w' ⟨rfl, rfl⟩
  exact ⟨_, pickN_lt i n h, rfl, rfl⟩
theorem keyN_ge (wide : Bool) (n : Nat) : 2 ≤ keyN wide n := by
  unfold keyN
  split <;> omega
theorem pbMany_take (wide : Bool) (key salt : List Byte) (count : Nat) {m k n : Nat} (h1 : n ≤ m * hsz wide) (h2 : n ≤ k * hsz wide) : (pbMany wide key salt count m).take n = (pbMany wide key salt count k).take n := by
  have key1 : ∀ d m, n ≤ m * hsz wide → (pbMany wide key salt count (m + d)).take n = (pbMany wide key salt count m).take n := by
    intro d
    induction d with
    | zero => intro m _; rfl
    | succ d ih =>
      intro m h
      rw [← ih m h, ← Nat.add_assoc, pbMany, List.take_append_of_le_length]
      rw [pbMany_len, Nat.add_mul]; omega
  rcases Nat.le_total m k with h | h
  · rw [← key1 (k - m) m h1, Nat.add_sub_cancel' h]
  · rw [← key1 (m - k) k h2, Nat.add_sub_cancel' h]
end Go.Proofs.YtmohabidfalhoaaGreat
