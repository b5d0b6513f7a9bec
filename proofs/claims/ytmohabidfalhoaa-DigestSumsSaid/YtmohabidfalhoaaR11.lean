/- The document's digest of bytes by any algorithm; under the conditions that each names. -/
import Derived.Test.YtmohabidfalhoaaRd2
import Derived.Test.YtmohabidfalhoaaL11
namespace Go.Proofs.Ytmohabidfalhoaa
open Go.RowKit Go.Sep Go.Bv Go.Sha
set_option linter.unusedVariables false
set_option linter.unusedSimpArgs false
set_option maxHeartbeats 1000000 in
theorem rsumHash {W0 w : World} {L : List Assn} {m : Bool} {pp : Option Addr} {n cap l : Nat} (wide : Bool) (rs : List Run3) (P : List Byte) (hP : P.length = n) (hn : n ≤ 1000000000) (hb : tot rs + n + 1000 ≤ 4611686018427387904) (hl : rs.length ≤ 4294967296) (hs : Sat W0 w (rled l rs :: bytes m pp P :: L)) :
    Calls Try.prog 72 #[.agg (rcells wide).toArray, .pointer (some ⟨l, 0, none⟩), .slice pp n cap] w fun e w' => ∃ q c, e = .returned (.slice q (hsz wide) c) ∧ Sat W0 w' (row q c 1 (hsz wide) (u8s (hash wide P)) :: rled l (noteN rs (evK wide) (evS wide) (padN wide n)) :: bytes m pp P :: L) := by
  have HP := Lib.hid (And.intro hP (And.intro hb hl)); clear hP hb hl
  cases wide
  · simp only [rcells]
    go_enter Try.func72, Try.ntmps72
    go_wp2_with fail
    refine (rsum05 rs P HP.out.1 hn HP.out.2.1 HP.out.2.2 (hs.alloc' _)).mono ?_
    rintro e w1 ⟨q, c, rfl, s1⟩
    go_wp2
    go_ret
    exact ⟨q, c, rfl, s1⟩
  · simp only [rcells]
    go_enter Try.func72, Try.ntmps72
    go_wp2_with fail
    refine (rsum06 rs P HP.out.1 hn HP.out.2.1 HP.out.2.2 (hs.alloc' _)).mono ?_
    rintro e w1 ⟨q, c, rfl, s1⟩
    go_wp2
    go_ret
    exact ⟨q, c, rfl, s1⟩
set_option maxHeartbeats 1000000 in
theorem rsum11 {W0 w : World} {L : List Assn} {m : Bool} {pp : Option Addr} {n cap l : Nat} (wide : Bool) (rs : List Run3) (P : List Byte) (hP : P.length = n) (hn : n ≤ 1000000000) (hb : tot rs + n + 1000 ≤ 4611686018427387904) (hl : rs.length ≤ 4294967296) (hs : Sat W0 w (rled l rs :: bytes m pp P :: L)) :
    Calls Try.prog 27 #[.pointer (some ⟨l, 0, none⟩), .int .u8 (algN wide), .slice pp n cap] w fun e w' => ∃ q c, e = .returned (.tuple #[.slice q (hsz wide) c, .int .i64 0]) ∧ Sat W0 w' (row q c 1 (hsz wide) (u8s (hash wide P)) :: rled l (noteN rs (evK wide) (evS wide) (padN wide n)) :: bytes m pp P :: L) := by
  have HP := Lib.hid (And.intro hP (And.intro hb hl)); clear hP hb hl
  cases wide
  · skip
    have hk := fun (w1 : World) (s1 : Sat W0 w1 (rled l rs :: bytes m pp P :: L)) => rsumHash (cap := cap) false rs P HP.out.1 hn HP.out.2.1 HP.out.2.2 s1
    simp only [rcells] at hk
    have HK := Lib.hid hk; clear hk
    go_enter Try.func27, Try.ntmps27
    go_wp2_with fail
    refine (rOf false hs).mono ?_
    rintro e w1 ⟨rfl, s1⟩
    simp only [rcells]
    go_wp2_with fail
    refine (HK.out _ (s1.alloc' _)).mono ?_
    rintro e w2 ⟨q, c, rfl, s2⟩
    go_wp2
    refine bodyPost_ret (v := .tuple #[.slice q _ c, .int .i64 0]) (by simp [results, Try.results27, go_sem]) rfl ⟨q, c, rfl, s2⟩
  · skip
    have hk := fun (w1 : World) (s1 : Sat W0 w1 (rled l rs :: bytes m pp P :: L)) => rsumHash (cap := cap) true rs P HP.out.1 hn HP.out.2.1 HP.out.2.2 s1
    simp only [rcells] at hk
    have HK := Lib.hid hk; clear hk
    go_enter Try.func27, Try.ntmps27
    go_wp2_with fail
    refine (rOf true hs).mono ?_
    rintro e w1 ⟨rfl, s1⟩
    simp only [rcells]
    go_wp2_with fail
    refine (HK.out _ (s1.alloc' _)).mono ?_
    rintro e w2 ⟨q, c, rfl, s2⟩
    go_wp2
    refine bodyPost_ret (v := .tuple #[.slice q _ c, .int .i64 0]) (by simp [results, Try.results27, go_sem]) rfl ⟨q, c, rfl, s2⟩
set_option maxHeartbeats 1000000 in
theorem rsum11None {W0 w : World} {L : List Assn} (a : Int) (h1 : ¬ a = 1) (h2 : ¬ a = 2) (p v : Value) (hs : Sat W0 w L) :
    Calls Try.prog 27 #[p, .int .u8 a, v] w fun e w' => e = .returned (.tuple #[.slice none 0 0, .int .i64 4]) ∧ Sat W0 w' L := by
  go_enter Try.func27, Try.ntmps27
  go_wp2_with fail
  refine (rOfNone a h1 h2 hs).mono ?_
  rintro e w1 ⟨rfl, s1⟩
  simp only [rbare]
  go_wp2
  refine bodyPost_ret (v := .tuple #[.slice none 0 0, .int .i64 4]) (by simp [results, Try.results27, go_sem]) rfl ⟨rfl, (s1.alloc _ _).tail⟩
end Go.Proofs.Ytmohabidfalhoaa
