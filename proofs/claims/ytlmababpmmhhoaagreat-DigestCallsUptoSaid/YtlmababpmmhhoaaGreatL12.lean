
/- The helpers of layer 12's statements: alg, unhex, fox, awake; each under the conditions that it names. -/
import Derived.Lib.SmallJoins
import Derived.Test.YtlmababpmmhhoaaGreatHmac2
import Derived.Test.YtlmababpmmhhoaaGreatKit
namespace Go.Sep
open Go.RowKit
set_option linter.unusedVariables false
theorem Sat.emp {W0 w : World} {L : List Assn} (h : Sat W0 w L) : Sat W0 w (emp :: L) := by
  obtain ⟨hb, hs, hf⟩ := h
  exact ⟨hb, Hp.zero :: hs, .cons trivial (Hp.zero_ok _ _) (fun _ _ => Hp.zero_dis _) hf⟩
/-- A new block of a constant's bytes, marked behind its last cell. -/
theorem Sat.allocMark {W0 w : World} {L : List Assn} (h : Sat W0 w L) (cs : Array Value) (T : TypeId) : Sat W0 (w.alloc (.cells cs T (cs.size, cs.size + 1))) (seg true w.heap.size 0 cs.toList :: L) := by
  have h' := h.alloc' (.cells cs T (cs.size, cs.size + 1))
  obtain ⟨hb, hs, hf⟩ := h
  have hok := hf.okAll
  obtain ⟨hb', _⟩ := h'
  have hblk : (w.alloc (.cells cs T (cs.size, cs.size + 1))).heap[w.heap.size]? = some (.cells cs T (cs.size, cs.size + 1)) := by
    show (w.heap.push _)[w.heap.size]? = _
    simp
  refine ⟨hb', Hp.of (fun b o => if b = w.heap.size then (cs[o]?).map (true, ·) else none) :: hs, .cons ?_ (Hp.of_ok ?_) (fun k hk => Hp.of_dis ?_) (hf.move fun k hk => (hok k hk).later fun j hj => Below.heap_alloc w _ j hj)⟩
  · intro i v hv
    have : cs[i]? = some v := by simpa using hv
    simp [this]
  · intro b o m v hx
    by_cases e : b = w.heap.size
    · subst e
      simp only [if_true, Option.map_eq_some_iff, Prod.mk.injEq] at hx
      obtain ⟨u, hu, rfl, rfl⟩ := hx
      have ho : o < cs.size := (Array.getElem?_eq_some_iff.1 hu).1
      refine ⟨by rw [World.cell?_alloc_mark]; exact hu, fun _ => ⟨?_, hb.size⟩⟩
      unfold World.frozen?
      rw [hblk]
      simp only [Bool.and_eq_false_iff, decide_eq_false_iff_not]
      omega
    · simp [e] at hx
  · intro b o x y hx hy
    by_cases e : b = w.heap.size
    · subst e
      exact absurd ((hok k hk).lt hy) (by omega)
    · simp [e] at hx
end Go.Sep
namespace Go.Proofs.YtlmababpmmhhoaaGreat
open Go.RowKit Go.Sep Go.Bv Go.Sha
set_option linter.unusedVariables false
set_option linter.unusedSimpArgs false
theorem ledNone {W0 w : World} {L : List Assn} (h : Sat W0 w L) : Sat W0 w (ledO none [] :: L) := h.emp
theorem sameTrue {W0 w : World} {L : List Assn} {ca cb : Nat} {m1 m2 : Bool} {pa pb : Option Addr} (xs ys : List Byte) (h : xs = ys) (hx : xs.length ≤ maxLen) (hs : Sat W0 w (bytes m1 pa xs :: bytes m2 pb ys :: L)) :
    Calls Tryz.prog 12 #[.slice pa xs.length ca, .slice pb ys.length cb] w fun e w' => e = .returned (.bool true) ∧ ∃ n, w' = w.drewN n := by
  have := sameBytes (ca := ca) (cb := cb) xs ys hx (by rw [← h]; exact hx) hs
  rwa [sameB_eq h] at this
theorem bytesTake {W0 w : World} {L : List Assn} {m : Bool} {sp : Option Addr} {bs : List Byte} (n : Nat) (h : Sat W0 w (bytes m sp bs :: L)) : Sat W0 w (bytes m sp (bs.take n) :: L) :=
  h.imp fun x hx => by
    rcases hx with rfl | ⟨b, o, rfl, hx⟩
    · exact .inl (by simp)
    · refine .inr ⟨b, o, rfl, fun i v hv => hx i v ?_⟩
      simp only [u8s, List.map_take, List.getElem?_take] at hv
      split at hv
      · exact hv
      · cases hv
/-- A hexadecimal digit's number, as the program reckons it. -/
def hexd (c : UInt8) : Int := if 97 ≤ (c.toNat : Int) then (c.toNat : Int) - 97 + 10 else (c.toNat : Int) - 48
theorem hexd_bd (c : UInt8) : -48 ≤ hexd c ∧ hexd c ≤ 168 := by
  unfold hexd
  have := c.toNat_lt
  split <;> omega
def unhexL : List UInt8 → List Byte
  | a :: b :: r => BitVec.ofInt 8 (16 * hexd a + hexd b) :: unhexL r
  | _ => []
theorem unhexL_len : ∀ (l : List UInt8), (unhexL l).length = l.length / 2
  | [] => rfl
  | [_] => by simp [unhexL]
  | a :: b :: r => by
    have := unhexL_len r
    simp only [unhexL, List.length_cons, this]; omega
theorem unhexL_snoc : ∀ (l : List UInt8) (j : Nat) (h : 2 * j + 1 < l.length), unhexL (l.take (2 * (j + 1))) = unhexL (l.take (2 * j)) ++ [BitVec.ofInt 8 (16 * hexd (l[2 * j]'(by omega)) + hexd l[2 * j + 1])]
  | [], _, h => by simp at h
  | [_], _, h => by simp at h
  | a :: b :: r, 0, _ => by simp [unhexL]
  | a :: b :: r, j + 1, h => by
    have ih := unhexL_snoc r j (by simp at h; omega)
    have e1 : (a :: b :: r).take (2 * (j + 1 + 1)) = a :: b :: r.take (2 * (j + 1)) := by rw [show 2 * (j + 1 + 1) = 2 * (j + 1) + 1 + 1 by omega]; simp
    have e2 : (a :: b :: r).take (2 * (j + 1)) = a :: b :: r.take (2 * j) := by rw [show 2 * (j + 1) = 2 * j + 1 + 1 by omega]; simp
    have e3 : (a :: b :: r)[2 * (j + 1)]'(by omega) = r[2 * j]'(by simp at h; omega) := by simp [show 2 * (j + 1) = 2 * j + 1 + 1 by omega]
    have e4 : (a :: b :: r)[2 * (j + 1) + 1] = r[2 * j + 1]'(by simp at h; omega) := by simp [show 2 * (j + 1) + 1 = 2 * j + 1 + 1 + 1 by omega]
    rw [e1, e2, e3, e4, unhexL, unhexL, ih, List.cons_append]
theorem unhexL_take : ∀ (l : List UInt8), unhexL (l.take (2 * (l.length / 2))) = unhexL l
  | [] => rfl
  | [_] => by simp [unhexL]
  | a :: b :: r => by
    have ih := unhexL_take r
    have e : (a :: b :: r).take (2 * ((a :: b :: r).length / 2)) = a :: b :: r.take (2 * (r.length / 2)) := by
      rw [show 2 * ((a :: b :: r).length / 2) = 2 * (r.length / 2) + 1 + 1 by simp; omega]; simp
    rw [e, unhexL, unhexL, ih]
theorem mod_u8_v8 (z : Int) : z % 256 = v8 (BitVec.ofInt 8 z) := by
  unfold v8
  rw [BitVec.toNat_ofInt]
  omega
theorem wrap_u8_v8 (z : Int) : IntKind.u8.wrap z = v8 (BitVec.ofInt 8 z) := by
  rw [IntKind.wrap_u8]
  unfold v8
  rw [BitVec.toNat_ofInt]
  omega
def hexn (x y : UInt8) : Nat → Int
  | 0 => 0
  | 1 => hexd x
  | _ => 16 * hexd x + hexd y
def foxMsg : List Byte := [84, 104, 101, 32, 113, 117, 105, 99, 107, 32, 98, 114, 111, 119, 110, 32, 102, 111, 120, 32, 106, 117, 109, 112, 115, 32, 111, 118, 101, 114, 32, 116, 104, 101, 32, 108, 97, 122, 121, 32, 100, 111, 103]
def foxHex : List UInt8 := [102, 55, 98, 99, 56, 51, 102, 52, 51, 48, 53, 51, 56, 52, 50, 52, 98, 49, 51, 50, 57, 56, 101, 54, 97, 97, 54, 102, 98, 49, 52, 51, 101, 102, 52, 100, 53, 57, 97, 49, 52, 57, 52, 54, 49, 55, 53, 57, 57, 55, 52, 55, 57, 100, 98, 99, 50, 100, 49, 97, 51, 99, 100, 56]
def abcHex : List UInt8 := [51, 57, 50, 54, 97, 50, 48, 55, 99, 56, 99, 52, 50, 98, 48, 99, 52, 49, 55, 57, 50, 99, 98, 100, 51, 101, 49, 97, 49, 97, 97, 97]
def foxTag : List Byte := [247, 188, 131, 244, 48, 83, 132, 36, 177, 50, 152, 230, 170, 111, 177, 67, 239, 77, 89, 161, 73, 70, 23, 89, 151, 71, 157, 188, 45, 26, 60, 216]
def abcTag : List Byte := [57, 38, 162, 7, 200, 196, 43, 12, 65, 121, 44, 189, 62, 26, 26, 170]
theorem foxTag_eq : unhexL foxHex = foxTag := by decide +kernel
theorem abcTag_eq : unhexL abcHex = abcTag := by decide +kernel
theorem foxHmac : hmac false [107, 101, 121] foxMsg = foxTag := by decide +kernel
theorem abcHmac : (hmac true [107, 101, 121] [97, 98, 99]).take 16 = abcTag := by decide +kernel
end Go.Proofs.YtlmababpmmhhoaaGreat
