/- The helpers of layer 12's statements: alg, unhex, fox, awake; each under the conditions that it names. -/
import Derived.Lib.SmallJoins
import Derived.Test.YtmohabidfalhoaaHmac2
import Derived.Test.YtmohabidfalhoaaKit
namespace Go.Sep
open Go.RowKit
set_option linter.unusedVariables false
theorem Sat.emp {W0 w : World} {L : List Assn} (h : Sat W0 w L) : Sat W0 w (emp :: L) := by
  obtain ⟨hb, hs, hf⟩ := h
  exact ⟨hb, Hp.zero :: hs, .cons trivial (Hp.zero_ok _ _) (fun _ _ => Hp.zero_dis _) hf⟩
/-- A new block of a constant's bytes, marked behind its last cell. -/
theorem Sat.allocMark {W0 w : World} {L : List Assn} (h : Sat W0 w L) (cs : Array Value) (T : TypeId) : Sat W0 (w.alloc (.cells cs T (cs.size, cs.size + 1))) (seg true w.heap.size 0 cs.toList :: L) := by
  have h' := h.alloc' (.cells cs T (cs.size, cs.size + 1))
  obtain ⟨hb, hs, hf⟩ := h
  have hok := hf.okAll
  obtain ⟨hb', _⟩ := h'
  have hblk : (w.alloc (.cells cs T (cs.size, cs.size + 1))).heap[w.heap.size]? = some (.cells cs T (cs.size, cs.size + 1)) := by
    show (w.heap.push _)[w.heap.size]? = _
    simp
  refine ⟨hb', Hp.of (fun b o => if b = w.heap.size then (cs[o]?).map (true, ·) else none) :: hs, .cons ?_ (Hp.of_ok ?_) (fun k hk => Hp.of_dis ?_) (hf.move fun k hk => (hok k hk).later fun j hj => Below.heap_alloc w _ j hj)⟩
  · intro i v hv
    have : cs[i]? = some v := by simpa using hv
    simp [this]
  · intro b o m v hx
    by_cases e : b = w.heap.size
    · subst e
      simp only [if_true, Option.map_eq_some_iff, Prod.mk.injEq] at hx
      obtain ⟨u, hu, rfl, rfl⟩ := hx
      have ho : o < cs.size := (Array.getElem?_eq_some_iff.1 hu).1
      refine ⟨by rw [World.cell?_alloc_mark]; exact hu, fun _ => ⟨?_, hb.size⟩⟩
      unfold World.frozen?
      rw [hblk]
      simp only [Bool.and_eq_false_iff, decide_eq_false_iff_not]
      omega
    · simp [e] at hx
  · intro b o x y hx hy
    by_cases e : b = w.heap.size
    · subst e
      exact absurd ((hok k hk).lt hy) (by omega)
    · simp [e] at hx
end Go.Sep
namespace Go.Proofs.Ytmohabidfalhoaa
open Go.RowKit Go.Sep Go.Bv Go.Sha
set_option linter.unusedVariables false
set_option linter.unusedSimpArgs false
theorem ledNone {W0 w : World} {L : List Assn} (h : Sat W0 w L) : Sat W0 w (ledO none [] :: L) := h.emp
theorem sameTrue {W0 w : World} {L : List Assn} {ca cb : Nat} {m1 m2 : Bool} {pa pb : Option Addr} (xs ys : List Byte) (h : xs = ys) (hx : xs.length ≤ maxLen) (hs : Sat W0 w (bytes m1 pa xs :: bytes m2 pb ys :: L)) :
    Calls Try.prog 28 #[.slice pa xs.length ca, .slice pb ys.length cb] w fun e w' => e = .returned (.bool true) ∧ ∃ n, w' = w.drewN n := by
  have := sameBytes (ca := ca) (cb := cb) xs ys hx (by rw [← h]; exact hx) hs
  rwa [sameB_eq h] at this
theorem bytesTake {W0 w : World} {L : List Assn} {m : Bool} {sp : Option Addr} {bs : List Byte} (n : Nat) (h : Sat W0 w (bytes m sp bs :: L)) : Sat W0 w (bytes m sp (bs.take n) :: L) :=
  h.imp fun x hx => by
    rcases hx with rfl | ⟨b, o, rfl, hx⟩
    · exact .inl (by simp)
    · refine .inr ⟨b, o, rfl, fun i v hv => hx i v ?_⟩
      simp only [u8s, List.map_take, List.getElem?_take] at hv
      split at hv
      · exact hv
      · cases hv
theorem alg12 (w : World) (wide : Bool) : Calls Try.prog 38 #[.bool wide] w fun e w' => e = .returned (.tuple #[.int .u8 (algN wide), .int .i64 (bsz wide : Int)]) ∧ w = w' := by
  cases wide
  · go_enter Try.func38, Try.ntmps38
    go_wp2
    go_ret2
    exact ⟨rfl, rfl⟩
  · go_enter Try.func38, Try.ntmps38
    go_wp2
    go_ret2
    exact ⟨rfl, rfl⟩
/-- A hexadecimal digit's number, as the program reckons it. -/
def hexd (c : UInt8) : Int := if 97 ≤ (c.toNat : Int) then (c.toNat : Int) - 97 + 10 else (c.toNat : Int) - 48
theorem hexd_bd (c : UInt8) : -48 ≤ hexd c ∧ hexd c ≤ 168 := by
  unfold hexd
  have := c.toNat_lt
  split <;> omega
def unhexL : List UInt8 → List Byte
  | a :: b :: r => BitVec.ofInt 8 (16 * hexd a + hexd b) :: unhexL r
  | _ => []
theorem unhexL_len : ∀ (l : List UInt8), (unhexL l).length = l.length / 2
  | [] => rfl
  | [_] => by simp [unhexL]
  | a :: b :: r => by
    have := unhexL_len r
    simp only [unhexL, List.length_cons, this]; omega
theorem unhexL_snoc : ∀ (l : List UInt8) (j : Nat) (h : 2 * j + 1 < l.length), unhexL (l.take (2 * (j + 1))) = unhexL (l.take (2 * j)) ++ [BitVec.ofInt 8 (16 * hexd (l[2 * j]'(by omega)) + hexd l[2 * j + 1])]
  | [], _, h => by simp at h
  | [_], _, h => by simp at h
  | a :: b :: r, 0, _ => by simp [unhexL]
  | a :: b :: r, j + 1, h => by
    have ih := unhexL_snoc r j (by simp at h; omega)
    have e1 : (a :: b :: r).take (2 * (j + 1 + 1)) = a :: b :: r.take (2 * (j + 1)) := by rw [show 2 * (j + 1 + 1) = 2 * (j + 1) + 1 + 1 by omega]; simp
    have e2 : (a :: b :: r).take (2 * (j + 1)) = a :: b :: r.take (2 * j) := by rw [show 2 * (j + 1) = 2 * j + 1 + 1 by omega]; simp
    have e3 : (a :: b :: r)[2 * (j + 1)]'(by omega) = r[2 * j]'(by simp at h; omega) := by simp [show 2 * (j + 1) = 2 * j + 1 + 1 by omega]
    have e4 : (a :: b :: r)[2 * (j + 1) + 1] = r[2 * j + 1]'(by simp at h; omega) := by simp [show 2 * (j + 1) + 1 = 2 * j + 1 + 1 + 1 by omega]
    rw [e1, e2, e3, e4, unhexL, unhexL, ih, List.cons_append]
theorem unhexL_take : ∀ (l : List UInt8), unhexL (l.take (2 * (l.length / 2))) = unhexL l
  | [] => rfl
  | [_] => by simp [unhexL]
  | a :: b :: r => by
    have ih := unhexL_take r
    have e : (a :: b :: r).take (2 * ((a :: b :: r).length / 2)) = a :: b :: r.take (2 * (r.length / 2)) := by
      rw [show 2 * ((a :: b :: r).length / 2) = 2 * (r.length / 2) + 1 + 1 by simp; omega]; simp
    rw [e, unhexL, unhexL, ih]
theorem mod_u8_v8 (z : Int) : z % 256 = v8 (BitVec.ofInt 8 z) := by
  unfold v8
  rw [BitVec.toNat_ofInt]
  omega
theorem wrap_u8_v8 (z : Int) : IntKind.u8.wrap z = v8 (BitVec.ofInt 8 z) := by
  rw [IntKind.wrap_u8]
  unfold v8
  rw [BitVec.toNat_ofInt]
  omega
def hexn (x y : UInt8) : Nat → Int
  | 0 => 0
  | 1 => hexd x
  | _ => 16 * hexd x + hexd y
set_option maxRecDepth 100000 in
set_option maxHeartbeats 4000000 in
theorem unhex12 {W0 w : World} {L : List Assn} (s : ByteArray) (hs1 : s.size ≤ 1000000) (hs : Sat W0 w L) :
    Calls Try.prog 41 #[.string s] w fun e w' => ∃ p c, e = .returned (.slice p (s.size / 2) c) ∧ Sat W0 w' (row p c 1 (s.size / 2) (u8s (unhexL s.data.toList)) :: L) := by
  obtain ⟨i3, hi3, hz3, hs3, hb3⟩ := info_parts Try.info_u8
  go_enter Try.func41, Try.ntmps41
  go_wp2
  go_loopw [3, 4] (fun t3 t4 wr => ∃ (j : Nat) (p : Option Addr) (c : Nat), 2 * j ≤ s.size ∧ t4 = .int .i64 (2 * (j : Int)) ∧ t3 = .slice p j c ∧ Sat W0 wr (row p c 1 j (u8s (unhexL (s.data.toList.take (2 * j)))) :: L)) (fun _ t4 _ => s.size - (intOf t4).toNat)
  case atStart => exact ⟨0, none, 0, by omega, rfl, rfl, by simpa [unhexL, u8s] using hs.rowNil 1⟩
  case round =>
    obtain ⟨j, p, c, hj, rfl, rfl, sr⟩ := hrel
    by_cases hlt : 2 * j + 1 < s.size
    · obtain ⟨x, hx⟩ : ∃ x, x = s[2 * j]'(by omega) := ⟨_, rfl⟩
      obtain ⟨y, hy⟩ : ∃ y, y = s[2 * j + 1] := ⟨_, rfl⟩
      obtain ⟨hb1, hb1'⟩ := hexd_bd x
      obtain ⟨hb2, hb2'⟩ := hexd_bd y
      have HG := Lib.hid (And.intro hx hy); clear hx hy
      have hd0 : decide (2 * (j : Int) + 1 < (s.size : Int)) = true := by simp; omega
      have hd1 : 2 * (j : Int) + 1 < (s.size : Int) := by omega
      obtain ⟨wo, rfl⟩ : ∃ wo : World, wo = wr := ⟨_, rfl⟩
      go_wp2
      go_loopw [5, 6] (fun t5 t6 wr => ∃ q : Nat, q ≤ 2 ∧ t6 = .int .i64 (2 * (j : Int) + (q : Int)) ∧ t5 = .int .i64 (hexn x y q) ∧ wr = wo) (fun _ t6 _ => 2 * j + 2 - (intOf t6).toNat)
      case atStart => exact ⟨0, by omega, rfl, rfl, rfl⟩
      case round =>
        obtain ⟨q, hq, rfl, rfl, rfl⟩ := hrel
        have hcases : q = 0 ∨ q = 1 ∨ q = 2 := by omega
        rcases hcases with rfl | rfl | rfl
        · have e0 : hexn x y 0 = 0 := rfl
          have ex : s[2 * j]'(by omega) = x := HG.out.1.symm
          have hxb := x.toNat_lt
          rw [e0]
          clear e0
          by_cases hd : 97 ≤ (x.toNat : Int)
          · go_wp2
            go_roundw
            case rel => exact ⟨1, by omega, by go_num, by rw [show hexn x y 1 = hexd x from rfl, show hexd x = (x.toNat : Int) - 97 + 10 from if_pos (by omega)], by trivial⟩
            case measure => simp [intOf]; omega
          · go_wp2
            go_roundw
            case rel => exact ⟨1, by omega, by go_num, by rw [show hexn x y 1 = hexd x from rfl, show hexd x = (x.toNat : Int) - 48 from if_neg (by omega)], by trivial⟩
            case measure => simp [intOf]; omega
        · have e0 : hexn x y 1 = hexd x := rfl
          have ex : s[2 * j + 1] = y := HG.out.2.symm
          have hxb := y.toNat_lt
          rw [e0]
          clear e0
          by_cases hd : 97 ≤ (y.toNat : Int)
          · go_wp2
            go_roundw
            case rel => exact ⟨2, by omega, by go_num, by rw [show hexn x y 2 = 16 * hexd x + hexd y from rfl, show hexd y = (y.toNat : Int) - 97 + 10 from if_pos (by omega)], by trivial⟩
            case measure => simp [intOf]; omega
          · go_wp2
            go_roundw
            case rel => exact ⟨2, by omega, by go_num, by rw [show hexn x y 2 = 16 * hexd x + hexd y from rfl, show hexd y = (y.toNat : Int) - 48 from if_neg (by omega)], by trivial⟩
            case measure => simp [intOf]; omega
        · have e0 : hexn x y 2 = 16 * hexd x + hexd y := rfl
          rw [e0]
          clear e0
          go_wp2_with (refine wpl_append rfl (.tmp 41) (.tmp 44) 39 rfl Try.underlying39 hi3 hz3 hs3 hb3 rfl (by decide) (sr.alloc' _) rfl (some _) 1 1 rfl [.int .u8 ((16 * hexd x + hexd y) % 256)] rfl ((sr.alloc #[.int .u8 ((16 * hexd x + hexd y) % 256)] 5).news) (fun h => by cases h) (by simp [Value.oneCell']) (by unfold maxLen; omega) (by omega) ?_; intro p2 c2 w2 s2 _ _)
          go_roundw
          case rel =>
            refine ⟨j + 1, p2, c2, by omega, by go_num, rfl, ?_⟩
            rw [unhexL_snoc s.data.toList j (by simpa using hlt)]
            have ex : s.data.toList[2 * j]'(by simp; omega) = x := HG.out.1.symm
            have ey : s.data.toList[2 * j + 1]'(by simpa using hlt) = y := HG.out.2.symm
            rw [ex, ey, u8s_append]
            rw [mod_u8_v8] at s2
            exact s2
          case measure => simp [intOf]; omega
    · have hj2 : j = s.size / 2 := by omega
      have hl : s.data.toList.length = s.size := by simp
      have hu := unhexL_take s.data.toList
      rw [hl, ← hj2] at hu
      rw [hu] at sr
      have HU := Lib.hid hj2; clear hl hu hj2
      go_wp2
      go_ret
      refine ⟨p, c, by rw [← HU.out]; rfl, ?_⟩
      rw [← HU.out]
      exact sr
def foxMsg : List Byte := [84, 104, 101, 32, 113, 117, 105, 99, 107, 32, 98, 114, 111, 119, 110, 32, 102, 111, 120, 32, 106, 117, 109, 112, 115, 32, 111, 118, 101, 114, 32, 116, 104, 101, 32, 108, 97, 122, 121, 32, 100, 111, 103]
def foxHex : List UInt8 := [102, 55, 98, 99, 56, 51, 102, 52, 51, 48, 53, 51, 56, 52, 50, 52, 98, 49, 51, 50, 57, 56, 101, 54, 97, 97, 54, 102, 98, 49, 52, 51, 101, 102, 52, 100, 53, 57, 97, 49, 52, 57, 52, 54, 49, 55, 53, 57, 57, 55, 52, 55, 57, 100, 98, 99, 50, 100, 49, 97, 51, 99, 100, 56]
def abcHex : List UInt8 := [51, 57, 50, 54, 97, 50, 48, 55, 99, 56, 99, 52, 50, 98, 48, 99, 52, 49, 55, 57, 50, 99, 98, 100, 51, 101, 49, 97, 49, 97, 97, 97]
def foxTag : List Byte := [247, 188, 131, 244, 48, 83, 132, 36, 177, 50, 152, 230, 170, 111, 177, 67, 239, 77, 89, 161, 73, 70, 23, 89, 151, 71, 157, 188, 45, 26, 60, 216]
def abcTag : List Byte := [57, 38, 162, 7, 200, 196, 43, 12, 65, 121, 44, 189, 62, 26, 26, 170]
theorem foxTag_eq : unhexL foxHex = foxTag := by decide +kernel
theorem abcTag_eq : unhexL abcHex = abcTag := by decide +kernel
theorem foxHmac : hmac false [107, 101, 121] foxMsg = foxTag := by decide +kernel
theorem abcHmac : (hmac true [107, 101, 121] [97, 98, 99]).take 16 = abcTag := by decide +kernel
set_option maxRecDepth 100000 in
set_option maxHeartbeats 2000000 in
theorem fox12 {W0 w : World} {L : List Assn} (hs : Sat W0 w L) : Calls Try.prog 78 #[] w fun e w' => ∃ g p c, e = .returned (.tuple #[.slice (some ⟨g, 0, none⟩) 43 43, .slice p 32 c]) ∧ Sat W0 w' (row p c 1 32 (u8s foxTag) :: seg true g 0 (u8s foxMsg) :: L) := by
  have s1 := hs.allocMark (u8s foxMsg).toArray 5
  have kc := fun (w : World) (C : Array Value) (n c g : Nat) (hg : g = w.heap.size) => Joins.run_convert_bytes_const_at (P := Try.prog) w 39 5 C n c g hg Try.underlying39 Try.underlying5
  go_enter Try.func78, Try.ntmps78
  go_wp2_with fail
  refine (unhex12 ⟨foxHex.toArray⟩ (by decide) s1).mono ?_
  rintro e w1 ⟨p, c, rfl, s2⟩
  rw [show (⟨foxHex.toArray⟩ : ByteArray).data.toList = foxHex from rfl, foxTag_eq] at s2
  go_wp2
  go_ret2
  exact ⟨_, p, c, rfl, s2⟩
set_option maxRecDepth 100000 in
set_option maxHeartbeats 2000000 in
theorem awake12 {W0 w : World} {L : List Assn} (hs : Sat W0 w L) : Calls Try.prog 40 #[] w fun e w' => e = .returned (.bool true) ∧ Sat W0 w' L := by
  have kc := fun (w : World) (C : Array Value) (n c g : Nat) (hg : g = w.heap.size) => Joins.run_convert_bytes_const_at (P := Try.prog) w 39 5 C n c g hg Try.underlying39 Try.underlying5
  go_enter Try.func40, Try.ntmps40
  go_wp2_with fail
  refine (fox12 hs).mono ?_
  rintro e w1 ⟨g, p, c, rfl, s1⟩
  have s2 := s1.allocMark (u8s [107, 101, 121]).toArray 5
  have s3 : Sat W0 _ (ledO none [] :: bytes true (some ⟨w1.heap.size, 0, none⟩) [107, 101, 121] :: bytes true (some ⟨g, 0, none⟩) foxMsg :: row p c 1 32 (u8s foxTag) :: L) := ledNone ((bytesOf ((bytesOf s2).pick [2])).pick [1])
  have h1 := hmacTag (cap := 3) (cap2 := 43) false none [] [107, 101, 121] foxMsg (by decide) (by decide) (by decide) (by decide) (by decide) (by decide) s3
  go_wp2_with fail
  refine h1.mono ?_
  rintro e w2 ⟨q, cq, rfl, s4⟩
  rw [foxHmac] at s4
  clear h1 s3 s2 s1
  have s5 : Sat W0 w2 (row q cq 1 32 (u8s foxTag) :: row p c 1 32 (u8s foxTag) :: L) := (((s4.pick [0, 4]).drop 2).drop 2).drop 2
  have s6 := s5.allocMark (u8s [107, 101, 121]).toArray 5
  have s7 := s6.allocMark (u8s [97, 98, 99]).toArray 5
  rw [show (w2.alloc (.cells (u8s [107, 101, 121]).toArray 5 ((u8s [107, 101, 121]).toArray.size, (u8s [107, 101, 121]).toArray.size + 1))).heap.size = w2.heap.size + 1 by simp] at s7
  have s8 : Sat W0 _ (ledO none [] :: bytes true (some ⟨w2.heap.size, 0, none⟩) [107, 101, 121] :: bytes true (some ⟨w2.heap.size + 1, 0, none⟩) [97, 98, 99] :: row q cq 1 32 (u8s foxTag) :: row p c 1 32 (u8s foxTag) :: L) := ledNone (bytesOf ((bytesOf s7).pull 1))
  have h2 := hmacTag (cap := 3) (cap2 := 3) true none [] [107, 101, 121] [97, 98, 99] (by decide) (by decide) (by decide) (by decide) (by decide) (by decide) s8
  go_wp2_with fail
  refine h2.mono ?_
  rintro e w3 ⟨q2, cq2, rfl, s9⟩
  clear h2 s8 s7 s6 s5 s4
  obtain ⟨T, hT⟩ : ∃ T, T = hmac true [107, 101, 121] [97, 98, 99] := ⟨_, rfl⟩
  rw [← hT] at s9
  have hT16 : T.take 16 = abcTag := by rw [hT]; exact abcHmac
  have sA : Sat W0 w3 (row q cq 1 32 (u8s foxTag) :: row p c 1 32 (u8s foxTag) :: row q2 cq2 1 64 (u8s T) :: L) := (((s9.pick [4, 5, 0]).drop 3).drop 3).drop 3
  obtain ⟨_, hl1, hl2, sB⟩ := rowBytes sA
  obtain ⟨_, hl3, hl4, sC⟩ := rowBytes (sB.pull 1)
  obtain ⟨hTl, hl5, hl6, sD⟩ := rowBytes (sC.pull 2)
  have sE : Sat W0 w3 (bytes true q foxTag :: bytes true p foxTag :: bytes true q2 (T.take 16) :: L) := (bytesTake 16 sD).pick [2, 1]
  have hA : ∀ wx, Sat W0 wx (bytes true q foxTag :: bytes true p foxTag :: bytes true q2 (T.take 16) :: L) → Calls Try.prog 28 #[.slice q 32 cq, .slice p 32 c] wx fun e w' => e = .returned (.bool true) ∧ Sat W0 w' (bytes true q2 (T.take 16) :: L) := by
    intro wx sx
    refine (sameTrue (ca := cq) (cb := c) foxTag foxTag rfl (by decide) sx).mono ?_
    rintro e w' ⟨rfl, n, rfl⟩
    exact ⟨rfl, ((sx.drewN n).drop 0).drop 0⟩
  have hB : ∀ wx, Sat W0 wx (bytes true q2 (T.take 16) :: L) → Calls Try.prog 41 #[.string ⟨abcHex.toArray⟩] wx fun e w' => ∃ p c, e = .returned (.slice p 16 c) ∧ Sat W0 w' (bytes true p abcTag :: bytes true q2 (T.take 16) :: L) := by
    intro wx sx
    refine (unhex12 ⟨abcHex.toArray⟩ (by decide) sx).mono ?_
    rintro e w' ⟨p, c, rfl, s⟩
    rw [show (⟨abcHex.toArray⟩ : ByteArray).data.toList = abcHex from rfl, abcTag_eq] at s
    exact ⟨p, c, rfl, (rowBytes s).2.2.2⟩
  have hC : ∀ wx p3 c3, Sat W0 wx (bytes true p3 abcTag :: bytes true q2 (T.take 16) :: L) → Calls Try.prog 28 #[.slice q2 16 cq2, .slice p3 16 c3] wx fun e w' => e = .returned (.bool true) ∧ Sat W0 w' L := by
    intro wx p3 c3 sx
    have h16 : (T.take 16).length = 16 := by rw [hT16]; rfl
    have := sameTrue (ca := cq2) (cb := c3) (T.take 16) abcTag hT16 (by rw [h16]; decide) (sx.pull 1)
    rw [h16] at this
    refine this.mono ?_
    rintro e w' ⟨rfl, n, rfl⟩
    exact ⟨rfl, ((sx.drewN n).drop 0).drop 0⟩
  have HA := Lib.hid hA; have HB := Lib.hid hB; have HC := Lib.hid hC
  have h64 : (16 : Int) ≤ (cq2 : Int) := by omega
  unfold maxLen at hl6
  clear hA hB hC sA sB sC sD s9 hT hT16 hTl hl1 hl2 hl3 hl4 hs
  simp only [hsz]
  go_wp2_with fail
  go_region_held3 (fun w' => W0.heap.size ≤ w'.heap.size) (first | exact sH.size | exact sG.size | exact sF.size | exact sE.size | exact sE.drew.size) (first | (go_at_call 41; refine (HB.out _ sF).mono ?_; rintro e w5 ⟨p3, c3, rfl, sG⟩) | (go_at_call 28; refine (HC.out _ _ _ sG).mono ?_; rintro e w6 ⟨rfl, sH⟩) | (go_at_call 28; refine (HA.out _ (by first | exact sE | exact sE.drew)).mono ?_; rintro e w4 ⟨rfl, sF⟩))
  all_goals
    go_wp2
    go_ret
    exact ⟨rfl, sH⟩
end Go.Proofs.Ytmohabidfalhoaa
