
/- The statements' kit: lists lent, kept, written over; each under the conditions that it names. -/
import Derived.Test.YtooolimpkafhaaaGreatGG
namespace Go.Sha
open Go.Bv
/-- Mark i of list k. -/
def markB (k i : Nat) : Byte := BitVec.ofNat 8 (7 * k + i + 1)
def marks (k n : Nat) : List Byte := (List.range n).map (markB k)
theorem marks_len (k n : Nat) : (marks k n).length = n := by simp [marks]
theorem marks_snoc (k n : Nat) : marks k (n + 1) = marks k n ++ [markB k n] := by simp [marks, List.range_succ]
theorem marks_get (k n i : Nat) (h : i < n) : (marks k n).getD i 0 = markB k i := by simp [marks, h]
theorem marks_take (k n m : Nat) (h : m ≤ n) : (marks k n).take m = marks k m := by
  unfold marks
  rw [← List.map_take, List.take_range, Nat.min_eq_left h]
def lentB (P : List Byte) : List Byte := P ++ marks 7 6
theorem lentB_len (P : List Byte) : (lentB P).length = P.length + 6 := by simp [lentB, marks_len]
theorem lentB_take (P : List Byte) : (lentB P).take P.length = P := by simp [lentB]
/-- Bytes that are marked up to a place. -/
def partM (k i : Nat) (bs : List Byte) : List Byte := marks k i ++ bs.drop i
theorem partM_len (k i : Nat) (bs : List Byte) (h : i ≤ bs.length) : (partM k i bs).length = bs.length := by simp [partM, marks_len]; omega
theorem partM_set (k i : Nat) (bs : List Byte) (h : i < bs.length) : (partM k i bs).set i (markB k i) = partM k (i + 1) bs := by
  unfold partM
  rw [List.set_append_right _ _ (by rw [marks_len]; exact Nat.le_refl _), marks_len, Nat.sub_self, List.drop_eq_getElem_cons h, List.set_cons_zero, marks_snoc, List.append_assoc]
  rfl
theorem partM_all (k : Nat) (bs : List Byte) : partM k bs.length bs = marks k bs.length := by simp [partM]
end Go.Sha
namespace Go.Proofs.YtooolimpkafhaaaGreat
open Go.RowKit Go.Sep Go.Bv Go.Sha
set_option linter.unusedVariables false
set_option linter.unusedSimpArgs false
theorem v8_markB (k i : Nat) : v8 (markB k i) = (7 * (k : Int) + (i : Int) + 1) % 256 := by
  unfold v8 markB
  rw [BitVec.toNat_ofNat]
  omega
theorem markF (w : World) {kv iv : Int} (k i : Nat) (hk : kv = (k : Int)) (hi : iv = (i : Int)) (h1 : k ≤ 1000000000) (h2 : i ≤ 1000000000000) : Calls Tryz.prog 61 #[.int .i64 kv, .int .i64 iv] w fun e w' => e = .returned (.int .u8 (v8 (markB k i))) ∧ w = w' := by
  subst hk hi
  have hv := v8_markB k i
  go_enter Tryz.func61, Tryz.ntmps61
  go_wp2
  go_ret
  exact ⟨ret_int hv.symm, rfl⟩
theorem markQ (w : World) {kv iv : Int} (k i : Nat) (hk : kv = (k : Int)) (hi : iv = (i : Int)) (h1 : k ≤ 1000000000) (h2 : i ≤ 1000000000000) : Calls Tryz.prog 61 #[.int .i64 kv, .int .i64 iv] w fun e w' => e = .returned (.int .u8 (v8 (markB k i))) ∧ ∃ n, w' = w.drewN n := by
  refine (markF w k i hk hi h1 h2).mono ?_
  rintro e w' ⟨rfl, rfl⟩
  exact ⟨rfl, 0, rfl⟩
/-- A byte in a block of its own. -/
theorem byteOn {W0 w : World} {L : List Assn} {A : Assn} {z : Int} {b : Byte} {T : TypeId} (hz : z = v8 b) (h : Sat W0 w (A :: L)) : Sat W0 (w.alloc (.cells #[.int .u8 z] T)) (A :: bytes true (some ⟨w.heap.size, 0, none⟩) [b] :: L) := by
  subst hz
  exact (bytesOf (bs := [b]) (h.alloc #[.int .u8 (v8 b)] T)).pull 1
set_option maxRecDepth 100000 in
set_option maxHeartbeats 1000000 in
theorem lentF {W0 w : World} {L : List Assn} {m : Bool} {pp : Option Addr} {n cap : Nat} (P : List Byte) (hP : P.length = n) (hn : n ≤ 1000000000000) (hs : Sat W0 w (bytes m pp P :: L)) :
    Calls Tryz.prog 48 #[.slice pp n cap] w fun e w' => ∃ q c, e = .returned (.slice q (n + 6) c) ∧ n + 6 ≤ c ∧ c ≤ maxLen ∧ Sat W0 w' (bytes true q (lentB P) :: bytes m pp P :: L) := by
  have HP := Lib.hid hP; clear hP
  go_enter Tryz.func48, Tryz.ntmps48
  go_wp2_with fail
  refine (copyS P HP.out (by omega) hs).mono ?_
  rintro e w1 ⟨q1, c1, rfl, s1⟩
  clear hs
  go_wp2
  go_loopw [3, 4] (fun t3 t4 wr => ∃ (i : Nat) (q : Option Addr) (c : Nat), i ≤ 6 ∧ t4 = .int .i64 (i : Int) ∧ t3 = .slice q (n + i) c ∧ Sat W0 wr (row q c 1 (n + i) (u8s (P ++ marks 7 i)) :: bytes m pp P :: L)) (fun _ t4 _ => 6 - (intOf t4).toNat)
  case atStart => exact ⟨0, q1, c1, by omega, rfl, rfl, by rw [show marks 7 0 = [] from rfl, List.append_nil]; exact s1⟩
  case round =>
    clear s1
    obtain ⟨i, q, c, hi, rfl, rfl, s⟩ := hrel
    by_cases hlt : i < 6
    · go_wp2_with (first | (go_at_call 61; refine (markF _ 7 i rfl rfl (by decide) (by omega)).mono ?_; rintro e w' ⟨rfl, rfl⟩) | (at_builtin; refine wpl_app8 rfl (.tmp 11) (.tmp 14) rfl rfl rfl (byteOn (b := markB 7 i) rfl s) rfl (by omega) ?_; intro p9 c9 w9 s9))
      go_roundw
      case rel => exact ⟨i + 1, p9, c9, by omega, by go_num, rfl, by rw [marks_snoc, ← List.append_assoc]; exact s9.drop 1⟩
      case measure => simp [intOf]; omega
    · obtain rfl : i = 6 := by omega
      obtain ⟨-, h1, h2, s2⟩ := rowBytes s
      have HS := Lib.hid (And.intro h1 (And.intro h2 s2)); clear h1 h2 s2 s
      go_wp2
      go_ret
      exact ⟨q, c, rfl, HS.out⟩
set_option maxHeartbeats 1000000 in
theorem keptF {W0 w : World} {L : List Assn} {m m1 : Bool} {pp pf : Option Addr} {n k cap cf : Nat} (P : List Byte) (hP : P.length = n) (hk : k = n + 6) (hn : n ≤ 1000000000) (hs : Sat W0 w (bytes m1 pf (lentB P) :: bytes m pp P :: L)) :
    Calls Tryz.prog 50 #[.slice pf k cf, .slice pp n cap] w fun e w' => e = .returned (.bool true) ∧ Sat W0 w' (bytes m1 pf (lentB P) :: bytes m pp P :: L) := by
  subst hk
  have HP := Lib.hid hP; clear hP
  go_enter Tryz.func50, Tryz.ntmps50
  go_wp2_with fail
  refine (lentF P HP.out (by omega) (by (repeat (first | with_reducible apply Sat.sub (hs) | with_reducible apply Sat.alloc' | with_reducible apply Sat.drew | with_reducible apply Sat.drewN)); (repeat (first | with_reducible exact Fr.done | with_reducible exact Fr.nil | (with_reducible apply Fr.cons; (focus ((repeat (first | with_reducible exact Take.here | with_reducible apply Take.there)); done))) | with_reducible apply Fr.skip)); done)).mono ?_
  rintro e w1 ⟨q, c, rfl, -, -, s1⟩
  clear hs
  go_wp2_with fail
  refine (sameT (lentB P) (lentB P) (by rw [lentB_len, HP.out]) (by rw [lentB_len, HP.out]) (by omega) rfl (by (repeat (first | with_reducible apply Sat.sub (s1) | with_reducible apply Sat.alloc' | with_reducible apply Sat.drew | with_reducible apply Sat.drewN)); (repeat (first | with_reducible exact Fr.done | with_reducible exact Fr.nil | (with_reducible apply Fr.cons; (focus ((repeat (first | with_reducible exact Take.here | with_reducible apply Take.there)); done))) | with_reducible apply Fr.skip)); done)).mono ?_
  rintro e w2 ⟨rfl, s2⟩
  clear s1
  go_wp2
  go_ret
  exact ⟨rfl, (by (repeat (first | with_reducible apply Sat.sub (s2) | with_reducible apply Sat.alloc' | with_reducible apply Sat.drew | with_reducible apply Sat.drewN)); (repeat (first | with_reducible exact Fr.done | with_reducible exact Fr.nil | (with_reducible apply Fr.cons; (focus ((repeat (first | with_reducible exact Take.here | with_reducible apply Take.there)); done))) | with_reducible apply Fr.skip)); done)⟩
end Go.Proofs.YtooolimpkafhaaaGreat
