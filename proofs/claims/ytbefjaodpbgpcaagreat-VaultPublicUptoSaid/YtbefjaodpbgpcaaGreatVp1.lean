
import Derived.Test.YtbefjaodpbgpcaaGreatHK
import Derived.Test.YtbefjaodpbgpcaaGreatGG
set_option linter.unusedVariables false
set_option linter.unusedSimpArgs false
set_option maxRecDepth 100000
set_option maxHeartbeats 16000000
namespace Go.Proofs.YtbefjaodpbgpcaaGreat
open Go.RowKit Go.Sep Go.Bv
theorem cells_7 (x : OpM) : x.cells.length = 7 := rfl
theorem Tryz.info_op7 : (Tryz.prog.info? 27).map (fun i => (i.zero, i.size, i.bytes)) = some (some (.agg op0.toArray), 7, 88) := by kernel_rfl
theorem opsFromRow {W0 w : World} {L : List Assn} {p q : Option Addr} {d m : Nat} {xs ys : List OpM} (hsub : ∀ y ∈ ys, y ∈ xs) (h : Sat W0 w (row q d 7 m (ys.flatMap OpM.cells) :: opsR p xs :: L)) : Sat W0 w (opsR q ys :: opsR p xs :: L) := by
 obtain ⟨-, ⟨-, -, -, h0, h1⟩ | ⟨g, rest, rfl, -, -, -, h1⟩⟩ := h.rowOpen
 ·have hy : ys = [] := by
   cases ys with
   | nil => rfl
   | cons y l => simp at h0
  subst hy
  exact h1.emp.imp fun x _ i z hz => by cases hz
 ·have h2 : Sat W0 w (seg true g 0 (ys.flatMap OpM.cells) :: opsR p xs :: L) := h1.imp fun x hx i v hv => hx i v (by rw [List.getElem?_append_left (List.getElem?_eq_some_iff.1 hv).1]; exact hv)
  have h3 := h2.ro (B := seg false g 0 (ys.flatMap OpM.cells)) fun x hx => seg_ro x hx
  have h3b : Sat W0 w (opsR p xs :: seg false g 0 (ys.flatMap OpM.cells) :: L) := h3.f
  have h4 := h3b.dup (opsR_reads p xs)
  have h5 : Sat W0 w (seg false g 0 (ys.flatMap OpM.cells) :: opsR p xs :: opsR p xs :: L) := h4.f
  refine h5.both (seg_reads _ _ _) (opsR_reads p xs) fun x hA hB i y hy => ?_
  obtain ⟨hi, hv⟩ := List.getElem?_eq_some_iff.1 hy
  obtain ⟨j, hj, hjy⟩ := List.getElem_of_mem (hsub y (List.mem_of_getElem? hy))
  obtain ⟨f1, b, o, -, -, f2, f3⟩ := hB j y (by rw [← hjy]; exact List.getElem?_eq_getElem hj)
  refine ⟨f1, g, 0, rfl, fun k u hu => ?_, f2, f3⟩
  have hk : k < 7 := (List.getElem?_eq_some_iff.1 hu).1
  rw [Nat.add_assoc]
  refine hA (i * 7 + k) u ?_
  rw [fm_get cells_7 _ i k hi hk, hv]
  exact hu
def fewP (x : OpM) : Bool := decide (x.kd ≠ 8 ∨ x.ct ≤ 64 ∨ 1048576 < x.ct)
theorem filter_snoc {xs : List OpM} {i : Nat} {x : OpM} (h : xs[i]? = some x) : (xs.take (i + 1)).filter fewP = if fewP x then (xs.take i).filter fewP ++ [x] else (xs.take i).filter fewP := by
 obtain ⟨h1, h2⟩ := List.getElem?_eq_some_iff.1 h
 rw [List.take_succ_eq_append_getElem h1, List.filter_append, h2]
 by_cases hp : fewP x = true
 ·rw [if_pos hp]; simp [hp]
 ·rw [if_neg hp]; simp [hp]
theorem filter_len (xs : List OpM) (i : Nat) : ((xs.take i).filter fewP).length ≤ i := Nat.le_trans (List.length_filter_le _ _) (by rw [List.length_take]; exact Nat.min_le_left _ _)
theorem ops_one (x : OpM) : ∀ u ∈ x.cells, u.oneCell' = true := op_one
theorem fewW {W0 w : World} {L : List Assn} {p : Option Addr} {n c : Nat} (xs : List OpM) (hn : xs.length = n) (hN : n ≤ 1000000) (hs : Sat W0 w (opsR p xs :: L)) :
  Calls Tryz.prog 11 #[.slice p n c] w fun e w' => ∃ q m d, e = .returned (.slice q m d) ∧ (xs.filter fewP).length = m ∧ Sat W0 w' (opsR q (xs.filter fewP) :: opsR p xs :: L) := by
 obtain ⟨i3, hi3, hz3, hs3, hb3⟩ := info_parts Tryz.info_op7
 have HA := Lib.hid (And.intro hi3 (And.intro hz3 (And.intro hs3 hb3))); clear hi3 hz3 hs3 hb3
 have s0 : Sat W0 w (row none 0 7 0 (((xs.take 0).filter fewP).flatMap OpM.cells) :: opsR p xs :: L) := hs.rowNil 7
 have HN := Lib.hid (And.intro hn hN); clear hn hN hs
 go_enter Tryz.func11, Tryz.ntmps11
 go_wp2
 go_loopw [3, 4] (fun t3 t4 wr => ∃ (i : Nat) (q : Option Addr) (m d : Nat), i ≤ n ∧ t4 = .int .i64 (i : Int) ∧ t3 = .slice q m d ∧ ((xs.take i).filter fewP).length = m ∧ Sat W0 wr (row q d 7 m (((xs.take i).filter fewP).flatMap OpM.cells) :: opsR p xs :: L)) (fun _ t4 _ => n - (intOf t4).toNat)
 case atStart => exact ⟨0, none, 0, 0, Nat.zero_le _, rfl, rfl, rfl, s0⟩
 case round =>
  clear s0
  obtain ⟨i, q, m, d, hi, rfl, rfl, hm, s⟩ := hrel
  by_cases hlt : i < n
  ·obtain ⟨x, hx⟩ : ∃ x, xs[i]? = some x := ⟨xs[i]'(by rw [HN.out.1]; exact hlt), List.getElem?_eq_getElem _⟩
   have sp : Sat W0 wr (opsR p xs :: row q d 7 m (((xs.take i).filter fewP).flatMap OpM.cells) :: L) := s.f
   obtain ⟨hfx, b, o, rfl, s1⟩ := opsPeek sp hx
   have hk := s1.cell (i := 0) (v := .int .u8 (x.kd : Int)) rfl
   have hc := s1.cell (i := 3) (v := .int .i64 x.ct) rfl
   clear sp
   have hk1 : wr.cell? ⟨b, o + i * 7, none⟩ = some (.int .u8 (x.kd : Int)) := hk
   have hc1 : wr.cell? ⟨b, o + i * 7 + 3, none⟩ = some (.int .i64 x.ct) := hc
   clear hk hc
   have zb : b < wr.heap.size := World.block_lt_of_cell? wr _ hk1
   have hlt' : (i : Int) < (n : Int) := by omega
   have hbig : i + 1 ≤ 1000000 := by have := HN.out.2; omega
   have hml : m ≤ i := by rw [← hm]; exact filter_len xs i
   have hsn := filter_snoc hx
   have s2 : Sat W0 wr (seg false b (o + i * 7) x.cells :: row q d 7 m (((xs.take i).filter fewP).flatMap OpM.cells) :: opsR (some ⟨b, o, none⟩) xs :: L) := s1.f
   have HX := Lib.hid (And.intro hsn hm); clear hsn hm hfx s s1 hx
   have hsn := HX.out.1
   by_cases h8 : x.kd = 8
   rotate_left
   ·have hne : ((x.kd : Int) != 8) = true := by rw [bne_iff_ne]; omega
    have hp : fewP x = true := by unfold fewP; simp only [decide_eq_true_eq]; exact .inl h8
    rw [hp, if_pos rfl] at hsn
    have HS0 := Lib.hid (And.intro hsn hp); clear hsn hp
    go_wp2_with (first | (refine wpl_ldOp rfl (.tmp 36) rfl s2 rfl ?_; have s3 : Sat W0 wr (row q d 7 m (((xs.take i).filter fewP).flatMap OpM.cells) :: opsR (some ⟨b, o, none⟩) xs :: L) := s2.tail; clear s2) | (refine wpl_append rfl (.tmp 33) (.tmp 38) 22 rfl Tryz.underlying22 HA.out.1 HA.out.2.1 HA.out.2.2.1 HA.out.2.2.2 rfl (by decide) (s3.alloc' _) rfl (some _) 1 1 rfl x.cells rfl ((s3.alloc x.cells.toArray 27).news) (fun h => by cases h) (ops_one x) (by unfold maxLen; omega) (by omega) ?_; intro p9 c9 w9 s9 _ _; clear s3))
    have HS := Lib.hid s9; clear s9
    go_wp2_with fail
    go_roundw
    case measure => simp [intOf]; omega
    case rel =>
     refine ⟨i + 1, p9, m + 1, c9, by omega, by go_num, rfl, ?_, ?_⟩
     ·rw [HS0.out.1, List.length_append, HX.out.2]; rfl
     ·rw [HS0.out.1, List.flatMap_append]
      have h := HS.out
      simpa using h
   rw [show ((x.kd : Int)) = 8 by rw [h8]; rfl] at hk1
   have HK8 := Lib.hid h8; clear h8
   by_cases h64 : x.ct ≤ 64
   ·have hp : fewP x = true := by unfold fewP; simp only [decide_eq_true_eq]; exact .inr (.inl h64)
    rw [hp, if_pos rfl] at hsn
    have HS0 := Lib.hid (And.intro hsn hp); clear hsn hp
    go_wp2_with (first | (refine wpl_ldOp rfl (.tmp 36) rfl s2 rfl ?_; have s3 : Sat W0 wr (row q d 7 m (((xs.take i).filter fewP).flatMap OpM.cells) :: opsR (some ⟨b, o, none⟩) xs :: L) := s2.tail; clear s2) | (refine wpl_append rfl (.tmp 33) (.tmp 38) 22 rfl Tryz.underlying22 HA.out.1 HA.out.2.1 HA.out.2.2.1 HA.out.2.2.2 rfl (by decide) (s3.alloc' _) rfl (some _) 1 1 rfl x.cells rfl ((s3.alloc x.cells.toArray 27).news) (fun h => by cases h) (ops_one x) (by unfold maxLen; omega) (by omega) ?_; intro p9 c9 w9 s9 _ _; clear s3))
    have HS := Lib.hid s9; clear s9
    go_wp2_with fail
    go_roundw
    case measure => simp [intOf]; omega
    case rel =>
     refine ⟨i + 1, p9, m + 1, c9, by omega, by go_num, rfl, ?_, ?_⟩
     ·rw [HS0.out.1, List.length_append, HX.out.2]; rfl
     ·rw [HS0.out.1, List.flatMap_append]
      have h := HS.out
      simpa using h
   by_cases hbg : 1048576 < x.ct
   ·have h64b : 64 < x.ct := by omega
    have hp : fewP x = true := by unfold fewP; simp only [decide_eq_true_eq]; exact .inr (.inr hbg)
    rw [hp, if_pos rfl] at hsn
    have HS0 := Lib.hid (And.intro hsn hp); clear hsn hp
    go_wp2_with (first | (refine wpl_ldOp rfl (.tmp 36) rfl s2 rfl ?_; have s3 : Sat W0 wr (row q d 7 m (((xs.take i).filter fewP).flatMap OpM.cells) :: opsR (some ⟨b, o, none⟩) xs :: L) := s2.tail; clear s2) | (refine wpl_append rfl (.tmp 33) (.tmp 38) 22 rfl Tryz.underlying22 HA.out.1 HA.out.2.1 HA.out.2.2.1 HA.out.2.2.2 rfl (by decide) (s3.alloc' _) rfl (some _) 1 1 rfl x.cells rfl ((s3.alloc x.cells.toArray 27).news) (fun h => by cases h) (ops_one x) (by unfold maxLen; omega) (by omega) ?_; intro p9 c9 w9 s9 _ _; clear s3))
    have HS := Lib.hid s9; clear s9
    go_wp2_with fail
    go_roundw
    case measure => simp [intOf]; omega
    case rel =>
     refine ⟨i + 1, p9, m + 1, c9, by omega, by go_num, rfl, ?_, ?_⟩
     ·rw [HS0.out.1, List.length_append, HX.out.2]; rfl
     ·rw [HS0.out.1, List.flatMap_append]
      have h := HS.out
      simpa using h
   ·have h64b : 64 < x.ct := by omega
    have hbb : x.ct ≤ 1048576 := by omega
    have hp : fewP x = false := by unfold fewP; simp only [decide_eq_false_iff_not]; have h8 := HK8.out; omega
    rw [hp] at hsn
    have HS0 := Lib.hid (And.intro hsn (And.intro hp s2)); clear hsn hp s2
    go_wp2_with fail
    go_roundw
    case measure => simp [intOf]; omega
    case rel =>
     refine ⟨i + 1, q, m, d, by omega, by go_num, rfl, ?_, ?_⟩
     ·rw [HS0.out.1]; exact HX.out.2
     ·rw [HS0.out.1]
      have h := HS0.out.2.2.tail
      exact h
  ·obtain rfl : i = n := by omega
   rw [show xs.take i = xs by rw [← HN.out.1, List.take_length]] at s hm
   have s3 := opsFromRow (fun y hy => (List.mem_filter.1 hy).1) s
   have HS := Lib.hid (And.intro hm s3); clear s s3 hm
   go_wp2
   go_ret
   exact ⟨q, m, d, rfl, HS.out.1, HS.out.2⟩
end Go.Proofs.YtbefjaodpbgpcaaGreat
