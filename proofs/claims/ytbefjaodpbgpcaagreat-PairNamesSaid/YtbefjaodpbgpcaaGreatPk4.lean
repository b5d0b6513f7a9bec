
/- PairLong: the observer sees; a closed statement. -/
import Derived.Test.YtbefjaodpbgpcaaGreatPk3
import Derived.Test.YtbefjaodpbgpcaaGreatPr3
import Derived.Laws.BytesArg
import Derived.MapKept
namespace Go.Proofs.YtbefjaodpbgpcaaGreat
open Go.RowKit Go.Sep Go.Bv
set_option linter.unusedVariables false
set_option linter.unusedSimpArgs false
abbrev jefe : List Byte := [74, 101, 102, 101]
theorem build_put (q : Option Addr) (n c : Nat) (w : World) : (Instr.build 27 #[(0, .int .u8 1), (5, .slice q n c)]).run Tryz.prog w = .ok (.agg #[.int .u8 1, .int .i64 0, .int .u8 0, .int .i64 0, .int .i64 0, .slice q n c, .slice none 0 0]) w := by
 refine run_build_struct Tryz.underlying27 (zero_op w) (places := #[(0, 1), (1, 1), (2, 1), (3, 1), (4, 1), (5, 1), (6, 1)]) (by kernel_rfl) ?_
 refine Eq.trans (fill_one (off := 0) (size := 1) (v := .int .u8 1) rfl rfl (by decide)) ?_
 refine Eq.trans (fill_one (off := 5) (size := 1) (v := .slice q n c) rfl rfl (by simp [length_setL])) ?_
 rfl
theorem build_rev (w : World) : (Instr.build 27 #[(0, .int .u8 9)]).run Tryz.prog w = .ok (.agg #[.int .u8 9, .int .i64 0, .int .u8 0, .int .i64 0, .int .i64 0, .slice none 0 0, .slice none 0 0]) w := by
 refine run_build_struct Tryz.underlying27 (zero_op w) (places := #[(0, 1), (1, 1), (2, 1), (3, 1), (4, 1), (5, 1), (6, 1)]) (by kernel_rfl) ?_
 refine Eq.trans (fill_one (off := 0) (size := 1) (v := .int .u8 9) rfl rfl (by decide)) ?_
 rfl
/-- The two operations. -/
def putJ (b : Nat) : OpM := ⟨1, 0, 0, 0, 0, some ⟨b, 0, none⟩, 4, 4, none, 0, 0, jefe, []⟩
set_option maxRecDepth 100000 in
theorem live_ans (b : Nat) : answers doK ([putJ b, askO 0].map OpM.c) (List.replicate 64 none) [] = [⟨0, 0, false, []⟩, ⟨0, 0, false, jefe⟩] := by kernel_rfl
set_option maxRecDepth 100000 in
theorem live_runs (b : Nat) : (after doK 2 ([putJ b, askO 0].map OpM.c) (List.replicate 64 none) []).2 = [(11, 1, 1), (12, 0, 1), (11, 9, 1), (12, 0, 1)] := by kernel_rfl
def strOfC (bs : List Byte) : ByteArray := strOfNums (bs.map v8)
theorem convC {W0 w : World} {L : List Assn} {m : Bool} {p : Option Addr} {n c : Nat} {bs : List Byte} (hn : bs.length = n) (hs : Sat W0 w (bytes m p bs :: L)) (hb : bs ≠ []) :
  (convert 25 9 (.slice p n c)).run Tryz.prog w = .ok (.string (strOfC bs)) w := by
 obtain ⟨b, o, rfl, h1⟩ := bytesCell hs hb
 refine run_convert_bytes_arg w 25 5 Tryz.underlying25 Tryz.underlying5 b o n c (bs.map v8) (by rw [List.length_map]; exact hn) (fun i hi => ?_) 9 Tryz.underlying9
 have hi' : i < bs.length := by omega
 have := h1.cell (u8s_get bs i hi')
 rw [this]
 simp [hi']
theorem opsTwo {W0 w : World} {L : List Assn} {g b : Nat} (h : Sat W0 w (seg true g 0 ([putJ b, askO 0].flatMap OpM.cells) :: seg true b 0 (u8s jefe) :: L)) : Sat W0 w (opsR (some ⟨g, 0, none⟩) [putJ b, askO 0] :: L) := by
 refine h.sepShut.ro fun y hy i x hx => ?_
 obtain ⟨h1, k1, l1, l2, -, hA, hB⟩ := hy
 obtain ⟨hi, hv⟩ := List.getElem?_eq_some_iff.1 hx
 have hseg : seg false g (0 + i * 7) x.cells y.ro := by
  intro k u hu
  have hk : k < 7 := (List.getElem?_eq_some_iff.1 hu).1
  refine Hp.ro_some (m := true) (l1.1 _ _ _ ?_)
  rw [Nat.add_assoc]
  refine hA (i * 7 + k) u ?_
  rw [fm_get cells7 _ i k hi hk, hv]
  exact hu
 have hbs : bytes false (some ⟨b, 0, none⟩) jefe y.ro := .inr ⟨b, 0, rfl, fun k u hu => Hp.ro_some (m := true) (l2.1 _ _ _ (hB k u hu))⟩
 match i, hi with
 | 0, _ =>
  have hv : putJ b = x := hv
  subst hv
  exact ⟨⟨⟨by show 1 < 256; decide, by show 0 < 256; decide⟩, ⟨rfl, by show 4 ≤ 4; decide, by show 4 ≤ maxLen; decide⟩, ⟨rfl, Nat.le_refl _, Nat.zero_le _⟩, by show 4 ≤ 1048576; decide, Nat.zero_le _⟩, g, 0, rfl, hseg, hbs, .inl rfl⟩
 | 1, _ =>
  have hv : askO 0 = x := hv
  subst hv
  exact ⟨askO_fine 0, g, 0, rfl, hseg, .inl rfl, .inl rfl⟩
set_option maxRecDepth 100000 in
set_option maxHeartbeats 2000000 in
theorem livesP {W0 w : World} {L : List Assn} (hs : Sat W0 w L) : Calls Tryz.prog 7 #[] w fun e w' => e = .returned (.bool true) ∧ Sat W0 w' L := by
 have kc := fun (w : World) (C : Array Value) (n c g : Nat) (hg : g = w.heap.size) => Joins.run_convert_bytes_const_at (P := Tryz.prog) w 25 5 C n c g hg Tryz.underlying25 Tryz.underlying5
 obtain ⟨b, hb⟩ : ∃ b, b = w.heap.size := ⟨_, rfl⟩
 have s1 : Sat W0 _ (seg true w.heap.size 0 (u8s jefe) :: L) := hs.allocMark (u8s jefe).toArray 5
 have s2 := allocAt' s1 ([putJ b, askO 0].flatMap OpM.cells).toArray 27 (q := b + 1) (by simp [hb])
 rw [← hb] at s2
 have HS := Lib.hid (opsTwo s2); clear s1 s2 hs
 go_enter Tryz.func7, Tryz.ntmps7
 go_wp2_with (first | (refine wpl_build rfl 27 rfl (askO 0).v (by simp only [List.map_toArray, List.map_cons, List.map_nil]; exact build_rev _) ?_) | (refine wpl_build rfl 27 rfl (.agg #[.int .u8 1, .int .i64 0, .int .u8 0, .int .i64 0, .int .i64 0, .slice (some ⟨w.heap.size, 0, none⟩) 4 4, .slice none 0 0]) (by simp only [List.map_toArray, List.map_cons, List.map_nil]; exact build_put _ _ _ _) ?_))
 rw [← hb]
 refine (runW (n := 2) doesK [putJ b, askO 0] rfl (by decide) (by decide) (by
  intro x hx
  simp only [List.mem_cons, List.not_mem_nil, or_false] at hx
  rcases hx with rfl | rfl
  ·exact .inl rfl
  ·exact .inr rfl) HS.out).mono ?_
 rintro e w1 ⟨pa, ca, q, cq, m, ts, rfl, htl, htm, hm, s3⟩
 rw [live_ans] at htm
 rw [live_runs] at hm s3
 subst hm
 clear HS hb
 obtain ⟨⟨p1, c1, a1⟩, ⟨p2, c2, a2⟩, rfl⟩ : ∃ x y, ts = [x, y] := by
  match ts, htl with
  | [x, y], _ => exact ⟨x, y, rfl⟩
 simp only [List.map_cons, List.map_nil, List.cons.injEq, and_true] at htm
 obtain ⟨rfl, rfl⟩ := htm
 have s4 : Sat W0 w1 (bytes true p2 jefe :: runsA true q [(11, 1, 1), (12, 0, 1), (11, 9, 1), (12, 0, 1)] :: row pa ca 4 2 [.int .i64 0, .int .i64 0, .bool false, .slice p1 0 c1, .int .i64 0, .int .i64 0, .bool false, .slice p2 4 c2] :: L) := by
  have h1 : Sat W0 w1 (sep (bytes true p1 []) (sep (bytes true p2 jefe) emp) :: row pa ca 4 2 [.int .i64 0, .int .i64 0, .bool false, .slice p1 0 c1, .int .i64 0, .int .i64 0, .bool false, .slice p2 4 c2] :: runsA true q [(11, 1, 1), (12, 0, 1), (11, 9, 1), (12, 0, 1)] :: opsR (some ⟨b + 1, 0, none⟩) [putJ b, askO 0] :: L) := s3.swap
  have h2 := h1.sepOpen.tail.sepOpen
  exact h2.f
 clear s3
 have hrow : Sat W0 w1 (row pa ca 4 2 [.int .i64 0, .int .i64 0, .bool false, .slice p1 0 c1, .int .i64 0, .int .i64 0, .bool false, .slice p2 4 c2] :: L) := s4.f
 obtain ⟨-, ⟨-, -, h0, -, -⟩ | ⟨g, rest, rfl, -, -, -, hg⟩⟩ := hrow.rowOpen
 ·exact absurd h0 (by decide)
 have x0 := hg.at 0 rfl
 have x1 := hg.at 1 rfl
 have x7 := hg.at 7 rfl
 have zg := hg.lt (by simp)
 clear hrow hg
 have s5 := s4.alloc #[.int .u8 11, .int .i64 1, .int .i64 1, .int .u8 12, .int .i64 0, .int .i64 1, .int .u8 11, .int .i64 9, .int .i64 1, .int .u8 12, .int .i64 0, .int .i64 1] 72
 have s6 : Sat W0 (w1.alloc (.cells #[.int .u8 11, .int .i64 1, .int .i64 1, .int .u8 12, .int .i64 0, .int .i64 1, .int .u8 11, .int .i64 9, .int .i64 1, .int .u8 12, .int .i64 0, .int .i64 1] 72)) (runsA true (some ⟨w1.heap.size, 0, none⟩) [(11, 1, 1), (12, 0, 1), (11, 9, 1), (12, 0, 1)] :: bytes true p2 jefe :: runsA true q [(11, 1, 1), (12, 0, 1), (11, 9, 1), (12, 0, 1)] :: L) := by
  have h := runsOf (rs := [(11, 1, 1), (12, 0, 1), (11, 9, 1), (12, 0, 1)]) s5
  exact h.f
 have hc := convC (c := c2) (n := 4) rfl s6.swap (by decide)
 clear s4 s5
 have hj : (strOfC jefe).toList = [74, 101, 102, 101] := by kernel_rfl
 have hj2 : ((strOfC jefe).toList == [74, 101, 102, 101]) = true := by rw [hj]; rfl
 have HS := Lib.hid s6; clear s6 hj
 obtain ⟨S, hS⟩ : ∃ S, S = strOfC jefe := ⟨_, rfl⟩
 rw [← hS] at hc hj2
 clear hS
 go_wp2_with fail
 have s7 := HS.out
 refine (sameRuns [(11, 1, 1), (12, 0, 1), (11, 9, 1), (12, 0, 1)] rfl rfl (by decide) (s7.f : Sat W0 _ (runsA true q [(11, 1, 1), (12, 0, 1), (11, 9, 1), (12, 0, 1)] :: runsA true (some ⟨w1.heap.size, 0, none⟩) [(11, 1, 1), (12, 0, 1), (11, 9, 1), (12, 0, 1)] :: L))).mono ?_
 rintro e w2 ⟨rfl, s8⟩
 clear HS s7 hc hj2
 go_wp2
 go_ret
 exact ⟨rfl, s8.tail.tail⟩
theorem long_walk (W : World) : Calls Tryz.prog 3 #[] W fun e W' => e = .returned (.bool true) ∧ Below W.heap.size W W' :=
 longW (fun w L h => livesP h) (Sat.nil W)
end Go.Proofs.YtbefjaodpbgpcaaGreat
