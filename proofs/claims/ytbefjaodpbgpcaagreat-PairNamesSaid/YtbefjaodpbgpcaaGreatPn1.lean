
/- PairNames: an operation without what its kind does not use, masked, held against another: of one operation; under the conditions that each names. -/
import Derived.Test.YtbefjaodpbgpcaaGreatPk4
namespace Go.Proofs.YtbefjaodpbgpcaaGreat
open Go.RowKit Go.Sep Go.Bv
set_option linter.unusedVariables false
set_option linter.unusedSimpArgs false
theorem Tryz.info_str : (Tryz.prog.info? 9).map (fun i => (i.zero, i.size, i.bytes)) = some (some (.string .empty), 1, 16) := by kernel_rfl
def sHandle : Value := .string ⟨[72, 97, 110, 100, 108, 101].toArray⟩
def sData : Value := .string ⟨[68, 97, 116, 97].toArray⟩
theorem str_one (s : ByteArray) : ∀ u ∈ [Value.string s], u.oneCell' = true := by intro u hu; rw [List.mem_singleton.1 hu]; rfl
set_option maxRecDepth 100000 in
set_option maxHeartbeats 2000000 in
theorem usesU {W0 w : World} {L : List Assn} (hs : Sat W0 w L) :
  Calls Tryz.prog 61 #[.int .u8 3] w fun e w' => ∃ g c, e = .returned (.slice (some ⟨g, 0, none⟩) 2 c) ∧ Sat W0 w' (seg true g 0 [sHandle, sData] :: L) := by
 obtain ⟨i3, hi3, hz3, hs3, hb3⟩ := info_parts Tryz.info_str
 have s1 := hs.rowNil 1
 clear hs
 go_enter Tryz.func61, Tryz.ntmps61
 go_wp2_with (first | (refine wpl_append rfl (.tmp 27) (.tmp 28) 122 rfl Tryz.underlying122 hi3 hz3 hs3 hb3 rfl (by decide) (s1.alloc' _) rfl (some _) 1 1 rfl [sHandle] rfl ((s1.alloc #[sHandle] 9).news) (fun h => by cases h) (str_one _) (by decide) (by decide) ?_; intro p9 c9 w9 s9 _ _; clear s1) | (refine wpl_append rfl (.tmp 31) (.tmp 32) 122 rfl Tryz.underlying122 hi3 hz3 hs3 hb3 rfl (by decide) (s9.alloc' _) rfl (some _) 1 1 rfl [sData] rfl ((s9.alloc #[sData] 9).news) (fun h => by cases h) (str_one _) (by decide) (by decide) ?_; intro p8 c8 w8 s8 _ _; clear s9))
 obtain ⟨-, ⟨-, -, h0, -, -⟩ | ⟨g, rest, rfl, -, -, -, hg⟩⟩ := s8.rowOpen
 ·exact absurd h0 (by decide)
 have HS := Lib.hid hg; clear hg s8
 go_wp2
 go_ret
 refine ⟨g, ⟨c8, rfl⟩, ?_⟩
 exact HS.out.imp fun x hx i v hv => hx i v (by
  show ([sHandle, sData] ++ rest)[i]? = some v
  rw [List.getElem?_append_left (List.getElem?_eq_some_iff.1 hv).1]; exact hv)
abbrev opU3 (p : Option Addr) (n c : Nat) : List Value := [.int .u8 3, .int .i64 3, .int .u8 0, .int .i64 5, .int .i64 0, .slice p n c, .slice none 0 0]
abbrev plU3 (h : Int) (p : Option Addr) (n c : Nat) : List Value := [.int .u8 3, .int .i64 h, .int .u8 0, .int .i64 0, .int .i64 0, .slice p n c, .slice none 0 0]
theorem opLd {W0 w : World} {L : List Assn} {g : Nat} {v0 v1 v2 v3 v4 v5 v6 : Value} (ss : Sat W0 w (seg true g 0 [v0, v1, v2, v3, v4, v5, v6] :: L)) : Sem.run Tryz.prog (loadVar 27 ⟨g, 0, none⟩) w = Result.ok (.agg #[v0, v1, v2, v3, v4, v5, v6]) w :=
 run_loadVar_agg (P := Tryz.prog) (ty := 27) Tryz.underlying27 rfl Tryz.size_op ss 0 0 rfl (Nat.le_refl 7)
theorem build_kd (k : Int) (w : World) : (Instr.build 27 #[(0, .int .u8 k)]).run Tryz.prog w = .ok (.agg #[.int .u8 k, .int .i64 0, .int .u8 0, .int .i64 0, .int .i64 0, .slice none 0 0, .slice none 0 0]) w := by
 refine run_build_struct Tryz.underlying27 (zero_op w) (places := #[(0, 1), (1, 1), (2, 1), (3, 1), (4, 1), (5, 1), (6, 1)]) (by kernel_rfl) ?_
 refine Eq.trans (fill_one (off := 0) (size := 1) (v := .int .u8 k) rfl rfl (by decide)) ?_
 rfl
set_option maxRecDepth 100000 in
set_option maxHeartbeats 4000000 in
theorem plainU {W0 w : World} {L : List Assn} {d : Nat} (hs : Sat W0 w (bytes true (some ⟨d, 0, none⟩) [7, 8] :: L)) :
  Calls Tryz.prog 42 #[.agg (opU3 (some ⟨d, 0, none⟩) 2 2).toArray] w fun e w' => ∃ g c, e = .returned (.agg (plU3 3 (some ⟨g, 0, none⟩) 2 c).toArray) ∧ Sat W0 w' (seg true g 0 (u8s [7, 8]) :: L) := by
 have HO := Lib.hid (hOp W0)
 go_enter Tryz.func42, Tryz.ntmps42
 go_wp2_with (first | (refine wpl_box rfl 27 (.tmp 0) rfl (opU3 (some ⟨d, 0, none⟩) 2 2) rfl hs ?_; intro w1 g s1 _; clear hs) | (refine wpl_alloc_agg rfl 27 rfl s1 _ (zero_op _) ?_; intro w2 ga s2' _; clear s1; have s2 : Sat W0 w2 (seg true g 0 (opU3 (some ⟨d, 0, none⟩) 2 2) :: seg true ga 0 op0 :: bytes true (some ⟨d, 0, none⟩) [7, 8] :: L) := s2'.f; clear s2'; obtain ⟨o0, o1, o2, o3, o4, o5, o6, zo⟩ := HO.out _ _ _ _ _ _ _ _ _ _ s2) | (refine wpl_build rfl 27 rfl (.agg (plU3 0 none 0 0).toArray) (by simp only [List.map_toArray, List.map_cons, List.map_nil]; exact build_kd 3 _) ?_) | (refine wpl_alloc_agg rfl 27 rfl s2 _ (zero_op _) ?_; intro w3 gp s3 _; clear s2 o0 o1 o2 o3 o4 o5 o6 zo) | (refine wpl_stOp rfl rfl (.tmp 3) (.tmp 8) rfl (kd := 3) (ag := 0) s3 rfl rfl ?_; intro w4 s4x; have s4' : Sat W0 w4 (seg true gp 0 (plU3 0 none 0 0) :: seg true g 0 (opU3 (some ⟨d, 0, none⟩) 2 2) :: seg true ga 0 op0 :: bytes true (some ⟨d, 0, none⟩) [7, 8] :: L) := s4x; clear s3 s4x; have s4 : Sat W0 w4 (seg true g 0 (opU3 (some ⟨d, 0, none⟩) 2 2) :: seg true ga 0 op0 :: seg true gp 0 (plU3 0 none 0 0) :: bytes true (some ⟨d, 0, none⟩) [7, 8] :: L) := s4'.f; clear s4'; obtain ⟨o0, o1, o2, o3, o4, o5, o6, zo⟩ := HO.out _ _ _ _ _ _ _ _ _ _ s4))
 refine (usesU s4).mono ?_
 rintro e w5 ⟨gu, cu, rfl, s5⟩
 clear s4 o0 o1 o2 o3 o4 o5 o6 zo
 go_wp2
 go_loopw [13] (fun t13 wr => (t13 = .int .i64 0 ∧ Sat W0 wr (seg true g 0 (opU3 (some ⟨d, 0, none⟩) 2 2) :: seg true gu 0 [sHandle, sData] :: seg true gp 0 (plU3 0 none 0 0) :: bytes true (some ⟨d, 0, none⟩) [7, 8] :: seg true ga 0 op0 :: L))
  ∨ (t13 = .int .i64 1 ∧ Sat W0 wr (seg true g 0 (opU3 (some ⟨d, 0, none⟩) 2 2) :: seg true gu 0 [sHandle, sData] :: seg true gp 0 (plU3 3 none 0 0) :: bytes true (some ⟨d, 0, none⟩) [7, 8] :: seg true ga 0 op0 :: L))
  ∨ (∃ q c, t13 = .int .i64 2 ∧ Sat W0 wr (row q c 1 2 (u8s [7, 8]) :: seg true gp 0 (plU3 3 q 2 c) :: seg true ga 0 op0 :: L))) (fun t13 _ => 2 - (intOf t13).toNat)
 case atStart => exact .inl ⟨rfl, s5.f⟩
 case round =>
  clear s5
  rcases hrel with ⟨rfl, s⟩ | ⟨rfl, s⟩ | ⟨q, c, rfl, s⟩
  ·obtain ⟨o0, o1, o2, o3, o4, o5, o6, zo⟩ := HO.out _ _ _ _ _ _ _ _ _ _ s
   have s2 : Sat W0 wr (seg true gu 0 [sHandle, sData] :: []) := s.f
   have c0 : wr.cell? ⟨gu, 0, none⟩ = some (.string ⟨[72, 97, 110, 100, 108, 101].toArray⟩) := s2.at 0 rfl
   have z0 := s2.lt (by simp)
   clear s2
   have sp : Sat W0 wr (seg true gp 0 (plU3 0 none 0 0) :: seg true g 0 (opU3 (some ⟨d, 0, none⟩) 2 2) :: seg true gu 0 [sHandle, sData] :: bytes true (some ⟨d, 0, none⟩) [7, 8] :: seg true ga 0 op0 :: L) := s.f
   have hst := sp.store (i := 1) (by simp) (.int .i64 3) (q := 1) rfl
   have hc := sp.cell (i := 1) rfl
   have hf := (sp.free (i := 1) (by simp)).1
   have hz := World.block_lt_of_cell? _ _ hc
   have HS := Lib.hid hst; clear s sp hst
   go_wp2
   go_roundw
   case measure => simp [intOf]
   case rel =>
    have h : Sat W0 _ (seg true gp 0 (plU3 3 none 0 0) :: seg true g 0 (opU3 (some ⟨d, 0, none⟩) 2 2) :: seg true gu 0 [sHandle, sData] :: bytes true (some ⟨d, 0, none⟩) [7, 8] :: seg true ga 0 op0 :: L) := HS.out
    exact .inr (.inl ⟨by rfl, h.f⟩)
  ·obtain ⟨o0, o1, o2, o3, o4, o5, o6, zo⟩ := HO.out _ _ _ _ _ _ _ _ _ _ s
   have s2 : Sat W0 wr (seg true gu 0 [sHandle, sData] :: []) := s.f
   have c0 : wr.cell? ⟨gu, 1, none⟩ = some (.string ⟨[68, 97, 116, 97].toArray⟩) := s2.at 1 rfl
   have z0 := s2.lt (by simp)
   clear s2
   have hNil := (s.alloc #[] 5)
   have sN : Sat W0 (wr.alloc (.cells #[] 5)) (row (some ⟨wr.heap.size, 0, none⟩) 0 1 0 (u8s []) :: bytes true (some ⟨d, 0, none⟩) [7, 8] :: seg true g 0 (opU3 (some ⟨d, 0, none⟩) 2 2) :: seg true gp 0 (plU3 3 none 0 0) :: seg true ga 0 op0 :: L) := by
    have h : Sat W0 (wr.alloc (.cells #[] 5)) (seg true wr.heap.size 0 ([] ++ []) :: seg true g 0 (opU3 (some ⟨d, 0, none⟩) 2 2) :: seg true gu 0 [sHandle, sData] :: seg true gp 0 (plU3 3 none 0 0) :: bytes true (some ⟨d, 0, none⟩) [7, 8] :: seg true ga 0 op0 :: L) := hNil
    have h2 : Sat W0 (wr.alloc (.cells #[] 5)) (row (some ⟨wr.heap.size, 0, none⟩) 0 1 0 (u8s []) :: seg true g 0 (opU3 (some ⟨d, 0, none⟩) 2 2) :: seg true gu 0 [sHandle, sData] :: seg true gp 0 (plU3 3 none 0 0) :: bytes true (some ⟨d, 0, none⟩) [7, 8] :: seg true ga 0 op0 :: L) := h.rowMade (sz := 1) (n := 0) (cap := 0) rfl rfl (Nat.le_refl _) (Nat.zero_le _)
    exact h2.f
   clear hNil s
   go_wp2_with (refine wpl_app8 rfl (.tmp 40) (.tmp 42) rfl (xs := []) rfl rfl sN rfl (by decide) ?_; intro p9 c9 w9 s9z; have s9 : Sat W0 w9 (row p9 c9 1 2 (u8s [7, 8]) :: bytes true (some ⟨d, 0, none⟩) [7, 8] :: seg true g 0 (opU3 (some ⟨d, 0, none⟩) 2 2) :: seg true gp 0 (plU3 3 none 0 0) :: seg true ga 0 op0 :: L) := s9z; clear sN s9z; have s9p : Sat W0 w9 (seg true gp 0 (plU3 3 none 0 0) :: row p9 c9 1 2 (u8s [7, 8]) :: seg true ga 0 op0 :: L) := s9.f; clear s9; have hst := s9p.store (i := 5) (by simp) (.slice p9 2 c9) (q := 5) rfl; have hc := s9p.cell (i := 5) rfl; have hf := (s9p.free (i := 5) (by simp)).1; have hz := World.block_lt_of_cell? _ _ hc; have HS := Lib.hid hst; clear s9p hst)
   go_roundw
   case measure => simp [intOf]
   case rel =>
    have h : Sat W0 _ (seg true gp 0 (plU3 3 p9 2 c9) :: row p9 c9 1 2 (u8s [7, 8]) :: seg true ga 0 op0 :: L) := HS.out
    exact .inr (.inr ⟨p9, c9, by rfl, h.f⟩)
  ·have s2 : Sat W0 wr (seg true gp 0 (plU3 3 q 2 c) :: seg true ga 0 op0 :: row q c 1 2 (u8s [7, 8]) :: L) := s.f
   clear s
   go_wp2_with (first | (refine wpl_ldOp rfl (.tmp 3) rfl (kd := 3) (ag := 0) s2 rfl ?_; have s3 : Sat W0 wr (seg true ga 0 op0 :: row q c 1 2 (u8s [7, 8]) :: L) := s2.tail; clear s2) | (refine wpl_stOp rfl rfl (.tmp 2) (.tmp 53) rfl (kd := 3) (ag := 0) s3 rfl rfl ?_; intro w6 s6; clear s3))
   have hr := opLd s6
   have s7 := s6.tail
   clear s6
   obtain ⟨-, ⟨-, -, h0, -, -⟩ | ⟨gr, rest, rfl, -, -, -, hg⟩⟩ := s7.rowOpen
   ·exact absurd h0 (by decide)
   have HS := Lib.hid hg; clear hg s7
   refine bodyPost_ret (v := .agg (plU3 3 (some ⟨gr, 0, none⟩) 2 c).toArray) (by simp [results, Tryz.results42, asAddr]; exact hr) rfl ⟨gr, c, rfl, ?_⟩
   exact HS.out.imp fun x hx i v hv => hx i v (by
    rw [List.getElem?_append_left (List.getElem?_eq_some_iff.1 hv).1]; exact hv)
/-- Masked: one operation whose kind uses two bytes. -/
theorem Tryz.info_opM : (Tryz.prog.info? 27).map (fun i => (i.zero, i.size, i.bytes)) = some (some (.agg op0.toArray), 7, 88) := by kernel_rfl
theorem opu_one (h : Int) (p : Option Addr) (n c : Nat) : ∀ v ∈ plU3 h p n c, v.oneCell' = true := by
 intro v hv; simp only [List.mem_cons, List.not_mem_nil, or_false] at hv; rcases hv with rfl | rfl | rfl | rfl | rfl | rfl | rfl <;> rfl
def mkU : Nat → List Byte
 | 0 => [7, 8]
 | 1 => [0, 8]
 | _ => [0, 0]
set_option maxRecDepth 100000 in
set_option maxHeartbeats 4000000 in
theorem maskedU {W0 w : World} {L : List Assn} {d m : Nat} (hs : Sat W0 w (seg true m 0 (opU3 (some ⟨d, 0, none⟩) 2 2) :: bytes true (some ⟨d, 0, none⟩) [7, 8] :: L)) :
  Calls Tryz.prog 23 #[.slice (some ⟨m, 0, none⟩) 1 1, .int .u8 0] w fun e w' => ∃ q cq g c, e = .returned (.slice q 1 cq) ∧ Sat W0 w' (row q cq 7 1 (plU3 3 (some ⟨g, 0, none⟩) 2 c) :: seg true g 0 (u8s [0, 0]) :: L) := by
 obtain ⟨i3, hi3, hz3, hs3, hb3⟩ := info_parts Tryz.info_opM
 have HI := Lib.hid (And.intro hi3 (And.intro hz3 (And.intro hs3 hb3))); clear hi3 hz3 hs3 hb3
 have hix0 := fun (p q : Option Addr) (n c k d : Nat) (w : World) => (by kernel_rfl : (Instr.index 101 (.agg #[.slice p n c, .slice q k d]) (.int .i64 0)).run Tryz.prog w = .ok (.slice p n c) w)
 have hix1 := fun (p q : Option Addr) (n c k d : Nat) (w : World) => (by kernel_rfl : (Instr.index 101 (.agg #[.slice p n c, .slice q k d]) (.int .i64 1)).run Tryz.prog w = .ok (.slice q k d) w)
 have s0 := hs.rowNil 7
 clear hs
 go_enter Tryz.func23, Tryz.ntmps23
 go_wp2
 go_loopw [5, 14] (fun t5 t14 wr => (t14 = .int .i64 0 ∧ t5 = .slice none 0 0 ∧ Sat W0 wr (seg true m 0 (opU3 (some ⟨d, 0, none⟩) 2 2) :: bytes true (some ⟨d, 0, none⟩) [7, 8] :: row none 0 7 0 [] :: L)) ∨ (∃ q cq g c, t14 = .int .i64 1 ∧ t5 = .slice q 1 cq ∧ Sat W0 wr (row q cq 7 1 (plU3 3 (some ⟨g, 0, none⟩) 2 c) :: seg true g 0 (u8s [0, 0]) :: L))) (fun _ t14 _ => 1 - (intOf t14).toNat)
 case atStart => exact .inl ⟨rfl, rfl, s0.f⟩
 case round =>
  clear s0
  rcases hrel with ⟨rfl, rfl, s⟩ | ⟨q, cq, g, c, rfl, rfl, s⟩
  ·have zm := s.lt (by simp)
   go_wp2_with (first | (refine wpl_ldOp rfl (.tmp 16) rfl (kd := 3) (ag := 0) s rfl ?_) | (refine wpl_alloc_agg rfl 27 rfl s _ (zero_op _) ?_; intro w3 go s3 _; clear s zm) | (refine wpl_stOp rfl rfl (.tmp 7) (.tmp 17) rfl (kd := 3) (ag := 0) s3 rfl rfl ?_; intro w4 s4; clear s3) | (refine wpl_ldOp rfl (.tmp 7) rfl (kd := 3) (ag := 0) s4 rfl ?_))
   have s5 : Sat W0 w4 (bytes true (some ⟨d, 0, none⟩) [7, 8] :: row none 0 7 0 [] :: L) := s4.f
   refine (plainU s5).mono ?_
   rintro e w5 ⟨g, c, rfl, s6⟩
   clear s4 s5
   have z6 := s6.lt (by simp [u8s])
   go_wp2_with (first | (refine wpl_alloc_agg rfl 27 rfl s6 _ (zero_op _) ?_; intro w7 gp s7 _; clear s6 z6) | (refine wpl_stOp rfl rfl (.tmp 8) (.tmp 19) rfl (kd := 3) (ag := 0) s7 rfl rfl ?_; intro w8 s8x; have s8 : Sat W0 w8 (seg true gp 0 (plU3 3 (some ⟨g, 0, none⟩) 2 c) :: seg true g 0 (u8s [7, 8]) :: row none 0 7 0 [] :: L) := s8x; clear s7 s8x; have o5 := s8.at 5 rfl; have o6 := s8.at 6 rfl; have zo := s8.lt (by simp)))
   clear o5 o6 zo
   go_wp2
   go_loopw [25] (fun t25 wr => (t25 = .int .i64 0 ∧ Sat W0 wr (seg true gp 0 (plU3 3 (some ⟨g, 0, none⟩) 2 c) :: seg true g 0 (u8s [7, 8]) :: row none 0 7 0 [] :: L)) ∨ ∃ k : Nat, (k = 1 ∨ k = 2) ∧ t25 = .int .i64 (k : Int) ∧ Sat W0 wr (seg true gp 0 (plU3 3 (some ⟨g, 0, none⟩) 2 c) :: seg true g 0 (u8s [0, 0]) :: row none 0 7 0 [] :: L)) (fun t25 _ => 2 - (intOf t25).toNat)
   case atStart => exact .inl ⟨rfl, s8⟩
   case round =>
    clear s8
    rcases hrel with ⟨rfl, s⟩ | ⟨k, hk, rfl, s⟩
    ·go_wp2
     go_loopw [30] (fun t30 wr => ∃ i : Nat, i ≤ 2 ∧ t30 = .int .i64 (i : Int) ∧ Sat W0 wr (seg true g 0 (u8s (mkU i)) :: seg true gp 0 (plU3 3 (some ⟨g, 0, none⟩) 2 c) :: row none 0 7 0 [] :: L)) (fun t30 _ => 2 - (intOf t30).toNat)
     case atStart =>
      have h : Sat W0 _ (seg true g 0 (u8s [7, 8]) :: seg true gp 0 (plU3 3 (some ⟨g, 0, none⟩) 2 c) :: row none 0 7 0 [] :: L) := s.f
      exact ⟨0, by decide, rfl, h⟩
     case round =>
      clear s
      obtain ⟨i, hi, rfl, s⟩ := hrel
      have h3 : i = 0 ∨ i = 1 ∨ i = 2 := by omega
      rcases h3 with rfl | rfl | rfl
      ·have hst := s.store (i := 0) (by simp [mkU, u8s]) (.int .u8 0) (q := 0) rfl
       have hc := s.cell (i := 0) rfl
       have hf := (s.free (i := 0) (by simp [mkU, u8s])).1
       have hz := World.block_lt_of_cell? _ _ hc
       have HS := Lib.hid hst; clear s hst
       go_wp2
       go_roundw
       case measure => simp [intOf]
       case rel =>
        exact ⟨1, by decide, by rfl, HS.out⟩
      ·have hst := s.store (i := 1) (by simp [mkU, u8s]) (.int .u8 0) (q := 1) rfl
       have hc := s.cell (i := 1) rfl
       have hf := (s.free (i := 1) (by simp [mkU, u8s])).1
       have hz := World.block_lt_of_cell? _ _ hc
       have HS := Lib.hid hst; clear s hst
       go_wp2
       go_roundw
       case measure => simp [intOf]
       case rel =>
        exact ⟨2, by decide, by rfl, HS.out⟩
      ·have HS := Lib.hid s; clear s
       go_wp2
       go_roundw
       case measure => simp [intOf]
       case rel => exact .inr ⟨1, .inl rfl, by rfl, by
        have h : Sat W0 _ (seg true g 0 (u8s [0, 0]) :: seg true gp 0 (plU3 3 (some ⟨g, 0, none⟩) 2 c) :: row none 0 7 0 [] :: L) := HS.out
        exact h.f⟩
    ·rcases hk with rfl | rfl
     ·have HS := Lib.hid s; clear s
      go_wp2
      go_loopw [30] (fun t30 wr => t30 = .int .i64 0 ∧ Sat W0 wr (seg true gp 0 (plU3 3 (some ⟨g, 0, none⟩) 2 c) :: seg true g 0 (u8s [0, 0]) :: row none 0 7 0 [] :: L)) (fun t30 _ => 0)
      case atStart => exact ⟨rfl, HS.out⟩
      case round =>
       clear HS
       obtain ⟨rfl, s⟩ := hrel
       have HS := Lib.hid s; clear s
       go_wp2
       go_roundw
       case measure => simp [intOf]
       case rel => exact .inr ⟨2, .inr rfl, by rfl, HS.out⟩
     ·go_wp2_with (first | (refine wpl_ldOp rfl (.tmp 8) rfl (kd := 3) (ag := 0) s rfl ?_; have s9 : Sat W0 wr (row none 0 7 0 [] :: seg true g 0 (u8s [0, 0]) :: L) := s.f; clear s) | (refine wpl_append rfl (.tmp 39) (.tmp 41) 22 rfl Tryz.underlying22 HI.out.1 HI.out.2.1 HI.out.2.2.1 HI.out.2.2.2 rfl (by decide) (s9.alloc' _) rfl (some _) 1 1 rfl (plU3 3 (some ⟨g, 0, none⟩) 2 c) rfl ((s9.alloc (plU3 3 (some ⟨g, 0, none⟩) 2 c).toArray 27).news) (fun h => by cases h) (opu_one _ _ _ _) (by decide) (by decide) ?_; intro p9 c9 w9 s10 _ _; clear s9))
      have HS := Lib.hid s10; clear s10
      go_roundw
      case measure => simp [intOf]
      case rel => exact .inr ⟨p9, c9, g, c, by rfl, rfl, HS.out⟩
  ·have HS := Lib.hid s; clear s
   go_wp2
   go_ret
   exact ⟨q, cq, g, c, rfl, HS.out⟩
end Go.Proofs.YtbefjaodpbgpcaaGreat
