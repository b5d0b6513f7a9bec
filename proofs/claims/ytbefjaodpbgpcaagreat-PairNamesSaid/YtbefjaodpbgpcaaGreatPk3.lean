
/- PairLong: scripts of 4096 operations are played, longer ones are refused; a closed statement. -/
import Derived.Test.YtbefjaodpbgpcaaGreatPk2
namespace Go.Proofs.YtbefjaodpbgpcaaGreat
open Go.RowKit Go.Sep Go.Bv
set_option linter.unusedVariables false
set_option linter.unusedSimpArgs false
theorem Tryz.info_op : (Tryz.prog.info? 27).map (fun i => (i.zero, i.size, i.bytes)) = some (some (.agg op0.toArray), 7, 88) := by kernel_rfl
theorem build_ask (h : Int) (w : World) : (Instr.build 27 #[(0, .int .u8 9), (1, .int .i64 h)]).run Tryz.prog w = .ok (.agg #[.int .u8 9, .int .i64 h, .int .u8 0, .int .i64 0, .int .i64 0, .slice none 0 0, .slice none 0 0]) w := by
 refine run_build_struct Tryz.underlying27 (zero_op w) (places := #[(0, 1), (1, 1), (2, 1), (3, 1), (4, 1), (5, 1), (6, 1)]) (by kernel_rfl) ?_
 refine Eq.trans (fill_one (off := 0) (size := 1) (v := .int .u8 9) rfl rfl (by decide)) ?_
 refine Eq.trans (fill_one (off := 1) (size := 1) (v := .int .i64 h) rfl rfl (by simp [length_setL])) ?_
 rfl
set_option maxRecDepth 100000 in
set_option maxHeartbeats 8000000 in
theorem longW {W0 w : World} {L : List Assn} (hlive : ∀ (w : World) (L : List Assn), Sat W0 w L → Calls Tryz.prog 7 #[] w fun e w' => e = .returned (.bool true) ∧ Sat W0 w' L) (hs : Sat W0 w L) :
  Calls Tryz.prog 3 #[] w fun e w' => e = .returned (.bool true) ∧ Below W0.heap.size W0 w' := by
 obtain ⟨i3, hi3, hz3, hs3, hb3⟩ := info_parts Tryz.info_op
 have HI := Lib.hid (And.intro hi3 (And.intro hz3 (And.intro hs3 hb3))); clear hi3 hz3 hs3 hb3
 have HV := Lib.hid hlive; clear hlive
 go_enter Tryz.func3, Tryz.ntmps3
 go_wp2_with (refine wpl_makeN rfl 22 27 (.const (.int .i64 4097)) (.const (.int .i64 4097)) rfl Tryz.underlying22 HI.out.1 HI.out.2.1 HI.out.2.2.1 rfl HI.out.2.2.2 (by decide) 4097 rfl rfl (by decide) (by decide) hs ?_; intro w1 g s1 _; clear hs)
 have s2 : Sat W0 w1 (seg true g 0 ((longL 0).flatMap OpM.cells) :: L) := by
  have e : ((longL 0).flatMap OpM.cells) = (List.replicate 4097 ()).flatMap fun _ => op0 := by
   unfold longL
   rw [List.range_zero, List.map_nil, List.nil_append]
   rw [List.flatMap_def, List.flatMap_def, List.map_replicate, List.map_replicate]
   rfl
  rw [e]
  exact s1
 clear s1
 go_loopw [2] (fun t2 wr => ∃ i : Nat, i ≤ 4097 ∧ t2 = .int .i64 (i : Int) ∧ Sat W0 wr (seg true g 0 ((longL i).flatMap OpM.cells) :: L)) (fun t2 _ => 4097 - (intOf t2).toNat)
 case atStart => exact ⟨0, Nat.zero_le _, rfl, s2⟩
 case round =>
  clear s2
  obtain ⟨i, hi, rfl, s⟩ := hrel
  by_cases hlt : i < 4097
  ·have hlt' : (i : Int) < 4097 := by omega
   have hrem : (i : Int).tmod 64 = ((i % 64 : Nat) : Int) := rfl
   have hll := longL_len i hi
   have hset := longL_set i hlt
   have hfl : i * 7 + 7 ≤ ((longL i).flatMap OpM.cells).length := by rw [fm_len cells7, hll]; omega
   have HX := Lib.hid (And.intro hll hset); clear hll hset
   go_wp2_with (first | (refine wpl_build rfl 27 rfl (askO (i % 64)).v (by simp only [List.map_toArray, List.map_cons, List.map_nil]; exact build_ask _ _) ?_) | (refine wpl_store_agg rfl rfl 27 (.tmp 23) (.tmp 22) rfl (cs := (askO (i % 64)).cells) s (i * 7) (i * 7) Tryz.size_op rfl rfl (by omega) hfl op_one ?_; intro w2 s2; clear s))
   refine ⟨⟨i + 1, by omega, by go_num, ?_⟩, by simp [intOf]; omega⟩
   rw [fm_set cells7 (longL i) i (by rw [HX.out.1]; exact hlt) (askO (i % 64)), HX.out.2] at s2
   exact s2
  ·obtain rfl : i = 4097 := by omega
   have hL := opsOfRow (xs := longL 4097) (by
    intro x hx
    rw [longL_all] at hx
    obtain ⟨j, -, rfl⟩ := List.mem_map.1 hx
    exact ⟨askO_fine _, rfl, rfl⟩) s
   have h9 : ∀ x ∈ longL 4097, x.c.kind = 9 := by
    intro x hx
    rw [longL_all] at hx
    obtain ⟨j, -, rfl⟩ := List.mem_map.1 hx
    rfl
   have hlen := longL_len 4097 (Nat.le_refl _)
   obtain ⟨xs, hxs⟩ : ∃ xs, xs = longL 4097 := ⟨_, rfl⟩
   rw [← hxs] at hL h9 hlen
   have d1 := (hL.dup (opsR_reads _ _))
   have d2 := d1.dup (opsR_reads _ _)
   have d3 := opsTake 4096 d2
   have d4 := opsTake 4096 d3.swap
   have d5 : Sat W0 wr (opsR (some ⟨g, 0, none⟩) xs :: opsR (some ⟨g, 0, none⟩) (xs.take 4096) :: opsR (some ⟨g, 0, none⟩) (xs.take 4096) :: L) := d4.f
   have d6 : Sat W0 wr (opsR (some ⟨g, 7, none⟩) (xs.drop 1) :: opsR (some ⟨g, 0, none⟩) (xs.take 4096) :: opsR (some ⟨g, 0, none⟩) (xs.take 4096) :: L) := by
    have h := opsDrop 1 d5
    exact h
   have d7 : Sat W0 wr (opsR (some ⟨g, 0, none⟩) (xs.take 4096) :: opsR (some ⟨g, 7, none⟩) (xs.drop 1) :: opsR (some ⟨g, 0, none⟩) (xs.take 4096) :: L) := d6.swap
   have t9 : ∀ x ∈ xs.take 4096, goodK x.c := fun x hx => .inr (h9 x (List.mem_of_mem_take hx))
   have r9 : ∀ x ∈ xs.drop 1, goodK x.c := fun x hx => .inr (h9 x (List.mem_of_mem_drop hx))
   have tl : (xs.take 4096).length = 4096 := by rw [List.length_take, hlen]; rfl
   have rl : (xs.drop 1).length = 4096 := by rw [List.length_drop, hlen]
   have heq : seenL doK ((xs.take 4096).map OpM.c) (List.replicate 64 none) [] = seenL doK ((xs.drop 1).map OpM.c) (List.replicate 64 none) [] := by
    rw [seen_empty _ (fun o ho => by obtain ⟨x, hx, rfl⟩ := List.mem_map.1 ho; exact h9 x (List.mem_of_mem_take hx)) [] (fun r h => by cases h), seen_empty _ (fun o ho => by obtain ⟨x, hx, rfl⟩ := List.mem_map.1 ho; exact h9 x (List.mem_of_mem_drop hx)) [] (fun r h => by cases h), List.length_map, List.length_map, tl, rl]
   have HD := Lib.hid (And.intro d7 (And.intro t9 (And.intro r9 (And.intro tl (And.intro rl heq))))); clear hL h9 hlen hxs d1 d2 d3 d4 d5 d6 d7 t9 r9 tl rl heq s
   go_wp2_with fail
   refine (splitBig (.inl (by decide)) HD.out.1).mono ?_
   rintro e w2 ⟨rfl, s2⟩
   go_wp2_with fail
   refine (splitBig (.inr (by decide)) s2).mono ?_
   rintro e w3 ⟨rfl, s3⟩
   go_wp2_with fail
   go_region_with (refine (splitSame doesK _ _ HD.out.2.2.2.1 HD.out.2.2.2.2.1 (by decide) (by decide) (by decide) HD.out.2.1 HD.out.2.2.1 HD.out.2.2.2.2.2 (s3.drew)).mono ?_; rintro e w4 ⟨rfl, s4⟩)
   all_goals
    have s5 : Sat W0 w4 (opsR (some ⟨g, 0, none⟩) (xs.take 4096) :: opsR (some ⟨g, 0, none⟩) (xs.take 4096) :: opsR (some ⟨g, 7, none⟩) (xs.drop 1) :: L) := s4.f
    clear s4 s3
    go_wp2_with fail
    go_region_with (refine (splitSame doesK _ _ HD.out.2.2.2.1 HD.out.2.2.2.1 (by decide) (by decide) (by decide) HD.out.2.1 HD.out.2.1 rfl (s5.drew)).mono ?_; rintro e w5 ⟨rfl, s6⟩)
    go_wp2_with fail
    refine (HV.out _ _ s6).mono ?_
    rintro e w6 ⟨rfl, s7⟩
    go_wp2
    go_ret
    exact ⟨rfl, s7.below⟩
end Go.Proofs.YtbefjaodpbgpcaaGreat
