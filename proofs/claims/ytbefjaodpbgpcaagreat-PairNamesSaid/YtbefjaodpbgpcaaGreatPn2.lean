
/- PairNames: two lists of one operation each are the same; an operation that puts a text's bytes; under the conditions that each names. -/
import Derived.Test.YtbefjaodpbgpcaaGreatPn1
import Derived.Laws.IdiomStrings
import Derived.Test.YtbefjaodpbgpcaaGreatGI
namespace Go.Proofs.YtbefjaodpbgpcaaGreat
open Go.RowKit Go.Sep Go.Bv
set_option linter.unusedVariables false
set_option linter.unusedSimpArgs false
set_option maxRecDepth 100000 in
set_option maxHeartbeats 4000000 in
theorem sameOpU {W0 w : World} {L : List Assn} {p q : Option Addr} {c d : Nat} (hs : Sat W0 w (bytes true p [0, 0] :: bytes true q [0, 0] :: L)) :
  Calls Tryz.prog 43 #[.agg (plU3 3 p 2 c).toArray, .agg (plU3 3 q 2 d).toArray] w fun e w' => e = .returned (.bool true) ∧ Sat W0 w' (bytes true p [0, 0] :: bytes true q [0, 0] :: L) := by
 have HO := Lib.hid (hOp W0)
 go_enter Tryz.func43, Tryz.ntmps43
 go_wp2_with (first | (refine wpl_box rfl 27 (.tmp 0) rfl (plU3 3 p 2 c) rfl hs ?_; intro w1 g s1 _; clear hs) | (refine wpl_box rfl 27 (.tmp 1) rfl (plU3 3 q 2 d) rfl s1 ?_; intro w2 k s2 _; clear s1; obtain ⟨o0, o1, o2, o3, o4, o5, o6, zo⟩ := HO.out _ _ _ _ _ _ _ _ _ _ s2; have s2b : Sat W0 w2 (seg true g 0 (plU3 3 p 2 c) :: seg true k 0 (plU3 3 q 2 d) :: bytes true p [0, 0] :: bytes true q [0, 0] :: L) := s2.f; obtain ⟨q0, q1, q2, q3, q4, q5, q6, zq⟩ := HO.out _ _ _ _ _ _ _ _ _ _ s2b; clear s2))
 have s3 : Sat W0 w2 (bytes true p [0, 0] :: bytes true q [0, 0] :: seg true g 0 (plU3 3 p 2 c) :: seg true k 0 (plU3 3 q 2 d) :: L) := s2b.f
 clear s2b o0 o1 o2 o3 o4 o5 o6 zo q0 q1 q2 q3 q4 q5 q6 zq
 refine (sameT (ca := c) (cb := d) [0, 0] [0, 0] rfl rfl (by decide) rfl s3).mono ?_
 rintro e w3 ⟨rfl, s4⟩
 clear s3
 have s5 : Sat W0 w3 (seg true g 0 (plU3 3 p 2 c) :: seg true k 0 (plU3 3 q 2 d) :: bytes true p [0, 0] :: bytes true q [0, 0] :: L) := s4.f
 obtain ⟨o0, o1, o2, o3, o4, o5, o6, zo⟩ := HO.out _ _ _ _ _ _ _ _ _ _ s5
 have s6 : Sat W0 w3 (seg true k 0 (plU3 3 q 2 d) :: bytes true p [0, 0] :: bytes true q [0, 0] :: L) := s5.f
 obtain ⟨q0, q1, q2, q3, q4, q5, q6, zq⟩ := HO.out _ _ _ _ _ _ _ _ _ _ s6
 have s7 := bytesNil true none (bytesNil true none s6.tail)
 clear s4 s5 s6
 go_wp2_with fail
 clear o0 o1 o2 o3 o4 o5 o6 zo q0 q1 q2 q3 q4 q5 q6 zq
 refine (sameT (ca := 0) (cb := 0) [] [] rfl rfl (by decide) rfl s7).mono ?_
 rintro e w4 ⟨rfl, s8⟩
 have HS := Lib.hid s8.tail.tail; clear s7 s8
 go_wp2
 go_ret
 exact ⟨rfl, HS.out⟩
set_option maxRecDepth 100000 in
set_option maxHeartbeats 4000000 in
theorem sameOpsU {W0 w : World} {L : List Assn} {p q : Option Addr} {c d m k kc mc : Nat} (hs : Sat W0 w (seg true m 0 (plU3 3 p 2 c) :: seg true k 0 (plU3 3 q 2 d) :: bytes true p [0, 0] :: bytes true q [0, 0] :: L)) :
  Calls Tryz.prog 24 #[.slice (some ⟨m, 0, none⟩) 1 mc, .slice (some ⟨k, 0, none⟩) 1 kc] w fun e w' => e = .returned (.bool true) ∧ Sat W0 w' L := by
 have hso := fun (w : World) (X : List Assn) (s : Sat W0 w (bytes true p [0, 0] :: bytes true q [0, 0] :: X)) => sameOpU (c := c) (d := d) s
 have HN := Lib.hid hso; clear hso
 go_enter Tryz.func24, Tryz.ntmps24
 go_wp2
 go_loopw [5] (fun t5 wr => ∃ i : Nat, i ≤ 1 ∧ t5 = .int .i64 (i : Int) ∧ Sat W0 wr (seg true m 0 (plU3 3 p 2 c) :: seg true k 0 (plU3 3 q 2 d) :: bytes true p [0, 0] :: bytes true q [0, 0] :: L)) (fun t5 _ => 1 - (intOf t5).toNat)
 case atStart => exact ⟨0, by decide, rfl, hs⟩
 case round =>
  clear hs
  obtain ⟨i, hi, rfl, s⟩ := hrel
  have h2 : i = 0 ∨ i = 1 := by omega
  rcases h2 with rfl | rfl
  ·have HS := Lib.hid s; clear s
   go_wp2
   have sd := HS.out.drew
   have sd2 : Sat W0 _ (seg true k 0 (plU3 3 q 2 d) :: seg true m 0 (plU3 3 p 2 c) :: bytes true p [0, 0] :: bytes true q [0, 0] :: L) := sd.f
   have hk0 : wr.drew.rangeAt m 0 (plU3 3 p 2 c) ∧ m < wr.drew.heap.size ∧ wr.drew.rangeAt k 0 (plU3 3 q 2 d) ∧ k < wr.drew.heap.size := ⟨sd.rangeAt, sd.lt (by simp), sd2.rangeAt, sd2.lt (by simp)⟩
   refine region_E (fun w' => w'.rangeAt m 0 (plU3 3 p 2 c) ∧ m < w'.heap.size ∧ w'.rangeAt k 0 (plU3 3 q 2 d) ∧ k < w'.heap.size) [3, 7] (by kernel_rfl) ?_
   have hHeld := hk0
   iterate 3
    first | refine autoT hHeld (by rfl) (by rfl) (x := ?_) (v := ?_) ?_ (by kernel_rfl) ?_ ?_ ?_ | refine autoP (by rfl) (x := ?_) (v := ?_) ?_ (by kernel_rfl) ?_ ?_ ?_
    rotate_left 2
    ·(simp only [gE1, gE2, gE3]; rfl)
    ·exact fun _ _ _ h => h
    ·refine Or.inl ⟨by rfl, fun w hSw => ?_⟩
     (try dsimp only at hSw)
     go_simp
     try (with_reducible rfl)
    try simp only [pA1, pA2, pA3, pA4]
   refine anyE_take (i := 3) (x := ?_) (v := ?_) ?_ (by kernel_rfl) (by kernel_rfl) (by kernel_rfl) (by kernel_rfl) ?_ ?_ hHeld ?_
   rotate_left 2
   ·(simp only [gE1, gE2, gE3]; rfl)
   ·exact fun _ _ _ h => h
   ·refine yieldsIf_load_mid ?_ 27 (.tmp 19) ?_ m 0 ?_ (plU3 3 p 2 c) _ ?_ Tryz.underlying27 rfl Tryz.size_op
    ·rfl
    ·rfl
    ·rfl
    ·intro w hSw
     exact hSw.1
   try simp only [pA1, pA2, pA3, pA4]
   iterate 3
    first | refine autoT hHeld (by rfl) (by rfl) (x := ?_) (v := ?_) ?_ (by kernel_rfl) ?_ ?_ ?_ | refine autoP (by rfl) (x := ?_) (v := ?_) ?_ (by kernel_rfl) ?_ ?_ ?_
    rotate_left 2
    ·(simp only [gE1, gE2, gE3]; rfl)
    ·exact fun _ _ _ h => h
    ·refine Or.inl ⟨by rfl, fun w hSw => ?_⟩
     (try dsimp only at hSw)
     go_simp
     try (with_reducible rfl)
    try simp only [pA1, pA2, pA3, pA4]
   refine anyE_take (i := 7) (x := ?_) (v := ?_) ?_ (by kernel_rfl) (by kernel_rfl) (by kernel_rfl) (by kernel_rfl) ?_ ?_ hHeld ?_
   rotate_left 2
   ·(simp only [gE1, gE2, gE3]; rfl)
   ·exact fun _ _ _ h => h
   ·refine yieldsIf_load_mid ?_ 27 (.tmp 23) ?_ k 0 ?_ (plU3 3 q 2 d) _ ?_ Tryz.underlying27 rfl Tryz.size_op
    ·rfl
    ·rfl
    ·rfl
    ·intro w hSw
     exact hSw.2.2.1
   try simp only [pA1, pA2, pA3, pA4]
   refine anyE_last (i := 8) (x := ?_) ?_ (by kernel_rfl) (by kernel_rfl) (fun K hK => ?_)
   rotate_left
   ·(simp only [gE1, gE2, gE3]; rfl)
   go_simp
   refine (HN.out _ (seg true m 0 (plU3 3 p 2 c) :: seg true k 0 (plU3 3 q 2 d) :: L) sd.f).mono ?_
   rintro e wz ⟨rfl, sz⟩
   clear sd sd2
   go_wp2_with fail
   refine hK.out _ _ ?_
   clear hK K
   try simp only [pA1, pA2, pA3, pA4]
   iterate 1
    first | refine autoT hHeld (by rfl) (by rfl) (x := ?_) (v := ?_) ?_ (by kernel_rfl) ?_ ?_ ?_ | refine autoP (by rfl) (x := ?_) (v := ?_) ?_ (by kernel_rfl) ?_ ?_ ?_
    rotate_left 2
    ·(simp only [gE1, gE2, gE3]; rfl)
    ·exact fun _ _ _ h => h
    ·refine Or.inl ⟨by rfl, fun w hSw => ?_⟩
     (try dsimp only at hSw)
     go_simp
     try (with_reducible rfl)
    try simp only [pA1, pA2, pA3, pA4]
   refine anyE_done (by kernel_rfl) ?_ _
   clear hHeld hk0 HS
   go_wp2
   go_roundw
   case measure => simp [intOf]
   case rel => exact ⟨1, by decide, by rfl, sz.f⟩
  ·have HS := Lib.hid s.tail.tail.tail.tail; clear s
   go_wp2
   go_ret
   exact ⟨rfl, HS.out⟩
end Go.Proofs.YtbefjaodpbgpcaaGreat
