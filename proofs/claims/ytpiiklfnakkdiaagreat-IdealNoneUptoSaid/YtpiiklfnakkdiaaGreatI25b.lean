
/- IdealNone: a vault that is none; where the argument reads as an operation. -/
import Derived.Test.YtpiiklfnakkdiaaGreatI25a
namespace Go.Proofs.YtpiiklfnakkdiaaGreat
open Go.RowKit Go.Sep Go.Bv Go.Kec Go.Aes Go.Sha
set_option linter.unusedVariables false
set_option linter.unusedSimpArgs false
set_option maxRecDepth 100000 in
set_option maxHeartbeats 16000000 in
theorem idealNone_any (W : World) (x : OpV) (data more : List Byte) (h : OpA W x data more) :
  Calls Tryz.prog 3 #[.agg (encO x).toArray] W fun e W' => e = .returned (.bool true) ∧ Below W.heap.size W W' := by
 obtain ⟨⟨hk0, hk1⟩, ⟨ha0, ha1⟩, _⟩ := h
 obtain ⟨kdz, hd, agz, ct, ot, dp, dn, dc, ep, en, ec⟩ := x
 simp only at hk0 hk1 ha0 ha1
 obtain ⟨kd, rfl⟩ : ∃ k : Nat, kdz = (k : Int) := ⟨kdz.toNat, by omega⟩
 obtain ⟨ag, rfl⟩ : ∃ k : Nat, agz = (k : Int) := ⟨agz.toNat, by omega⟩
 clear hk0 hk1 ha0 ha1
 show Calls Tryz.prog 3 #[.agg ([.int .u8 (kd : Int), .int .i64 hd, .int .u8 (ag : Int), .int .i64 ct, .int .i64 ot, .slice dp dn dc, .slice ep en ec] : List Value).toArray] W _
 have s0 := Sat.nil W
 have HO := Lib.hid (hOp W)
 have HA := Lib.hid (hAns W)
 go_enter Tryz.func3, Tryz.ntmps3
 go_wp2_with (refine wpl_box rfl 26 (.tmp 0) rfl [.int .u8 (kd : Int), .int .i64 hd, .int .u8 (ag : Int), .int .i64 ct, .int .i64 ot, .slice dp dn dc, .slice ep en ec] rfl s0 ?_; intro w1 g s1 _; clear s0)
 refine (awake25 s1).mono ?_
 rintro e w2 ⟨rfl, s2⟩
 clear s1
 go_wp2_with (first | (refine wpl_alloc_agg rfl 32 rfl s2 _ (zero_vault _) ?_; intro w3 v s3 _; clear s2) | (refine wpl_alloc_agg rfl 35 rfl s3 _ (zero_ans _) ?_; intro w4 ga s4 _; clear s3) | (refine wpl_store_agg rfl rfl 35 (.tmp 6) (.tmp 8) rfl (cs := [.int .i64 1, .int .i64 0, .bool false, .slice none 0 0]) s4 0 0 Tryz.size_ans rfl rfl rfl (Nat.le_refl 4) (ans_one _ _ _ _ _ _) ?_; intro w5 s5; rw [setL_all _ _ (by rfl)] at s5; clear s4))
 have s5d : Sat W w5.drew (seg true g 0 [.int .u8 (kd : Int), .int .i64 hd, .int .u8 (ag : Int), .int .i64 ct, .int .i64 ot, .slice dp dn dc, .slice ep en ec] :: seg true ga 0 [.int .i64 1, .int .i64 0, .bool false, .slice none 0 0] :: seg true v 0 vNone :: []) := ((Sat.sub (s5) (by with_reducible repeat first | exact Fr1 | exact Fr2 | (apply Fr3; focus ((repeat (first | exact Tk1 | apply Tk2)); done)) | apply Fr4)) : Sat W w5 (seg true g 0 [.int .u8 (kd : Int), .int .i64 hd, .int .u8 (ag : Int), .int .i64 ct, .int .i64 ot, .slice dp dn dc, .slice ep en ec] :: seg true ga 0 [.int .i64 1, .int .i64 0, .bool false, .slice none 0 0] :: seg true v 0 vNone :: [])).drew
 clear s5
 have hkeep : ∀ w', Sat W w' (seg true g 0 [.int .u8 (kd : Int), .int .i64 hd, .int .u8 (ag : Int), .int .i64 ct, .int .i64 ot, .slice dp dn dc, .slice ep en ec] :: seg true ga 0 [.int .i64 1, .int .i64 0, .bool false, .slice none 0 0] :: []) →  w'.cell? ⟨g, 0, none⟩ = some (.int .u8 (kd : Int)) ∧ w'.cell? ⟨g, 1, none⟩ = some (.int .i64 hd) ∧ w'.cell? ⟨g, 2, none⟩ = some (.int .u8 (ag : Int)) ∧ w'.cell? ⟨g, 3, none⟩ = some (.int .i64 ct) ∧ w'.cell? ⟨g, 4, none⟩ = some (.int .i64 ot) ∧ w'.cell? ⟨g, 5, none⟩ = some (.slice dp dn dc) ∧ w'.cell? ⟨g, 6, none⟩ = some (.slice ep en ec) ∧ g < w'.heap.size ∧ w'.cell? ⟨ga, 0, none⟩ = some (.int .i64 1) ∧ w'.cell? ⟨ga, 1, none⟩ = some (.int .i64 0) ∧ w'.cell? ⟨ga, 2, none⟩ = some (.bool false) ∧ w'.cell? ⟨ga, 3, none⟩ = some (.slice none 0 0) ∧ ga < w'.heap.size := fun w' s => ⟨((Sat.sub (s) (by with_reducible repeat first | exact Fr1 | exact Fr2 | (apply Fr3; focus ((repeat (first | exact Tk1 | apply Tk2)); done)) | apply Fr4)) : Sat W w' (seg true g 0 [.int .u8 (kd : Int), .int .i64 hd, .int .u8 (ag : Int), .int .i64 ct, .int .i64 ot, .slice dp dn dc, .slice ep en ec] :: [])).at 0 rfl, ((Sat.sub (s) (by with_reducible repeat first | exact Fr1 | exact Fr2 | (apply Fr3; focus ((repeat (first | exact Tk1 | apply Tk2)); done)) | apply Fr4)) : Sat W w' (seg true g 0 [.int .u8 (kd : Int), .int .i64 hd, .int .u8 (ag : Int), .int .i64 ct, .int .i64 ot, .slice dp dn dc, .slice ep en ec] :: [])).at 1 rfl, ((Sat.sub (s) (by with_reducible repeat first | exact Fr1 | exact Fr2 | (apply Fr3; focus ((repeat (first | exact Tk1 | apply Tk2)); done)) | apply Fr4)) : Sat W w' (seg true g 0 [.int .u8 (kd : Int), .int .i64 hd, .int .u8 (ag : Int), .int .i64 ct, .int .i64 ot, .slice dp dn dc, .slice ep en ec] :: [])).at 2 rfl, ((Sat.sub (s) (by with_reducible repeat first | exact Fr1 | exact Fr2 | (apply Fr3; focus ((repeat (first | exact Tk1 | apply Tk2)); done)) | apply Fr4)) : Sat W w' (seg true g 0 [.int .u8 (kd : Int), .int .i64 hd, .int .u8 (ag : Int), .int .i64 ct, .int .i64 ot, .slice dp dn dc, .slice ep en ec] :: [])).at 3 rfl, ((Sat.sub (s) (by with_reducible repeat first | exact Fr1 | exact Fr2 | (apply Fr3; focus ((repeat (first | exact Tk1 | apply Tk2)); done)) | apply Fr4)) : Sat W w' (seg true g 0 [.int .u8 (kd : Int), .int .i64 hd, .int .u8 (ag : Int), .int .i64 ct, .int .i64 ot, .slice dp dn dc, .slice ep en ec] :: [])).at 4 rfl, ((Sat.sub (s) (by with_reducible repeat first | exact Fr1 | exact Fr2 | (apply Fr3; focus ((repeat (first | exact Tk1 | apply Tk2)); done)) | apply Fr4)) : Sat W w' (seg true g 0 [.int .u8 (kd : Int), .int .i64 hd, .int .u8 (ag : Int), .int .i64 ct, .int .i64 ot, .slice dp dn dc, .slice ep en ec] :: [])).at 5 rfl, ((Sat.sub (s) (by with_reducible repeat first | exact Fr1 | exact Fr2 | (apply Fr3; focus ((repeat (first | exact Tk1 | apply Tk2)); done)) | apply Fr4)) : Sat W w' (seg true g 0 [.int .u8 (kd : Int), .int .i64 hd, .int .u8 (ag : Int), .int .i64 ct, .int .i64 ot, .slice dp dn dc, .slice ep en ec] :: [])).at 6 rfl, ((Sat.sub (s) (by with_reducible repeat first | exact Fr1 | exact Fr2 | (apply Fr3; focus ((repeat (first | exact Tk1 | apply Tk2)); done)) | apply Fr4)) : Sat W w' (seg true g 0 [.int .u8 (kd : Int), .int .i64 hd, .int .u8 (ag : Int), .int .i64 ct, .int .i64 ot, .slice dp dn dc, .slice ep en ec] :: [])).lt (by simp), ((Sat.sub (s) (by with_reducible repeat first | exact Fr1 | exact Fr2 | (apply Fr3; focus ((repeat (first | exact Tk1 | apply Tk2)); done)) | apply Fr4)) : Sat W w' (seg true ga 0 [.int .i64 1, .int .i64 0, .bool false, .slice none 0 0] :: [])).at 0 rfl, ((Sat.sub (s) (by with_reducible repeat first | exact Fr1 | exact Fr2 | (apply Fr3; focus ((repeat (first | exact Tk1 | apply Tk2)); done)) | apply Fr4)) : Sat W w' (seg true ga 0 [.int .i64 1, .int .i64 0, .bool false, .slice none 0 0] :: [])).at 1 rfl, ((Sat.sub (s) (by with_reducible repeat first | exact Fr1 | exact Fr2 | (apply Fr3; focus ((repeat (first | exact Tk1 | apply Tk2)); done)) | apply Fr4)) : Sat W w' (seg true ga 0 [.int .i64 1, .int .i64 0, .bool false, .slice none 0 0] :: [])).at 2 rfl, ((Sat.sub (s) (by with_reducible repeat first | exact Fr1 | exact Fr2 | (apply Fr3; focus ((repeat (first | exact Tk1 | apply Tk2)); done)) | apply Fr4)) : Sat W w' (seg true ga 0 [.int .i64 1, .int .i64 0, .bool false, .slice none 0 0] :: [])).at 3 rfl, ((Sat.sub (s) (by with_reducible repeat first | exact Fr1 | exact Fr2 | (apply Fr3; focus ((repeat (first | exact Tk1 | apply Tk2)); done)) | apply Fr4)) : Sat W w' (seg true ga 0 [.int .i64 1, .int .i64 0, .bool false, .slice none 0 0] :: [])).lt (by simp)⟩
 have HKEEP := Lib.hid hkeep; clear hkeep
 have hk0 := HKEEP.out _ (Sat.sub (s5d) (by with_reducible repeat first | exact Fr1 | exact Fr2 | (apply Fr3; focus ((repeat (first | exact Tk1 | apply Tk2)); done)) | apply Fr4))
 refine region_E (fun w' => w'.cell? ⟨g, 0, none⟩ = some (.int .u8 (kd : Int)) ∧ w'.cell? ⟨g, 1, none⟩ = some (.int .i64 hd) ∧ w'.cell? ⟨g, 2, none⟩ = some (.int .u8 (ag : Int)) ∧ w'.cell? ⟨g, 3, none⟩ = some (.int .i64 ct) ∧ w'.cell? ⟨g, 4, none⟩ = some (.int .i64 ot) ∧ w'.cell? ⟨g, 5, none⟩ = some (.slice dp dn dc) ∧ w'.cell? ⟨g, 6, none⟩ = some (.slice ep en ec) ∧ g < w'.heap.size ∧ w'.cell? ⟨ga, 0, none⟩ = some (.int .i64 1) ∧ w'.cell? ⟨ga, 1, none⟩ = some (.int .i64 0) ∧ w'.cell? ⟨ga, 2, none⟩ = some (.bool false) ∧ w'.cell? ⟨ga, 3, none⟩ = some (.slice none 0 0) ∧ ga < w'.heap.size) [3, 5, 9, 11] (by kernel_rfl) ?_
 have hHeld := hk0
 iterate 5
  first | refine autoT hHeld (by rfl) (by rfl) (x := ?_) (v := ?_) ?_ (by kernel_rfl) ?_ ?_ ?_ | refine autoP (by rfl) (x := ?_) (v := ?_) ?_ (by kernel_rfl) ?_ ?_ ?_
  rotate_left 2
  ·(simp only [gE1, gE2, gE3]; rfl)
  ·exact fun _ _ _ h => h
  ·refine Or.inl ⟨by rfl, fun w hSw => ?_⟩
   (try dsimp only at hSw)
   go_simp
   try (with_reducible rfl)
  try simp only [pA1, pA2, pA3, pA4]
 refine anyE_one (i := 4) (x := ?_) ?_ (by kernel_rfl) (fun K hK => ?_)
 rotate_left
 ·(simp only [gE1, gE2, gE3]; rfl)
 go_simp
 refine (iDoNil kd hd ag ct ot s5d).mono ?_
 rintro e w6 ⟨rfl, s6⟩
 have hk1 := HKEEP.out _ (Sat.sub (s6) (by with_reducible repeat first | exact Fr1 | exact Fr2 | (apply Fr3; focus ((repeat (first | exact Tk1 | apply Tk2)); done)) | apply Fr4))
 go_wp2_with fail
 refine hK.out _ _ hk1 ?_
 clear hK K hHeld
 have hHeld := hk1
 try simp only [pA1, pA2, pA3, pA4]
 clear s5d hk0
 refine anyE_one (i := 6) (x := ?_) ?_ (by kernel_rfl) (fun K hK => ?_)
 rotate_left
 ·(simp only [gE1, gE2, gE3]; rfl)
 go_simp
 refine (sameAns (ca := 0) (cb := 0) (pa := none) (pb := none) (m1 := true) (m2 := true) 1 1 0 0 false false [] [] rfl rfl (Nat.zero_le _) (Nat.zero_le _) (bytesNil true none (bytesNil true none s6))).mono ?_
 rintro e w7 ⟨rfl, s7'⟩
 have s7 := s7'.tail.tail
 clear s7'
 have hk2 := HKEEP.out _ (Sat.sub (s7) (by with_reducible repeat first | exact Fr1 | exact Fr2 | (apply Fr3; focus ((repeat (first | exact Tk1 | apply Tk2)); done)) | apply Fr4))
 go_wp2_with fail
 refine hK.out _ _ hk2 ?_
 clear hK K hHeld
 have hHeld := hk2
 try simp only [pA1, pA2, pA3, pA4]
 clear s6 hk1
 iterate 4
  first | refine autoT hHeld (by rfl) (by rfl) (x := ?_) (v := ?_) ?_ (by kernel_rfl) ?_ ?_ ?_ | refine autoP (by rfl) (x := ?_) (v := ?_) ?_ (by kernel_rfl) ?_ ?_ ?_
  rotate_left 2
  ·(simp only [gE1, gE2, gE3]; rfl)
  ·exact fun _ _ _ h => h
  ·refine Or.inl ⟨by rfl, fun w hSw => ?_⟩
   (try dsimp only at hSw)
   go_simp
   try (with_reducible rfl)
  try simp only [pA1, pA2, pA3, pA4]
 refine anyE_one (i := 10) (x := ?_) ?_ (by kernel_rfl) (fun K hK => ?_)
 rotate_left
 ·(simp only [gE1, gE2, gE3]; rfl)
 go_simp
 have s7v : Sat W w7 (seg true v 0 vNone :: seg true g 0 [.int .u8 (kd : Int), .int .i64 hd, .int .u8 (ag : Int), .int .i64 ct, .int .i64 ot, .slice dp dn dc, .slice ep en ec] :: seg true ga 0 [.int .i64 1, .int .i64 0, .bool false, .slice none 0 0] :: []) := (Sat.sub (s7) (by with_reducible repeat first | exact Fr1 | exact Fr2 | (apply Fr3; focus ((repeat (first | exact Tk1 | apply Tk2)); done)) | apply Fr4))
 refine (iDoUnmade kd hd ag ct ot s7v).mono ?_
 rintro e w8 ⟨rfl, s8'⟩
 have s8 : Sat W w8 (seg true g 0 [.int .u8 (kd : Int), .int .i64 hd, .int .u8 (ag : Int), .int .i64 ct, .int .i64 ot, .slice dp dn dc, .slice ep en ec] :: seg true ga 0 [.int .i64 1, .int .i64 0, .bool false, .slice none 0 0] :: seg true v 0 vNone :: []) := (Sat.sub (s8') (by with_reducible repeat first | exact Fr1 | exact Fr2 | (apply Fr3; focus ((repeat (first | exact Tk1 | apply Tk2)); done)) | apply Fr4))
 clear s8'
 have hk3 := HKEEP.out _ (Sat.sub (s8) (by with_reducible repeat first | exact Fr1 | exact Fr2 | (apply Fr3; focus ((repeat (first | exact Tk1 | apply Tk2)); done)) | apply Fr4))
 go_wp2_with fail
 refine hK.out _ _ hk3 ?_
 clear hK K hHeld
 have hHeld := hk3
 try simp only [pA1, pA2, pA3, pA4]
 clear s7 s7v hk2
 refine anyE_one (i := 12) (x := ?_) ?_ (by kernel_rfl) (fun K hK => ?_)
 rotate_left
 ·(simp only [gE1, gE2, gE3]; rfl)
 go_simp
 refine (sameAns (ca := 0) (cb := 0) (pa := none) (pb := none) (m1 := true) (m2 := true) 1 1 0 0 false false [] [] rfl rfl (Nat.zero_le _) (Nat.zero_le _) (bytesNil true none (bytesNil true none s8))).mono ?_
 rintro e w9 ⟨rfl, s9'⟩
 have s9 := s9'.tail.tail
 clear s9'
 have hk4 := HKEEP.out _ (Sat.sub (s9) (by with_reducible repeat first | exact Fr1 | exact Fr2 | (apply Fr3; focus ((repeat (first | exact Tk1 | apply Tk2)); done)) | apply Fr4))
 go_wp2_with fail
 refine hK.out _ _ hk4 ?_
 clear hK K hHeld
 have hHeld := hk4
 try simp only [pA1, pA2, pA3, pA4]
 clear s8 hk3
 iterate 3
  first | refine autoT hHeld (by rfl) (by rfl) (x := ?_) (v := ?_) ?_ (by kernel_rfl) ?_ ?_ ?_ | refine autoP (by rfl) (x := ?_) (v := ?_) ?_ (by kernel_rfl) ?_ ?_ ?_
  rotate_left 2
  ·(simp only [gE1, gE2, gE3]; rfl)
  ·exact fun _ _ _ h => h
  ·refine Or.inl ⟨by rfl, fun w hSw => ?_⟩
   (try dsimp only at hSw)
   go_simp
   try (with_reducible rfl)
  try simp only [pA1, pA2, pA3, pA4]
 refine anyE_one (i := 16) (x := ?_) ?_ (by kernel_rfl) (fun K hK => ?_)
 rotate_left
 ·(simp only [gE1, gE2, gE3]; rfl)
 go_simp
 refine (iHeldNil s9).mono ?_
 rintro e w10 ⟨rfl, s10⟩
 have hk5 := HKEEP.out _ (Sat.sub (s10) (by with_reducible repeat first | exact Fr1 | exact Fr2 | (apply Fr3; focus ((repeat (first | exact Tk1 | apply Tk2)); done)) | apply Fr4))
 go_wp2_with fail
 refine hK.out _ _ hk5 ?_
 clear hK K hHeld
 have hHeld := hk5
 try simp only [pA1, pA2, pA3, pA4]
 clear s9 hk4
 iterate 4
  first | refine autoT hHeld (by rfl) (by rfl) (x := ?_) (v := ?_) ?_ (by kernel_rfl) ?_ ?_ ?_ | refine autoP (by rfl) (x := ?_) (v := ?_) ?_ (by kernel_rfl) ?_ ?_ ?_
  rotate_left 2
  ·(simp only [gE1, gE2, gE3]; rfl)
  ·exact fun _ _ _ h => h
  ·refine Or.inl ⟨by rfl, fun w hSw => ?_⟩
   (try dsimp only at hSw)
   go_simp
   try (with_reducible rfl)
  try simp only [pA1, pA2, pA3, pA4]
 refine anyE_one (i := 21) (x := ?_) ?_ (by kernel_rfl) (fun K hK => ?_)
 rotate_left
 ·(simp only [gE1, gE2, gE3]; rfl)
 go_simp
 have s10v : Sat W w10 (seg true v 0 vNone :: seg true g 0 [.int .u8 (kd : Int), .int .i64 hd, .int .u8 (ag : Int), .int .i64 ct, .int .i64 ot, .slice dp dn dc, .slice ep en ec] :: seg true ga 0 [.int .i64 1, .int .i64 0, .bool false, .slice none 0 0] :: []) := (Sat.sub (s10) (by with_reducible repeat first | exact Fr1 | exact Fr2 | (apply Fr3; focus ((repeat (first | exact Tk1 | apply Tk2)); done)) | apply Fr4))
 refine (iHeldUnmade s10v).mono ?_
 rintro e w11 ⟨rfl, sL'⟩
 have sL : Sat W w11 (seg true g 0 [.int .u8 (kd : Int), .int .i64 hd, .int .u8 (ag : Int), .int .i64 ct, .int .i64 ot, .slice dp dn dc, .slice ep en ec] :: seg true ga 0 [.int .i64 1, .int .i64 0, .bool false, .slice none 0 0] :: seg true v 0 vNone :: []) := (Sat.sub (sL') (by with_reducible repeat first | exact Fr1 | exact Fr2 | (apply Fr3; focus ((repeat (first | exact Tk1 | apply Tk2)); done)) | apply Fr4))
 clear sL'
 have hk6 := HKEEP.out _ (Sat.sub (sL) (by with_reducible repeat first | exact Fr1 | exact Fr2 | (apply Fr3; focus ((repeat (first | exact Tk1 | apply Tk2)); done)) | apply Fr4))
 go_wp2_with fail
 refine hK.out _ _ hk6 ?_
 clear hK K hHeld
 have hHeld := hk6
 try simp only [pA1, pA2, pA3, pA4]
 clear s10 s10v hk5
 iterate 4
  first | refine autoT hHeld (by rfl) (by rfl) (x := ?_) (v := ?_) ?_ (by kernel_rfl) ?_ ?_ ?_ | refine autoP (by rfl) (x := ?_) (v := ?_) ?_ (by kernel_rfl) ?_ ?_ ?_
  rotate_left 2
  ·(simp only [gE1, gE2, gE3]; rfl)
  ·exact fun _ _ _ h => h
  ·refine Or.inl ⟨by rfl, fun w hSw => ?_⟩
   (try dsimp only at hSw)
   go_simp
   try (with_reducible rfl)
  try simp only [pA1, pA2, pA3, pA4]
 refine anyE_done (by kernel_rfl) ?_ _
 have HS := Lib.hid sL; clear sL
 go_wp2_with fail
 go_ret
 exact ⟨rfl, HS.out.below⟩
end Go.Proofs.YtpiiklfnakkdiaaGreat
