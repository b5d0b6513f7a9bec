
/- The ideal vault: made anew; any operation, once what its kind does is known; a vault that is none; under the conditions that each names. -/
import Derived.Test.YtpiiklfnakkdiaaGreatIdl11
import Derived.Test.YtpiiklfnakkdiaaGreatIdl13
namespace Go.Proofs.YtpiiklfnakkdiaaGreat
open Go.RowKit Go.Sep Go.Bv Go.Kec Go.Aes Go.Sha
set_option linter.unusedVariables false
set_option linter.unusedSimpArgs false
def noSlots : List Value := List.replicate 64 (.pointer none)
def vNone : List Value := .bool false :: noSlots
def vNew : List Value := .bool true :: noSlots
def S0 : Slots := List.replicate 64 none
theorem zero_vault (w : World) : (zeroValue 32).run Tryz.prog w = .ok (.agg vNone.toArray) w := by kernel_rfl
theorem build_vault (w : World) : (Instr.build 32 #[(0, .bool true)]).run Tryz.prog w = .ok (.agg vNew.toArray) w := by
 refine run_build_struct Tryz.underlying32 (zero_vault w) (places := #[(0, 1), (1, 64)]) (by kernel_rfl) ?_
 refine Eq.trans (fill_one (off := 0) (size := 1) (v := .bool true) rfl rfl (by decide)) ?_
 rfl
theorem slotsNone {W0 w : World} {L : List Assn} : ∀ (n k : Nat), Sat W0 w L → Sat W0 w (slotsA k (List.replicate n none) :: L)
 | 0, k, h => h.addEmp
 | n + 1, k, h => slotsNone n (k + 1) h
theorem S0_ok (B : Nat) : okS B S0 := by
 refine ⟨by decide, fun H h => ?_⟩
 have := List.eq_of_mem_replicate h
 cases this
set_option maxRecDepth 100000 in
set_option maxHeartbeats 1000000 in
theorem iNew {W0 w : World} {L : List Assn} (hs : Sat W0 w L) :
  Calls Tryz.prog 12 #[] w fun e w' => ∃ v, e = .returned (.pointer (some ⟨v, 0, none⟩)) ∧ Sat W0 w' (vaultA v S0 :: L) := by
 go_enter Tryz.func12, Tryz.ntmps12
 go_wp2_with (first | (refine wpl_build rfl 32 rfl (.agg vNew.toArray) (by simp only [List.map_toArray, List.map_cons, List.map_nil]; exact build_vault _) ?_) | (refine wpl_box rfl 32 (.tmp 1) rfl vNew rfl hs ?_; intro w1 v s1 _; clear hs))
 have HS := Lib.hid s1; clear s1
 go_ret
 refine ⟨v, rfl, ?_⟩
 have s2 := slotsNone 64 0 HS.out
 exact vShut (T := List.replicate 64 none) (by rfl) (s2.pull 1)
set_option maxRecDepth 100000 in
set_option maxHeartbeats 8000000 in
theorem iDo_fn {W0 w : World} {L : List Assn} {v ix fid : Nat} {md mm : Bool} {dp ep : Option Addr} {dn dc en ec : Nat} (S : Slots) (R : Slots × Ans) (kd : Nat) (hd : Int) (ag : Nat) (ct ot : Int) (data more : List Byte)
  (hcf : ∀ (x y : Value) (w : World), (callFunc fid #[x, y]).run Tryz.prog w = .ok (.enter fid #[x, y]) w) (hf : Instr.findNow (.int .u8) (.int .u8 (kd : Int)) kindsM.toList 0 = some (some (ix, .func (.func fid) #[] #[])))
  (hc : ∀ (w : World) (X : List Assn), Sat W0 w (vaultA v S :: bytes md dp data :: bytes mm ep more :: X) → Calls Tryz.prog fid #[.pointer (some ⟨v, 0, none⟩), .agg #[.int .u8 (kd : Int), .int .i64 hd, .int .u8 (ag : Int), .int .i64 ct, .int .i64 ot, .slice dp dn dc, .slice ep en ec]] w fun e w' => ansP W0 v R (bytes md dp data :: bytes mm ep more :: X) e w')
  (hs : Sat W0 w (vaultA v S :: bytes md dp data :: bytes mm ep more :: L)) :
  Calls Tryz.prog 10 #[.pointer (some ⟨v, 0, none⟩), .agg #[.int .u8 (kd : Int), .int .i64 hd, .int .u8 (ag : Int), .int .i64 ct, .int .i64 ot, .slice dp dn dc, .slice ep en ec]] w fun e w' => ansP W0 v R (bytes md dp data :: bytes mm ep more :: L) e w' := by
 have hfind := fun (r : Nat) (w : World) (X : List Assn) (s : Sat W0 w (obj r (.map kindsM 10) :: X)) => run_mapHas (P := Tryz.prog) (mty := 64) (kd := .u8) (z := (kd : Int)) (i := ix) (v := .func (.func fid) #[] #[]) Tryz.underlying64 Tryz.underlying22 s.obj.1 hf
 clear hf
 have HO := Lib.hid (hOp W0)
 obtain ⟨T, hTS, s00⟩ := vOpen hs
 have zv1 := s00.at 0 rfl
 have zv2 := s00.lt (by simp)
 go_enter Tryz.func10, Tryz.ntmps10
 go_wp2_with (first | (refine wpl_box rfl 26 (.tmp 1) rfl [.int .u8 (kd : Int), .int .i64 hd, .int .u8 (ag : Int), .int .i64 ct, .int .i64 ot, .slice dp dn dc, .slice ep en ec] rfl s00 ?_; intro w1 g s1 _; clear s00) | (refine wpl_alloc_agg rfl 35 rfl s1 _ (zero_ans _) ?_; intro w2 ga s20 _; clear s1; have zz : w2.cell? ⟨v, 0, none⟩ = some (.bool true) ∧ v < w2.heap.size := ⟨(s20.pick [2]).at 0 rfl, (s20.pick [2]).lt (by simp)⟩; obtain ⟨zv1, zv2⟩ := zz))
 have s2 : Sat W0 w2 (vaultA v S :: seg true g 0 [.int .u8 (kd : Int), .int .i64 hd, .int .u8 (ag : Int), .int .i64 ct, .int .i64 ot, .slice dp dn dc, .slice ep en ec] :: seg true ga 0 ans0 :: bytes md dp data :: bytes mm ep more :: L) := vShut T hTS ((Sat.sub (s20) (by with_reducible repeat first | exact Fr1 | exact Fr2 | (apply Fr3; focus ((repeat (first | exact Tk1 | apply Tk2)); done)) | apply Fr4)) : Sat W0 w2 (seg true v 0 (.bool true :: cellsT T) :: slotsA 0 T :: seg true g 0 [.int .u8 (kd : Int), .int .i64 hd, .int .u8 (ag : Int), .int .i64 ct, .int .i64 ot, .slice dp dn dc, .slice ep en ec] :: seg true ga 0 ans0 :: bytes md dp data :: bytes mm ep more :: L))
 clear s20 zv1 zv2 hs hTS
 have s2d := s2.drew
 have hs2 : w2.drew.cell? ⟨g, 0, none⟩ = some (.int .u8 (kd : Int)) ∧ g < w2.drew.heap.size := ⟨(s2d.pick [1]).at 0 rfl, (s2d.pick [1]).lt (by simp)⟩
 refine region_E (fun w' => w'.cell? ⟨g, 0, none⟩ = some (.int .u8 (kd : Int)) ∧ g < w'.heap.size) [2] (by kernel_rfl) ?_
 have hHeld := hs2
 iterate 2
  first | refine autoT hHeld (by rfl) (by rfl) (x := ?_) (v := ?_) ?_ (by kernel_rfl) ?_ ?_ ?_ | refine autoP (by rfl) (x := ?_) (v := ?_) ?_ (by kernel_rfl) ?_ ?_ ?_
  rotate_left 2
  ·(simp only [gE1, gE2, gE3]; rfl)
  ·exact fun _ _ _ h => h
  ·refine Or.inl ⟨by rfl, fun w hSw => ?_⟩
   (try dsimp only at hSw)
   go_simp
   try (with_reducible rfl)
  try simp only [pA1, pA2, pA3, pA4]
 refine anyE_one (i := 0) (x := ?_) ?_ (by kernel_rfl) (fun K hK => ?_)
 rotate_left
 ·(simp only [gE1, gE2, gE3]; rfl)
 go_simp
 refine (iKinds ((Sat.sub (s2d) (by with_reducible repeat first | exact Fr1 | exact Fr2 | (apply Fr3; focus ((repeat (first | exact Tk1 | apply Tk2)); done)) | apply Fr4)) : Sat W0 _ (seg true g 0 [.int .u8 (kd : Int), .int .i64 hd, .int .u8 (ag : Int), .int .i64 ct, .int .i64 ot, .slice dp dn dc, .slice ep en ec] :: seg true ga 0 ans0 :: vaultA v S :: bytes md dp data :: bytes mm ep more :: L))).mono ?_
 rintro e w4 ⟨r, rfl, s4⟩
 have hlk := hfind r w4 _ s4
 have hk4 : w4.cell? ⟨g, 0, none⟩ = some (.int .u8 (kd : Int)) ∧ g < w4.heap.size := ⟨(s4.pick [1]).at 0 rfl, (s4.pick [1]).lt (by simp)⟩
 go_wp2_with fail
 refine hK.out _ _ hk4 ?_
 clear hK K hHeld
 have hHeld := hk4
 try simp only [pA1, pA2, pA3, pA4]
 clear s2d hs2 s2
 refine anyE_last (i := 3) (x := ?_) ?_ (by kernel_rfl) (by kernel_rfl) (fun K hK => ?_)
 rotate_left
 ·(simp only [gE1, gE2, gE3]; rfl)
 go_simp
 refine hK.out _ _ ?_
 clear hK K hHeld
 try simp only [pA1, pA2, pA3, pA4]
 iterate 5
  first | refine autoT hHeld (by rfl) (by rfl) (x := ?_) (v := ?_) ?_ (by kernel_rfl) ?_ ?_ ?_ | refine autoP (by rfl) (x := ?_) (v := ?_) ?_ (by kernel_rfl) ?_ ?_ ?_
  rotate_left 2
  ·(simp only [gE1, gE2, gE3]; rfl)
  ·exact fun _ _ _ h => h
  ·refine Or.inl ⟨by rfl, fun w hSw => ?_⟩
   (try dsimp only at hSw)
   go_simp
   try (with_reducible rfl)
  try simp only [pA1, pA2, pA3, pA4]
 refine anyE_done (by kernel_rfl) ?_ _
 clear hlk hk4
 have sg : Sat W0 w4 (seg true g 0 [.int .u8 (kd : Int), .int .i64 hd, .int .u8 (ag : Int), .int .i64 ct, .int .i64 ot, .slice dp dn dc, .slice ep en ec] :: obj r (.map kindsM 10) :: seg true ga 0 ans0 :: vaultA v S :: bytes md dp data :: bytes mm ep more :: L) := (Sat.sub (s4) (by with_reducible repeat first | exact Fr1 | exact Fr2 | (apply Fr3; focus ((repeat (first | exact Tk1 | apply Tk2)); done)) | apply Fr4))
 go_wp2_with (refine wpl_load_agg rfl 26 (.tmp 3) rfl Tryz.underlying26 rfl Tryz.size_op sg 0 0 rfl rfl (by simp) ?_; rw [List.drop_zero, List.take_of_length_le (by simp)])
 refine (hc w4 (obj r (.map kindsM 10) :: seg true ga 0 ans0 :: seg true g 0 [.int .u8 (kd : Int), .int .i64 hd, .int .u8 (ag : Int), .int .i64 ct, .int .i64 ot, .slice dp dn dc, .slice ep en ec] :: L) (Sat.sub (s4) (by with_reducible repeat first | exact Fr1 | exact Fr2 | (apply Fr3; focus ((repeat (first | exact Tk1 | apply Tk2)); done)) | apply Fr4))).mono ?_
 rintro e w5 ⟨q, c, rfl, hq1, hq2, s5⟩
 clear s4 sg
 have HQ := Lib.hid (And.intro hq1 hq2); clear hq1 hq2
 obtain ⟨b1, hb1⟩ : ∃ b, b = R.2.same := ⟨_, rfl⟩
 obtain ⟨c1, hc1⟩ : ∃ b, b = R.2.code := ⟨_, rfl⟩
 obtain ⟨h1, hh1⟩ : ∃ b, b = R.2.handle := ⟨_, rfl⟩
 obtain ⟨l1, hl1⟩ : ∃ b, b = R.2.bytes.length := ⟨_, rfl⟩
 rw [← hb1, ← hc1, ← hh1, ← hl1]
 have HB := Lib.hid (And.intro hb1 (And.intro hc1 (And.intro hh1 hl1))); clear hb1 hc1 hh1 hl1
 have sr0 : Sat W0 _ (seg true ga 0 ans0 :: vaultA v R.1 :: bytes true q R.2.bytes :: bytes md dp data :: bytes mm ep more :: obj r (.map kindsM 10) :: seg true g 0 [.int .u8 (kd : Int), .int .i64 hd, .int .u8 (ag : Int), .int .i64 ct, .int .i64 ot, .slice dp dn dc, .slice ep en ec] :: L) := (Sat.sub (s5) (by with_reducible repeat first | exact Fr1 | exact Fr2 | (apply Fr3; focus ((repeat (first | exact Tk1 | apply Tk2)); done)) | apply Fr4))
 go_wp2_with (refine wpl_stAns rfl rfl (.tmp 4) (.tmp 30) rfl sr0 rfl rfl ?_; intro ws ss; clear sr0)
 have hr := ansLd ss
 have HS := Lib.hid ss.tail; clear ss
 refine bodyPost_ret (v := .agg #[.int .i64 c1, .int .i64 (h1 : Int), .bool b1, .slice q l1 c]) (by simp [results, Tryz.results10, asAddr]; exact hr) rfl ?_
 rw [HB.out.1, HB.out.2.1, HB.out.2.2.1, HB.out.2.2.2]
 have s8 := HS.out
 exact ⟨q, c, rfl, HQ.out.1, HQ.out.2, (Sat.sub (s8) (by with_reducible repeat first | exact Fr1 | exact Fr2 | (apply Fr3; focus ((repeat (first | exact Tk1 | apply Tk2)); done)) | apply Fr4))⟩
set_option maxRecDepth 100000 in
set_option maxHeartbeats 8000000 in
theorem iDo_none {W0 w : World} {L : List Assn} {v : Nat} {md mm : Bool} {dp ep : Option Addr} {dn dc en ec : Nat} (S : Slots) (kd : Nat) (hd : Int) (ag : Nat) (ct ot : Int) (data more : List Byte)
  (hf : Instr.findNow (.int .u8) (.int .u8 (kd : Int)) kindsM.toList 0 = some none)
  (hs : Sat W0 w (vaultA v S :: bytes md dp data :: bytes mm ep more :: L)) :
  Calls Tryz.prog 10 #[.pointer (some ⟨v, 0, none⟩), .agg #[.int .u8 (kd : Int), .int .i64 hd, .int .u8 (ag : Int), .int .i64 ct, .int .i64 ot, .slice dp dn dc, .slice ep en ec]] w fun e w' => ansP W0 v (S, noA 3) (bytes md dp data :: bytes mm ep more :: L) e w' := by
 have hfind := fun (r : Nat) (w : World) (X : List Assn) (s : Sat W0 w (obj r (.map kindsM 10) :: X)) => run_mapHasNot (P := Tryz.prog) (mty := 64) (kd := .u8) (z := (kd : Int)) (v := .nilFunc) Tryz.underlying64 Tryz.underlying22 s.obj.1 hf (by kernel_rfl)
 clear hf
 have HO := Lib.hid (hOp W0)
 obtain ⟨T, hTS, s00⟩ := vOpen hs
 have zv1 := s00.at 0 rfl
 have zv2 := s00.lt (by simp)
 go_enter Tryz.func10, Tryz.ntmps10
 go_wp2_with (first | (refine wpl_box rfl 26 (.tmp 1) rfl [.int .u8 (kd : Int), .int .i64 hd, .int .u8 (ag : Int), .int .i64 ct, .int .i64 ot, .slice dp dn dc, .slice ep en ec] rfl s00 ?_; intro w1 g s1 _; clear s00) | (refine wpl_alloc_agg rfl 35 rfl s1 _ (zero_ans _) ?_; intro w2 ga s20 _; clear s1; have zz : w2.cell? ⟨v, 0, none⟩ = some (.bool true) ∧ v < w2.heap.size := ⟨(s20.pick [2]).at 0 rfl, (s20.pick [2]).lt (by simp)⟩; obtain ⟨zv1, zv2⟩ := zz))
 have s2 : Sat W0 w2 (vaultA v S :: seg true g 0 [.int .u8 (kd : Int), .int .i64 hd, .int .u8 (ag : Int), .int .i64 ct, .int .i64 ot, .slice dp dn dc, .slice ep en ec] :: seg true ga 0 ans0 :: bytes md dp data :: bytes mm ep more :: L) := vShut T hTS ((Sat.sub (s20) (by with_reducible repeat first | exact Fr1 | exact Fr2 | (apply Fr3; focus ((repeat (first | exact Tk1 | apply Tk2)); done)) | apply Fr4)) : Sat W0 w2 (seg true v 0 (.bool true :: cellsT T) :: slotsA 0 T :: seg true g 0 [.int .u8 (kd : Int), .int .i64 hd, .int .u8 (ag : Int), .int .i64 ct, .int .i64 ot, .slice dp dn dc, .slice ep en ec] :: seg true ga 0 ans0 :: bytes md dp data :: bytes mm ep more :: L))
 clear s20 zv1 zv2 hs hTS
 have s2d := s2.drew
 have hs2 : w2.drew.cell? ⟨g, 0, none⟩ = some (.int .u8 (kd : Int)) ∧ g < w2.drew.heap.size := ⟨(s2d.pick [1]).at 0 rfl, (s2d.pick [1]).lt (by simp)⟩
 refine region_E (fun w' => w'.cell? ⟨g, 0, none⟩ = some (.int .u8 (kd : Int)) ∧ g < w'.heap.size) [2] (by kernel_rfl) ?_
 have hHeld := hs2
 iterate 2
  first | refine autoT hHeld (by rfl) (by rfl) (x := ?_) (v := ?_) ?_ (by kernel_rfl) ?_ ?_ ?_ | refine autoP (by rfl) (x := ?_) (v := ?_) ?_ (by kernel_rfl) ?_ ?_ ?_
  rotate_left 2
  ·(simp only [gE1, gE2, gE3]; rfl)
  ·exact fun _ _ _ h => h
  ·refine Or.inl ⟨by rfl, fun w hSw => ?_⟩
   (try dsimp only at hSw)
   go_simp
   try (with_reducible rfl)
  try simp only [pA1, pA2, pA3, pA4]
 refine anyE_one (i := 0) (x := ?_) ?_ (by kernel_rfl) (fun K hK => ?_)
 rotate_left
 ·(simp only [gE1, gE2, gE3]; rfl)
 go_simp
 refine (iKinds ((Sat.sub (s2d) (by with_reducible repeat first | exact Fr1 | exact Fr2 | (apply Fr3; focus ((repeat (first | exact Tk1 | apply Tk2)); done)) | apply Fr4)) : Sat W0 _ (seg true g 0 [.int .u8 (kd : Int), .int .i64 hd, .int .u8 (ag : Int), .int .i64 ct, .int .i64 ot, .slice dp dn dc, .slice ep en ec] :: seg true ga 0 ans0 :: vaultA v S :: bytes md dp data :: bytes mm ep more :: L))).mono ?_
 rintro e w4 ⟨r, rfl, s4⟩
 have hlk := hfind r w4 _ s4
 have hk4 : w4.cell? ⟨g, 0, none⟩ = some (.int .u8 (kd : Int)) ∧ g < w4.heap.size := ⟨(s4.pick [1]).at 0 rfl, (s4.pick [1]).lt (by simp)⟩
 go_wp2_with fail
 refine hK.out _ _ hk4 ?_
 clear hK K hHeld
 have hHeld := hk4
 try simp only [pA1, pA2, pA3, pA4]
 clear s2d hs2 s2
 refine anyE_last (i := 3) (x := ?_) ?_ (by kernel_rfl) (by kernel_rfl) (fun K hK => ?_)
 rotate_left
 ·(simp only [gE1, gE2, gE3]; rfl)
 go_simp
 refine hK.out _ _ ?_
 clear hK K hHeld
 try simp only [pA1, pA2, pA3, pA4]
 iterate 5
  first | refine autoT hHeld (by rfl) (by rfl) (x := ?_) (v := ?_) ?_ (by kernel_rfl) ?_ ?_ ?_ | refine autoP (by rfl) (x := ?_) (v := ?_) ?_ (by kernel_rfl) ?_ ?_ ?_
  rotate_left 2
  ·(simp only [gE1, gE2, gE3]; rfl)
  ·exact fun _ _ _ h => h
  ·refine Or.inl ⟨by rfl, fun w hSw => ?_⟩
   (try dsimp only at hSw)
   go_simp
   try (with_reducible rfl)
  try simp only [pA1, pA2, pA3, pA4]
 refine anyE_done (by kernel_rfl) ?_ _
 clear hlk hk4
 go_wp2_with fail
 refine (iNo 3 s4).mono ?_
 rintro e w5 ⟨rfl, s5⟩
 clear s4
 have sr0 : Sat W0 _ (seg true ga 0 ans0 :: vaultA v S :: bytes md dp data :: bytes mm ep more :: obj r (.map kindsM 10) :: seg true g 0 [.int .u8 (kd : Int), .int .i64 hd, .int .u8 (ag : Int), .int .i64 ct, .int .i64 ot, .slice dp dn dc, .slice ep en ec] :: L) := (Sat.sub (s5) (by with_reducible repeat first | exact Fr1 | exact Fr2 | (apply Fr3; focus ((repeat (first | exact Tk1 | apply Tk2)); done)) | apply Fr4))
 go_wp2_with (refine wpl_stAns rfl rfl (.tmp 4) (.tmp 26) rfl sr0 rfl rfl ?_; intro ws ss; clear sr0)
 have hr := ansLd ss
 have HS := Lib.hid ss.tail; clear ss
 refine bodyPost_ret (v := .agg #[.int .i64 3, .int .i64 0, .bool false, .slice none 0 0]) (by simp [results, Tryz.results10, asAddr]; exact hr) rfl ?_
 have s8 := HS.out
 exact ansP_no (Sat.sub (s8) (by with_reducible repeat first | exact Fr1 | exact Fr2 | (apply Fr3; focus ((repeat (first | exact Tk1 | apply Tk2)); done)) | apply Fr4))
end Go.Proofs.YtpiiklfnakkdiaaGreat
