
/- awake of layer 25's statements: the chapter's examples; under the conditions that each names. -/
import Derived.Test.YtpiiklfnakkdiaaGreatHG
namespace Go.Proofs.YtpiiklfnakkdiaaGreat
open Go.RowKit Go.Sep Go.Bv Go.Kec Go.Aes Go.Sha
set_option linter.unusedVariables false
set_option linter.unusedSimpArgs false
def key25 : List Byte := [43, 126, 21, 22, 40, 174, 210, 166, 171, 247, 21, 136, 9, 207, 79, 60]
def ma25 : List Byte := [107, 193, 190, 226]
def mb25 : List Byte := [46, 64, 159, 150, 233, 61, 126, 17, 115, 147, 23, 42]
def want25 : List Byte := [7, 10, 22, 180, 107, 77, 65, 68, 247, 155, 221, 157, 208, 74, 40, 124]
def A1 : Slots := some (.key key25) :: List.replicate 63 none
def A2 : Slots := some (.key key25) :: some (.sn .cm 16 key25 [] []) :: List.replicate 62 none
def A3 : Slots := some (.key key25) :: some (.sn .cm 16 key25 [] ma25) :: List.replicate 62 none
def A4 : Slots := some (.key key25) :: some (.sn .cm 16 key25 [] (ma25 ++ mb25)) :: List.replicate 62 none
theorem a1 : iDo S0 ⟨1, 0, 0, 0, 0, key25, []⟩ = (A1, ⟨0, 0, false, []⟩) := by kernel_rfl
theorem a2 : iDo A1 ⟨2, 0, 3, 0, 16, [], []⟩ = (A2, ⟨0, 1, false, []⟩) := by kernel_rfl
theorem a3 : iDo A2 ⟨3, 1, 0, 0, 0, ma25, []⟩ = (A3, ⟨0, 0, false, []⟩) := by kernel_rfl
theorem a4 : iDo A3 ⟨3, 1, 0, 0, 0, mb25, []⟩ = (A4, ⟨0, 0, false, []⟩) := by kernel_rfl
theorem tag25 : (Hold.sn .cm 16 key25 [] (ma25 ++ mb25)).tag = want25 := by decide +kernel
theorem a5 : iDo A4 ⟨4, 1, 0, 0, 0, [], []⟩ = (A1, ⟨0, 0, false, want25⟩) := by
 rw [← tag25]
 kernel_rfl
theorem A1_ok : okS 65536 A1 := by have h := iDo_ok (o := ⟨1, 0, 0, 0, 0, key25, []⟩) (S0_ok 0); rw [a1] at h; exact h
theorem A2_ok : okS 131072 A2 := by have h := iDo_ok (o := ⟨2, 0, 3, 0, 16, [], []⟩) A1_ok; rw [a2] at h; exact h
theorem A3_ok : okS 196608 A3 := by have h := iDo_ok (o := ⟨3, 1, 0, 0, 0, ma25, []⟩) A2_ok; rw [a3] at h; exact h
theorem A4_ok : okS 262144 A4 := by have h := iDo_ok (o := ⟨3, 1, 0, 0, 0, mb25, []⟩) A3_ok; rw [a4] at h; exact h
theorem A1_held : heldL 0 A1 = [(0, .key key25)] := by kernel_rfl
set_option maxHeartbeats 1000000 in
theorem iKey25 {W0 w : World} {L : List Assn} (hs : Sat W0 w L) :
  Calls Tryz.prog 22 #[] w fun e w' => ∃ g, e = .returned (.slice (some ⟨g, 0, none⟩) 16 16) ∧ Sat W0 w' (bytes true (some ⟨g, 0, none⟩) key25 :: L) := by
 have s1 := bytesOf (bs := key25) (hs.alloc (u8s key25).toArray 5)
 have HS := Lib.hid s1; clear s1 hs
 go_enter Tryz.func22, Tryz.ntmps22
 go_wp2
 go_ret
 exact ⟨w.heap.size, rfl, HS.out⟩
theorem hAns (W0 : World) : ∀ g wx X (v0 v1 v2 v3 : Value), Sat W0 wx (seg true g 0 [v0, v1, v2, v3] :: X) → wx.cell? ⟨g, 0, none⟩ = some v0 ∧ wx.cell? ⟨g, 1, none⟩ = some v1 ∧ wx.cell? ⟨g, 2, none⟩ = some v2 ∧ wx.cell? ⟨g, 3, none⟩ = some v3 ∧ g < wx.heap.size := fun g wx X v0 v1 v2 v3 h => ⟨h.at 0 rfl, h.at 1 rfl, h.at 2 rfl, h.at 3 rfl, h.lt (by simp)⟩
set_option maxRecDepth 100000 in
set_option maxHeartbeats 16000000 in
theorem awake25 {W0 w : World} {L : List Assn} (hs : Sat W0 w L) : Calls Tryz.prog 8 #[] w fun e w' => e = .returned (.bool true) ∧ Sat W0 w' L := by
 go_enter Tryz.func8, Tryz.ntmps8
 go_wp2_with fail
 refine (iNew hs).mono ?_
 rintro e w1 ⟨v, rfl, s1'⟩
 have s1 : Sat W0 w1 (vaultA v S0 :: L) := (Sat.sub (s1') (by with_reducible repeat first | exact Fr1 | exact Fr2 | (apply Fr3; focus ((repeat (first | exact Tk1 | apply Tk2)); done)) | apply Fr4))
 clear hs s1'
 go_wp2_with fail
 refine (iKey25 s1).mono ?_
 rintro e w2 ⟨g2, rfl, s2'⟩
 have s2 : Sat W0 w2 (vaultA v S0 :: bytes true (some ⟨g2, 0, none⟩) key25 :: L) := (Sat.sub (s2') (by with_reducible repeat first | exact Fr1 | exact Fr2 | (apply Fr3; focus ((repeat (first | exact Tk1 | apply Tk2)); done)) | apply Fr4))
 clear s1 s2'
 go_wp2_with fail
 refine (iDoY (dc := 16) 1 0 0 0 0 key25 a1 rfl rfl rfl rfl rfl rfl (S0_ok 0) (by decide) rfl (by decide) (by decide) (by decide) s2).mono ?_
 rintro e w3 ⟨qa, ca, rfl, _, _, s3'⟩
 have s3 : Sat W0 w3 (vaultA v A1 :: L) := (Sat.sub (s3') (by with_reducible repeat first | exact Fr1 | exact Fr2 | (apply Fr3; focus ((repeat (first | exact Tk1 | apply Tk2)); done)) | apply Fr4))
 clear s2 s3'
 go_wp2_with (first | (refine wpl_alloc_agg rfl 35 rfl s3 _ (zero_ans _) ?_; intro w4a ga s3a _; clear s3) | (refine wpl_stAns rfl rfl (.tmp 2) (.tmp 15) rfl s3a rfl rfl ?_; intro w4 s4; clear s3a))
 have s4n : Sat W0 w4 (vaultA v A1 :: seg true ga 0 [.int .i64 0, .int .i64 0, .bool false, .slice qa 0 ca] :: L) := (Sat.sub (s4) (by with_reducible repeat first | exact Fr1 | exact Fr2 | (apply Fr3; focus ((repeat (first | exact Tk1 | apply Tk2)); done)) | apply Fr4))
 clear s4
 go_wp2_with fail
 refine (iDoZ 2 0 3 0 16 a2 rfl rfl rfl rfl rfl rfl A1_ok (by decide) s4n).mono ?_
 rintro e w5 ⟨qb, cb, rfl, _, _, s5'⟩
 have s5 : Sat W0 w5 (vaultA v A2 :: seg true ga 0 [.int .i64 0, .int .i64 0, .bool false, .slice qa 0 ca] :: L) := (Sat.sub (s5') (by with_reducible repeat first | exact Fr1 | exact Fr2 | (apply Fr3; focus ((repeat (first | exact Tk1 | apply Tk2)); done)) | apply Fr4))
 clear s4n s5'
 go_wp2_with (first | (refine wpl_alloc_agg rfl 35 rfl s5 _ (zero_ans _) ?_; intro w6a gb s5a _; clear s5) | (refine wpl_stAns rfl rfl (.tmp 3) (.tmp 18) rfl s5a rfl rfl ?_; intro w6 s6; clear s5a))
 have s6n := bytesOf (bs := ma25) (s6.alloc (u8s ma25).toArray 5)
 have s6m : Sat W0 _ (vaultA v A2 :: bytes true (some ⟨w6.heap.size, 0, none⟩) ma25 :: seg true ga 0 [.int .i64 0, .int .i64 0, .bool false, .slice qa 0 ca] :: seg true gb 0 [.int .i64 0, .int .i64 1, .bool false, .slice qb 0 cb] :: L) := (Sat.sub (s6n) (by with_reducible repeat first | exact Fr1 | exact Fr2 | (apply Fr3; focus ((repeat (first | exact Tk1 | apply Tk2)); done)) | apply Fr4))
 clear s6 s6n
 go_wp2_with fail
 refine (iDoY (dc := 4) 3 1 0 0 0 ma25 a3 rfl rfl rfl rfl rfl rfl A2_ok (by decide) rfl (by decide) (by decide) (by decide) s6m).mono ?_
 rintro e w7 ⟨qc, cc, rfl, _, _, s7'⟩
 have s7 : Sat W0 w7 (vaultA v A3 :: seg true ga 0 [.int .i64 0, .int .i64 0, .bool false, .slice qa 0 ca] :: seg true gb 0 [.int .i64 0, .int .i64 1, .bool false, .slice qb 0 cb] :: L) := (Sat.sub (s7') (by with_reducible repeat first | exact Fr1 | exact Fr2 | (apply Fr3; focus ((repeat (first | exact Tk1 | apply Tk2)); done)) | apply Fr4))
 clear s6m s7'
 go_wp2_with (first | (refine wpl_alloc_agg rfl 35 rfl s7 _ (zero_ans _) ?_; intro w8a gc s7a _; clear s7) | (refine wpl_stAns rfl rfl (.tmp 4) (.tmp 22) rfl s7a rfl rfl ?_; intro w8 s8; clear s7a))
 have s8n := bytesOf (bs := mb25) (s8.alloc (u8s mb25).toArray 5)
 have s8m : Sat W0 _ (vaultA v A3 :: bytes true (some ⟨w8.heap.size, 0, none⟩) mb25 :: seg true ga 0 [.int .i64 0, .int .i64 0, .bool false, .slice qa 0 ca] :: seg true gb 0 [.int .i64 0, .int .i64 1, .bool false, .slice qb 0 cb] :: seg true gc 0 [.int .i64 0, .int .i64 0, .bool false, .slice qc 0 cc] :: L) := (Sat.sub (s8n) (by with_reducible repeat first | exact Fr1 | exact Fr2 | (apply Fr3; focus ((repeat (first | exact Tk1 | apply Tk2)); done)) | apply Fr4))
 clear s8 s8n
 go_wp2_with fail
 refine (iDoY (dc := 12) 3 1 0 0 0 mb25 a4 rfl rfl rfl rfl rfl rfl A3_ok (by decide) rfl (by decide) (by decide) (by decide) s8m).mono ?_
 rintro e w9 ⟨qd, cd, rfl, _, _, s9'⟩
 have s9 : Sat W0 w9 (vaultA v A4 :: seg true ga 0 [.int .i64 0, .int .i64 0, .bool false, .slice qa 0 ca] :: seg true gb 0 [.int .i64 0, .int .i64 1, .bool false, .slice qb 0 cb] :: seg true gc 0 [.int .i64 0, .int .i64 0, .bool false, .slice qc 0 cc] :: L) := (Sat.sub (s9') (by with_reducible repeat first | exact Fr1 | exact Fr2 | (apply Fr3; focus ((repeat (first | exact Tk1 | apply Tk2)); done)) | apply Fr4))
 clear s8m s9'
 go_wp2_with (first | (refine wpl_alloc_agg rfl 35 rfl s9 _ (zero_ans _) ?_; intro w10a gd s9a _; clear s9) | (refine wpl_stAns rfl rfl (.tmp 5) (.tmp 26) rfl s9a rfl rfl ?_; intro w10 s10; clear s9a))
 have s10n : Sat W0 w10 (vaultA v A4 :: seg true ga 0 [.int .i64 0, .int .i64 0, .bool false, .slice qa 0 ca] :: seg true gb 0 [.int .i64 0, .int .i64 1, .bool false, .slice qb 0 cb] :: seg true gc 0 [.int .i64 0, .int .i64 0, .bool false, .slice qc 0 cc] :: seg true gd 0 [.int .i64 0, .int .i64 0, .bool false, .slice qd 0 cd] :: L) := (Sat.sub (s10) (by with_reducible repeat first | exact Fr1 | exact Fr2 | (apply Fr3; focus ((repeat (first | exact Tk1 | apply Tk2)); done)) | apply Fr4))
 clear s10
 go_wp2_with fail
 refine (iDoZ (bn := 16) 4 1 0 0 0 a5 rfl rfl rfl rfl rfl rfl A4_ok (by decide) s10n).mono ?_
 rintro e w11 ⟨qe, ce, rfl, _, _, s11'⟩
 have s11 : Sat W0 w11 (vaultA v A1 :: bytes true qe want25 :: seg true ga 0 [.int .i64 0, .int .i64 0, .bool false, .slice qa 0 ca] :: seg true gb 0 [.int .i64 0, .int .i64 1, .bool false, .slice qb 0 cb] :: seg true gc 0 [.int .i64 0, .int .i64 0, .bool false, .slice qc 0 cc] :: seg true gd 0 [.int .i64 0, .int .i64 0, .bool false, .slice qd 0 cd] :: L) := (Sat.sub (s11') (by with_reducible repeat first | exact Fr1 | exact Fr2 | (apply Fr3; focus ((repeat (first | exact Tk1 | apply Tk2)); done)) | apply Fr4))
 clear s10n s11'
 go_wp2_with (first | (refine wpl_alloc_agg rfl 35 rfl s11 _ (zero_ans _) ?_; intro w12a ge s11a _; clear s11) | (refine wpl_stAns rfl rfl (.tmp 6) (.tmp 29) rfl s11a rfl rfl ?_; intro w12 s12; clear s11a))
 have s12n := bytesOf (bs := want25) (s12.alloc (u8s want25).toArray 5)
 obtain ⟨gw, hgw⟩ : ∃ g, g = w12.heap.size := ⟨_, rfl⟩
 have s12m : Sat W0 _ (vaultA v A1 :: bytes true (some ⟨w12.heap.size, 0, none⟩) want25 :: bytes true qe want25 :: seg true ga 0 [.int .i64 0, .int .i64 0, .bool false, .slice qa 0 ca] :: seg true gb 0 [.int .i64 0, .int .i64 1, .bool false, .slice qb 0 cb] :: seg true gc 0 [.int .i64 0, .int .i64 0, .bool false, .slice qc 0 cc] :: seg true gd 0 [.int .i64 0, .int .i64 0, .bool false, .slice qd 0 cd] :: seg true ge 0 [.int .i64 0, .int .i64 0, .bool false, .slice qe 16 ce] :: L) := (Sat.sub (s12n) (by with_reducible repeat first | exact Fr1 | exact Fr2 | (apply Fr3; focus ((repeat (first | exact Tk1 | apply Tk2)); done)) | apply Fr4))
 clear s12 s12n
 go_wp2_with fail
 refine (iHeld A1 A1_ok (by decide) s12m).mono ?_
 rintro e w13 ⟨hn, hp, hc, hhn, rfl, s13'⟩
 rw [← hgw] at s13' ⊢
 clear s12m hgw
 rw [A1_held] at hhn s13'
 simp only [List.length_cons, List.length_nil, Nat.zero_add] at hhn
 subst hhn
 obtain ⟨gh, q, RH, rfl, _, _, _, _, _, hcell, s13a, _⟩ := heldAt (j := 0) (i := 0) (H := .key key25) rfl s13'
 obtain ⟨kq, kc, c2, c3, mq, mc⟩ := q
 have s13b : Sat W0 w13 (bytes true kq key25 :: bytes true c2 [] :: bytes true mq [] :: RH :: vaultA v A1 :: bytes true (some ⟨gw, 0, none⟩) want25 :: bytes true qe want25 :: seg true ga 0 [.int .i64 0, .int .i64 0, .bool false, .slice qa 0 ca] :: seg true gb 0 [.int .i64 0, .int .i64 1, .bool false, .slice qb 0 cb] :: seg true gc 0 [.int .i64 0, .int .i64 0, .bool false, .slice qc 0 cc] :: seg true gd 0 [.int .i64 0, .int .i64 0, .bool false, .slice qd 0 cd] :: seg true ge 0 [.int .i64 0, .int .i64 0, .bool false, .slice qe 16 ce] :: L) := s13a
 have s13 : Sat W0 w13 (bytes true qe want25 :: bytes true (some ⟨gw, 0, none⟩) want25 :: bytes true kq key25 :: RH :: seg true ga 0 [.int .i64 0, .int .i64 0, .bool false, .slice qa 0 ca] :: seg true gb 0 [.int .i64 0, .int .i64 1, .bool false, .slice qb 0 cb] :: seg true gc 0 [.int .i64 0, .int .i64 0, .bool false, .slice qc 0 cc] :: seg true gd 0 [.int .i64 0, .int .i64 0, .bool false, .slice qd 0 cd] :: seg true ge 0 [.int .i64 0, .int .i64 0, .bool false, .slice qe 16 ce] :: L) := (Sat.sub (s13b) (by with_reducible repeat first | exact Fr1 | exact Fr2 | (apply Fr3; focus ((repeat (first | exact Tk1 | apply Tk2)); done)) | apply Fr4))
 have hcell2 : ∀ w' L', Sat W0 w' (RH :: L') → gh < w'.heap.size ∧ w'.cell? ⟨gh, 3, none⟩ = some (.slice kq 16 kc) := fun w' L' s => ⟨(hcell w' L' s).1, (hcell w' L' s).2 3 _ rfl⟩
 have HC := Lib.hid hcell2; clear s13' s13a s13b hcell hcell2
 have HA := Lib.hid (hAns W0)
 go_wp2_with fail
 have s13d := s13.drew
 clear s13
 have hkeep : ∀ w', Sat W0 w' (RH :: seg true ga 0 [.int .i64 0, .int .i64 0, .bool false, .slice qa 0 ca] :: seg true gb 0 [.int .i64 0, .int .i64 1, .bool false, .slice qb 0 cb] :: seg true gc 0 [.int .i64 0, .int .i64 0, .bool false, .slice qc 0 cc] :: seg true gd 0 [.int .i64 0, .int .i64 0, .bool false, .slice qd 0 cd] :: seg true ge 0 [.int .i64 0, .int .i64 0, .bool false, .slice qe 16 ce] :: []) →  w'.cell? ⟨ga, 0, none⟩ = some (.int .i64 0) ∧ w'.cell? ⟨ga, 1, none⟩ = some (.int .i64 0) ∧ w'.cell? ⟨gb, 1, none⟩ = some (.int .i64 1) ∧ w'.cell? ⟨gc, 0, none⟩ = some (.int .i64 0) ∧ w'.cell? ⟨gd, 0, none⟩ = some (.int .i64 0) ∧ w'.cell? ⟨ge, 0, none⟩ = some (.int .i64 0) ∧ w'.cell? ⟨ge, 3, none⟩ = some (.slice qe 16 ce) ∧ ga < w'.heap.size ∧ gb < w'.heap.size ∧ gc < w'.heap.size ∧ gd < w'.heap.size ∧ ge < w'.heap.size ∧ gh < w'.heap.size ∧ w'.cell? ⟨gh, 3, none⟩ = some (.slice kq 16 kc) := fun w' s => ⟨((Sat.sub (s) (by with_reducible repeat first | exact Fr1 | exact Fr2 | (apply Fr3; focus ((repeat (first | exact Tk1 | apply Tk2)); done)) | apply Fr4)) : Sat W0 w' (seg true ga 0 [.int .i64 0, .int .i64 0, .bool false, .slice qa 0 ca] :: [])).at 0 rfl, ((Sat.sub (s) (by with_reducible repeat first | exact Fr1 | exact Fr2 | (apply Fr3; focus ((repeat (first | exact Tk1 | apply Tk2)); done)) | apply Fr4)) : Sat W0 w' (seg true ga 0 [.int .i64 0, .int .i64 0, .bool false, .slice qa 0 ca] :: [])).at 1 rfl, ((Sat.sub (s) (by with_reducible repeat first | exact Fr1 | exact Fr2 | (apply Fr3; focus ((repeat (first | exact Tk1 | apply Tk2)); done)) | apply Fr4)) : Sat W0 w' (seg true gb 0 [.int .i64 0, .int .i64 1, .bool false, .slice qb 0 cb] :: [])).at 1 rfl, ((Sat.sub (s) (by with_reducible repeat first | exact Fr1 | exact Fr2 | (apply Fr3; focus ((repeat (first | exact Tk1 | apply Tk2)); done)) | apply Fr4)) : Sat W0 w' (seg true gc 0 [.int .i64 0, .int .i64 0, .bool false, .slice qc 0 cc] :: [])).at 0 rfl, ((Sat.sub (s) (by with_reducible repeat first | exact Fr1 | exact Fr2 | (apply Fr3; focus ((repeat (first | exact Tk1 | apply Tk2)); done)) | apply Fr4)) : Sat W0 w' (seg true gd 0 [.int .i64 0, .int .i64 0, .bool false, .slice qd 0 cd] :: [])).at 0 rfl, ((Sat.sub (s) (by with_reducible repeat first | exact Fr1 | exact Fr2 | (apply Fr3; focus ((repeat (first | exact Tk1 | apply Tk2)); done)) | apply Fr4)) : Sat W0 w' (seg true ge 0 [.int .i64 0, .int .i64 0, .bool false, .slice qe 16 ce] :: [])).at 0 rfl, ((Sat.sub (s) (by with_reducible repeat first | exact Fr1 | exact Fr2 | (apply Fr3; focus ((repeat (first | exact Tk1 | apply Tk2)); done)) | apply Fr4)) : Sat W0 w' (seg true ge 0 [.int .i64 0, .int .i64 0, .bool false, .slice qe 16 ce] :: [])).at 3 rfl, ((Sat.sub (s) (by with_reducible repeat first | exact Fr1 | exact Fr2 | (apply Fr3; focus ((repeat (first | exact Tk1 | apply Tk2)); done)) | apply Fr4)) : Sat W0 w' (seg true ga 0 [.int .i64 0, .int .i64 0, .bool false, .slice qa 0 ca] :: [])).lt (by simp), ((Sat.sub (s) (by with_reducible repeat first | exact Fr1 | exact Fr2 | (apply Fr3; focus ((repeat (first | exact Tk1 | apply Tk2)); done)) | apply Fr4)) : Sat W0 w' (seg true gb 0 [.int .i64 0, .int .i64 1, .bool false, .slice qb 0 cb] :: [])).lt (by simp), ((Sat.sub (s) (by with_reducible repeat first | exact Fr1 | exact Fr2 | (apply Fr3; focus ((repeat (first | exact Tk1 | apply Tk2)); done)) | apply Fr4)) : Sat W0 w' (seg true gc 0 [.int .i64 0, .int .i64 0, .bool false, .slice qc 0 cc] :: [])).lt (by simp), ((Sat.sub (s) (by with_reducible repeat first | exact Fr1 | exact Fr2 | (apply Fr3; focus ((repeat (first | exact Tk1 | apply Tk2)); done)) | apply Fr4)) : Sat W0 w' (seg true gd 0 [.int .i64 0, .int .i64 0, .bool false, .slice qd 0 cd] :: [])).lt (by simp), ((Sat.sub (s) (by with_reducible repeat first | exact Fr1 | exact Fr2 | (apply Fr3; focus ((repeat (first | exact Tk1 | apply Tk2)); done)) | apply Fr4)) : Sat W0 w' (seg true ge 0 [.int .i64 0, .int .i64 0, .bool false, .slice qe 16 ce] :: [])).lt (by simp), (HC.out _ _ ((Sat.sub (s) (by with_reducible repeat first | exact Fr1 | exact Fr2 | (apply Fr3; focus ((repeat (first | exact Tk1 | apply Tk2)); done)) | apply Fr4)) : Sat W0 w' (RH :: []))).1, (HC.out _ _ ((Sat.sub (s) (by with_reducible repeat first | exact Fr1 | exact Fr2 | (apply Fr3; focus ((repeat (first | exact Tk1 | apply Tk2)); done)) | apply Fr4)) : Sat W0 w' (RH :: []))).2⟩
 have HKEEP := Lib.hid hkeep; clear hkeep
 have hk0 := HKEEP.out _ (Sat.sub (s13d) (by with_reducible repeat first | exact Fr1 | exact Fr2 | (apply Fr3; focus ((repeat (first | exact Tk1 | apply Tk2)); done)) | apply Fr4))
 refine region_E (fun w' => w'.cell? ⟨ga, 0, none⟩ = some (.int .i64 0) ∧ w'.cell? ⟨ga, 1, none⟩ = some (.int .i64 0) ∧ w'.cell? ⟨gb, 1, none⟩ = some (.int .i64 1) ∧ w'.cell? ⟨gc, 0, none⟩ = some (.int .i64 0) ∧ w'.cell? ⟨gd, 0, none⟩ = some (.int .i64 0) ∧ w'.cell? ⟨ge, 0, none⟩ = some (.int .i64 0) ∧ w'.cell? ⟨ge, 3, none⟩ = some (.slice qe 16 ce) ∧ ga < w'.heap.size ∧ gb < w'.heap.size ∧ gc < w'.heap.size ∧ gd < w'.heap.size ∧ ge < w'.heap.size ∧ gh < w'.heap.size ∧ w'.cell? ⟨gh, 3, none⟩ = some (.slice kq 16 kc)) [1, 5, 10, 15, 20, 25, 30, 43] (by kernel_rfl) ?_
 have hHeld := hk0
 iterate 32
  first | refine autoT hHeld (by rfl) (by rfl) (x := ?_) (v := ?_) ?_ (by kernel_rfl) ?_ ?_ ?_ | refine autoP (by rfl) (x := ?_) (v := ?_) ?_ (by kernel_rfl) ?_ ?_ ?_
  rotate_left 2
  ·(simp only [gE1, gE2, gE3]; rfl)
  ·exact fun _ _ _ h => h
  ·refine Or.inl ⟨by rfl, fun w hSw => ?_⟩
   (try dsimp only at hSw)
   go_simp
   try (with_reducible rfl)
  try simp only [pA1, pA2, pA3, pA4]
 refine anyE_one (i := 32) (x := ?_) ?_ (by kernel_rfl) (fun K hK => ?_)
 rotate_left
 ·(simp only [gE1, gE2, gE3]; rfl)
 go_simp
 refine (sameT (ca := ce) (cb := 16) want25 want25 rfl rfl (by decide) rfl s13d).mono ?_
 rintro e w14 ⟨rfl, s14⟩
 have hk1 := HKEEP.out _ (Sat.sub (s14) (by with_reducible repeat first | exact Fr1 | exact Fr2 | (apply Fr3; focus ((repeat (first | exact Tk1 | apply Tk2)); done)) | apply Fr4))
 go_wp2_with fail
 refine hK.out _ _ hk1 ?_
 clear hK K hHeld
 have hHeld := hk1
 try simp only [pA1, pA2, pA3, pA4]
 clear s13d hk0
 iterate 11
  first | refine autoT hHeld (by rfl) (by rfl) (x := ?_) (v := ?_) ?_ (by kernel_rfl) ?_ ?_ ?_ | refine autoP (by rfl) (x := ?_) (v := ?_) ?_ (by kernel_rfl) ?_ ?_ ?_
  rotate_left 2
  ·(simp only [gE1, gE2, gE3]; rfl)
  ·exact fun _ _ _ h => h
  ·refine Or.inl ⟨by rfl, fun w hSw => ?_⟩
   (try dsimp only at hSw)
   go_simp
   try (with_reducible rfl)
  try simp only [pA1, pA2, pA3, pA4]
 refine anyE_one (i := 44) (x := ?_) ?_ (by kernel_rfl) (fun K hK => ?_)
 rotate_left
 ·(simp only [gE1, gE2, gE3]; rfl)
 go_simp
 refine (iKey25 s14).mono ?_
 rintro e w15 ⟨gk, rfl, s15⟩
 have hk2 := HKEEP.out _ (Sat.sub (s15) (by with_reducible repeat first | exact Fr1 | exact Fr2 | (apply Fr3; focus ((repeat (first | exact Tk1 | apply Tk2)); done)) | apply Fr4))
 go_wp2_with fail
 refine hK.out _ _ hk2 ?_
 clear hK K hHeld
 have hHeld := hk2
 try simp only [pA1, pA2, pA3, pA4]
 clear s14 hk1
 have s15n : Sat W0 w15 (bytes true kq key25 :: bytes true (some ⟨gk, 0, none⟩) key25 :: RH :: seg true ga 0 [.int .i64 0, .int .i64 0, .bool false, .slice qa 0 ca] :: seg true gb 0 [.int .i64 0, .int .i64 1, .bool false, .slice qb 0 cb] :: seg true gc 0 [.int .i64 0, .int .i64 0, .bool false, .slice qc 0 cc] :: seg true gd 0 [.int .i64 0, .int .i64 0, .bool false, .slice qd 0 cd] :: seg true ge 0 [.int .i64 0, .int .i64 0, .bool false, .slice qe 16 ce] :: L) := (Sat.sub (s15) (by with_reducible repeat first | exact Fr1 | exact Fr2 | (apply Fr3; focus ((repeat (first | exact Tk1 | apply Tk2)); done)) | apply Fr4))
 refine anyE_one (i := 45) (x := ?_) ?_ (by kernel_rfl) (fun K hK => ?_)
 rotate_left
 ·(simp only [gE1, gE2, gE3]; rfl)
 go_simp
 refine (sameT (ca := kc) (cb := 16) key25 key25 rfl rfl (by decide) rfl s15n).mono ?_
 rintro e w16 ⟨rfl, s16⟩
 have hk3 := HKEEP.out _ (Sat.sub (s16) (by with_reducible repeat first | exact Fr1 | exact Fr2 | (apply Fr3; focus ((repeat (first | exact Tk1 | apply Tk2)); done)) | apply Fr4))
 go_wp2_with fail
 refine hK.out _ _ hk3 ?_
 clear hK K hHeld
 have hHeld := hk3
 try simp only [pA1, pA2, pA3, pA4]
 clear s15 s15n hk2
 iterate 2
  first | refine autoT hHeld (by rfl) (by rfl) (x := ?_) (v := ?_) ?_ (by kernel_rfl) ?_ ?_ ?_ | refine autoP (by rfl) (x := ?_) (v := ?_) ?_ (by kernel_rfl) ?_ ?_ ?_
  rotate_left 2
  ·(simp only [gE1, gE2, gE3]; rfl)
  ·exact fun _ _ _ h => h
  ·refine Or.inl ⟨by rfl, fun w hSw => ?_⟩
   (try dsimp only at hSw)
   go_simp
   try (with_reducible rfl)
  try simp only [pA1, pA2, pA3, pA4]
 refine anyE_done (by kernel_rfl) ?_ _
 have HS := Lib.hid s16; clear s16
 go_wp2_with fail
 go_ret
 exact ⟨rfl, HS.out.tail.tail.tail.tail.tail.tail.tail.tail⟩
end Go.Proofs.YtpiiklfnakkdiaaGreat
