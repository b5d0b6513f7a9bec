
import Derived.Test.YtbefjaodpbgpcaaGreatCmac3
set_option linter.unusedVariables false
set_option linter.unusedSimpArgs false
set_option maxRecDepth 100000
set_option maxHeartbeats 16000000
namespace Go.Proofs.YtbefjaodpbgpcaaGreat
open Go.RowKit Go.Sep Go.Bv Go.Aes
theorem wp_al16 {o : Oper} {a : Act} {K : Act → World → Prop} {Q : Exit → Act → World → Prop} {W0 w : World} {L : List Assn} (ho : o.op = .alloc 210) (hs : Sat W0 w L)
  (h : ∀ w' g, Sat W0 w' (seg true g 0 (u8s nought16) :: L) → K (a.put o.dst (.pointer (some ⟨g, 0, none⟩))) w') : Oper.wp Tryz.prog o a w K Q := by
 have := h (w.alloc (.cells (Value.agg (u8s nought16).toArray).cells 210)) w.heap.size (hs.alloc _ 210)
 unfold Oper.wp execOp
 simp [ho, Instr.alloc, newVar, newRow, zero_b16, Sem.run_bind]
 exact this
def cmTag (E : List Byte → List Byte) (k1 k2 : List Byte) (s : CSt) : List Byte := E (xorL s.1 (xorL (if s.2.2 < 16 then s.2.1.set s.2.2 128 else s.2.1) (if s.2.2 < 16 then k2 else k1)))
theorem cmacSum {W0 w : World} {L : List Assn} {b c kl : Nat} {pv : Value} (p : Option Nat) (rs : List Run3) (ks k1 k2 ch wt : List Byte) (n0 : Nat) (hp : pv = ptrO p) (hks : ks.length = 240) (hk1 : k1.length = 16) (hk2 : k2.length = 16) (hch : ch.length = 16) (hwt : wt.length = 16) (hn0 : n0 ≤ 16) (hk0 : 0 < kl) (hk : kl ≤ 32) (hb : tot rs + 1 ≤ 4611686018427387904) (hl : rs.length ≤ 4294967296)
  (hs : Sat W0 w (ledO p rs :: cmS b (.pointer (some ⟨c, 0, none⟩)) k1 k2 ch wt n0 (cipS c kl ks L))) :
  Calls Tryz.prog 132 #[.pointer (some ⟨b, 0, none⟩), pv] w fun e w' => ∃ g, e = .returned (.tuple #[.slice (some ⟨g, 0, none⟩) 16 16, .int .i64 0]) ∧ Sat W0 w' (seg true g 0 (u8s (cmTag (aesEnc kl ks) k1 k2 (ch, wt, n0))) :: ledO p (note rs 5 (kl : Int) 1) :: cmS b (.pointer (some ⟨c, 0, none⟩)) k1 k2 ch wt n0 (cipS c kl ks L)) := by
 subst hp
 obtain ⟨E, hE⟩ : ∃ E, E = aesEnc kl ks := ⟨_, rfl⟩
 have hEl : ∀ x, x.length = 16 → (E x).length = 16 := fun x hx => by rw [hE]; exact aesEnc_len kl ks x hks hx hk
 have henc := fun (w : World) (L : List Assn) (x : List Byte) (hx : x.length = 16) (s : Sat W0 w (ledO p rs :: cipS c kl ks L)) => aesEncryptF p rs ks x rfl rfl hks hx hk0 hk hb hl s
 rw [← hE] at henc ⊢
 have hu16 := Tryz.underlying210
 have hz1 : ∀ B : List Byte, B.length = 16 → (Tryz.prog.info? 210).map (·.size) = some (u8s B).length := fun B h => by rw [u8s_len, h]; exact Tryz.size_b16
 have hkx : ∀ wx X, Sat W0 wx (seg true b 49 (u8s wt) :: seg true b 1 (u8s k1) :: X) → (wx.rangeAt b 49 (u8s wt) ∧ wx.rangeAt b 1 (u8s k1) ∧ b < wx.heap.size) := fun wx X h => ⟨h.range, (h.pull 1 : Sat W0 wx (seg true b 1 (u8s k1) :: _)).range, satLt h (by rw [u8s_len, hwt]; decide)⟩
 have hky : ∀ wx g6 g7 A B X, Sat W0 wx (seg true b 0 [.pointer (some ⟨c, 0, none⟩)] :: seg true b 33 (u8s ch) :: seg true g6 0 (u8s A) :: seg true g7 0 (u8s B) :: X) → (wx.cell? ⟨b, 0, none⟩ = some (.pointer (some ⟨c, 0, none⟩)) ∧ wx.rangeAt b 33 (u8s ch) ∧ wx.rangeAt g6 0 (u8s A) ∧ wx.rangeAt g7 0 (u8s B) ∧ b < wx.heap.size) := fun wx g6 g7 A B X h => ⟨h.at 0 rfl, (h.pull 1 : Sat W0 wx (seg true b 33 (u8s ch) :: _)).range, (h.pull 2 : Sat W0 wx (seg true g6 0 (u8s A) :: _)).range, (h.pull 3 : Sat W0 wx (seg true g7 0 (u8s B) :: _)).range, satLt h (by simp)⟩
 have HN := Lib.hid (And.intro hks (And.intro hk1 (And.intro hk2 (And.intro hch (And.intro hwt (And.intro hz1 (And.intro hEl (And.intro henc (And.intro hkx hky))))))))); clear hks hk1 hk2 hch hwt hz1 hEl henc hkx hky hE hk hk0 hb hl
 have c0 : w.cell? ⟨b, 0, none⟩ = some (.pointer (some ⟨c, 0, none⟩)) := (hs.f : Sat W0 w (seg true b 0 [.pointer (some ⟨c, 0, none⟩)] :: [])).at 0 rfl
 have z0 : b < w.heap.size := satLt (hs.pull 1 : Sat W0 w (seg true b 0 [.pointer (some ⟨c, 0, none⟩)] :: _)) (by simp)
 go_enter Tryz.func132, Tryz.ntmps132
 go_wp2_with fail
 refine (cmacMade (hs.f : Sat W0 w (seg true b 0 [.pointer (some ⟨c, 0, none⟩)] :: []))).mono ?_
 rintro e w1 ⟨rfl, rfl⟩
 go_wp2_with fail
 refine region_E (fun w' => w'.rangeAt b 49 (u8s wt) ∧ w'.rangeAt b 1 (u8s k1) ∧ b < w'.heap.size) [3, 7] (by kernel_rfl) ?_
 have hHeld := (HN.out.2.2.2.2.2.2.2.2.1 _ _ hs.drew.f)
 have sd := hs.drew
 clear hs c0 z0
 iterate 3
  first | refine autoT' hHeld (h := ?_) | refine autoP' (h := ?_)
  try simp only [pA1, pA2, pA3, pA4]
 refine anyE_take (i := 3) (x := ?_) (v := ?_) ?_ (by kernel_rfl) (by kernel_rfl) (by kernel_rfl) (by kernel_rfl) ?_ ?_ hHeld ?_
 rotate_left 2
 ·(simp only [gE1, gE2, gE3]; rfl)
 ·exact fun _ _ _ h => h
 ·refine yieldsIf_load_mid ?_ 210 (.tmp 15) ?_ b 49 ?_ (u8s wt) _ ?_ hu16 rfl (HN.out.2.2.2.2.2.1 _ HN.out.2.2.2.2.1)
  ·rfl
  ·rfl
  ·rfl
  ·intro w hSw
   exact hSw.1
 try simp only [pA1, pA2, pA3, pA4]
 iterate 3
  first | refine autoT' hHeld (h := ?_) | refine autoP' (h := ?_)
  try simp only [pA1, pA2, pA3, pA4]
 refine anyE_take (i := 7) (x := ?_) (v := ?_) ?_ (by kernel_rfl) (by kernel_rfl) (by kernel_rfl) (by kernel_rfl) ?_ ?_ hHeld ?_
 rotate_left 2
 ·(simp only [gE1, gE2, gE3]; rfl)
 ·exact fun _ _ _ h => h
 ·refine yieldsIf_load_mid ?_ 210 (.tmp 19) ?_ b 1 ?_ (u8s k1) _ ?_ hu16 rfl (HN.out.2.2.2.2.2.1 _ HN.out.2.1)
  ·rfl
  ·rfl
  ·rfl
  ·intro w hSw
   exact hSw.2.1
 try simp only [pA1, pA2, pA3, pA4]
 refine anyE_two (i := 8) (j := 9) (x := ?_) (y := ?_) ?_ ?_ (by kernel_rfl) (fun K hK => ?_) (fun K hK => ?_)
 rotate_left 2
 ·(simp only [gE1, gE2, gE3]; rfl)
 ·(simp only [gE1, gE2, gE3]; rfl)
 focus
  rw [if_pos (by rfl)]
  refine wp_al16 rfl sd ?_
  intro wA g6 sA
  try simp only [Act.put, List.setIfInBounds_toArray, List.set_cons_zero, List.set_cons_succ]
  refine hK.out _ _ (HN.out.2.2.2.2.2.2.2.2.1 _ _ sA.f) ?_
  clear hK K hHeld
  have hHeld := (HN.out.2.2.2.2.2.2.2.2.1 _ _ sA.f)
  try simp only [pA1, pA2, pA3, pA4]
  refine anyE_one' (i := 9) (h := fun K hK => ?_)
  rw [if_pos (by rfl)]
  refine wp_al16 rfl sA ?_
  intro wB g7 sB
  try simp only [Act.put, List.setIfInBounds_toArray, List.set_cons_zero, List.set_cons_succ]
  refine hK.out _ _ (HN.out.2.2.2.2.2.2.2.2.1 _ _ sB.f) ?_
  clear hK K hHeld
  have hHeld := (HN.out.2.2.2.2.2.2.2.2.1 _ _ sB.f)
  try simp only [pA1, pA2, pA3, pA4]
  have sBn : Sat W0 wB (seg true g6 0 (u8s nought16) :: seg true g7 0 (u8s nought16) :: ledO p rs :: cmS b (.pointer (some ⟨c, 0, none⟩)) k1 k2 ch wt n0 (cipS c kl ks L)) := sB.f
  clear sB sd sA
  have sB := sBn
  clear sBn
 rotate_left
 focus
  rw [if_pos (by rfl)]
  refine wp_al16 rfl sd ?_
  intro wA g7 sA
  try simp only [Act.put, List.setIfInBounds_toArray, List.set_cons_zero, List.set_cons_succ]
  refine hK.out _ _ (HN.out.2.2.2.2.2.2.2.2.1 _ _ sA.f) ?_
  clear hK K hHeld
  have hHeld := (HN.out.2.2.2.2.2.2.2.2.1 _ _ sA.f)
  try simp only [pA1, pA2, pA3, pA4]
  refine anyE_one' (i := 8) (h := fun K hK => ?_)
  rw [if_pos (by rfl)]
  refine wp_al16 rfl sA ?_
  intro wB g6 sB
  try simp only [Act.put, List.setIfInBounds_toArray, List.set_cons_zero, List.set_cons_succ]
  refine hK.out _ _ (HN.out.2.2.2.2.2.2.2.2.1 _ _ sB.f) ?_
  clear hK K hHeld
  have hHeld := (HN.out.2.2.2.2.2.2.2.2.1 _ _ sB.f)
  try simp only [pA1, pA2, pA3, pA4]
  have sBn : Sat W0 wB (seg true g6 0 (u8s nought16) :: seg true g7 0 (u8s nought16) :: ledO p rs :: cmS b (.pointer (some ⟨c, 0, none⟩)) k1 k2 ch wt n0 (cipS c kl ks L)) := sB.f
  clear sB sd sA
  have sB := sBn
  clear sBn
 all_goals
  refine anyE_one' (i := 10) (h := fun K hK => ?_)
  rw [if_pos (by rfl)]
  refine wp_st8a rfl _ _ rfl (sB.f : Sat W0 wB (seg true g6 0 (u8s nought16) :: seg true g7 0 (u8s nought16) :: ledO p rs :: cmS b (.pointer (some ⟨c, 0, none⟩)) k1 k2 ch wt n0 (cipS c kl ks L))) Tryz.size_b16 rfl rfl HN.out.2.2.2.2.1 nought16_len ?_
  intro wC sC
  try simp only [Act.put, List.setIfInBounds_toArray, List.set_cons_zero, List.set_cons_succ]
  refine hK.out _ _ (HN.out.2.2.2.2.2.2.2.2.1 _ _ sC.f) ?_
  clear hK K hHeld
  have hHeld := (HN.out.2.2.2.2.2.2.2.2.1 _ _ sC.f)
  try simp only [pA1, pA2, pA3, pA4]
  refine anyE_one' (i := 11) (h := fun K hK => ?_)
  rw [if_pos (by rfl)]
  refine wp_st8a rfl _ _ rfl (sC.f : Sat W0 wC (seg true g7 0 (u8s nought16) :: seg true g6 0 (u8s wt) :: ledO p rs :: cmS b (.pointer (some ⟨c, 0, none⟩)) k1 k2 ch wt n0 (cipS c kl ks L))) Tryz.size_b16 rfl rfl HN.out.2.1 nought16_len ?_
  intro wD sD
  try simp only [Act.put, List.setIfInBounds_toArray, List.set_cons_zero, List.set_cons_succ]
  refine hK.out _ _ (HN.out.2.2.2.2.2.2.2.2.1 _ _ sD.f) ?_
  clear hK K hHeld
  have hHeld := (HN.out.2.2.2.2.2.2.2.2.1 _ _ sD.f)
  try simp only [pA1, pA2, pA3, pA4]
  refine anyE_done (by kernel_rfl) ?_ _
  clear sB sC hHeld
  by_cases hn : n0 < 16
  focus
   have hg1 : decide ((n0 : Int) < 16) = true := by simp; omega
   have hg2 : (n0 : Int) < 16 := by omega
   have c65 : wD.cell? ⟨b, 65, none⟩ = some (.int .i64 (n0 : Int)) := (sD.f : Sat W0 wD (seg true b 65 [.int .i64 (n0 : Int)] :: [])).cell (i := 0) rfl
   have z6 : b < wD.heap.size := satLt (sD.f : Sat W0 wD (seg true b 65 [.int .i64 (n0 : Int)] :: [])) (by simp)
   have sF : Sat W0 wD (seg true g6 0 (u8s wt) :: seg true g7 0 (u8s k1) :: ledO p rs :: cmS b (.pointer (some ⟨c, 0, none⟩)) k1 k2 ch wt n0 (cipS c kl ks L)) := sD.f
   clear sD
   have zg := satLt sF (by rw [u8s_len, HN.out.2.2.2.2.1]; decide)
   have cg := sF.at n0 (u8s_get wt n0 (by rw [HN.out.2.2.2.2.1]; exact hn))
   have fg := sF.fr n0 (by rw [u8s_len, HN.out.2.2.2.2.1]; exact hn)
   have sG : Sat W0 (wD.setCell ⟨g6, n0, none⟩ (.int .u8 128)) (seg true g6 0 (u8s (wt.set n0 128)) :: _) := (sF.store (i := n0) (by rw [u8s_len, HN.out.2.2.2.2.1]; exact hn) (.int .u8 128) (q := n0) (by simp)).to (by rw [← u8s_set]; rfl)
   clear sF
   have sH : Sat W0 _ (seg true b 17 (u8s k2) :: []) := sG.f
   have sI : Sat W0 _ (seg true g7 0 (u8s k1) :: seg true g6 0 (u8s (wt.set n0 128)) :: ledO p rs :: cmS b (.pointer (some ⟨c, 0, none⟩)) k1 k2 ch wt n0 (cipS c kl ks L)) := sG.f
   clear sG
   go_wp2_with (first | (refine wpl_ld8a rfl (.tmp 33) rfl Tryz.underlying210 Tryz.size_b16 sH rfl HN.out.2.2.1 ?_) | (refine wpl_st8a rfl rfl (.tmp 7) (.tmp 34) rfl sI Tryz.size_b16 rfl rfl HN.out.2.2.1 HN.out.2.1 ?_; intro wE sE'))
   obtain ⟨A, hA⟩ : ∃ A, A = wt.set n0 128 := ⟨_, rfl⟩
   obtain ⟨B, hB⟩ : ∃ B, B = k2 := ⟨_, rfl⟩
   have sE : Sat W0 wE (seg true g6 0 (u8s A) :: seg true g7 0 (u8s B) :: ledO p rs :: cmS b (.pointer (some ⟨c, 0, none⟩)) k1 k2 ch wt n0 (cipS c kl ks L)) := by rw [hA, hB]; exact sE'.f
   have hAl : A.length = 16 := by rw [hA, List.length_set]; exact HN.out.2.2.2.2.1
   have hBl : B.length = 16 := by rw [hB]; exact HN.out.2.2.1
   have hT : cmTag E k1 k2 (ch, wt, n0) = E (xorL ch (xorL A B)) := by unfold cmTag; simp only; rw [if_pos hn, if_pos hn, hA, hB]
   have hNN : n0 = n0 := rfl
  rotate_left
  focus
   obtain rfl : n0 = 16 := by omega
   have c65 : wD.cell? ⟨b, 65, none⟩ = some (.int .i64 16) := (sD.f : Sat W0 wD (seg true b 65 [.int .i64 ((16 : Nat) : Int)] :: [])).cell (i := 0) rfl
   have z6 : b < wD.heap.size := satLt (sD.f : Sat W0 wD (seg true b 65 [.int .i64 ((16 : Nat) : Int)] :: [])) (by simp)
   obtain ⟨A, hA⟩ : ∃ A, A = wt := ⟨_, rfl⟩
   obtain ⟨B, hB⟩ : ∃ B, B = k1 := ⟨_, rfl⟩
   obtain ⟨n0, hn16⟩ : ∃ n0, n0 = 16 := ⟨_, rfl⟩
   have sE : Sat W0 wD (seg true g6 0 (u8s A) :: seg true g7 0 (u8s B) :: ledO p rs :: cmS b (.pointer (some ⟨c, 0, none⟩)) k1 k2 ch wt n0 (cipS c kl ks L)) := by rw [hA, hB, hn16]; exact sD.f
   clear sD
   have hAl : A.length = 16 := by rw [hA]; exact HN.out.2.2.2.2.1
   have hBl : B.length = 16 := by rw [hB]; exact HN.out.2.1
   have hT : cmTag E k1 k2 (ch, wt, 16) = E (xorL ch (xorL A B)) := by unfold cmTag; simp only; rw [if_neg (by decide), if_neg (by decide), hA, hB]
   rw [← hn16] at hT
   have hNN : n0 = 16 := hn16
   clear hn16
   go_wp2_with fail
  all_goals
   have hXl : (xorL A B).length = 16 := by rw [xorL_len _ _ (by rw [hAl, hBl])]; exact hAl
   have hYl : (xorL ch (xorL A B)).length = 16 := by rw [xorL_len _ _ (by rw [HN.out.2.2.2.1, hXl])]; exact HN.out.2.2.2.1
   have hZl := HN.out.2.2.2.2.2.2.1 _ hYl
   have HE := Lib.hid (And.intro hAl (And.intro hBl (And.intro hXl (And.intro hYl (And.intro hZl (And.intro hT hNN)))))); clear hAl hBl hXl hYl hZl hT hA hB hNN
   refine region_E (fun w' => w'.cell? ⟨b, 0, none⟩ = some (.pointer (some ⟨c, 0, none⟩)) ∧ w'.rangeAt b 33 (u8s ch) ∧ w'.rangeAt g6 0 (u8s A) ∧ w'.rangeAt g7 0 (u8s B) ∧ b < w'.heap.size) [3, 8, 9, 10] (by kernel_rfl) ?_
   have hHeld := (HN.out.2.2.2.2.2.2.2.2.2 _ g6 g7 A B _ sE.drew.f)
   have sx := sE.drew
   clear sE
   iterate 8
    first | refine autoT' hHeld (h := ?_) | refine autoP' (h := ?_)
    try simp only [pA1, pA2, pA3, pA4]
   refine anyE_take (i := 8) (x := ?_) (v := ?_) ?_ (by kernel_rfl) (by kernel_rfl) (by kernel_rfl) (by kernel_rfl) ?_ ?_ hHeld ?_
   rotate_left 2
   ·(simp only [gE1, gE2, gE3]; rfl)
   ·exact fun _ _ _ h => h
   ·refine yieldsIf_load_mid ?_ 210 (.tmp 43) ?_ b 33 ?_ (u8s ch) _ ?_ hu16 rfl (HN.out.2.2.2.2.2.1 _ HN.out.2.2.2.1)
    ·rfl
    ·rfl
    ·rfl
    ·intro w hSw
     exact hSw.2.1
   try simp only [pA1, pA2, pA3, pA4]
   refine anyE_take (i := 9) (x := ?_) (v := ?_) ?_ (by kernel_rfl) (by kernel_rfl) (by kernel_rfl) (by kernel_rfl) ?_ ?_ hHeld ?_
   rotate_left 2
   ·(simp only [gE1, gE2, gE3]; rfl)
   ·exact fun _ _ _ h => h
   ·refine yieldsIf_load_mid ?_ 210 (.tmp 6) ?_ g6 0 ?_ (u8s A) _ ?_ hu16 rfl (HN.out.2.2.2.2.2.1 _ HE.out.1)
    ·rfl
    ·rfl
    ·rfl
    ·intro w hSw
     exact hSw.2.2.1
   try simp only [pA1, pA2, pA3, pA4]
   refine anyE_take (i := 10) (x := ?_) (v := ?_) ?_ (by kernel_rfl) (by kernel_rfl) (by kernel_rfl) (by kernel_rfl) ?_ ?_ hHeld ?_
   rotate_left 2
   ·(simp only [gE1, gE2, gE3]; rfl)
   ·exact fun _ _ _ h => h
   ·refine yieldsIf_load_mid ?_ 210 (.tmp 7) ?_ g7 0 ?_ (u8s B) _ ?_ hu16 rfl (HN.out.2.2.2.2.2.1 _ HE.out.2.1)
    ·rfl
    ·rfl
    ·rfl
    ·intro w hSw
     exact hSw.2.2.2.1
   try simp only [pA1, pA2, pA3, pA4]
   refine anyE_two (i := 11) (j := 17) (x := ?_) (y := ?_) ?_ ?_ (by kernel_rfl) (fun K hK => ?_) (fun K hK => ?_)
   rotate_left 2
   ·(simp only [gE1, gE2, gE3]; rfl)
   ·(simp only [gE1, gE2, gE3]; rfl)
   ·go_simp
    refine (cmacXored A B rfl rfl HE.out.1 HE.out.2.1 sx).mono ?_
    rintro e wx ⟨rfl, sy⟩
    clear sx
    have sx := sy
    clear sy
    go_wp2_with fail
    refine hK.out _ _ (HN.out.2.2.2.2.2.2.2.2.2 _ g6 g7 A B _ sx.f) ?_
    clear hK K hHeld
    have hHeld := (HN.out.2.2.2.2.2.2.2.2.2 _ g6 g7 A B _ sx.f)
    try simp only [pA1, pA2, pA3, pA4]
    refine anyE_two (i := 12) (j := 17) (x := ?_) (y := ?_) ?_ ?_ (by kernel_rfl) (fun K hK => ?_) (fun K hK => ?_)
    rotate_left 2
    ·(simp only [gE1, gE2, gE3]; rfl)
    ·(simp only [gE1, gE2, gE3]; rfl)
    ·go_simp
     refine (cmacXored ch (xorL A B) rfl rfl HN.out.2.2.2.1 HE.out.2.2.1 sx).mono ?_
     rintro e wx ⟨rfl, sy⟩
     clear sx
     have sx := sy
     clear sy
     go_wp2_with fail
     refine hK.out _ _ (HN.out.2.2.2.2.2.2.2.2.2 _ g6 g7 A B _ sx.f) ?_
     clear hK K hHeld
     have hHeld := (HN.out.2.2.2.2.2.2.2.2.2 _ g6 g7 A B _ sx.f)
     try simp only [pA1, pA2, pA3, pA4]
     refine anyE_two (i := 13) (j := 17) (x := ?_) (y := ?_) ?_ ?_ (by kernel_rfl) (fun K hK => ?_) (fun K hK => ?_)
     rotate_left 2
     ·(simp only [gE1, gE2, gE3]; rfl)
     ·(simp only [gE1, gE2, gE3]; rfl)
     ·go_simp
      refine (HN.out.2.2.2.2.2.2.2.1 _ (seg true g6 0 (u8s A) :: seg true g7 0 (u8s B) :: cmS b (.pointer (some ⟨c, 0, none⟩)) k1 k2 ch wt n0 L) (xorL ch (xorL A B)) HE.out.2.2.2.1 sx.f).mono ?_
      rintro e wx ⟨rfl, sy⟩
      clear sx
      have sx := sy
      clear sy
      go_wp2_with fail
      refine hK.out _ _ (HN.out.2.2.2.2.2.2.2.2.2 _ g6 g7 A B _ sx.f) ?_
      clear hK K hHeld
      have hHeld := (HN.out.2.2.2.2.2.2.2.2.2 _ g6 g7 A B _ sx.f)
      try simp only [pA1, pA2, pA3, pA4]
      iterate 3
       first | refine autoT' hHeld (h := ?_) | refine autoP' (h := ?_)
       try simp only [pA1, pA2, pA3, pA4]
      refine anyE_one' (i := 17) (h := fun K hK => ?_)
      rw [if_pos (by rfl)]
      refine wp_al16 rfl sx ?_
      intro wx gt sy
      clear sx
      have sx := sy
      clear sy
      try simp only [Act.put, List.setIfInBounds_toArray, List.set_cons_zero, List.set_cons_succ]
      refine hK.out _ _ (HN.out.2.2.2.2.2.2.2.2.2 _ g6 g7 A B _ sx.f) ?_
      clear hK K hHeld
      have hHeld := (HN.out.2.2.2.2.2.2.2.2.2 _ g6 g7 A B _ sx.f)
      try simp only [pA1, pA2, pA3, pA4]
      refine anyE_last' (i := 18) (h := fun K hK => ?_)
      rw [if_pos (by rfl)]
      refine wp_st8a rfl _ _ rfl (sx.f : Sat W0 wx (seg true gt 0 (u8s nought16) :: ledO p (note rs 5 (kl : Int) 1) :: cmS b (.pointer (some ⟨c, 0, none⟩)) k1 k2 ch wt n0 (cipS c kl ks L))) Tryz.size_b16 rfl rfl HE.out.2.2.2.2.1 nought16_len ?_
      intro wz sz
      try simp only [Act.put, List.setIfInBounds_toArray, List.set_cons_zero, List.set_cons_succ]
      refine hK.out _ _ ?_
      clear hK K hHeld sx
      try simp only [pA1, pA2, pA3, pA4]
      iterate 1
       first | refine autoT' hHeld (h := ?_) | refine autoP' (h := ?_)
       try simp only [pA1, pA2, pA3, pA4]
      refine anyE_done (by kernel_rfl) ?_ _
      have hsl := fun w => run_sliceAll (P := Tryz.prog) (T := 210) (U := 5) Tryz.underlying210 (by kernel_rfl) gt 0 w
      have HZ := Lib.hid sz
      clear sz
      go_wp2_with fail
      exact bodyPost_ret (v := .tuple #[.slice (some ⟨gt, 0, none⟩) 16 16, .int .i64 0]) (by simp [results, Tryz.results132, go_sem]) rfl ⟨gt, rfl, by first | (rw [HE.out.2.2.2.2.2.1]; exact HZ.out) | (rw [← HE.out.2.2.2.2.2.2, HE.out.2.2.2.2.2.1]; exact HZ.out)⟩
     ·rw [if_pos (by rfl)]
      refine wp_al16 rfl sx ?_
      intro wx gt sy
      clear sx
      have sx := sy
      clear sy
      try simp only [Act.put, List.setIfInBounds_toArray, List.set_cons_zero, List.set_cons_succ]
      refine hK.out _ _ (HN.out.2.2.2.2.2.2.2.2.2 _ g6 g7 A B _ sx.f) ?_
      clear hK K hHeld
      have hHeld := (HN.out.2.2.2.2.2.2.2.2.2 _ g6 g7 A B _ sx.f)
      try simp only [pA1, pA2, pA3, pA4]
      refine anyE_one' (i := 13) (h := fun K hK => ?_)
      go_simp
      refine (HN.out.2.2.2.2.2.2.2.1 _ (seg true gt 0 (u8s nought16) :: seg true g6 0 (u8s A) :: seg true g7 0 (u8s B) :: cmS b (.pointer (some ⟨c, 0, none⟩)) k1 k2 ch wt n0 L) (xorL ch (xorL A B)) HE.out.2.2.2.1 sx.f).mono ?_
      rintro e wx ⟨rfl, sy⟩
      clear sx
      have sx := sy
      clear sy
      go_wp2_with fail
      refine hK.out _ _ (HN.out.2.2.2.2.2.2.2.2.2 _ g6 g7 A B _ sx.f) ?_
      clear hK K hHeld
      have hHeld := (HN.out.2.2.2.2.2.2.2.2.2 _ g6 g7 A B _ sx.f)
      try simp only [pA1, pA2, pA3, pA4]
      iterate 3
       first | refine autoT' hHeld (h := ?_) | refine autoP' (h := ?_)
       try simp only [pA1, pA2, pA3, pA4]
      refine anyE_last' (i := 18) (h := fun K hK => ?_)
      rw [if_pos (by rfl)]
      refine wp_st8a rfl _ _ rfl (sx.f : Sat W0 wx (seg true gt 0 (u8s nought16) :: ledO p (note rs 5 (kl : Int) 1) :: cmS b (.pointer (some ⟨c, 0, none⟩)) k1 k2 ch wt n0 (cipS c kl ks L))) Tryz.size_b16 rfl rfl HE.out.2.2.2.2.1 nought16_len ?_
      intro wz sz
      try simp only [Act.put, List.setIfInBounds_toArray, List.set_cons_zero, List.set_cons_succ]
      refine hK.out _ _ ?_
      clear hK K hHeld sx
      try simp only [pA1, pA2, pA3, pA4]
      iterate 1
       first | refine autoT' hHeld (h := ?_) | refine autoP' (h := ?_)
       try simp only [pA1, pA2, pA3, pA4]
      refine anyE_done (by kernel_rfl) ?_ _
      have hsl := fun w => run_sliceAll (P := Tryz.prog) (T := 210) (U := 5) Tryz.underlying210 (by kernel_rfl) gt 0 w
      have HZ := Lib.hid sz
      clear sz
      go_wp2_with fail
      exact bodyPost_ret (v := .tuple #[.slice (some ⟨gt, 0, none⟩) 16 16, .int .i64 0]) (by simp [results, Tryz.results132, go_sem]) rfl ⟨gt, rfl, by first | (rw [HE.out.2.2.2.2.2.1]; exact HZ.out) | (rw [← HE.out.2.2.2.2.2.2, HE.out.2.2.2.2.2.1]; exact HZ.out)⟩
    ·rw [if_pos (by rfl)]
     refine wp_al16 rfl sx ?_
     intro wx gt sy
     clear sx
     have sx := sy
     clear sy
     try simp only [Act.put, List.setIfInBounds_toArray, List.set_cons_zero, List.set_cons_succ]
     refine hK.out _ _ (HN.out.2.2.2.2.2.2.2.2.2 _ g6 g7 A B _ sx.f) ?_
     clear hK K hHeld
     have hHeld := (HN.out.2.2.2.2.2.2.2.2.2 _ g6 g7 A B _ sx.f)
     try simp only [pA1, pA2, pA3, pA4]
     refine anyE_one' (i := 12) (h := fun K hK => ?_)
     go_simp
     refine (cmacXored ch (xorL A B) rfl rfl HN.out.2.2.2.1 HE.out.2.2.1 sx).mono ?_
     rintro e wx ⟨rfl, sy⟩
     clear sx
     have sx := sy
     clear sy
     go_wp2_with fail
     refine hK.out _ _ (HN.out.2.2.2.2.2.2.2.2.2 _ g6 g7 A B _ sx.f) ?_
     clear hK K hHeld
     have hHeld := (HN.out.2.2.2.2.2.2.2.2.2 _ g6 g7 A B _ sx.f)
     try simp only [pA1, pA2, pA3, pA4]
     refine anyE_one' (i := 13) (h := fun K hK => ?_)
     go_simp
     refine (HN.out.2.2.2.2.2.2.2.1 _ (seg true gt 0 (u8s nought16) :: seg true g6 0 (u8s A) :: seg true g7 0 (u8s B) :: cmS b (.pointer (some ⟨c, 0, none⟩)) k1 k2 ch wt n0 L) (xorL ch (xorL A B)) HE.out.2.2.2.1 sx.f).mono ?_
     rintro e wx ⟨rfl, sy⟩
     clear sx
     have sx := sy
     clear sy
     go_wp2_with fail
     refine hK.out _ _ (HN.out.2.2.2.2.2.2.2.2.2 _ g6 g7 A B _ sx.f) ?_
     clear hK K hHeld
     have hHeld := (HN.out.2.2.2.2.2.2.2.2.2 _ g6 g7 A B _ sx.f)
     try simp only [pA1, pA2, pA3, pA4]
     iterate 3
      first | refine autoT' hHeld (h := ?_) | refine autoP' (h := ?_)
      try simp only [pA1, pA2, pA3, pA4]
     refine anyE_last' (i := 18) (h := fun K hK => ?_)
     rw [if_pos (by rfl)]
     refine wp_st8a rfl _ _ rfl (sx.f : Sat W0 wx (seg true gt 0 (u8s nought16) :: ledO p (note rs 5 (kl : Int) 1) :: cmS b (.pointer (some ⟨c, 0, none⟩)) k1 k2 ch wt n0 (cipS c kl ks L))) Tryz.size_b16 rfl rfl HE.out.2.2.2.2.1 nought16_len ?_
     intro wz sz
     try simp only [Act.put, List.setIfInBounds_toArray, List.set_cons_zero, List.set_cons_succ]
     refine hK.out _ _ ?_
     clear hK K hHeld sx
     try simp only [pA1, pA2, pA3, pA4]
     iterate 1
      first | refine autoT' hHeld (h := ?_) | refine autoP' (h := ?_)
      try simp only [pA1, pA2, pA3, pA4]
     refine anyE_done (by kernel_rfl) ?_ _
     have hsl := fun w => run_sliceAll (P := Tryz.prog) (T := 210) (U := 5) Tryz.underlying210 (by kernel_rfl) gt 0 w
     have HZ := Lib.hid sz
     clear sz
     go_wp2_with fail
     exact bodyPost_ret (v := .tuple #[.slice (some ⟨gt, 0, none⟩) 16 16, .int .i64 0]) (by simp [results, Tryz.results132, go_sem]) rfl ⟨gt, rfl, by first | (rw [HE.out.2.2.2.2.2.1]; exact HZ.out) | (rw [← HE.out.2.2.2.2.2.2, HE.out.2.2.2.2.2.1]; exact HZ.out)⟩
   ·rw [if_pos (by rfl)]
    refine wp_al16 rfl sx ?_
    intro wx gt sy
    clear sx
    have sx := sy
    clear sy
    try simp only [Act.put, List.setIfInBounds_toArray, List.set_cons_zero, List.set_cons_succ]
    refine hK.out _ _ (HN.out.2.2.2.2.2.2.2.2.2 _ g6 g7 A B _ sx.f) ?_
    clear hK K hHeld
    have hHeld := (HN.out.2.2.2.2.2.2.2.2.2 _ g6 g7 A B _ sx.f)
    try simp only [pA1, pA2, pA3, pA4]
    refine anyE_one' (i := 11) (h := fun K hK => ?_)
    go_simp
    refine (cmacXored A B rfl rfl HE.out.1 HE.out.2.1 sx).mono ?_
    rintro e wx ⟨rfl, sy⟩
    clear sx
    have sx := sy
    clear sy
    go_wp2_with fail
    refine hK.out _ _ (HN.out.2.2.2.2.2.2.2.2.2 _ g6 g7 A B _ sx.f) ?_
    clear hK K hHeld
    have hHeld := (HN.out.2.2.2.2.2.2.2.2.2 _ g6 g7 A B _ sx.f)
    try simp only [pA1, pA2, pA3, pA4]
    refine anyE_one' (i := 12) (h := fun K hK => ?_)
    go_simp
    refine (cmacXored ch (xorL A B) rfl rfl HN.out.2.2.2.1 HE.out.2.2.1 sx).mono ?_
    rintro e wx ⟨rfl, sy⟩
    clear sx
    have sx := sy
    clear sy
    go_wp2_with fail
    refine hK.out _ _ (HN.out.2.2.2.2.2.2.2.2.2 _ g6 g7 A B _ sx.f) ?_
    clear hK K hHeld
    have hHeld := (HN.out.2.2.2.2.2.2.2.2.2 _ g6 g7 A B _ sx.f)
    try simp only [pA1, pA2, pA3, pA4]
    refine anyE_one' (i := 13) (h := fun K hK => ?_)
    go_simp
    refine (HN.out.2.2.2.2.2.2.2.1 _ (seg true gt 0 (u8s nought16) :: seg true g6 0 (u8s A) :: seg true g7 0 (u8s B) :: cmS b (.pointer (some ⟨c, 0, none⟩)) k1 k2 ch wt n0 L) (xorL ch (xorL A B)) HE.out.2.2.2.1 sx.f).mono ?_
    rintro e wx ⟨rfl, sy⟩
    clear sx
    have sx := sy
    clear sy
    go_wp2_with fail
    refine hK.out _ _ (HN.out.2.2.2.2.2.2.2.2.2 _ g6 g7 A B _ sx.f) ?_
    clear hK K hHeld
    have hHeld := (HN.out.2.2.2.2.2.2.2.2.2 _ g6 g7 A B _ sx.f)
    try simp only [pA1, pA2, pA3, pA4]
    iterate 3
     first | refine autoT' hHeld (h := ?_) | refine autoP' (h := ?_)
     try simp only [pA1, pA2, pA3, pA4]
    refine anyE_last' (i := 18) (h := fun K hK => ?_)
    rw [if_pos (by rfl)]
    refine wp_st8a rfl _ _ rfl (sx.f : Sat W0 wx (seg true gt 0 (u8s nought16) :: ledO p (note rs 5 (kl : Int) 1) :: cmS b (.pointer (some ⟨c, 0, none⟩)) k1 k2 ch wt n0 (cipS c kl ks L))) Tryz.size_b16 rfl rfl HE.out.2.2.2.2.1 nought16_len ?_
    intro wz sz
    try simp only [Act.put, List.setIfInBounds_toArray, List.set_cons_zero, List.set_cons_succ]
    refine hK.out _ _ ?_
    clear hK K hHeld sx
    try simp only [pA1, pA2, pA3, pA4]
    iterate 1
     first | refine autoT' hHeld (h := ?_) | refine autoP' (h := ?_)
     try simp only [pA1, pA2, pA3, pA4]
    refine anyE_done (by kernel_rfl) ?_ _
    have hsl := fun w => run_sliceAll (P := Tryz.prog) (T := 210) (U := 5) Tryz.underlying210 (by kernel_rfl) gt 0 w
    have HZ := Lib.hid sz
    clear sz
    go_wp2_with fail
    exact bodyPost_ret (v := .tuple #[.slice (some ⟨gt, 0, none⟩) 16 16, .int .i64 0]) (by simp [results, Tryz.results132, go_sem]) rfl ⟨gt, rfl, by first | (rw [HE.out.2.2.2.2.2.1]; exact HZ.out) | (rw [← HE.out.2.2.2.2.2.2, HE.out.2.2.2.2.2.1]; exact HZ.out)⟩
end Go.Proofs.YtbefjaodpbgpcaaGreat
