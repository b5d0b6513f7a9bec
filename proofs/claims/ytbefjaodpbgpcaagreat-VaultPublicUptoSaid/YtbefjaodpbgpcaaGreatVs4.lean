
import Derived.Test.YtbefjaodpbgpcaaGreatVs3
set_option linter.unusedVariables false
set_option linter.unusedSimpArgs false
set_option maxRecDepth 100000
set_option maxHeartbeats 16000000
namespace Go.Proofs.YtbefjaodpbgpcaaGreat
open Go.RowKit Go.Sep Go.Bv Go.Kec Go.Aes Go.Sha
theorem vCloneW {W0 w : World} {L : List Assn} {v : Nat} {l : Option Nat} {rs : List Run3} {md mm : Bool} {dp ep : Option Addr} {dn dc en ec : Nat} {B : Nat} (S : Sts SesD) (kd : Nat) (hd : Int) (ag : Nat) (ct ot : Int) (data more : List Byte) (hV : okV B S) (hB : B + 65536 ≤ 1000000000) (hR : Roomy rs) (hdn : data.length = dn) (hdc : dn ≤ dc) (hdm : dc ≤ maxLen)
  (hs : Sat W0 w (ledO l rs :: vlt sesI v l S :: bytes md dp data :: bytes mm ep more :: L)) :
  Calls Tryz.prog 54 #[.pointer (some ⟨v, 0, none⟩), .agg #[.int .u8 (kd : Int), .int .i64 hd, .int .u8 (ag : Int), .int .i64 ct, .int .i64 ot, .slice dp dn dc, .slice ep en ec]] w fun e w' => ansV sesI W0 v l (vClone S ⟨kd, hd, ag, ct, ot, data, more⟩ rs) (bytes md dp data :: bytes mm ep more :: L) e w' := by
 obtain ⟨t, hb, vb, T, rfl, hS, hT, s0'⟩ := vltOpen (show Sat W0 w (vlt sesI v l S :: ledO l rs :: bytes md dp data :: bytes mm ep more :: L) from hs.pull 1)
 have s0 : Sat W0 w (vltL sesI v l t hb vb T (ledO l rs :: bytes md dp data :: bytes mm ep more :: L)) := s0'.f
 clear hs s0'
 have HO := Lib.hid (hOp W0)
 rcases tAt_cases T hT hd with ⟨e1, hno⟩ | ⟨k, m, y, rfl, hk64, hk, e1, hyes⟩
 ·have e0 : vClone (T.map Slt.th) ⟨kd, hd, ag, ct, ot, data, more⟩ rs = (T.map Slt.th, noA 5, rs) := by unfold vClone; rw [e1]
  rw [e0]
  clear e0 e1
  have hka := fun (w : World) (X : List Assn) (s : Sat W0 w (tabC t hb vb (heldC T) (valsC T) X)) => get_no_th hd hno (heldC_len hT) (valsC_len hT) (by decide) (by decide) s
  have HN := Lib.hid (And.intro hS hka); clear hS hT hka hno hV hB hR
  go_enter Tryz.func54, Tryz.ntmps54
  go_wp2_with (first | (refine wpl_box rfl 27 (.tmp 1) rfl (opC kd hd ag ct ot dp dn dc ep en ec) rfl s0 ?_; intro w1 g s1 _; clear s0) | (refine wpl_alloc_agg rfl 44 rfl s1 _ (zero_ans _) ?_; intro w2 ga s2' _; clear s1; have s2 : Sat W0 w2 (seg true g 0 (opC kd hd ag ct ot dp dn dc ep en ec) :: seg true ga 0 ans0 :: vltL sesI v l t hb vb T (ledO l rs :: bytes md dp data :: bytes mm ep more :: L)) := s2'.f; clear s2'; obtain ⟨o0, o1, o2, o3, o4, o5, o6, zo⟩ := HO.out _ _ _ _ _ _ _ _ _ _ s2))
  have s3 : Sat W0 w2 (seg true v 0 (vlC t l T) :: seg true g 0 (opC kd hd ag ct ot dp dn dc ep en ec) :: tabC t hb vb (heldC T) (valsC T) (stars (T.map (Slt.A sesI)) :: seg true ga 0 ans0 :: ledO l rs :: bytes md dp data :: bytes mm ep more :: L)) := s2.f
  clear s2 o0 o1 o2 o3 o4 o5 o6 zo
  have hCf := fun (w' : World) (X : List Assn) (h : Sat W0 w' (seg true v 0 (vlC t l T) :: seg true g 0 (opC kd hd ag ct ot dp dn dc ep en ec) :: X)) => (by
   have h1 := h.pull 1
   exact ⟨h.at 0 rfl, h.lt (by simp [vlC]), Sat.at h1 1 rfl, Sat.lt h1 (by simp)⟩ : w'.cell? ⟨v, 0, none⟩ = some (.pointer (some ⟨t, 0, none⟩)) ∧ v < w'.heap.size ∧ w'.cell? ⟨g, 1, none⟩ = some (.int .i64 hd) ∧ g < w'.heap.size)
  have HC := Lib.hid hCf; clear hCf
  have sd := s3.drew
  clear s3
  refine region_E (fun w' => w'.cell? ⟨v, 0, none⟩ = some (.pointer (some ⟨t, 0, none⟩)) ∧ v < w'.heap.size ∧ w'.cell? ⟨g, 1, none⟩ = some (.int .i64 hd) ∧ g < w'.heap.size) [4, 6] (by kernel_rfl) ?_
  have hHeld := HC.out _ _ sd
  iterate 7
   first | refine autoT' hHeld (h := ?_) | refine autoP' (h := ?_)
   try simp only [pA1, pA2, pA3, pA4]
  refine anyE_last' (i := 7) (h := fun K hK => ?_)
  go_simp
  refine (HN.out.2 _ _ (sd.f : Sat W0 _ (tabC t hb vb (heldC T) (valsC T) (seg true v 0 (vlC t l T) :: seg true g 0 (opC kd hd ag ct ot dp dn dc ep en ec) :: stars (T.map (Slt.A sesI)) :: seg true ga 0 ans0 :: ledO l rs :: bytes md dp data :: bytes mm ep more :: L)))).mono ?_
  rintro e w3 ⟨rfl, s4⟩
  clear sd
  go_wp2_with fail
  refine hK.out _ _ ?_
  clear hK K
  try simp only [pA1, pA2, pA3, pA4]
  iterate 5
   first | refine autoT' hHeld (h := ?_) | refine autoP' (h := ?_)
   try simp only [pA1, pA2, pA3, pA4]
  refine anyE_done (by kernel_rfl) ?_ _
  clear hHeld HC
  have s3 : Sat W0 w3 (seg true g 0 (opC kd hd ag ct ot dp dn dc ep en ec) :: seg true ga 0 ans0 :: vltL sesI v l t hb vb T (ledO l rs :: bytes md dp data :: bytes mm ep more :: L)) := s4.f
  clear s4
  go_wp2_with fail
  refine (vCode 5 s3).mono ?_
  rintro e wE ⟨rfl, sE⟩
  clear s3
  have sr0 : Sat W0 _ (seg true ga 0 ans0 :: vltL sesI v l t hb vb T (ledO l rs :: bytes md dp data :: bytes mm ep more :: L)) := sE.f
  clear sE
  go_wp2_with (refine wpl_stAns rfl rfl (.tmp 4) (.tmp 25) rfl sr0 rfl rfl ?_; intro ws ss; clear sr0)
  have hr := ansLd ss
  have HS := Lib.hid ss.tail; clear ss
  refine bodyPost_ret (v := .agg #[.int .i64 5, .int .i64 0, .bool false, .slice none 0 0]) (by simp [results, Tryz.results54, asAddr]; exact hr) rfl ?_
  exact ansV_no ((vltShut rfl HN.out.1 HS.out).pull 1)
 ·have hka := fun (w : World) (X : List Assn) (s : Sat W0 w (tabC t hb vb (heldC T) (valsC T) X)) => get_yes_th k (heldC_get hk) (valsC_get hk) (heldC_len hT) (valsC_len hT) (by decide) (by decide) s
  have e2 : Slt.v ⟨m, some y⟩ = .iface y.tid y.val := rfl
  rw [e2] at hka
  have hfu := fun (w : World) (X : List Assn) (s : Sat W0 w (tabC t hb vb (heldC T) (valsC T) X)) => full_th (heldC_len hT) (valsC_len hT) (by decide) (by decide) s
  rw [full_count T hT] at hfu
  obtain ⟨F, hF⟩ : ∃ F, F = fullS (T.map Slt.th) := ⟨_, rfl⟩
  rw [← hF] at hfu
  cases F with
  | true =>
   have e0 : vClone (T.map Slt.th) ⟨kd, (k : Int), ag, ct, ot, data, more⟩ rs = (T.map Slt.th, noA 8, rs) := by unfold vClone; rw [e1]; exact if_pos hF.symm
   rw [e0]
   clear e0 e1 hF
   have HN := Lib.hid (And.intro hS (And.intro hka hfu)); clear hS hT hka hk hyes hV hB hR hfu e2
   go_enter Tryz.func54, Tryz.ntmps54
   go_wp2_with (first | (refine wpl_box rfl 27 (.tmp 1) rfl (opC kd (k : Int) ag ct ot dp dn dc ep en ec) rfl s0 ?_; intro w1 g s1 _; clear s0) | (refine wpl_alloc_agg rfl 44 rfl s1 _ (zero_ans _) ?_; intro w2 ga s2' _; clear s1; have s2 : Sat W0 w2 (seg true g 0 (opC kd (k : Int) ag ct ot dp dn dc ep en ec) :: seg true ga 0 ans0 :: vltL sesI v l t hb vb T (ledO l rs :: bytes md dp data :: bytes mm ep more :: L)) := s2'.f; clear s2'; obtain ⟨o0, o1, o2, o3, o4, o5, o6, zo⟩ := HO.out _ _ _ _ _ _ _ _ _ _ s2))
   have s3 : Sat W0 w2 (seg true v 0 (vlC t l T) :: seg true g 0 (opC kd (k : Int) ag ct ot dp dn dc ep en ec) :: tabC t hb vb (heldC T) (valsC T) (stars (T.map (Slt.A sesI)) :: seg true ga 0 ans0 :: ledO l rs :: bytes md dp data :: bytes mm ep more :: L)) := s2.f
   clear s2 o0 o1 o2 o3 o4 o5 o6 zo
   have hCf := fun (w' : World) (X : List Assn) (h : Sat W0 w' (seg true v 0 (vlC t l T) :: seg true g 0 (opC kd (k : Int) ag ct ot dp dn dc ep en ec) :: X)) => (by
    have h1 := h.pull 1
    exact ⟨h.at 0 rfl, h.lt (by simp [vlC]), Sat.at h1 1 rfl, Sat.lt h1 (by simp)⟩ : w'.cell? ⟨v, 0, none⟩ = some (.pointer (some ⟨t, 0, none⟩)) ∧ v < w'.heap.size ∧ w'.cell? ⟨g, 1, none⟩ = some (.int .i64 (k : Int)) ∧ g < w'.heap.size)
   have HC := Lib.hid hCf; clear hCf
   have sd := s3.drew
   clear s3
   refine region_E (fun w' => w'.cell? ⟨v, 0, none⟩ = some (.pointer (some ⟨t, 0, none⟩)) ∧ v < w'.heap.size ∧ w'.cell? ⟨g, 1, none⟩ = some (.int .i64 (k : Int)) ∧ g < w'.heap.size) [4, 6] (by kernel_rfl) ?_
   have hHeld := HC.out _ _ sd
   iterate 7
    first | refine autoT' hHeld (h := ?_) | refine autoP' (h := ?_)
    try simp only [pA1, pA2, pA3, pA4]
   refine anyE_last' (i := 7) (h := fun K hK => ?_)
   go_simp
   refine (HN.out.2.1 _ _ (sd.f : Sat W0 _ (tabC t hb vb (heldC T) (valsC T) (seg true v 0 (vlC t l T) :: seg true g 0 (opC kd (k : Int) ag ct ot dp dn dc ep en ec) :: stars (T.map (Slt.A sesI)) :: seg true ga 0 ans0 :: ledO l rs :: bytes md dp data :: bytes mm ep more :: L)))).mono ?_
   rintro e w3 ⟨rfl, s4⟩
   clear sd
   go_wp2_with fail
   refine hK.out _ _ ?_
   clear hK K
   try simp only [pA1, pA2, pA3, pA4]
   iterate 5
    first | refine autoT' hHeld (h := ?_) | refine autoP' (h := ?_)
    try simp only [pA1, pA2, pA3, pA4]
   refine anyE_done (by kernel_rfl) ?_ _
   clear hHeld HC
   have s3 : Sat W0 w3 (seg true g 0 (opC kd (k : Int) ag ct ot dp dn dc ep en ec) :: seg true ga 0 ans0 :: vltL sesI v l t hb vb T (ledO l rs :: bytes md dp data :: bytes mm ep more :: L)) := s4.f
   clear s4
   have s4 : Sat W0 w3 (seg true v 0 (vlC t l T) :: seg true g 0 (opC kd (k : Int) ag ct ot dp dn dc ep en ec) :: tabC t hb vb (heldC T) (valsC T) (stars (T.map (Slt.A sesI)) :: seg true ga 0 ans0 :: ledO l rs :: bytes md dp data :: bytes mm ep more :: L)) := s3.f
   clear s3
   have c0 := s4.at 0 rfl
   have z0 := s4.lt (by simp [vlC])
   go_wp2_with fail
   refine (HN.out.2.2 _ _ (s4.f : Sat W0 w3 (tabC t hb vb (heldC T) (valsC T) (seg true v 0 (vlC t l T) :: seg true g 0 (opC kd (k : Int) ag ct ot dp dn dc ep en ec) :: stars (T.map (Slt.A sesI)) :: seg true ga 0 ans0 :: ledO l rs :: bytes md dp data :: bytes mm ep more :: L)))).mono ?_
   rintro e w4 ⟨rfl, kf, rfl⟩
   have s5 := s4.drewN kf
   obtain ⟨w5, hw5⟩ : ∃ w5, w5 = w3.drewN kf := ⟨_, rfl⟩
   rw [← hw5] at s5 ⊢
   clear s4 c0 z0 hw5
   have s6 : Sat W0 w5 (seg true g 0 (opC kd (k : Int) ag ct ot dp dn dc ep en ec) :: seg true ga 0 ans0 :: vltL sesI v l t hb vb T (ledO l rs :: bytes md dp data :: bytes mm ep more :: L)) := s5.f
   clear s5
   go_wp2_with fail
   refine (vCode 8 s6).mono ?_
   rintro e wE ⟨rfl, sE⟩
   clear s6
   have sr0 : Sat W0 _ (seg true ga 0 ans0 :: vltL sesI v l t hb vb T (ledO l rs :: bytes md dp data :: bytes mm ep more :: L)) := sE.f
   clear sE
   go_wp2_with (refine wpl_stAns rfl rfl (.tmp 4) (.tmp 32) rfl sr0 rfl rfl ?_; intro ws ss; clear sr0)
   have hr := ansLd ss
   have HS := Lib.hid ss.tail; clear ss
   refine bodyPost_ret (v := .agg #[.int .i64 8, .int .i64 0, .bool false, .slice none 0 0]) (by simp [results, Tryz.results54, asAddr]; exact hr) rfl ?_
   exact ansV_no ((vltShut rfl HN.out.1 HS.out).pull 1)
  | false =>
   have e0 : vClone (T.map Slt.th) ⟨kd, (k : Int), ag, ct, ot, data, more⟩ rs = ((vTake (T.map Slt.th) y.th).1, (vTake (T.map Slt.th) y.th).2, rs) := by unfold vClone; rw [e1]; exact if_neg (by rw [← hF]; exact Bool.false_ne_true)
   rw [e0]
   clear e0 e1 hF e2
   cases y with
   | key b p c =>
    have hkl := okV_key hV hk
    obtain ⟨nk, hnk⟩ : ∃ n, n = b.length := ⟨_, rfl⟩
    have hka2 : ∀ (w : World) (X : List Assn), Sat W0 w (tabC t hb vb (heldC T) (valsC T) X) → Calls Tryz.prog 82 #[.pointer (some ⟨t, 0, none⟩), .int .i64 (k : Int)] w fun e w' => e = .returned (.tuple #[.iface 128 (.agg #[.slice p nk c]), .int .i64 0]) ∧ Sat W0 w' (tabC t hb vb (heldC T) (valsC T) X) := by rw [hnk]; exact hka
    have hfaf : ∀ (w : World) (X : List Assn), Sat W0 w (stars (T.map (Slt.A sesI)) :: X) → (nk ≤ c ∧ c ≤ maxLen) ∧ Sat W0 w (bytes true p b :: memA m b :: stars ((T.map (Slt.A sesI)).eraseIdx k) :: X) := fun w X h => by
     have h1 := sltOut hk h
     have h1' : Sat W0 w (memA m b :: locO sesI (some (.key b p c)) :: stars ((T.map (Slt.A sesI)).eraseIdx k) :: X) := h1
     have h2 := h1'.swap
     exact ⟨by rw [hnk]; exact h2.fact fun x hx => hx.1, h2.imp fun x hx => hx.2⟩
    have hbak : ∀ (w : World) (X : List Assn), nk ≤ c ∧ c ≤ maxLen → Sat W0 w (bytes true p b :: memA m b :: stars ((T.map (Slt.A sesI)).eraseIdx k) :: X) → Sat W0 w (stars (T.map (Slt.A sesI)) :: X) := fun w X hc h => by
     have h1 : Sat W0 w (locO sesI (some (.key b p c)) :: memA m b :: stars ((T.map (Slt.A sesI)).eraseIdx k) :: X) := h.imp fun x hx => ⟨by rw [← hnk]; exact hc, hx⟩
     have h2 := sltIn (s' := ⟨m, some (.key b p c)⟩) hk (h1.f : Sat W0 w (memA m b :: locO sesI (some (.key b p c)) :: stars ((T.map (Slt.A sesI)).eraseIdx k) :: X))
     rw [set_same hk] at h2
     exact h2
    have hcp := fun (w : World) (X : List Assn) (s : Sat W0 w (bytes true p b :: X)) => vCopied (cap := c) b hnk.symm (by omega) s
    have htk := fun (w : World) (X : List Assn) (q : Option Addr) (c2 : Nat) (h1 : nk ≤ c2) (h2 : c2 ≤ maxLen) (s : Sat W0 w (bytes true q b :: vltL sesI v l t hb vb T X)) => takeKey b hnk.symm (by omega) h1 h2 hT s
    have HN := Lib.hid (And.intro hS (And.intro hka2 (And.intro hfu (And.intro hfaf (And.intro hbak (And.intro hcp htk)))))); clear hS hT hka hka2 hk hyes hV hB hR hfu hfaf hbak hcp htk hkl hnk
    go_enter Tryz.func54, Tryz.ntmps54
    go_wp2_with (first | (refine wpl_box rfl 27 (.tmp 1) rfl (opC kd (k : Int) ag ct ot dp dn dc ep en ec) rfl s0 ?_; intro w1 g s1 _; clear s0) | (refine wpl_alloc_agg rfl 44 rfl s1 _ (zero_ans _) ?_; intro w2 ga s2' _; clear s1; have s2 : Sat W0 w2 (seg true g 0 (opC kd (k : Int) ag ct ot dp dn dc ep en ec) :: seg true ga 0 ans0 :: vltL sesI v l t hb vb T (ledO l rs :: bytes md dp data :: bytes mm ep more :: L)) := s2'.f; clear s2'; obtain ⟨o0, o1, o2, o3, o4, o5, o6, zo⟩ := HO.out _ _ _ _ _ _ _ _ _ _ s2))
    have s3 : Sat W0 w2 (seg true v 0 (vlC t l T) :: seg true g 0 (opC kd (k : Int) ag ct ot dp dn dc ep en ec) :: tabC t hb vb (heldC T) (valsC T) (stars (T.map (Slt.A sesI)) :: seg true ga 0 ans0 :: ledO l rs :: bytes md dp data :: bytes mm ep more :: L)) := s2.f
    clear s2 o0 o1 o2 o3 o4 o5 o6 zo
    have hCf := fun (w' : World) (X : List Assn) (h : Sat W0 w' (seg true v 0 (vlC t l T) :: seg true g 0 (opC kd (k : Int) ag ct ot dp dn dc ep en ec) :: X)) => (by
     have h1 := h.pull 1
     exact ⟨h.at 0 rfl, h.lt (by simp [vlC]), Sat.at h1 1 rfl, Sat.lt h1 (by simp)⟩ : w'.cell? ⟨v, 0, none⟩ = some (.pointer (some ⟨t, 0, none⟩)) ∧ v < w'.heap.size ∧ w'.cell? ⟨g, 1, none⟩ = some (.int .i64 (k : Int)) ∧ g < w'.heap.size)
    have HC := Lib.hid hCf; clear hCf
    have sd := s3.drew
    clear s3
    refine region_E (fun w' => w'.cell? ⟨v, 0, none⟩ = some (.pointer (some ⟨t, 0, none⟩)) ∧ v < w'.heap.size ∧ w'.cell? ⟨g, 1, none⟩ = some (.int .i64 (k : Int)) ∧ g < w'.heap.size) [4, 6] (by kernel_rfl) ?_
    have hHeld := HC.out _ _ sd
    iterate 7
     first | refine autoT' hHeld (h := ?_) | refine autoP' (h := ?_)
     try simp only [pA1, pA2, pA3, pA4]
    refine anyE_last' (i := 7) (h := fun K hK => ?_)
    go_simp
    refine (HN.out.2.1 _ _ (sd.f : Sat W0 _ (tabC t hb vb (heldC T) (valsC T) (seg true v 0 (vlC t l T) :: seg true g 0 (opC kd (k : Int) ag ct ot dp dn dc ep en ec) :: stars (T.map (Slt.A sesI)) :: seg true ga 0 ans0 :: ledO l rs :: bytes md dp data :: bytes mm ep more :: L)))).mono ?_
    rintro e w3 ⟨rfl, s4⟩
    clear sd
    go_wp2_with fail
    refine hK.out _ _ ?_
    clear hK K
    try simp only [pA1, pA2, pA3, pA4]
    iterate 5
     first | refine autoT' hHeld (h := ?_) | refine autoP' (h := ?_)
     try simp only [pA1, pA2, pA3, pA4]
    refine anyE_done (by kernel_rfl) ?_ _
    clear hHeld HC
    have s3 : Sat W0 w3 (seg true g 0 (opC kd (k : Int) ag ct ot dp dn dc ep en ec) :: seg true ga 0 ans0 :: vltL sesI v l t hb vb T (ledO l rs :: bytes md dp data :: bytes mm ep more :: L)) := s4.f
    clear s4
    have s4 : Sat W0 w3 (seg true v 0 (vlC t l T) :: seg true g 0 (opC kd (k : Int) ag ct ot dp dn dc ep en ec) :: tabC t hb vb (heldC T) (valsC T) (stars (T.map (Slt.A sesI)) :: seg true ga 0 ans0 :: ledO l rs :: bytes md dp data :: bytes mm ep more :: L)) := s3.f
    clear s3
    have c0 := s4.at 0 rfl
    have z0 := s4.lt (by simp [vlC])
    go_wp2_with fail
    refine (HN.out.2.2.1 _ _ (s4.f : Sat W0 w3 (tabC t hb vb (heldC T) (valsC T) (seg true v 0 (vlC t l T) :: seg true g 0 (opC kd (k : Int) ag ct ot dp dn dc ep en ec) :: stars (T.map (Slt.A sesI)) :: seg true ga 0 ans0 :: ledO l rs :: bytes md dp data :: bytes mm ep more :: L)))).mono ?_
    rintro e w4 ⟨rfl, kf, rfl⟩
    have s5 := s4.drewN kf
    obtain ⟨w5, hw5⟩ : ∃ w5, w5 = w3.drewN kf := ⟨_, rfl⟩
    rw [← hw5] at s5 ⊢
    clear s4 c0 z0 hw5
    have s6 : Sat W0 w5 (stars (T.map (Slt.A sesI)) :: seg true v 0 (vlC t l T) :: tabC t hb vb (heldC T) (valsC T) (seg true ga 0 ans0 :: ledO l rs :: bytes md dp data :: bytes mm ep more :: L)) := s5.f
    obtain ⟨hpc, s7⟩ := HN.out.2.2.2.1 _ _ s6
    have HP := Lib.hid hpc; clear hpc s5 s6
    go_wp2_with (first | (refine wpl_alloc_agg rfl 128 rfl s7 [.slice none 0 0] (by kernel_rfl) ?_; intro w6 g7 s8 _; clear s7) | (refine wpl_store_agg rfl rfl 128 (.tmp 7) (.tmp 36) rfl (cs := [.slice p nk c]) s8 0 0 Tryz.size_key rfl rfl rfl (Nat.le_refl 1) (fun v hv => by simp at hv; subst hv; rfl) ?_; intro w7 s9; rw [setL_all _ _ (by rfl)] at s9; clear s8; have c3 := s9.at 0 rfl; have z3 := s9.lt (by simp)))
    refine (HN.out.2.2.2.2.2.1 _ _ s9.tail).mono ?_
    rintro e w8 ⟨q, c2, rfl, hq1, hq2, sa⟩
    clear s9 c3 z3
    have HQ := Lib.hid (And.intro hq1 hq2); clear hq1 hq2
    have sb := HN.out.2.2.2.2.1 _ _ HP.out (sa.f : Sat W0 w8 (bytes true p b :: memA m b :: stars ((T.map (Slt.A sesI)).eraseIdx k) :: bytes true q b :: seg true v 0 (vlC t l T) :: tabC t hb vb (heldC T) (valsC T) (seg true ga 0 ans0 :: ledO l rs :: bytes md dp data :: bytes mm ep more :: L)))
    have sc : Sat W0 w8 (bytes true q b :: vltL sesI v l t hb vb T (seg true ga 0 ans0 :: ledO l rs :: bytes md dp data :: bytes mm ep more :: L)) := sb.f
    clear sa sb
    go_wp2_with fail
    refine (HN.out.2.2.2.2.2.2 _ _ q c2 HQ.out.1 HQ.out.2 sc).mono ?_
    rintro e wT (⟨i, m2, him, hit, rfl, sT⟩ | ⟨hit, rfl, sT⟩)
    ·have sr0 : Sat W0 _ (seg true ga 0 ans0 :: vltL sesI v l t hb vb (T.set i ⟨m2, some (.key b q c2)⟩) (ledO l rs :: bytes md dp data :: bytes mm ep more :: L)) := sT.f
     clear sT sc
     go_wp2_with (refine wpl_stAns rfl rfl (.tmp 4) (.tmp 43) rfl sr0 rfl rfl ?_; intro ws ss; clear sr0)
     have hr := ansLd ss
     have HS := Lib.hid ss.tail; clear ss
     refine bodyPost_ret (v := .agg #[.int .i64 0, .int .i64 (i : Int), .bool false, .slice none 0 0]) (by simp [results, Tryz.results54, asAddr]; exact hr) rfl ?_
     (first | rw [hit] | (simp only [Loc.th]; rw [hit]))
     exact ansV_h ((vltShut (th_set _ _ _) (by rw [List.length_set]; exact HN.out.1) HS.out).pull 1)
    ·have sr0 : Sat W0 _ (seg true ga 0 ans0 :: vltL sesI v l t hb vb T (ledO l rs :: bytes md dp data :: bytes mm ep more :: L)) := sT.f
     clear sT sc
     go_wp2_with (refine wpl_stAns rfl rfl (.tmp 4) (.tmp 43) rfl sr0 rfl rfl ?_; intro ws ss; clear sr0)
     have hr := ansLd ss
     have HS := Lib.hid ss.tail; clear ss
     refine bodyPost_ret (v := .agg #[.int .i64 8, .int .i64 0, .bool false, .slice none 0 0]) (by simp [results, Tryz.results54, asAddr]; exact hr) rfl ?_
     (first | rw [hit] | (simp only [Loc.th]; rw [hit]))
     exact ansV_no ((vltShut rfl HN.out.1 HS.out).pull 1)
   | ses x s =>
    have hx := okV_ses hV hk
    have hka2 : ∀ (w : World) (X : List Assn), Sat W0 w (tabC t hb vb (heldC T) (valsC T) X) → Calls Tryz.prog 82 #[.pointer (some ⟨t, 0, none⟩), .int .i64 (k : Int)] w fun e w' => e = .returned (.tuple #[.iface 136 (.agg #[.pointer (some ⟨s, 0, none⟩)]), .int .i64 0]) ∧ Sat W0 w' (tabC t hb vb (heldC T) (valsC T) X) := hka
    have hout : ∀ (w : World) (X : List Assn), Sat W0 w (stars (T.map (Slt.A sesI)) :: X) → Sat W0 w (ses x.K s x.key x.custom x.out x.msg :: memA m (sesI.form x) :: stars ((T.map (Slt.A sesI)).eraseIdx k) :: X) := fun w X h => (sltOut hk h).pull 1
    have hbak : ∀ (w : World) (X : List Assn), Sat W0 w (ses x.K s x.key x.custom x.out x.msg :: memA m (sesI.form x) :: stars ((T.map (Slt.A sesI)).eraseIdx k) :: X) → Sat W0 w (stars (T.map (Slt.A sesI)) :: X) := fun w X h => by
     have h2 := sltIn (s' := ⟨m, some (.ses x s)⟩) hk (h.pull 1 : Sat W0 w (memA m (sesI.form x) :: locO sesI (some (.ses x s)) :: stars ((T.map (Slt.A sesI)).eraseIdx k) :: X))
     rw [set_same hk] at h2
     exact h2
    have hcl := fun (w : World) (X : List Assn) (h : Sat W0 w (ses x.K s x.key x.custom x.out x.msg :: X)) => sesClone x.K x.key x.custom x.msg hx.1 h
    have htk := fun (w : World) (X : List Assn) (r : Nat) (h : Sat W0 w (sesI.A x r :: vltL sesI v l t hb vb T X)) => takeSes (s := r) x hx (by omega) hT h
    have HN := Lib.hid (And.intro hS (And.intro hka2 (And.intro hfu (And.intro hout (And.intro hbak (And.intro hcl htk)))))); clear hS hT hka hka2 hk hyes hV hB hR hfu hout hbak hcl htk hx
    go_enter Tryz.func54, Tryz.ntmps54
    go_wp2_with (first | (refine wpl_box rfl 27 (.tmp 1) rfl (opC kd (k : Int) ag ct ot dp dn dc ep en ec) rfl s0 ?_; intro w1 g s1 _; clear s0) | (refine wpl_alloc_agg rfl 44 rfl s1 _ (zero_ans _) ?_; intro w2 ga s2' _; clear s1; have s2 : Sat W0 w2 (seg true g 0 (opC kd (k : Int) ag ct ot dp dn dc ep en ec) :: seg true ga 0 ans0 :: vltL sesI v l t hb vb T (ledO l rs :: bytes md dp data :: bytes mm ep more :: L)) := s2'.f; clear s2'; obtain ⟨o0, o1, o2, o3, o4, o5, o6, zo⟩ := HO.out _ _ _ _ _ _ _ _ _ _ s2))
    have s3 : Sat W0 w2 (seg true v 0 (vlC t l T) :: seg true g 0 (opC kd (k : Int) ag ct ot dp dn dc ep en ec) :: tabC t hb vb (heldC T) (valsC T) (stars (T.map (Slt.A sesI)) :: seg true ga 0 ans0 :: ledO l rs :: bytes md dp data :: bytes mm ep more :: L)) := s2.f
    clear s2 o0 o1 o2 o3 o4 o5 o6 zo
    have hCf := fun (w' : World) (X : List Assn) (h : Sat W0 w' (seg true v 0 (vlC t l T) :: seg true g 0 (opC kd (k : Int) ag ct ot dp dn dc ep en ec) :: X)) => (by
     have h1 := h.pull 1
     exact ⟨h.at 0 rfl, h.lt (by simp [vlC]), Sat.at h1 1 rfl, Sat.lt h1 (by simp)⟩ : w'.cell? ⟨v, 0, none⟩ = some (.pointer (some ⟨t, 0, none⟩)) ∧ v < w'.heap.size ∧ w'.cell? ⟨g, 1, none⟩ = some (.int .i64 (k : Int)) ∧ g < w'.heap.size)
    have HC := Lib.hid hCf; clear hCf
    have sd := s3.drew
    clear s3
    refine region_E (fun w' => w'.cell? ⟨v, 0, none⟩ = some (.pointer (some ⟨t, 0, none⟩)) ∧ v < w'.heap.size ∧ w'.cell? ⟨g, 1, none⟩ = some (.int .i64 (k : Int)) ∧ g < w'.heap.size) [4, 6] (by kernel_rfl) ?_
    have hHeld := HC.out _ _ sd
    iterate 7
     first | refine autoT' hHeld (h := ?_) | refine autoP' (h := ?_)
     try simp only [pA1, pA2, pA3, pA4]
    refine anyE_last' (i := 7) (h := fun K hK => ?_)
    go_simp
    refine (HN.out.2.1 _ _ (sd.f : Sat W0 _ (tabC t hb vb (heldC T) (valsC T) (seg true v 0 (vlC t l T) :: seg true g 0 (opC kd (k : Int) ag ct ot dp dn dc ep en ec) :: stars (T.map (Slt.A sesI)) :: seg true ga 0 ans0 :: ledO l rs :: bytes md dp data :: bytes mm ep more :: L)))).mono ?_
    rintro e w3 ⟨rfl, s4⟩
    clear sd
    go_wp2_with fail
    refine hK.out _ _ ?_
    clear hK K
    try simp only [pA1, pA2, pA3, pA4]
    iterate 5
     first | refine autoT' hHeld (h := ?_) | refine autoP' (h := ?_)
     try simp only [pA1, pA2, pA3, pA4]
    refine anyE_done (by kernel_rfl) ?_ _
    clear hHeld HC
    have s3 : Sat W0 w3 (seg true g 0 (opC kd (k : Int) ag ct ot dp dn dc ep en ec) :: seg true ga 0 ans0 :: vltL sesI v l t hb vb T (ledO l rs :: bytes md dp data :: bytes mm ep more :: L)) := s4.f
    clear s4
    have s4 : Sat W0 w3 (seg true v 0 (vlC t l T) :: seg true g 0 (opC kd (k : Int) ag ct ot dp dn dc ep en ec) :: tabC t hb vb (heldC T) (valsC T) (stars (T.map (Slt.A sesI)) :: seg true ga 0 ans0 :: ledO l rs :: bytes md dp data :: bytes mm ep more :: L)) := s3.f
    clear s3
    have c0 := s4.at 0 rfl
    have z0 := s4.lt (by simp [vlC])
    go_wp2_with fail
    refine (HN.out.2.2.1 _ _ (s4.f : Sat W0 w3 (tabC t hb vb (heldC T) (valsC T) (seg true v 0 (vlC t l T) :: seg true g 0 (opC kd (k : Int) ag ct ot dp dn dc ep en ec) :: stars (T.map (Slt.A sesI)) :: seg true ga 0 ans0 :: ledO l rs :: bytes md dp data :: bytes mm ep more :: L)))).mono ?_
    rintro e w4 ⟨rfl, kf, rfl⟩
    have s5 := s4.drewN kf
    obtain ⟨w5, hw5⟩ : ∃ w5, w5 = w3.drewN kf := ⟨_, rfl⟩
    rw [← hw5] at s5 ⊢
    clear s4 c0 z0 hw5
    have s6 : Sat W0 w5 (stars (T.map (Slt.A sesI)) :: seg true v 0 (vlC t l T) :: tabC t hb vb (heldC T) (valsC T) (seg true ga 0 ans0 :: ledO l rs :: bytes md dp data :: bytes mm ep more :: L)) := s5.f
    have s7 := HN.out.2.2.2.1 _ _ s6
    clear s5 s6
    go_wp2_with (first | (refine wpl_alloc_agg rfl 136 rfl s7 [.pointer none] (by kernel_rfl) ?_; intro w6 g8 s8 _; clear s7) | (refine wpl_store_agg rfl rfl 136 (.tmp 8) (.tmp 46) rfl (cs := [.pointer (some ⟨s, 0, none⟩)]) s8 0 0 Tryz.size_ses rfl rfl rfl (Nat.le_refl 1) (fun v hv => by simp at hv; subst hv; rfl) ?_; intro w7 s9; rw [setL_all _ _ (by rfl)] at s9; clear s8; have c3 := s9.at 0 rfl; have z3 := s9.lt (by simp)))
    refine (HN.out.2.2.2.2.2.1 _ _ s9.tail).mono ?_
    rintro e w8 ⟨r, rfl, sa⟩
    clear s9 c3 z3
    have sb := HN.out.2.2.2.2.1 _ _ (sa.f : Sat W0 w8 (ses x.K s x.key x.custom x.out x.msg :: memA m (sesI.form x) :: stars ((T.map (Slt.A sesI)).eraseIdx k) :: ses x.K r x.key x.custom x.out x.msg :: seg true v 0 (vlC t l T) :: tabC t hb vb (heldC T) (valsC T) (seg true ga 0 ans0 :: ledO l rs :: bytes md dp data :: bytes mm ep more :: L)))
    have sc0 : Sat W0 w8 (ses x.K r x.key x.custom x.out x.msg :: vltL sesI v l t hb vb T (seg true ga 0 ans0 :: ledO l rs :: bytes md dp data :: bytes mm ep more :: L)) := sb.f
    have sc : Sat W0 w8 (sesI.A x r :: vltL sesI v l t hb vb T (seg true ga 0 ans0 :: ledO l rs :: bytes md dp data :: bytes mm ep more :: L)) := sc0
    clear sa sb sc0
    go_wp2_with fail
    refine (HN.out.2.2.2.2.2.2 _ _ r sc).mono ?_
    rintro e wT (⟨i, m2, him, hit, rfl, sT⟩ | ⟨hit, rfl, sT⟩)
    ·have sr0 : Sat W0 _ (seg true ga 0 ans0 :: vltL sesI v l t hb vb (T.set i ⟨m2, some (.ses x r)⟩) (ledO l rs :: bytes md dp data :: bytes mm ep more :: L)) := sT.f
     clear sT sc
     go_wp2_with (refine wpl_stAns rfl rfl (.tmp 4) (.tmp 61) rfl sr0 rfl rfl ?_; intro ws ss; clear sr0)
     have hr := ansLd ss
     have HS := Lib.hid ss.tail; clear ss
     refine bodyPost_ret (v := .agg #[.int .i64 0, .int .i64 (i : Int), .bool false, .slice none 0 0]) (by simp [results, Tryz.results54, asAddr]; exact hr) rfl ?_
     (first | rw [hit] | (simp only [Loc.th]; rw [hit]))
     exact ansV_h ((vltShut (th_set _ _ _) (by rw [List.length_set]; exact HN.out.1) HS.out).pull 1)
    ·have sr0 : Sat W0 _ (seg true ga 0 ans0 :: vltL sesI v l t hb vb T (ledO l rs :: bytes md dp data :: bytes mm ep more :: L)) := sT.f
     clear sT sc
     go_wp2_with (refine wpl_stAns rfl rfl (.tmp 4) (.tmp 61) rfl sr0 rfl rfl ?_; intro ws ss; clear sr0)
     have hr := ansLd ss
     have HS := Lib.hid ss.tail; clear ss
     refine bodyPost_ret (v := .agg #[.int .i64 8, .int .i64 0, .bool false, .slice none 0 0]) (by simp [results, Tryz.results54, asAddr]; exact hr) rfl ?_
     (first | rw [hit] | (simp only [Loc.th]; rw [hit]))
     exact ansV_no ((vltShut rfl HN.out.1 HS.out).pull 1)
end Go.Proofs.YtbefjaodpbgpcaaGreat
