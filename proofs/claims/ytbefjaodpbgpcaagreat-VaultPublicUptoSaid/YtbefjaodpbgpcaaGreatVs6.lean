
import Derived.Test.YtbefjaodpbgpcaaGreatVs5
set_option linter.unusedVariables false
set_option linter.unusedSimpArgs false
set_option maxRecDepth 100000
set_option maxHeartbeats 16000000
namespace Go.Proofs.YtbefjaodpbgpcaaGreat
open Go.RowKit Go.Sep Go.Bv Go.Kec Go.Aes Go.Sha
theorem vPbkdfW {W0 w : World} {L : List Assn} {v : Nat} {l : Option Nat} {rs : List Run3} {md mm : Bool} {dp ep : Option Addr} {dn dc en ec : Nat} {B : Nat} (S : Sts SesD) (kd : Nat) (hd : Int) (ag : Nat) (ct ot : Int) (data more : List Byte) (hV : okV B S) (hB : B + 65536 ≤ 1000000000) (hR : Roomy rs) (hdn : data.length = dn) (hdc : dn ≤ dc) (hdm : dc ≤ maxLen) (hen : more.length = en) (hec : en ≤ ec) (hem : ec ≤ maxLen) (hdb : dn ≤ 1000000000) (heb : en ≤ 1000000000)
  (hs : Sat W0 w (ledO l rs :: vlt sesI v l S :: bytes md dp data :: bytes mm ep more :: L)) :
  Calls Tryz.prog 56 #[.pointer (some ⟨v, 0, none⟩), .agg #[.int .u8 (kd : Int), .int .i64 hd, .int .u8 (ag : Int), .int .i64 ct, .int .i64 ot, .slice dp dn dc, .slice ep en ec]] w fun e w' => ansV sesI W0 v l (vPbkdf S ⟨kd, hd, ag, ct, ot, data, more⟩ rs) (bytes md dp data :: bytes mm ep more :: L) e w' := by
 obtain ⟨t, hb, vb, T, rfl, hS, hT, s0'⟩ := vltOpen (show Sat W0 w (vlt sesI v l S :: ledO l rs :: bytes md dp data :: bytes mm ep more :: L) from hs.pull 1)
 have s0 : Sat W0 w (vltL sesI v l t hb vb T (ledO l rs :: bytes md dp data :: bytes mm ep more :: L)) := s0'.f
 clear hs s0'
 have HO := Lib.hid (hOp W0)
 have hErr : ∀ z : Int, z ≠ 0 → (∀ (w : World) (X : List Assn), Sat W0 w (vltL sesI v l t hb vb T X) → Calls Tryz.prog 71 #[.pointer (some ⟨v, 0, none⟩), .int .i64 hd] w fun e w' => e = .returned (.tuple #[.slice none 0 0, .int .i64 z]) ∧ Sat W0 w' (vltL sesI v l t hb vb T X)) →
   Calls Tryz.prog 56 #[.pointer (some ⟨v, 0, none⟩), .agg #[.int .u8 (kd : Int), .int .i64 hd, .int .u8 (ag : Int), .int .i64 ct, .int .i64 ot, .slice dp dn dc, .slice ep en ec]] w fun e w' => ansV sesI W0 v l (T.map Slt.th, noA z, rs) (bytes md dp data :: bytes mm ep more :: L) e w' := by
  intro z hz hka
  have hzc : (z != 0) = true := by rw [bne_iff_ne]; exact hz
  have HN := Lib.hid (And.intro hS hka); clear hS hT hka hV hB hR hz hen hec hem hdb heb
  go_enter Tryz.func56, Tryz.ntmps56
  go_wp2_with (first | (refine wpl_box rfl 27 (.tmp 1) rfl (opC kd hd ag ct ot dp dn dc ep en ec) rfl s0 ?_; intro w1 g s1 _; clear s0) | (refine wpl_alloc_agg rfl 44 rfl s1 _ (zero_ans _) ?_; intro w2 ga s2' _; clear s1; have s2 : Sat W0 w2 (seg true g 0 (opC kd hd ag ct ot dp dn dc ep en ec) :: seg true ga 0 ans0 :: vltL sesI v l t hb vb T (ledO l rs :: bytes md dp data :: bytes mm ep more :: L)) := s2'.f; clear s2'; obtain ⟨o0, o1, o2, o3, o4, o5, o6, zo⟩ := HO.out _ _ _ _ _ _ _ _ _ _ s2))
  refine (HN.out.2 _ _ (s2.f : Sat W0 w2 (vltL sesI v l t hb vb T (seg true g 0 (opC kd hd ag ct ot dp dn dc ep en ec) :: seg true ga 0 ans0 :: ledO l rs :: bytes md dp data :: bytes mm ep more :: L)))).mono ?_
  rintro e w3 ⟨rfl, s3'⟩
  have s3 : Sat W0 w3 (seg true g 0 (opC kd hd ag ct ot dp dn dc ep en ec) :: seg true ga 0 ans0 :: vltL sesI v l t hb vb T (ledO l rs :: bytes md dp data :: bytes mm ep more :: L)) := s3'.f
  clear s2 s3' o0 o1 o2 o3 o4 o5 o6 zo
  go_wp2_with fail
  refine (vCode z s3).mono ?_
  rintro e wE ⟨rfl, sE⟩
  clear s3
  have sr0 : Sat W0 _ (seg true ga 0 ans0 :: vltL sesI v l t hb vb T (ledO l rs :: bytes md dp data :: bytes mm ep more :: L)) := sE.f
  clear sE
  go_wp2_with (refine wpl_stAns rfl rfl (.tmp 4) (.tmp 20) rfl sr0 rfl rfl ?_; intro ws ss; clear sr0)
  have hr := ansLd ss
  have HS := Lib.hid ss.tail; clear ss
  refine bodyPost_ret (v := .agg #[.int .i64 z, .int .i64 0, .bool false, .slice none 0 0]) (by simp [results, Tryz.results56, asAddr]; exact hr) rfl ?_
  exact ansV_no ((vltShut rfl HN.out.1 HS.out).pull 1)
 rcases tAt_cases T hT hd with ⟨e1, hno⟩ | ⟨k, m, y, rfl, hk64, hk, e1, hyes⟩
 ·rw [show vPbkdf (T.map Slt.th) ⟨kd, hd, ag, ct, ot, data, more⟩ rs = (T.map Slt.th, noA 5, rs) by unfold vPbkdf; rw [e1]]
  exact hErr 5 (by decide) fun w X s => keyAtNo hd hno hT s
 ·cases y with
  | ses x s =>
   rw [show vPbkdf (T.map Slt.th) ⟨kd, (k : Int), ag, ct, ot, data, more⟩ rs = (T.map Slt.th, noA 6, rs) by unfold vPbkdf; rw [e1]; rfl]
   exact hErr 6 (by decide) fun w X s => keyAtSes hk hT s
  | key b p c =>
   clear hErr
   have hkl := okV_key hV hk
   have hka := fun (w : World) (X : List Assn) (s : Sat W0 w (vltL sesI v l t hb vb T X)) => keyAtKey (n := b.length) hk rfl hT s
   have hla := fun (w : World) (X : List Assn) (s : Sat W0 w (vltL sesI v l t hb vb T X)) => vLast (dp := dp) (dn := dn) (dc := dc) (ep := ep) (en := en) (ec := ec) kd (k : Int) ag ct ot data more hT s
   have hE : tAt (T.map Slt.th) (k : Int) = some (.key b) := e1
   obtain ⟨nk, hnk⟩ : ∃ n, n = b.length := ⟨_, rfl⟩
   rw [← hnk] at hka
   have hfaf : ∀ (w : World) (X : List Assn), Sat W0 w (stars (T.map (Slt.A sesI)) :: X) → (nk ≤ c ∧ c ≤ maxLen) ∧ Sat W0 w (bytes true p b :: memA m b :: stars ((T.map (Slt.A sesI)).eraseIdx k) :: X) := fun w X h => by
    have h1 := sltOut hk h
    have h1' : Sat W0 w (memA m b :: locO sesI (some (.key b p c)) :: stars ((T.map (Slt.A sesI)).eraseIdx k) :: X) := h1
    have h2 := h1'.swap
    exact ⟨by rw [hnk]; exact h2.fact fun x hx => hx.1, h2.imp fun x hx => hx.2⟩
   have hbak : ∀ (w : World) (X : List Assn), nk ≤ c ∧ c ≤ maxLen → Sat W0 w (bytes true p b :: memA m b :: stars ((T.map (Slt.A sesI)).eraseIdx k) :: X) → Sat W0 w (stars (T.map (Slt.A sesI)) :: X) := fun w X hc h => by
    have h1 : Sat W0 w (locO sesI (some (.key b p c)) :: memA m b :: stars ((T.map (Slt.A sesI)).eraseIdx k) :: X) := h.imp fun x hx => ⟨by rw [← hnk]; exact hc, hx⟩
    have h2 := sltIn (s' := ⟨m, some (.key b p c)⟩) hk (h1.f : Sat W0 w (memA m b :: locO sesI (some (.key b p c)) :: stars ((T.map (Slt.A sesI)).eraseIdx k) :: X))
    rw [set_same hk] at h2
    exact h2
   have hdv := fun (u z : Int) (h : (ag = 1 ∧ u = 32 ∧ z = 0) ∨ (ag = 2 ∧ u = 64 ∧ z = 0) ∨ (¬ (ag = 1 ∨ ag = 2) ∧ u = 0 ∧ z = 4)) (w : World) (X : List Assn) (s : Sat W0 w X) => vDerives (v0 := .int .u8 (kd : Int)) (v1 := .int .i64 (k : Int)) (v3 := .int .i64 ct) (v4 := .int .i64 ot) (dp := dp) (dn := dn) (dc := dc) (ep := ep) (en := en) (ec := ec) ag u z h rfl rfl rfl rfl s
   have HH := Lib.hid (And.intro hfaf hbak); clear hfaf hbak e1
   by_cases hag : ¬ (ag = 1 ∨ ag = 2)
   ·have e0 : vPbkdf (T.map Slt.th) ⟨kd, (k : Int), ag, ct, ot, data, more⟩ rs = (T.map Slt.th, noA 4, rs) := by
     have h4 : pbE ⟨kd, (k : Int), ag, ct, ot, data, more⟩ = 4 := if_pos hag
     unfold vPbkdf; rw [hE]
     exact (if_pos (by rw [h4]; decide)).trans (by rw [h4])
    rw [e0]
    clear e0 hE
    have HN := Lib.hid (And.intro hS (And.intro hka (And.intro (hdv 0 4 (.inr (.inr ⟨hag, rfl, rfl⟩))) hla))); clear hS hT hka hk hyes hV hB hR hla hdv hkl hnk HH hen hec hem hdb heb hdc hdm hdn
    go_enter Tryz.func56, Tryz.ntmps56
    go_wp2_with (first | (refine wpl_box rfl 27 (.tmp 1) rfl (opC kd (k : Int) ag ct ot dp dn dc ep en ec) rfl s0 ?_; intro w1 g s1 _; clear s0) | (refine wpl_alloc_agg rfl 44 rfl s1 _ (zero_ans _) ?_; intro w2 ga s2' _; clear s1; have s2 : Sat W0 w2 (seg true g 0 (opC kd (k : Int) ag ct ot dp dn dc ep en ec) :: seg true ga 0 ans0 :: vltL sesI v l t hb vb T (ledO l rs :: bytes md dp data :: bytes mm ep more :: L)) := s2'.f; clear s2'; obtain ⟨o0, o1, o2, o3, o4, o5, o6, zo⟩ := HO.out _ _ _ _ _ _ _ _ _ _ s2))
    refine (HN.out.2.1 _ _ (s2.f : Sat W0 w2 (vltL sesI v l t hb vb T (seg true g 0 (opC kd (k : Int) ag ct ot dp dn dc ep en ec) :: seg true ga 0 ans0 :: ledO l rs :: bytes md dp data :: bytes mm ep more :: L)))).mono ?_
    rintro e w3 ⟨rfl, s3'⟩
    have s3 : Sat W0 w3 (seg true g 0 (opC kd (k : Int) ag ct ot dp dn dc ep en ec) :: seg true ga 0 ans0 :: vltL sesI v l t hb vb T (ledO l rs :: bytes md dp data :: bytes mm ep more :: L)) := s3'.f
    clear s2 s3' o0 o1 o2 o3 o4 o5 o6 zo
    go_wp2_with (refine wpl_ldOp rfl (.tmp 3) rfl s3 rfl ?_)
    refine (HN.out.2.2.1 _ _ s3).mono ?_
    rintro e w4 ⟨rfl, s4⟩
    clear s3
    clear hag
    go_wp2_with fail
    refine (vCode 4 s4).mono ?_
    rintro e wE ⟨rfl, sE⟩
    clear s4
    have sr0 : Sat W0 _ (seg true ga 0 ans0 :: vltL sesI v l t hb vb T (ledO l rs :: bytes md dp data :: bytes mm ep more :: L)) := sE.f
    clear sE
    go_wp2_with (refine wpl_stAns rfl rfl (.tmp 4) (.tmp 29) rfl sr0 rfl rfl ?_; intro ws ss; clear sr0)
    have hr := ansLd ss
    have HS := Lib.hid ss.tail; clear ss
    refine bodyPost_ret (v := .agg #[.int .i64 4, .int .i64 0, .bool false, .slice none 0 0]) (by simp [results, Tryz.results56, asAddr]; exact hr) rfl ?_
    exact ansV_no ((vltShut rfl HN.out.1 HS.out).pull 1)
   have hag2 : ag = 1 ∨ ag = 2 := Classical.not_not.1 hag
   clear hag
   obtain ⟨wide, u, hw, hWd, hu, hu2, hdh⟩ := algTwo hag2
   have hdw := hdv u 0 hdh
   obtain ⟨mx, hmx⟩ : ∃ z : Int, z = 4294967295 * u := ⟨_, rfl⟩
   have hmul : IntKind.i64.wrap (4294967295 * u) = mx := by rw [IntKind.wrap_i64]; omega
   have hmE : (4294967295 * hsz (algB ag) : Int) = mx := by rw [hWd, hmx, hu]
   have hh : 32 ≤ hsz wide := by cases wide <;> decide
   have hwI : ∃ av : Value, av = .int .u8 (ag : Int) := ⟨_, rfl⟩
   by_cases ho : 65536 < dn
   focus
    have h9 : pbE ⟨kd, (k : Int), ag, ct, ot, data, more⟩ = 9 := by
     unfold pbE
     rw [if_neg (fun h => h hag2)]
     exact if_pos (by simp only [hdn]; exact .inl ho)
    have e0 : vPbkdf (T.map Slt.th) ⟨kd, (k : Int), ag, ct, ot, data, more⟩ rs = (T.map Slt.th, noA 9, rs) := by
     unfold vPbkdf; rw [hE]
     exact (if_pos (by rw [h9]; decide)).trans (by rw [h9])
    rw [e0]
    have gI : (65536 : Int) < (dn : Int) := by omega
    clear e0 h9 ho
   rotate_left
   have hn0 : ¬ (65536 : Int) < (dn : Int) := by omega
   have hm0 := ho
   clear ho
   by_cases ho : mx < ot
   focus
    have h9 : pbE ⟨kd, (k : Int), ag, ct, ot, data, more⟩ = 9 := by
     unfold pbE
     rw [if_neg (fun h => h hag2)]
     exact if_pos (by simp only [hdn]; exact .inr (by rw [hmE]; exact ho))
    have e0 : vPbkdf (T.map Slt.th) ⟨kd, (k : Int), ag, ct, ot, data, more⟩ rs = (T.map Slt.th, noA 9, rs) := by
     unfold vPbkdf; rw [hE]
     exact (if_pos (by rw [h9]; decide)).trans (by rw [h9])
    rw [e0]
    have gI : mx < ot := ho
    clear e0 h9 ho
   rotate_left
   have hn1 : ¬ mx < ot := ho
   have hm1 := ho
   clear ho
   by_cases ho : ct < 1
   focus
    have h9 : pbE ⟨kd, (k : Int), ag, ct, ot, data, more⟩ = 10 := by
     unfold pbE
     rw [if_neg (fun h => h hag2), if_neg (by simp only [hdn]; rw [hmE]; intro h; rcases h with h | h; exact hm0 h; exact hm1 h)]
     exact if_pos (.inl ho)
    have e0 : vPbkdf (T.map Slt.th) ⟨kd, (k : Int), ag, ct, ot, data, more⟩ rs = (T.map Slt.th, noA 10, rs) := by
     unfold vPbkdf; rw [hE]
     exact (if_pos (by rw [h9]; decide)).trans (by rw [h9])
    rw [e0]
    have gI : ct < 1 := ho
    clear e0 h9 ho
   rotate_left
   have hc0 := ho
   clear ho
   by_cases ho : 1048576 < ct
   focus
    have h9 : pbE ⟨kd, (k : Int), ag, ct, ot, data, more⟩ = 10 := by
     unfold pbE
     rw [if_neg (fun h => h hag2), if_neg (by simp only [hdn]; rw [hmE]; intro h; rcases h with h | h; exact hm0 h; exact hm1 h)]
     exact if_pos (.inr ho)
    have e0 : vPbkdf (T.map Slt.th) ⟨kd, (k : Int), ag, ct, ot, data, more⟩ rs = (T.map Slt.th, noA 10, rs) := by
     unfold vPbkdf; rw [hE]
     exact (if_pos (by rw [h9]; decide)).trans (by rw [h9])
    rw [e0]
    have gI : 1048576 < ct := ho
    clear e0 h9 ho
   rotate_left
   have hc1 := ho
   clear ho
   have HH2 := HH
   focus
    have h0 : pbE ⟨kd, (k : Int), ag, ct, ot, data, more⟩ = 0 := by
     unfold pbE
     rw [if_neg (fun h => h hag2), if_neg (by simp only [hdn]; rw [hmE]; intro h; rcases h with h | h; exact hm0 h; exact hm1 h)]
     exact if_neg (by intro h; rcases h with h | h; exact hc0 h; exact hc1 h)
    by_cases hz : lastE (T.map Slt.th) ⟨kd, (k : Int), ag, ct, ot, data, more⟩ = 0
    rotate_left
    ·have e0 : vPbkdf (T.map Slt.th) ⟨kd, (k : Int), ag, ct, ot, data, more⟩ rs = (T.map Slt.th, noA (lastE (T.map Slt.th) ⟨kd, (k : Int), ag, ct, ot, data, more⟩), rs) := by
      unfold vPbkdf; rw [hE]
      exact (if_neg (by rw [h0]; decide)).trans (if_pos hz)
     rw [e0]
     clear e0 hE h0
     obtain ⟨z, hzz⟩ : ∃ z, z = lastE (T.map Slt.th) ⟨kd, (k : Int), ag, ct, ot, data, more⟩ := ⟨_, rfl⟩
     rw [← hzz] at hz hla ⊢
     have hzc : (z != 0) = true := by rw [bne_iff_ne]; exact hz
     clear hz hzz
     have HN := Lib.hid (And.intro hS (And.intro hka (And.intro hdw hla)))
     clear hS hT hka hk hyes hV hB hR hla hdv hdw hkl hnk HH hen hec hem hdb heb hdc hdm hdn hag2 hu hu2 hmx hmE hh hw hWd hdh hwI hm0 hm1
     go_enter Tryz.func56, Tryz.ntmps56
     go_wp2_with (first | (refine wpl_box rfl 27 (.tmp 1) rfl (opC kd (k : Int) ag ct ot dp dn dc ep en ec) rfl s0 ?_; intro w1 g s1 _; clear s0) | (refine wpl_alloc_agg rfl 44 rfl s1 _ (zero_ans _) ?_; intro w2 ga s2' _; clear s1; have s2 : Sat W0 w2 (seg true g 0 (opC kd (k : Int) ag ct ot dp dn dc ep en ec) :: seg true ga 0 ans0 :: vltL sesI v l t hb vb T (ledO l rs :: bytes md dp data :: bytes mm ep more :: L)) := s2'.f; clear s2'; obtain ⟨o0, o1, o2, o3, o4, o5, o6, zo⟩ := HO.out _ _ _ _ _ _ _ _ _ _ s2))
     refine (HN.out.2.1 _ _ (s2.f : Sat W0 w2 (vltL sesI v l t hb vb T (seg true g 0 (opC kd (k : Int) ag ct ot dp dn dc ep en ec) :: seg true ga 0 ans0 :: ledO l rs :: bytes md dp data :: bytes mm ep more :: L)))).mono ?_
     rintro e w3 ⟨rfl, s3'⟩
     have s3 : Sat W0 w3 (seg true g 0 (opC kd (k : Int) ag ct ot dp dn dc ep en ec) :: seg true ga 0 ans0 :: vltL sesI v l t hb vb T (ledO l rs :: bytes md dp data :: bytes mm ep more :: L)) := s3'.f
     clear s2 s3' o0 o1 o2 o3 o4 o5 o6 zo
     go_wp2_with (refine wpl_ldOp rfl (.tmp 3) rfl s3 rfl ?_)
     refine (HN.out.2.2.1 _ _ s3).mono ?_
     rintro e w4 ⟨rfl, s4⟩
     clear s3
     obtain ⟨o0, o1, o2, o3, o4, o5, o6, zo⟩ := HO.out _ _ _ _ _ _ _ _ _ _ s4
     go_wp2_with (refine wpl_ldOp rfl (.tmp 3) rfl s4 rfl ?_)
     clear o0 o1 o2 o3 o4 o5 o6 zo
     refine (HN.out.2.2.2 _ _ (s4.f : Sat W0 w4 (vltL sesI v l t hb vb T (seg true g 0 (opC kd (k : Int) ag ct ot dp dn dc ep en ec) :: seg true ga 0 ans0 :: ledO l rs :: bytes md dp data :: bytes mm ep more :: L)))).mono ?_
     rintro e w5 ⟨rfl, s5⟩
     clear s4
     go_wp2_with fail
     refine (vCode z s5).mono ?_
     rintro e wE ⟨rfl, sE⟩
     clear s5
     have sr0 : Sat W0 _ (seg true ga 0 ans0 :: vltL sesI v l t hb vb T (ledO l rs :: bytes md dp data :: bytes mm ep more :: L)) := sE.f
     clear sE
     go_wp2_with (refine wpl_stAns rfl rfl (.tmp 4) (.tmp 57) rfl sr0 rfl rfl ?_; intro ws ss; clear sr0)
     have hr := ansLd ss
     have HS := Lib.hid ss.tail; clear ss
     refine bodyPost_ret (v := .agg #[.int .i64 z, .int .i64 0, .bool false, .slice none 0 0]) (by simp [results, Tryz.results56, asAddr]; exact hr) rfl ?_
     exact ansV_no ((vltShut rfl HN.out.1 HS.out).pull 1)
    have hou : 1 ≤ ot ∧ ot ≤ 512 := by
     unfold lastE at hz
     by_cases h : ot < 1 ∨ 512 < ot
     ·rw [if_pos h] at hz; cases hz
     ·omega
    obtain ⟨ou, rfl⟩ : ∃ o : Nat, ot = (o : Int) := ⟨ot.toNat, by omega⟩
    rw [hz] at hla
    obtain ⟨cn, rfl⟩ : ∃ o : Nat, ct = (o : Int) := ⟨ct.toNat, by omega⟩
    obtain ⟨Y, hY⟩ : ∃ Y, Y = (pbMany wide b data cn (pbM wide ou)).take ou := ⟨_, rfl⟩
    obtain ⟨R, hRr⟩ : ∃ R, R = (noteN rs (evK wide) (evS wide) (keyN wide nk + pbM wide ou * pbN wide dn cn)) := ⟨_, rfl⟩
    have e0 : vPbkdf (T.map Slt.th) ⟨kd, (k : Int), ag, (cn : Int), (ou : Int), data, more⟩ rs = ((vTake (T.map Slt.th) (.key Y)).1, (vTake (T.map Slt.th) (.key Y)).2, R) := by
     unfold vPbkdf; rw [hE]
     refine (if_neg (by rw [h0]; decide)).trans ((if_neg (by rw [hz]; decide)).trans ?_)
     rw [hY, hRr, hnk, ← hdn, ← hWd]; rfl
    rw [e0]
    clear e0 hE h0 hz
    have hkd := fun (w : World) (X : List Assn) (h1 : nk ≤ c) (h2 : c ≤ maxLen) (s : Sat W0 w (ledO l rs :: bytes true p b :: bytes md dp data :: X)) => pbKey (ck := c) (cs := dc) wide l rs b data cn ou (by rw [← hnk]; exact h1) h2 (by rw [hdn]; exact hdc) hdm (by omega) (by omega) (by omega) (by have := hR.1; omega) (by have := hR.2; omega) s
    rw [← hnk, hdn, ← hw] at hkd
    rw [← hY, ← hRr] at hkd
    have hta := fun (w : World) (X : List Assn) (q : Option Addr) (cq : Nat) (hyl : Y.length = ou) (h1 : ou ≤ cq) (h2 : cq ≤ maxLen) (s : Sat W0 w (bytes true q Y :: vltL sesI v l t hb vb T X)) => takeKey Y hyl (by omega) h1 h2 hT s
    have HN := Lib.hid (And.intro hS (And.intro hka (And.intro hdw (And.intro hla (And.intro hkd hta)))))
    clear hkd hta hY hRr hou
    clear hS hT hka hk hyes hV hB hR hla hdv hdw hkl hnk HH hen hec hem hdb heb hdc hdm hdn hag2 hu hu2 hmx hmE hh hw hWd hdh hwI hm0 hm1
    go_enter Tryz.func56, Tryz.ntmps56
    go_wp2_with (first | (refine wpl_box rfl 27 (.tmp 1) rfl (opC kd (k : Int) ag (cn : Int) (ou : Int) dp dn dc ep en ec) rfl s0 ?_; intro w1 g s1 _; clear s0) | (refine wpl_alloc_agg rfl 44 rfl s1 _ (zero_ans _) ?_; intro w2 ga s2' _; clear s1; have s2 : Sat W0 w2 (seg true g 0 (opC kd (k : Int) ag (cn : Int) (ou : Int) dp dn dc ep en ec) :: seg true ga 0 ans0 :: vltL sesI v l t hb vb T (ledO l rs :: bytes md dp data :: bytes mm ep more :: L)) := s2'.f; clear s2'; obtain ⟨o0, o1, o2, o3, o4, o5, o6, zo⟩ := HO.out _ _ _ _ _ _ _ _ _ _ s2))
    refine (HN.out.2.1 _ _ (s2.f : Sat W0 w2 (vltL sesI v l t hb vb T (seg true g 0 (opC kd (k : Int) ag (cn : Int) (ou : Int) dp dn dc ep en ec) :: seg true ga 0 ans0 :: ledO l rs :: bytes md dp data :: bytes mm ep more :: L)))).mono ?_
    rintro e w3 ⟨rfl, s3'⟩
    have s3 : Sat W0 w3 (seg true g 0 (opC kd (k : Int) ag (cn : Int) (ou : Int) dp dn dc ep en ec) :: seg true ga 0 ans0 :: vltL sesI v l t hb vb T (ledO l rs :: bytes md dp data :: bytes mm ep more :: L)) := s3'.f
    clear s2 s3' o0 o1 o2 o3 o4 o5 o6 zo
    go_wp2_with (refine wpl_ldOp rfl (.tmp 3) rfl s3 rfl ?_)
    refine (HN.out.2.2.1 _ _ s3).mono ?_
    rintro e w4 ⟨rfl, s4⟩
    clear s3
    obtain ⟨o0, o1, o2, o3, o4, o5, o6, zo⟩ := HO.out _ _ _ _ _ _ _ _ _ _ s4
    go_wp2_with (refine wpl_ldOp rfl (.tmp 3) rfl s4 rfl ?_)
    clear o0 o1 o2 o3 o4 o5 o6 zo
    refine (HN.out.2.2.2.1 _ _ (s4.f : Sat W0 w4 (vltL sesI v l t hb vb T (seg true g 0 (opC kd (k : Int) ag (cn : Int) (ou : Int) dp dn dc ep en ec) :: seg true ga 0 ans0 :: ledO l rs :: bytes md dp data :: bytes mm ep more :: L)))).mono ?_
    rintro e w5 ⟨rfl, s5⟩
    clear s4
    have hCf := fun (w' : World) (X : List Assn) (h : Sat W0 w' (seg true v 0 (vlC t l T) :: seg true g 0 (opC kd (k : Int) ag (cn : Int) (ou : Int) dp dn dc ep en ec) :: X)) => (by
     have h1 := h.pull 1
     exact ⟨h.at 1 rfl, h.lt (by simp [vlC]), Sat.at h1 2 rfl, Sat.at h1 5 rfl, Sat.at h1 3 rfl, Sat.at h1 4 rfl, Sat.lt h1 (by simp)⟩ : w'.cell? ⟨v, 1, none⟩ = some (ptrO l) ∧ v < w'.heap.size ∧ w'.cell? ⟨g, 2, none⟩ = some (.int .u8 (ag : Int)) ∧ w'.cell? ⟨g, 5, none⟩ = some (.slice dp dn dc) ∧ w'.cell? ⟨g, 3, none⟩ = some (.int .i64 (cn : Int)) ∧ w'.cell? ⟨g, 4, none⟩ = some (.int .i64 (ou : Int)) ∧ g < w'.heap.size)
    go_wp2_with fail
    have s6 : Sat W0 w5 (seg true v 0 (vlC t l T) :: seg true g 0 (opC kd (k : Int) ag (cn : Int) (ou : Int) dp dn dc ep en ec) :: tabC t hb vb (heldC T) (valsC T) (stars (T.map (Slt.A sesI)) :: seg true ga 0 ans0 :: ledO l rs :: bytes md dp data :: bytes mm ep more :: L)) := s5.f
    clear s5
    have sd := s6.drew
    clear s6
    obtain ⟨hpc, s7⟩ := HH2.out.1 _ _ (sd.f : Sat W0 _ (stars (T.map (Slt.A sesI)) :: seg true v 0 (vlC t l T) :: seg true g 0 (opC kd (k : Int) ag (cn : Int) (ou : Int) dp dn dc ep en ec) :: tabC t hb vb (heldC T) (valsC T) (seg true ga 0 ans0 :: ledO l rs :: bytes md dp data :: bytes mm ep more :: L)))
    have hk0 := hCf _ _ sd
    have HP := Lib.hid (And.intro hpc hCf); clear hpc sd hCf
    refine region_E (fun w' => w'.cell? ⟨v, 1, none⟩ = some (ptrO l) ∧ v < w'.heap.size ∧ w'.cell? ⟨g, 2, none⟩ = some (.int .u8 (ag : Int)) ∧ w'.cell? ⟨g, 5, none⟩ = some (.slice dp dn dc) ∧ w'.cell? ⟨g, 3, none⟩ = some (.int .i64 (cn : Int)) ∧ w'.cell? ⟨g, 4, none⟩ = some (.int .i64 (ou : Int)) ∧ g < w'.heap.size) [3, 5, 8, 10, 12] (by kernel_rfl) ?_
    have hHeld := hk0
    iterate 13
     first | refine autoT' hHeld (h := ?_) | refine autoP' (h := ?_)
     try simp only [pA1, pA2, pA3, pA4]
    refine anyE_last' (i := 13) (h := fun K hK => ?_)
    go_simp
    refine (HN.out.2.2.2.2.1 _ _ HP.out.1.1 HP.out.1.2 (s7.f : Sat W0 _ (ledO l rs :: bytes true p b :: bytes md dp data :: memA m b :: stars ((T.map (Slt.A sesI)).eraseIdx k) :: seg true v 0 (vlC t l T) :: seg true g 0 (opC kd (k : Int) ag (cn : Int) (ou : Int) dp dn dc ep en ec) :: tabC t hb vb (heldC T) (valsC T) (seg true ga 0 ans0 :: bytes mm ep more :: L)))).mono ?_
    rintro e w6 ⟨q, rfl, s8⟩
    clear s7 hk0
    go_wp2_with fail
    refine hK.out _ _ ?_
    clear hK K
    try simp only [pA1, pA2, pA3, pA4]
    iterate 5
     first | refine autoT' hHeld (h := ?_) | refine autoP' (h := ?_)
     try simp only [pA1, pA2, pA3, pA4]
    refine anyE_done (by kernel_rfl) ?_ _
    clear hHeld
    obtain ⟨hyl, hq1, hq2, s8b⟩ := rowBytes s8
    clear s8
    have s8 := s8b
    clear s8b
    have HQ := Lib.hid (And.intro hyl (And.intro hq1 hq2)); clear hyl hq1 hq2
    have sa := HH2.out.2 _ _ HP.out.1 (s8.f : Sat W0 w6 (bytes true p b :: memA m b :: stars ((T.map (Slt.A sesI)).eraseIdx k) :: bytes true q Y :: ledO l R :: seg true v 0 (vlC t l T) :: seg true g 0 (opC kd (k : Int) ag (cn : Int) (ou : Int) dp dn dc ep en ec) :: tabC t hb vb (heldC T) (valsC T) (seg true ga 0 ans0 :: bytes md dp data :: bytes mm ep more :: L)))
    have sb : Sat W0 w6 (bytes true q Y :: vltL sesI v l t hb vb T (seg true ga 0 ans0 :: ledO l R :: bytes md dp data :: bytes mm ep more :: L)) := sa.f
    clear s8 sa
    go_wp2_with fail
    refine (HN.out.2.2.2.2.2 _ _ q ou HQ.out.1 HQ.out.2.1 HQ.out.2.2 sb).mono ?_
    rintro e wT (⟨i, m2, him, hit, rfl, sT⟩ | ⟨hit, rfl, sT⟩)
    ·have sr0 : Sat W0 _ (seg true ga 0 ans0 :: vltL sesI v l t hb vb (T.set i ⟨m2, some (.key Y q ou)⟩) (ledO l R :: bytes md dp data :: bytes mm ep more :: L)) := sT.f
     clear sT sb
     go_wp2_with (refine wpl_stAns rfl rfl (.tmp 4) (.tmp 83) rfl sr0 rfl rfl ?_; intro ws ss; clear sr0)
     have hr := ansLd ss
     have HS := Lib.hid ss.tail; clear ss
     refine bodyPost_ret (v := .agg #[.int .i64 0, .int .i64 (i : Int), .bool false, .slice none 0 0]) (by simp [results, Tryz.results56, asAddr]; exact hr) rfl ?_
     rw [hit]
     exact ansV_h ((vltShut (th_set _ _ _) (by rw [List.length_set]; exact HN.out.1) HS.out).pull 1)
    ·have sr0 : Sat W0 _ (seg true ga 0 ans0 :: vltL sesI v l t hb vb T (ledO l R :: bytes md dp data :: bytes mm ep more :: L)) := sT.f
     clear sT sb
     go_wp2_with (refine wpl_stAns rfl rfl (.tmp 4) (.tmp 83) rfl sr0 rfl rfl ?_; intro ws ss; clear sr0)
     have hr := ansLd ss
     have HS := Lib.hid ss.tail; clear ss
     refine bodyPost_ret (v := .agg #[.int .i64 8, .int .i64 0, .bool false, .slice none 0 0]) (by simp [results, Tryz.results56, asAddr]; exact hr) rfl ?_
     rw [hit]
     exact ansV_no ((vltShut rfl HN.out.1 HS.out).pull 1)
   all_goals
    have HN := Lib.hid (And.intro hS (And.intro hka (And.intro hdw hla)))
    try clear hm0
    try clear hm1
    try clear hc0
    clear hS hT hka hk hyes hV hB hR hla hdv hdw hkl hnk HH hen hec hem hdb heb hdc hdm hdn hag2 hu hu2 hmx hmE hh hw hWd hdh hwI hE
    go_enter Tryz.func56, Tryz.ntmps56
    go_wp2_with (first | (refine wpl_box rfl 27 (.tmp 1) rfl (opC kd (k : Int) ag ct ot dp dn dc ep en ec) rfl s0 ?_; intro w1 g s1 _; clear s0) | (refine wpl_alloc_agg rfl 44 rfl s1 _ (zero_ans _) ?_; intro w2 ga s2' _; clear s1; have s2 : Sat W0 w2 (seg true g 0 (opC kd (k : Int) ag ct ot dp dn dc ep en ec) :: seg true ga 0 ans0 :: vltL sesI v l t hb vb T (ledO l rs :: bytes md dp data :: bytes mm ep more :: L)) := s2'.f; clear s2'; obtain ⟨o0, o1, o2, o3, o4, o5, o6, zo⟩ := HO.out _ _ _ _ _ _ _ _ _ _ s2))
    refine (HN.out.2.1 _ _ (s2.f : Sat W0 w2 (vltL sesI v l t hb vb T (seg true g 0 (opC kd (k : Int) ag ct ot dp dn dc ep en ec) :: seg true ga 0 ans0 :: ledO l rs :: bytes md dp data :: bytes mm ep more :: L)))).mono ?_
    rintro e w3 ⟨rfl, s3'⟩
    have s3 : Sat W0 w3 (seg true g 0 (opC kd (k : Int) ag ct ot dp dn dc ep en ec) :: seg true ga 0 ans0 :: vltL sesI v l t hb vb T (ledO l rs :: bytes md dp data :: bytes mm ep more :: L)) := s3'.f
    clear s2 s3' o0 o1 o2 o3 o4 o5 o6 zo
    go_wp2_with (refine wpl_ldOp rfl (.tmp 3) rfl s3 rfl ?_)
    refine (HN.out.2.2.1 _ _ s3).mono ?_
    rintro e w4 ⟨rfl, s4⟩
    clear s3
    obtain ⟨o0, o1, o2, o3, o4, o5, o6, zo⟩ := HO.out _ _ _ _ _ _ _ _ _ _ s4
    go_wp2_with fail
    clear o0 o1 o2 o3 o4 o5 o6 zo
    refine (vCode _ s4).mono ?_
    rintro e wE ⟨rfl, sE⟩
    clear s4
    have sr0 : Sat W0 _ (seg true ga 0 ans0 :: vltL sesI v l t hb vb T (ledO l rs :: bytes md dp data :: bytes mm ep more :: L)) := sE.f
    clear sE
    go_wp2_with (refine wpl_stAns rfl rfl (.tmp 4) (.tmp _) rfl sr0 rfl rfl ?_; intro ws ss; clear sr0)
    have hr := ansLd ss
    have HS := Lib.hid ss.tail; clear ss
    refine bodyPost_ret (v := .agg #[.int .i64 _, .int .i64 0, .bool false, .slice none 0 0]) (by simp [results, Tryz.results56, asAddr]; exact hr) rfl ?_
    exact ansV_no ((vltShut rfl HN.out.1 HS.out).pull 1)
end Go.Proofs.YtbefjaodpbgpcaaGreat
