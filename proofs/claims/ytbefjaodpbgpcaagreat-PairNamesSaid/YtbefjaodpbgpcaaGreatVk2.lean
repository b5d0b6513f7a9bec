
/- A vault: a key is put, told; the table of its methods; any operation, once what its kind does is known; under the conditions that each names. -/
import Derived.Test.YtbefjaodpbgpcaaGreatVk
namespace Go.Proofs.YtbefjaodpbgpcaaGreat
open Go.RowKit Go.Sep Go.Bv
set_option linter.unusedVariables false
set_option linter.unusedSimpArgs false
section
variable {σ : Type}
set_option maxRecDepth 100000 in
set_option maxHeartbeats 8000000 in
theorem vPutW {W0 w : World} {L : List Assn} {I : SesI σ} {v : Nat} {l : Option Nat} {rs : List Run3} {md mm : Bool} {dp ep : Option Addr} {dn dc en ec : Nat} (S : Sts σ) (kd : Nat) (hd : Int) (ag : Nat) (ct ot : Int) (data more : List Byte) (hdn : data.length = dn)
  (hs : Sat W0 w (ledO l rs :: vlt I v l S :: bytes md dp data :: bytes mm ep more :: L)) :
  Calls Tryz.prog 49 #[.pointer (some ⟨v, 0, none⟩), .agg #[.int .u8 (kd : Int), .int .i64 hd, .int .u8 (ag : Int), .int .i64 ct, .int .i64 ot, .slice dp dn dc, .slice ep en ec]] w fun e w' => ansV I W0 v l ((vPut S ⟨kd, hd, ag, ct, ot, data, more⟩).1, (vPut S ⟨kd, hd, ag, ct, ot, data, more⟩).2, rs) (bytes md dp data :: bytes mm ep more :: L) e w' := by
 obtain ⟨t, hb, vb, T, rfl, hS, hT, s0'⟩ := vltOpen (show Sat W0 w (vlt I v l S :: ledO l rs :: bytes md dp data :: bytes mm ep more :: L) from hs.pull 1)
 have s0 : Sat W0 w (vltL I v l t hb vb T (ledO l rs :: bytes md dp data :: bytes mm ep more :: L)) := s0'.f
 clear hs s0'
 have HO := Lib.hid (hOp W0)
 by_cases hlt : 512 < dn
 ·have e0 : vPut (T.map Slt.th) ⟨kd, hd, ag, ct, ot, data, more⟩ = (T.map Slt.th, noA 7) := by unfold vPut; rw [if_pos (by rw [hdn]; exact hlt)]
  rw [e0]
  clear e0
  have HN := Lib.hid (And.intro hS hT); clear hS hT
  have hlI : (512 : Int) < (dn : Int) := by omega
  go_enter Tryz.func49, Tryz.ntmps49
  go_wp2_with (first | (refine wpl_box rfl 27 (.tmp 1) rfl ([.int .u8 (kd : Int), .int .i64 hd, .int .u8 (ag : Int), .int .i64 ct, .int .i64 ot, .slice dp dn dc, .slice ep en ec]) rfl s0 ?_; intro w1 g s1 _; clear s0) | (refine wpl_alloc_agg rfl 44 rfl s1 _ (zero_ans _) ?_; intro w2 ga s2' _; clear s1; have s2 : Sat W0 w2 (seg true g 0 ([.int .u8 (kd : Int), .int .i64 hd, .int .u8 (ag : Int), .int .i64 ct, .int .i64 ot, .slice dp dn dc, .slice ep en ec]) :: seg true ga 0 ans0 :: vltL I v l t hb vb T (ledO l rs :: bytes md dp data :: bytes mm ep more :: L)) := s2'.f; clear s2'; obtain ⟨o0, o1, o2, o3, o4, o5, o6, zo⟩ := HO.out _ _ _ _ _ _ _ _ _ _ s2))
  refine (vCode 7 s2).mono ?_
  rintro e w3 ⟨rfl, s3⟩
  clear s2 o0 o1 o2 o3 o4 o5 o6 zo
  have sr0 : Sat W0 _ (seg true ga 0 ans0 :: vltL I v l t hb vb T (ledO l rs :: bytes md dp data :: bytes mm ep more :: L)) := s3.f
  go_wp2_with (refine wpl_stAns rfl rfl (.tmp 4) (.tmp 9) rfl sr0 rfl rfl ?_; intro ws ss; clear sr0)
  have hr := ansLd ss
  have HS := Lib.hid ss.tail; clear ss
  refine bodyPost_ret (v := .agg #[.int .i64 7, .int .i64 0, .bool false, .slice none 0 0]) (by simp [results, Tryz.results49, asAddr]; exact hr) rfl ?_
  exact ansV_no ((vltShut rfl HN.out.1 HS.out).pull 1)
 ·have e0 : vPut (T.map Slt.th) ⟨kd, hd, ag, ct, ot, data, more⟩ = vTake (T.map Slt.th) (.key data) := by unfold vPut; rw [if_neg (by rw [hdn]; exact hlt)]
  rw [e0]
  clear e0
  have hcp := fun (w : World) (X : List Assn) (s : Sat W0 w (bytes md dp data :: X)) => vCopied (cap := dc) data hdn (by omega) s
  have htk := fun (w : World) (X : List Assn) (q : Option Addr) (c : Nat) (h1 : dn ≤ c) (h2 : c ≤ maxLen) (s : Sat W0 w (bytes true q data :: vltL I v l t hb vb T X)) => takeKey data hdn (by omega) h1 h2 hT s
  have HN := Lib.hid (And.intro hS (And.intro hcp htk)); clear hS hT hcp htk hdn
  have hlI : ¬ (512 : Int) < (dn : Int) := by omega
  go_enter Tryz.func49, Tryz.ntmps49
  go_wp2_with (first | (refine wpl_box rfl 27 (.tmp 1) rfl ([.int .u8 (kd : Int), .int .i64 hd, .int .u8 (ag : Int), .int .i64 ct, .int .i64 ot, .slice dp dn dc, .slice ep en ec]) rfl s0 ?_; intro w1 g s1 _; clear s0) | (refine wpl_alloc_agg rfl 44 rfl s1 _ (zero_ans _) ?_; intro w2 ga s2' _; clear s1; have s2 : Sat W0 w2 (seg true g 0 ([.int .u8 (kd : Int), .int .i64 hd, .int .u8 (ag : Int), .int .i64 ct, .int .i64 ot, .slice dp dn dc, .slice ep en ec]) :: seg true ga 0 ans0 :: vltL I v l t hb vb T (ledO l rs :: bytes md dp data :: bytes mm ep more :: L)) := s2'.f; clear s2'; obtain ⟨o0, o1, o2, o3, o4, o5, o6, zo⟩ := HO.out _ _ _ _ _ _ _ _ _ _ s2))
  refine (HN.out.2.1 _ (seg true ga 0 ans0 :: vltL I v l t hb vb T (ledO l rs :: bytes mm ep more :: L)) s2.f).mono ?_
  rintro e w3 ⟨q, c, rfl, hc1, hc2, s3⟩
  clear s2 o0 o1 o2 o3 o4 o5 o6 zo
  have s3b : Sat W0 w3 (bytes true q data :: vltL I v l t hb vb T (seg true ga 0 ans0 :: ledO l rs :: bytes md dp data :: bytes mm ep more :: L)) := s3.f
  have hC := And.intro hc1 hc2
  have HC := Lib.hid hC; clear s3 hc1 hc2 hC
  go_wp2_with fail
  refine (HN.out.2.2 _ _ q c HC.out.1 HC.out.2 s3b).mono ?_
  rintro e w4 (⟨i, m, him, hit, rfl, s4⟩ | ⟨hit, rfl, s4⟩)
  ·clear s3b
   have sr0 : Sat W0 _ (seg true ga 0 ans0 :: vltL I v l t hb vb (T.set i ⟨m, some (.key data q c)⟩) (ledO l rs :: bytes md dp data :: bytes mm ep more :: L)) := s4.f
   clear s4
   go_wp2_with (refine wpl_stAns rfl rfl (.tmp 4) (.tmp 16) rfl sr0 rfl rfl ?_; intro ws ss; clear sr0)
   have hr := ansLd ss
   have HS := Lib.hid ss.tail; clear ss
   refine bodyPost_ret (v := .agg #[.int .i64 0, .int .i64 (i : Int), .bool false, .slice none 0 0]) (by simp [results, Tryz.results49, asAddr]; exact hr) rfl ?_
   rw [hit]
   exact ansV_h ((vltShut (th_set _ _ _) (by rw [List.length_set]; exact HN.out.1) HS.out).pull 1)
  ·clear s3b
   have sr0 : Sat W0 _ (seg true ga 0 ans0 :: vltL I v l t hb vb T (ledO l rs :: bytes md dp data :: bytes mm ep more :: L)) := s4.f
   clear s4
   go_wp2_with (refine wpl_stAns rfl rfl (.tmp 4) (.tmp 16) rfl sr0 rfl rfl ?_; intro ws ss; clear sr0)
   have hr := ansLd ss
   have HS := Lib.hid ss.tail; clear ss
   refine bodyPost_ret (v := .agg #[.int .i64 8, .int .i64 0, .bool false, .slice none 0 0]) (by simp [results, Tryz.results49, asAddr]; exact hr) rfl ?_
   rw [hit]
   exact ansV_no ((vltShut rfl HN.out.1 HS.out).pull 1)
set_option maxRecDepth 100000 in
set_option maxHeartbeats 8000000 in
theorem vRevealW {W0 w : World} {L : List Assn} {I : SesI σ} {v : Nat} {l : Option Nat} {rs : List Run3} {md mm : Bool} {dp ep : Option Addr} {dn dc en ec : Nat} (S : Sts σ) (kd : Nat) (hd : Int) (ag : Nat) (ct ot : Int) (data more : List Byte)
  (hs : Sat W0 w (ledO l rs :: vlt I v l S :: bytes md dp data :: bytes mm ep more :: L)) :
  Calls Tryz.prog 57 #[.pointer (some ⟨v, 0, none⟩), .agg #[.int .u8 (kd : Int), .int .i64 hd, .int .u8 (ag : Int), .int .i64 ct, .int .i64 ot, .slice dp dn dc, .slice ep en ec]] w fun e w' => ansV I W0 v l ((vReveal S ⟨kd, hd, ag, ct, ot, data, more⟩).1, (vReveal S ⟨kd, hd, ag, ct, ot, data, more⟩).2, rs) (bytes md dp data :: bytes mm ep more :: L) e w' := by
 obtain ⟨t, hb, vb, T, rfl, hS, hT, s0'⟩ := vltOpen (show Sat W0 w (vlt I v l S :: ledO l rs :: bytes md dp data :: bytes mm ep more :: L) from hs.pull 1)
 have s0 : Sat W0 w (vltL I v l t hb vb T (ledO l rs :: bytes md dp data :: bytes mm ep more :: L)) := s0'.f
 clear hs s0'
 have HO := Lib.hid (hOp W0)
 rcases tAt_cases T hT hd with ⟨e1, hno⟩ | ⟨k, m, y, rfl, hk64, hk, e1, hyes⟩
 ·have e0 : vReveal (T.map Slt.th) ⟨kd, hd, ag, ct, ot, data, more⟩ = (T.map Slt.th, noA 5) := by unfold vReveal; rw [e1]
  rw [e0]
  clear e0 e1
  have hka := fun (w : World) (X : List Assn) (s : Sat W0 w (vltL I v l t hb vb T X)) => keyAtNo hd hno hT s
  have HN := Lib.hid (And.intro hS hka); clear hS hT hka hno
  go_enter Tryz.func57, Tryz.ntmps57
  go_wp2_with (first | (refine wpl_box rfl 27 (.tmp 1) rfl ([.int .u8 (kd : Int), .int .i64 hd, .int .u8 (ag : Int), .int .i64 ct, .int .i64 ot, .slice dp dn dc, .slice ep en ec]) rfl s0 ?_; intro w1 g s1 _; clear s0) | (refine wpl_alloc_agg rfl 44 rfl s1 _ (zero_ans _) ?_; intro w2 ga s2' _; clear s1; have s2 : Sat W0 w2 (seg true g 0 ([.int .u8 (kd : Int), .int .i64 hd, .int .u8 (ag : Int), .int .i64 ct, .int .i64 ot, .slice dp dn dc, .slice ep en ec]) :: seg true ga 0 ans0 :: vltL I v l t hb vb T (ledO l rs :: bytes md dp data :: bytes mm ep more :: L)) := s2'.f; clear s2'; obtain ⟨o0, o1, o2, o3, o4, o5, o6, zo⟩ := HO.out _ _ _ _ _ _ _ _ _ _ s2))
  refine (HN.out.2 _ _ (s2.f : Sat W0 w2 (vltL I v l t hb vb T (seg true ga 0 ans0 :: ledO l rs :: bytes md dp data :: bytes mm ep more :: L)))).mono ?_
  rintro e w3 ⟨rfl, s3⟩
  clear s2 o0 o1 o2 o3 o4 o5 o6 zo
  go_wp2_with fail
  refine (vCode 5 s3).mono ?_
  rintro e w4 ⟨rfl, s4⟩
  clear s3
  have sr0 : Sat W0 _ (seg true ga 0 ans0 :: vltL I v l t hb vb T (ledO l rs :: bytes md dp data :: bytes mm ep more :: L)) := s4.f
  clear s4
  go_wp2_with (refine wpl_stAns rfl rfl (.tmp 4) (.tmp 17) rfl sr0 rfl rfl ?_; intro ws ss; clear sr0)
  have hr := ansLd ss
  have HS := Lib.hid ss.tail; clear ss
  refine bodyPost_ret (v := .agg #[.int .i64 5, .int .i64 0, .bool false, .slice none 0 0]) (by simp [results, Tryz.results57, asAddr]; exact hr) rfl ?_
  exact ansV_no ((vltShut rfl HN.out.1 HS.out).pull 1)
 ·cases y with
  | ses x s =>
   have e0 : vReveal (T.map Slt.th) ⟨kd, (k : Int), ag, ct, ot, data, more⟩ = (T.map Slt.th, noA 6) := by unfold vReveal; rw [e1]; rfl
   rw [e0]
   clear e0 e1
   have hka := fun (w : World) (X : List Assn) (s : Sat W0 w (vltL I v l t hb vb T X)) => keyAtSes hk hT s
   have HN := Lib.hid (And.intro hS hka); clear hS hT hka hk hyes
   go_enter Tryz.func57, Tryz.ntmps57
   go_wp2_with (first | (refine wpl_box rfl 27 (.tmp 1) rfl ([.int .u8 (kd : Int), .int .i64 (k : Int), .int .u8 (ag : Int), .int .i64 ct, .int .i64 ot, .slice dp dn dc, .slice ep en ec]) rfl s0 ?_; intro w1 g s1 _; clear s0) | (refine wpl_alloc_agg rfl 44 rfl s1 _ (zero_ans _) ?_; intro w2 ga s2' _; clear s1; have s2 : Sat W0 w2 (seg true g 0 ([.int .u8 (kd : Int), .int .i64 (k : Int), .int .u8 (ag : Int), .int .i64 ct, .int .i64 ot, .slice dp dn dc, .slice ep en ec]) :: seg true ga 0 ans0 :: vltL I v l t hb vb T (ledO l rs :: bytes md dp data :: bytes mm ep more :: L)) := s2'.f; clear s2'; obtain ⟨o0, o1, o2, o3, o4, o5, o6, zo⟩ := HO.out _ _ _ _ _ _ _ _ _ _ s2))
   refine (HN.out.2 _ _ (s2.f : Sat W0 w2 (vltL I v l t hb vb T (seg true ga 0 ans0 :: ledO l rs :: bytes md dp data :: bytes mm ep more :: L)))).mono ?_
   rintro e w3 ⟨rfl, s3⟩
   clear s2 o0 o1 o2 o3 o4 o5 o6 zo
   go_wp2_with fail
   refine (vCode 6 s3).mono ?_
   rintro e w4 ⟨rfl, s4⟩
   clear s3
   have sr0 : Sat W0 _ (seg true ga 0 ans0 :: vltL I v l t hb vb T (ledO l rs :: bytes md dp data :: bytes mm ep more :: L)) := s4.f
   clear s4
   go_wp2_with (refine wpl_stAns rfl rfl (.tmp 4) (.tmp 17) rfl sr0 rfl rfl ?_; intro ws ss; clear sr0)
   have hr := ansLd ss
   have HS := Lib.hid ss.tail; clear ss
   refine bodyPost_ret (v := .agg #[.int .i64 6, .int .i64 0, .bool false, .slice none 0 0]) (by simp [results, Tryz.results57, asAddr]; exact hr) rfl ?_
   exact ansV_no ((vltShut rfl HN.out.1 HS.out).pull 1)
  | key b p c =>
   have e0 : vReveal (T.map Slt.th) ⟨kd, (k : Int), ag, ct, ot, data, more⟩ = (T.map Slt.th, ⟨0, 0, false, b⟩) := by unfold vReveal; rw [e1]; rfl
   rw [e0]
   clear e0 e1
   obtain ⟨n, hn⟩ : ∃ n, n = b.length := ⟨_, rfl⟩
   have hka := fun (w : World) (X : List Assn) (s : Sat W0 w (vltL I v l t hb vb T X)) => keyAtKey hk hn.symm hT s
   have HN := Lib.hid (And.intro hS (And.intro hka (And.intro hk hn))); clear hS hT hka hk hyes hn
   go_enter Tryz.func57, Tryz.ntmps57
   go_wp2_with (first | (refine wpl_box rfl 27 (.tmp 1) rfl ([.int .u8 (kd : Int), .int .i64 (k : Int), .int .u8 (ag : Int), .int .i64 ct, .int .i64 ot, .slice dp dn dc, .slice ep en ec]) rfl s0 ?_; intro w1 g s1 _; clear s0) | (refine wpl_alloc_agg rfl 44 rfl s1 _ (zero_ans _) ?_; intro w2 ga s2' _; clear s1; have s2 : Sat W0 w2 (seg true g 0 ([.int .u8 (kd : Int), .int .i64 (k : Int), .int .u8 (ag : Int), .int .i64 ct, .int .i64 ot, .slice dp dn dc, .slice ep en ec]) :: seg true ga 0 ans0 :: vltL I v l t hb vb T (ledO l rs :: bytes md dp data :: bytes mm ep more :: L)) := s2'.f; clear s2'; obtain ⟨o0, o1, o2, o3, o4, o5, o6, zo⟩ := HO.out _ _ _ _ _ _ _ _ _ _ s2))
   refine (HN.out.2.1 _ _ (s2.f : Sat W0 w2 (vltL I v l t hb vb T (seg true ga 0 ans0 :: ledO l rs :: bytes md dp data :: bytes mm ep more :: L)))).mono ?_
   rintro e w3 ⟨rfl, s3⟩
   clear s2 o0 o1 o2 o3 o4 o5 o6 zo
   have s4 := sltOut HN.out.2.2.1 (s3.f : Sat W0 w3 (stars (T.map (Slt.A I)) :: seg true v 0 (vlC t l T) :: tabC t hb vb (heldC T) (valsC T) (seg true ga 0 ans0 :: ledO l rs :: bytes md dp data :: bytes mm ep more :: L)))
   have s5 : Sat W0 w3 (locO I (some (.key b p c)) :: memA m b :: stars ((T.map (Slt.A I)).eraseIdx k) :: seg true v 0 (vlC t l T) :: tabC t hb vb (heldC T) (valsC T) (seg true ga 0 ans0 :: ledO l rs :: bytes md dp data :: bytes mm ep more :: L)) := s4.pull 1
   have hfa : b.length ≤ c ∧ c ≤ maxLen := s5.fact fun x hx => hx.1
   have s6 : Sat W0 w3 (bytes true p b :: memA m b :: stars ((T.map (Slt.A I)).eraseIdx k) :: seg true v 0 (vlC t l T) :: tabC t hb vb (heldC T) (valsC T) (seg true ga 0 ans0 :: ledO l rs :: bytes md dp data :: bytes mm ep more :: L)) := s5.imp fun x hx => hx.2
   have hmb : b.length ≤ 1024 := by
    obtain ⟨_, _, h, _⟩ := memOpen (show Sat W0 w3 (memA m b :: _) from s6.pull 1)
    exact h
   have HB := Lib.hid (And.intro hfa hmb); clear s3 s4 s5 hfa hmb
   go_wp2_with fail
   refine (vCopied (cap := c) b HN.out.2.2.2.symm (by have := HB.out.2; have := HN.out.2.2.2; omega) s6).mono ?_
   rintro e w4 ⟨q, cq, rfl, hq1, hq2, s7⟩
   clear s6
   have HQ := Lib.hid (And.intro hq1 hq2); clear hq1 hq2
   have sr0 : Sat W0 _ (seg true ga 0 ans0 :: bytes true p b :: memA m b :: bytes true q b :: stars ((T.map (Slt.A I)).eraseIdx k) :: seg true v 0 (vlC t l T) :: tabC t hb vb (heldC T) (valsC T) (ledO l rs :: bytes md dp data :: bytes mm ep more :: L)) := s7.f
   clear s7
   go_wp2_with (refine wpl_stAns rfl rfl (.tmp 4) (.tmp 20) rfl sr0 rfl rfl ?_; intro ws ss; clear sr0)
   have hr := ansLd ss
   have HS := Lib.hid ss.tail; clear ss
   refine bodyPost_ret (v := .agg #[.int .i64 0, .int .i64 0, .bool false, .slice q n cq]) (by simp [results, Tryz.results57, asAddr]; exact hr) rfl ?_
   refine ansV_b HN.out.2.2.2.symm HQ.out.1 HQ.out.2 ?_
   have s8 : Sat W0 ws (locO I (some (.key b p c)) :: memA m b :: bytes true q b :: stars ((T.map (Slt.A I)).eraseIdx k) :: seg true v 0 (vlC t l T) :: tabC t hb vb (heldC T) (valsC T) (ledO l rs :: bytes md dp data :: bytes mm ep more :: L)) := HS.out.imp fun x hx => ⟨HB.out.1, hx⟩
   have s9 := sltIn (s' := ⟨m, some (.key b p c)⟩) HN.out.2.2.1 (s8.f : Sat W0 ws (memA m b :: locO I (some (.key b p c)) :: stars ((T.map (Slt.A I)).eraseIdx k) :: bytes true q b :: seg true v 0 (vlC t l T) :: tabC t hb vb (heldC T) (valsC T) (ledO l rs :: bytes md dp data :: bytes mm ep more :: L)))
   rw [set_same HN.out.2.2.1] at s9
   have s10 := vltShut rfl HN.out.1 (s9.f : Sat W0 ws (vltL I v l t hb vb T (ledO l rs :: bytes true q b :: bytes md dp data :: bytes mm ep more :: L)))
   exact s10.pull 1
end
end Go.Proofs.YtbefjaodpbgpcaaGreat
