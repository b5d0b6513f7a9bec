
import Derived.Test.YtbefjaodpbgpcaaGreatVs0
set_option linter.unusedVariables false
set_option linter.unusedSimpArgs false
set_option maxRecDepth 100000
set_option maxHeartbeats 16000000
namespace Go.Proofs.YtbefjaodpbgpcaaGreat
open Go.RowKit Go.Sep Go.Bv Go.Kec Go.Aes Go.Sha
def vUpdate (S : Sts SesD) (o : OpC) (rs : List Run3) : Sts SesD × Ans × List Run3 :=
 match tAt S o.handle with
 | none => (S, noA 5, rs)
 | some (.key _) => (S, noA 6, rs)
 | some (.ses x) => if 65536 < o.data.length then (S, noA 9, rs) else (S.set o.handle.toNat (some (.ses { x with msg := x.msg ++ o.data })), ⟨0, 0, false, []⟩, noteN rs x.K.ek (x.K.es x.key.length) (x.K.blk (x.msg.length + o.data.length) - x.K.blk x.msg.length))
def vFinish (S : Sts SesD) (o : OpC) (rs : List Run3) : Sts SesD × Ans × List Run3 :=
 match tAt S o.handle with
 | none => (S, noA 5, rs)
 | some (.key _) => (S, noA 6, rs)
 | some (.ses x) => (S.set o.handle.toNat none, ⟨0, 0, false, x.K.tag x.key x.custom x.out x.msg⟩, note (noteN rs x.K.ek (x.K.es x.key.length) (x.K.fin x.msg.length x.out)) 8 1024 1)
def vVerify (S : Sts SesD) (o : OpC) (rs : List Run3) : Sts SesD × Ans × List Run3 :=
 match tAt S o.handle with
 | none => (S, noA 5, rs)
 | some (.key _) => (S, noA 6, rs)
 | some (.ses x) => if o.data.length = x.out then (S.set o.handle.toNat none, ⟨0, 0, decide (x.K.tag x.key x.custom x.out x.msg = o.data), []⟩, note (note (noteN rs x.K.ek (x.K.es x.key.length) (x.K.fin x.msg.length x.out)) 6 (x.out : Int) 1) 8 1024 1) else (S, noA 11, rs)
def vDrop (S : Sts SesD) (o : OpC) (rs : List Run3) : Sts SesD × Ans × List Run3 :=
 match tAt S o.handle with
 | none => (S, noA 5, rs)
 | some _ => (S.set o.handle.toNat none, ⟨0, 0, false, []⟩, note rs 8 1024 1)
theorem vUpdateW {W0 w : World} {L : List Assn} {v : Nat} {l : Option Nat} {rs : List Run3} {md mm : Bool} {dp ep : Option Addr} {dn dc en ec : Nat} {B : Nat} (S : Sts SesD) (kd : Nat) (hd : Int) (ag : Nat) (ct ot : Int) (data more : List Byte) (hV : okV B S) (hB : B + 65536 ≤ 1000000000) (hR : Roomy rs) (hdn : data.length = dn) (hdc : dn ≤ dc) (hdm : dc ≤ maxLen)
  (hs : Sat W0 w (ledO l rs :: vlt sesI v l S :: bytes md dp data :: bytes mm ep more :: L)) :
  Calls Tryz.prog 51 #[.pointer (some ⟨v, 0, none⟩), .agg #[.int .u8 (kd : Int), .int .i64 hd, .int .u8 (ag : Int), .int .i64 ct, .int .i64 ot, .slice dp dn dc, .slice ep en ec]] w fun e w' => ansV sesI W0 v l (vUpdate S ⟨kd, hd, ag, ct, ot, data, more⟩ rs) (bytes md dp data :: bytes mm ep more :: L) e w' := by
 obtain ⟨t, hb, vb, T, rfl, hS, hT, s0'⟩ := vltOpen (show Sat W0 w (vlt sesI v l S :: ledO l rs :: bytes md dp data :: bytes mm ep more :: L) from hs.pull 1)
 have s0 : Sat W0 w (vltL sesI v l t hb vb T (ledO l rs :: bytes md dp data :: bytes mm ep more :: L)) := s0'.f
 clear hs s0'
 have HO := Lib.hid (hOp W0)
 have hErr : ∀ z : Int, z ≠ 0 → (∀ (w : World) (X : List Assn), Sat W0 w (vltL sesI v l t hb vb T X) → Calls Tryz.prog 75 #[.pointer (some ⟨v, 0, none⟩), .int .i64 hd] w fun e w' => e = .returned (.tuple #[.agg #[.pointer none], .int .i64 z]) ∧ Sat W0 w' (vltL sesI v l t hb vb T X)) →
   Calls Tryz.prog 51 #[.pointer (some ⟨v, 0, none⟩), .agg #[.int .u8 (kd : Int), .int .i64 hd, .int .u8 (ag : Int), .int .i64 ct, .int .i64 ot, .slice dp dn dc, .slice ep en ec]] w fun e w' => ansV sesI W0 v l (T.map Slt.th, noA z, rs) (bytes md dp data :: bytes mm ep more :: L) e w' := by
  intro z hz hka
  have hzc : (z != 0) = true := by rw [bne_iff_ne]; exact hz
  have HN := Lib.hid (And.intro hS hka); clear hS hT hka hV hB hR hz
  go_enter Tryz.func51, Tryz.ntmps51
  go_wp2_with (first | (refine wpl_box rfl 27 (.tmp 1) rfl (opC kd hd ag ct ot dp dn dc ep en ec) rfl s0 ?_; intro w1 g s1 _; clear s0) | (refine wpl_alloc_agg rfl 44 rfl s1 _ (zero_ans _) ?_; intro w2 ga s2' _; clear s1; have s2 : Sat W0 w2 (seg true g 0 (opC kd hd ag ct ot dp dn dc ep en ec) :: seg true ga 0 ans0 :: vltL sesI v l t hb vb T (ledO l rs :: bytes md dp data :: bytes mm ep more :: L)) := s2'.f; clear s2'; obtain ⟨o0, o1, o2, o3, o4, o5, o6, zo⟩ := HO.out _ _ _ _ _ _ _ _ _ _ s2))
  refine (HN.out.2 _ _ (s2.f : Sat W0 w2 (vltL sesI v l t hb vb T (seg true g 0 (opC kd hd ag ct ot dp dn dc ep en ec) :: seg true ga 0 ans0 :: ledO l rs :: bytes md dp data :: bytes mm ep more :: L)))).mono ?_
  rintro e w3 ⟨rfl, s3'⟩
  have s3 : Sat W0 w3 (seg true g 0 (opC kd hd ag ct ot dp dn dc ep en ec) :: seg true ga 0 ans0 :: vltL sesI v l t hb vb T (ledO l rs :: bytes md dp data :: bytes mm ep more :: L)) := s3'.f
  clear s2 s3' o0 o1 o2 o3 o4 o5 o6 zo
  go_wp2_with (first | (refine wpl_alloc_agg rfl 136 rfl s3 [.pointer none] (by kernel_rfl) ?_; intro w4 g5 s4 _; clear s3) | (refine wpl_store_agg rfl rfl 136 (.tmp 5) (.tmp 13) rfl (cs := [.pointer none]) s4 0 0 Tryz.size_ses rfl rfl rfl (Nat.le_refl 1) (fun v hv => by simp at hv; subst hv; rfl) ?_; intro w5 s5; rw [setL_all _ _ (by rfl)] at s5; clear s4; have s5o : Sat W0 w5 (seg true g 0 (opC kd hd ag ct ot dp dn dc ep en ec) :: []) := s5.f; obtain ⟨o0, o1, o2, o3, o4, o5, o6, zo⟩ := HO.out _ _ _ _ _ _ _ _ _ _ s5o; clear s5o))
  refine (vCode z s5).mono ?_
  rintro e wE ⟨rfl, sE⟩
  clear s5
  have sr0 : Sat W0 _ (seg true ga 0 ans0 :: vltL sesI v l t hb vb T (ledO l rs :: bytes md dp data :: bytes mm ep more :: L)) := sE.f
  clear sE
  go_wp2_with (refine wpl_stAns rfl rfl (.tmp 4) (.tmp 18) rfl sr0 rfl rfl ?_; intro ws ss; clear sr0)
  have hr := ansLd ss
  have HS := Lib.hid ss.tail; clear ss
  refine bodyPost_ret (v := .agg #[.int .i64 z, .int .i64 0, .bool false, .slice none 0 0]) (by simp [results, Tryz.results51, asAddr]; exact hr) rfl ?_
  exact ansV_no ((vltShut rfl HN.out.1 HS.out).pull 1)
 rcases tAt_cases T hT hd with ⟨e1, hno⟩ | ⟨k, m, y, rfl, hk64, hk, e1, hyes⟩
 ·rw [show vUpdate (T.map Slt.th) ⟨kd, hd, ag, ct, ot, data, more⟩ rs = (T.map Slt.th, noA 5, rs) by unfold vUpdate; rw [e1]]
  exact hErr 5 (by decide) fun w X s => sesAtNo hd hno hT s
 ·cases y with
  | key b p c =>
   rw [show vUpdate (T.map Slt.th) ⟨kd, (k : Int), ag, ct, ot, data, more⟩ rs = (T.map Slt.th, noA 6, rs) by unfold vUpdate; rw [e1]; rfl]
   exact hErr 6 (by decide) fun w X s => sesAtKey hk hT s
  | ses x s =>
   clear hErr
   have hx := okV_ses hV hk
   have hka := fun (w : World) (X : List Assn) (s : Sat W0 w (vltL sesI v l t hb vb T X)) => sesAtSes hk hT s
   by_cases hlt : 65536 < dn
   ·have e0 : vUpdate (T.map Slt.th) ⟨kd, (k : Int), ag, ct, ot, data, more⟩ rs = (T.map Slt.th, noA 9, rs) := by unfold vUpdate; rw [e1]; exact if_pos (by rw [hdn]; exact hlt)
    rw [e0]
    clear e0 e1
    have HN := Lib.hid (And.intro hS hka); clear hS hT hka hk hyes hV hB hR
    have hlI : (65536 : Int) < (dn : Int) := by omega
    go_enter Tryz.func51, Tryz.ntmps51
    go_wp2_with (first | (refine wpl_box rfl 27 (.tmp 1) rfl (opC kd (k : Int) ag ct ot dp dn dc ep en ec) rfl s0 ?_; intro w1 g s1 _; clear s0) | (refine wpl_alloc_agg rfl 44 rfl s1 _ (zero_ans _) ?_; intro w2 ga s2' _; clear s1; have s2 : Sat W0 w2 (seg true g 0 (opC kd (k : Int) ag ct ot dp dn dc ep en ec) :: seg true ga 0 ans0 :: vltL sesI v l t hb vb T (ledO l rs :: bytes md dp data :: bytes mm ep more :: L)) := s2'.f; clear s2'; obtain ⟨o0, o1, o2, o3, o4, o5, o6, zo⟩ := HO.out _ _ _ _ _ _ _ _ _ _ s2))
    refine (HN.out.2 _ _ (s2.f : Sat W0 w2 (vltL sesI v l t hb vb T (seg true g 0 (opC kd (k : Int) ag ct ot dp dn dc ep en ec) :: seg true ga 0 ans0 :: ledO l rs :: bytes md dp data :: bytes mm ep more :: L)))).mono ?_
    rintro e w3 ⟨rfl, s3'⟩
    have s3 : Sat W0 w3 (seg true g 0 (opC kd (k : Int) ag ct ot dp dn dc ep en ec) :: seg true ga 0 ans0 :: vltL sesI v l t hb vb T (ledO l rs :: bytes md dp data :: bytes mm ep more :: L)) := s3'.f
    clear s2 s3' o0 o1 o2 o3 o4 o5 o6 zo
    go_wp2_with (first | (refine wpl_alloc_agg rfl 136 rfl s3 [.pointer none] (by kernel_rfl) ?_; intro w4 g5 s4 _; clear s3) | (refine wpl_store_agg rfl rfl 136 (.tmp 5) (.tmp 13) rfl (cs := [.pointer (some ⟨s, 0, none⟩)]) s4 0 0 Tryz.size_ses rfl rfl rfl (Nat.le_refl 1) (fun v hv => by simp at hv; subst hv; rfl) ?_; intro w5 s5; rw [setL_all _ _ (by rfl)] at s5; clear s4; have s5o : Sat W0 w5 (seg true g 0 (opC kd (k : Int) ag ct ot dp dn dc ep en ec) :: []) := s5.f; obtain ⟨o0, o1, o2, o3, o4, o5, o6, zo⟩ := HO.out _ _ _ _ _ _ _ _ _ _ s5o; clear s5o))
    have s6 : Sat W0 w5 (seg true g 0 (opC kd (k : Int) ag ct ot dp dn dc ep en ec) :: seg true g5 0 [.pointer (some ⟨s, 0, none⟩)] :: seg true ga 0 ans0 :: vltL sesI v l t hb vb T (ledO l rs :: bytes md dp data :: bytes mm ep more :: L)) := s5.f
    clear s5
    obtain ⟨o0, o1, o2, o3, o4, o5, o6, zo⟩ := HO.out _ _ _ _ _ _ _ _ _ _ s6
    try (go_wp2_with fail)
    clear o0 o1 o2 o3 o4 o5 o6 zo
    refine (vCode 9 s6).mono ?_
    rintro e wE ⟨rfl, sE⟩
    clear s6
    have sr0 : Sat W0 _ (seg true ga 0 ans0 :: vltL sesI v l t hb vb T (ledO l rs :: bytes md dp data :: bytes mm ep more :: L)) := sE.f
    clear sE
    go_wp2_with (refine wpl_stAns rfl rfl (.tmp 4) (.tmp 23) rfl sr0 rfl rfl ?_; intro ws ss; clear sr0)
    have hr := ansLd ss
    have HS := Lib.hid ss.tail; clear ss
    refine bodyPost_ret (v := .agg #[.int .i64 9, .int .i64 0, .bool false, .slice none 0 0]) (by simp [results, Tryz.results51, asAddr]; exact hr) rfl ?_
    exact ansV_no ((vltShut rfl HN.out.1 HS.out).pull 1)
   ·have e0 : vUpdate (T.map Slt.th) ⟨kd, (k : Int), ag, ct, ot, data, more⟩ rs = ((T.map Slt.th).set k (some (.ses { x with msg := x.msg ++ data })), ⟨0, 0, false, []⟩, noteN rs x.K.ek (x.K.es x.key.length) (x.K.blk (x.msg.length + dn) - x.K.blk x.msg.length)) := by
     unfold vUpdate; rw [e1]
     refine (if_neg (by rw [hdn]; exact hlt)).trans ?_
     rw [Int.toNat_natCast, hdn]
    rw [e0]
    clear e0 e1
    have hwr := fun (w : World) (X : List Assn) (h : Sat W0 w (ledO l rs :: bytes md dp data :: sesI.A x s :: X)) => macWrite (pv := ptrO l) x.K l rs x.key x.custom x.msg data rfl hx.1 hR hdn hdc hdm (by have := hx.2.2; omega) h
    have hfo := fun (w : World) (X : List Assn) (h : Sat W0 w (sesI.A { x with msg := x.msg ++ data } s :: X)) => sFormW (B := B + 65536) { x with msg := x.msg ++ data } ⟨hx.1, hx.2.1, by show (x.msg ++ data).length ≤ _; rw [List.length_append]; have := hx.2.2; omega⟩ (by omega) h
    have hmC := fun (wx : World) (X : List Assn) (s : Sat W0 wx (seg true v 0 (vlC t l T) :: X)) => s.at (k + 2) (vlC_slot hk)
    have HN := Lib.hid (And.intro hS (And.intro hka (And.intro hk (And.intro hwr (And.intro hfo hmC))))); clear hS hT hka hk hyes hV hB hR hwr hfo hmC hx
    have hlI : ¬ (65536 : Int) < (dn : Int) := by omega
    have hkI : (k : Int) < 64 := by omega
    go_enter Tryz.func51, Tryz.ntmps51
    go_wp2_with (first | (refine wpl_box rfl 27 (.tmp 1) rfl (opC kd (k : Int) ag ct ot dp dn dc ep en ec) rfl s0 ?_; intro w1 g s1 _; clear s0) | (refine wpl_alloc_agg rfl 44 rfl s1 _ (zero_ans _) ?_; intro w2 ga s2' _; clear s1; have s2 : Sat W0 w2 (seg true g 0 (opC kd (k : Int) ag ct ot dp dn dc ep en ec) :: seg true ga 0 ans0 :: vltL sesI v l t hb vb T (ledO l rs :: bytes md dp data :: bytes mm ep more :: L)) := s2'.f; clear s2'; obtain ⟨o0, o1, o2, o3, o4, o5, o6, zo⟩ := HO.out _ _ _ _ _ _ _ _ _ _ s2))
    refine (HN.out.2.1 _ _ (s2.f : Sat W0 w2 (vltL sesI v l t hb vb T (seg true g 0 (opC kd (k : Int) ag ct ot dp dn dc ep en ec) :: seg true ga 0 ans0 :: ledO l rs :: bytes md dp data :: bytes mm ep more :: L)))).mono ?_
    rintro e w3 ⟨rfl, s3'⟩
    have s3 : Sat W0 w3 (seg true g 0 (opC kd (k : Int) ag ct ot dp dn dc ep en ec) :: seg true ga 0 ans0 :: vltL sesI v l t hb vb T (ledO l rs :: bytes md dp data :: bytes mm ep more :: L)) := s3'.f
    clear s2 s3' o0 o1 o2 o3 o4 o5 o6 zo
    go_wp2_with (first | (refine wpl_alloc_agg rfl 136 rfl s3 [.pointer none] (by kernel_rfl) ?_; intro w4 g5 s4 _; clear s3) | (refine wpl_store_agg rfl rfl 136 (.tmp 5) (.tmp 13) rfl (cs := [.pointer (some ⟨s, 0, none⟩)]) s4 0 0 Tryz.size_ses rfl rfl rfl (Nat.le_refl 1) (fun v hv => by simp at hv; subst hv; rfl) ?_; intro w5 s5; rw [setL_all _ _ (by rfl)] at s5; clear s4; have s5o : Sat W0 w5 (seg true g 0 (opC kd (k : Int) ag ct ot dp dn dc ep en ec) :: []) := s5.f; obtain ⟨o0, o1, o2, o3, o4, o5, o6, zo⟩ := HO.out _ _ _ _ _ _ _ _ _ _ s5o; clear s5o))
    have s6 : Sat W0 w5 (seg true g 0 (opC kd (k : Int) ag ct ot dp dn dc ep en ec) :: seg true g5 0 [.pointer (some ⟨s, 0, none⟩)] :: seg true ga 0 ans0 :: vltL sesI v l t hb vb T (ledO l rs :: bytes md dp data :: bytes mm ep more :: L)) := s5.f
    obtain ⟨o0, o1, o2, o3, o4, o5, o6, zo⟩ := HO.out _ _ _ _ _ _ _ _ _ _ s6
    clear s6
    have hCf := fun (w' : World) (X : List Assn) (h : Sat W0 w' (seg true g5 0 [.pointer (some ⟨s, 0, none⟩)] :: seg true v 0 (vlC t l T) :: seg true g 0 (opC kd (k : Int) ag ct ot dp dn dc ep en ec) :: X)) => (by
     have h1 := h.pull 1
     have h2 := h.pull 2
     exact ⟨h.at 0 rfl, h.lt (by simp), Sat.at h1 1 rfl, Sat.lt h1 (by simp [vlC]), Sat.at h2 1 rfl, Sat.at h2 5 rfl, Sat.lt h2 (by simp)⟩ : w'.cell? ⟨g5, 0, none⟩ = some (.pointer (some ⟨s, 0, none⟩)) ∧ g5 < w'.heap.size ∧ w'.cell? ⟨v, 1, none⟩ = some (ptrO l) ∧ v < w'.heap.size ∧ w'.cell? ⟨g, 1, none⟩ = some (.int .i64 (k : Int)) ∧ w'.cell? ⟨g, 5, none⟩ = some (.slice dp dn dc) ∧ g < w'.heap.size)
    have HC := Lib.hid hCf; clear hCf
    have s6a := sltOut HN.out.2.2.1 (s5.f : Sat W0 w5 (stars (T.map (Slt.A sesI)) :: seg true g5 0 [.pointer (some ⟨s, 0, none⟩)] :: seg true v 0 (vlC t l T) :: seg true g 0 (opC kd (k : Int) ag ct ot dp dn dc ep en ec) :: tabC t hb vb (heldC T) (valsC T) (seg true ga 0 ans0 :: ledO l rs :: bytes md dp data :: bytes mm ep more :: L)))
    have s6 : Sat W0 w5 (memA m (sesI.form x) :: sesI.A x s :: stars ((T.map (Slt.A sesI)).eraseIdx k) :: seg true g5 0 [.pointer (some ⟨s, 0, none⟩)] :: seg true v 0 (vlC t l T) :: seg true g 0 (opC kd (k : Int) ag ct ot dp dn dc ep en ec) :: tabC t hb vb (heldC T) (valsC T) (seg true ga 0 ans0 :: ledO l rs :: bytes md dp data :: bytes mm ep more :: L)) := s6a
    have s7 : Sat W0 w5 (seg true g5 0 [.pointer (some ⟨s, 0, none⟩)] :: seg true v 0 (vlC t l T) :: seg true g 0 (opC kd (k : Int) ag ct ot dp dn dc ep en ec) :: memA m (sesI.form x) :: sesI.A x s :: ledO l rs :: stars ((T.map (Slt.A sesI)).eraseIdx k) :: tabC t hb vb (heldC T) (valsC T) (seg true ga 0 ans0 :: bytes md dp data :: bytes mm ep more :: L)) := s6.f
    clear s5 s6 s6a
    try (go_wp2_with fail)
    clear o0 o1 o2 o3 o4 o5 o6 zo
    have sd := s7.drew
    clear s7
    refine region_E (fun w' => w'.cell? ⟨g5, 0, none⟩ = some (.pointer (some ⟨s, 0, none⟩)) ∧ g5 < w'.heap.size ∧ w'.cell? ⟨v, 1, none⟩ = some (ptrO l) ∧ v < w'.heap.size ∧ w'.cell? ⟨g, 1, none⟩ = some (.int .i64 (k : Int)) ∧ w'.cell? ⟨g, 5, none⟩ = some (.slice dp dn dc) ∧ g < w'.heap.size) [1, 5, 7] (by kernel_rfl) ?_
    have hHeld := HC.out _ _ sd
    iterate 8
     first | refine autoT' hHeld (h := ?_) | refine autoP' (h := ?_)
     try simp only [pA1, pA2, pA3, pA4]
    refine anyE_last' (i := 8) (h := fun K hK => ?_)
    go_simp
    refine (HN.out.2.2.2.1 _ _ (sd.f : Sat W0 _ (ledO l rs :: bytes md dp data :: sesI.A x s :: seg true g5 0 [.pointer (some ⟨s, 0, none⟩)] :: seg true v 0 (vlC t l T) :: seg true g 0 (opC kd (k : Int) ag ct ot dp dn dc ep en ec) :: memA m (sesI.form x) :: stars ((T.map (Slt.A sesI)).eraseIdx k) :: tabC t hb vb (heldC T) (valsC T) (seg true ga 0 ans0 :: bytes mm ep more :: L)))).mono ?_
    rintro e w6 ⟨rfl, s8⟩
    clear sd
    go_wp2_with fail
    refine hK.out _ _ ?_
    clear hK K
    try simp only [pA1, pA2, pA3, pA4]
    iterate 1
     first | refine autoT' hHeld (h := ?_) | refine autoP' (h := ?_)
     try simp only [pA1, pA2, pA3, pA4]
    refine anyE_done (by kernel_rfl) ?_ _
    clear hHeld
    obtain ⟨R, hRr⟩ : ∃ R, R = noteN rs x.K.ek (x.K.es x.key.length) (x.K.blk (x.msg.length + dn) - x.K.blk x.msg.length) := ⟨_, rfl⟩
    rw [← hRr, show ses x.K s x.key x.custom x.out (x.msg ++ data) = sesI.A { x with msg := x.msg ++ data } s from rfl] at s8
    have s9 : Sat W0 w6 (seg true g5 0 [.pointer (some ⟨s, 0, none⟩)] :: seg true v 0 (vlC t l T) :: seg true g 0 (opC kd (k : Int) ag ct ot dp dn dc ep en ec) :: memA m (sesI.form x) :: sesI.A { x with msg := x.msg ++ data } s :: ledO l R :: stars ((T.map (Slt.A sesI)).eraseIdx k) :: tabC t hb vb (heldC T) (valsC T) (seg true ga 0 ans0 :: bytes md dp data :: bytes mm ep more :: L)) := s8.f
    have HR := Lib.hid hRr; clear s8 hRr
    go_wp2_with fail
    have sd := s9.drew
    clear s9
    have hk0 : w6.drew.cell? ⟨v, 2 + k, none⟩ = some (.pointer (some ⟨m, 0, none⟩)) ∧ w6.drew.cell? ⟨g5, 0, none⟩ = some (.pointer (some ⟨s, 0, none⟩)) ∧ g5 < w6.drew.heap.size ∧ w6.drew.cell? ⟨v, 1, none⟩ = some (ptrO l) ∧ v < w6.drew.heap.size ∧ w6.drew.cell? ⟨g, 1, none⟩ = some (.int .i64 (k : Int)) ∧ w6.drew.cell? ⟨g, 5, none⟩ = some (.slice dp dn dc) ∧ g < w6.drew.heap.size := ⟨by rw [Nat.add_comm]; exact HN.out.2.2.2.2.2 _ _ (sd.pull 1), HC.out _ _ sd⟩
    refine region_E (fun w' => w'.cell? ⟨v, 2 + k, none⟩ = some (.pointer (some ⟨m, 0, none⟩)) ∧ w'.cell? ⟨g5, 0, none⟩ = some (.pointer (some ⟨s, 0, none⟩)) ∧ g5 < w'.heap.size ∧ w'.cell? ⟨v, 1, none⟩ = some (ptrO l) ∧ v < w'.heap.size ∧ w'.cell? ⟨g, 1, none⟩ = some (.int .i64 (k : Int)) ∧ w'.cell? ⟨g, 5, none⟩ = some (.slice dp dn dc) ∧ g < w'.heap.size) [2, 6, 7] (by kernel_rfl) ?_
    have hHeld := hk0
    iterate 8
     first | refine autoT' hHeld (h := ?_) | refine autoP' (h := ?_)
     try simp only [pA1, pA2, pA3, pA4]
    refine anyE_one' (i := 8) (h := fun K hK => ?_)
    go_simp
    refine (HN.out.2.2.2.2.1 _ _ (sd.f : Sat W0 _ (sesI.A { x with msg := x.msg ++ data } s :: seg true g5 0 [.pointer (some ⟨s, 0, none⟩)] :: seg true v 0 (vlC t l T) :: seg true g 0 (opC kd (k : Int) ag ct ot dp dn dc ep en ec) :: memA m (sesI.form x) :: ledO l R :: stars ((T.map (Slt.A sesI)).eraseIdx k) :: tabC t hb vb (heldC T) (valsC T) (seg true ga 0 ans0 :: bytes md dp data :: bytes mm ep more :: L)))).mono ?_
    rintro e w7 ⟨q, n, c, rfl, hfn, hf4, sx'⟩
    have sx : Sat W0 w7 (seg true g5 0 [.pointer (some ⟨s, 0, none⟩)] :: seg true v 0 (vlC t l T) :: seg true g 0 (opC kd (k : Int) ag ct ot dp dn dc ep en ec) :: memA m (sesI.form x) :: bytes true q (sesI.form { x with msg := x.msg ++ data }) :: sesI.A { x with msg := x.msg ++ data } s :: ledO l R :: stars ((T.map (Slt.A sesI)).eraseIdx k) :: tabC t hb vb (heldC T) (valsC T) (seg true ga 0 ans0 :: bytes md dp data :: bytes mm ep more :: L)) := sx'.f
    have hk7 : w7.cell? ⟨v, 2 + k, none⟩ = some (.pointer (some ⟨m, 0, none⟩)) ∧ w7.cell? ⟨g5, 0, none⟩ = some (.pointer (some ⟨s, 0, none⟩)) ∧ g5 < w7.heap.size ∧ w7.cell? ⟨v, 1, none⟩ = some (ptrO l) ∧ v < w7.heap.size ∧ w7.cell? ⟨g, 1, none⟩ = some (.int .i64 (k : Int)) ∧ w7.cell? ⟨g, 5, none⟩ = some (.slice dp dn dc) ∧ g < w7.heap.size := ⟨by rw [Nat.add_comm]; exact HN.out.2.2.2.2.2 _ _ (sx.pull 1), HC.out _ _ sx⟩
    clear sd sx' hk0
    go_wp2_with fail
    refine hK.out _ _ hk7 ?_
    clear hK K hHeld
    have hHeld := hk7
    try simp only [pA1, pA2, pA3, pA4]
    refine anyE_one' (i := 9) (h := fun K hK => ?_)
    go_simp
    refine (memPut (m := m) (sesI.form { x with msg := x.msg ++ data }) hfn hf4 (sx.f : Sat W0 w7 (memA m (sesI.form x) :: bytes true q (sesI.form { x with msg := x.msg ++ data }) :: seg true g5 0 [.pointer (some ⟨s, 0, none⟩)] :: seg true v 0 (vlC t l T) :: seg true g 0 (opC kd (k : Int) ag ct ot dp dn dc ep en ec) :: sesI.A { x with msg := x.msg ++ data } s :: ledO l R :: stars ((T.map (Slt.A sesI)).eraseIdx k) :: tabC t hb vb (heldC T) (valsC T) (seg true ga 0 ans0 :: bytes md dp data :: bytes mm ep more :: L)))).mono ?_
    rintro e w8 ⟨rfl, sy'⟩
    have sy : Sat W0 w8 (seg true g5 0 [.pointer (some ⟨s, 0, none⟩)] :: seg true v 0 (vlC t l T) :: seg true g 0 (opC kd (k : Int) ag ct ot dp dn dc ep en ec) :: memA m (sesI.form { x with msg := x.msg ++ data }) :: sesI.A { x with msg := x.msg ++ data } s :: ledO l R :: stars ((T.map (Slt.A sesI)).eraseIdx k) :: tabC t hb vb (heldC T) (valsC T) (seg true ga 0 ans0 :: bytes md dp data :: bytes mm ep more :: L)) := sy'.f
    have hk8 : w8.cell? ⟨v, 2 + k, none⟩ = some (.pointer (some ⟨m, 0, none⟩)) ∧ w8.cell? ⟨g5, 0, none⟩ = some (.pointer (some ⟨s, 0, none⟩)) ∧ g5 < w8.heap.size ∧ w8.cell? ⟨v, 1, none⟩ = some (ptrO l) ∧ v < w8.heap.size ∧ w8.cell? ⟨g, 1, none⟩ = some (.int .i64 (k : Int)) ∧ w8.cell? ⟨g, 5, none⟩ = some (.slice dp dn dc) ∧ g < w8.heap.size := ⟨by rw [Nat.add_comm]; exact HN.out.2.2.2.2.2 _ _ (sy.pull 1), HC.out _ _ sy⟩
    clear sx sy' hk7 hfn hf4
    go_wp2_with fail
    refine hK.out _ _ hk8 ?_
    clear hK K hHeld
    have hHeld := hk8
    try simp only [pA1, pA2, pA3, pA4]
    refine anyE_done (by kernel_rfl) ?_ _
    clear hHeld hk8
    go_wp2_with fail
    refine (vCode 0 sy).mono ?_
    rintro e w9 ⟨rfl, sz⟩
    clear sy
    have sr0 : Sat W0 _ (seg true ga 0 ans0 :: memA m (sesI.form { x with msg := x.msg ++ data }) :: sesI.A { x with msg := x.msg ++ data } s :: stars ((T.map (Slt.A sesI)).eraseIdx k) :: seg true v 0 (vlC t l T) :: ledO l R :: tabC t hb vb (heldC T) (valsC T) (bytes md dp data :: bytes mm ep more :: L)) := sz.f
    clear sz
    go_wp2_with (refine wpl_stAns rfl rfl (.tmp 4) (.tmp 47) rfl sr0 rfl rfl ?_; intro ws ss; clear sr0)
    have hr := ansLd ss
    have HS := Lib.hid ss.tail; clear ss
    refine bodyPost_ret (v := .agg #[.int .i64 0, .int .i64 0, .bool false, .slice none 0 0]) (by simp [results, Tryz.results51, asAddr]; exact hr) rfl ?_
    rw [← HR.out]
    have s10 := sltIn (s' := ⟨m, some (.ses { x with msg := x.msg ++ data } s)⟩) HN.out.2.2.1 HS.out
    have e2 : heldC (T.set k ⟨m, some (.ses { x with msg := x.msg ++ data } s)⟩) = heldC T := by
     rw [heldC_set]
     refine set_same ?_
     unfold heldC
     rw [List.getElem?_map, HN.out.2.2.1]; rfl
    have e3 : valsC (T.set k ⟨m, some (.ses { x with msg := x.msg ++ data } s)⟩) = valsC T := by
     rw [valsC_set]
     refine set_same ?_
     rw [valsC_get HN.out.2.2.1]; rfl
    have e4 := vlC_set (t := t) (l := l) (s' := ⟨m, some (.ses { x with msg := x.msg ++ data } s)⟩) HN.out.2.2.1 rfl
    have s11 : Sat W0 ws (vltL sesI v l t hb vb (T.set k ⟨m, some (.ses { x with msg := x.msg ++ data } s)⟩) (ledO l R :: bytes md dp data :: bytes mm ep more :: L)) := by
     unfold vltL
     rw [e2, e3, e4]
     exact s10.f
    have e5 : (T.set k ⟨m, some (.ses { x with msg := x.msg ++ data } s)⟩).map Slt.th = (T.map Slt.th).set k (some (.ses { x with msg := x.msg ++ data })) := th_set _ _ _
    exact ansV_s ((vltShut e5 (by rw [List.length_set]; exact HN.out.1) s11).pull 1)
theorem vFinishW {W0 w : World} {L : List Assn} {v : Nat} {l : Option Nat} {rs : List Run3} {md mm : Bool} {dp ep : Option Addr} {dn dc en ec : Nat} {B : Nat} (S : Sts SesD) (kd : Nat) (hd : Int) (ag : Nat) (ct ot : Int) (data more : List Byte) (hV : okV B S) (hB : B + 65536 ≤ 1000000000) (hR : Roomy rs) (hdn : data.length = dn) (hdc : dn ≤ dc) (hdm : dc ≤ maxLen)
  (hs : Sat W0 w (ledO l rs :: vlt sesI v l S :: bytes md dp data :: bytes mm ep more :: L)) :
  Calls Tryz.prog 52 #[.pointer (some ⟨v, 0, none⟩), .agg #[.int .u8 (kd : Int), .int .i64 hd, .int .u8 (ag : Int), .int .i64 ct, .int .i64 ot, .slice dp dn dc, .slice ep en ec]] w fun e w' => ansV sesI W0 v l (vFinish S ⟨kd, hd, ag, ct, ot, data, more⟩ rs) (bytes md dp data :: bytes mm ep more :: L) e w' := by
 obtain ⟨t, hb, vb, T, rfl, hS, hT, s0'⟩ := vltOpen (show Sat W0 w (vlt sesI v l S :: ledO l rs :: bytes md dp data :: bytes mm ep more :: L) from hs.pull 1)
 have s0 : Sat W0 w (vltL sesI v l t hb vb T (ledO l rs :: bytes md dp data :: bytes mm ep more :: L)) := s0'.f
 clear hs s0'
 have HO := Lib.hid (hOp W0)
 have hErr : ∀ z : Int, z ≠ 0 → (∀ (w : World) (X : List Assn), Sat W0 w (vltL sesI v l t hb vb T X) → Calls Tryz.prog 75 #[.pointer (some ⟨v, 0, none⟩), .int .i64 hd] w fun e w' => e = .returned (.tuple #[.agg #[.pointer none], .int .i64 z]) ∧ Sat W0 w' (vltL sesI v l t hb vb T X)) →
   Calls Tryz.prog 52 #[.pointer (some ⟨v, 0, none⟩), .agg #[.int .u8 (kd : Int), .int .i64 hd, .int .u8 (ag : Int), .int .i64 ct, .int .i64 ot, .slice dp dn dc, .slice ep en ec]] w fun e w' => ansV sesI W0 v l (T.map Slt.th, noA z, rs) (bytes md dp data :: bytes mm ep more :: L) e w' := by
  intro z hz hka
  have hzc : (z != 0) = true := by rw [bne_iff_ne]; exact hz
  have HN := Lib.hid (And.intro hS hka); clear hS hT hka hV hB hR hz
  go_enter Tryz.func52, Tryz.ntmps52
  go_wp2_with (first | (refine wpl_box rfl 27 (.tmp 1) rfl (opC kd hd ag ct ot dp dn dc ep en ec) rfl s0 ?_; intro w1 g s1 _; clear s0) | (refine wpl_alloc_agg rfl 44 rfl s1 _ (zero_ans _) ?_; intro w2 ga s2' _; clear s1; have s2 : Sat W0 w2 (seg true g 0 (opC kd hd ag ct ot dp dn dc ep en ec) :: seg true ga 0 ans0 :: vltL sesI v l t hb vb T (ledO l rs :: bytes md dp data :: bytes mm ep more :: L)) := s2'.f; clear s2'; obtain ⟨o0, o1, o2, o3, o4, o5, o6, zo⟩ := HO.out _ _ _ _ _ _ _ _ _ _ s2))
  refine (HN.out.2 _ _ (s2.f : Sat W0 w2 (vltL sesI v l t hb vb T (seg true g 0 (opC kd hd ag ct ot dp dn dc ep en ec) :: seg true ga 0 ans0 :: ledO l rs :: bytes md dp data :: bytes mm ep more :: L)))).mono ?_
  rintro e w3 ⟨rfl, s3'⟩
  have s3 : Sat W0 w3 (seg true g 0 (opC kd hd ag ct ot dp dn dc ep en ec) :: seg true ga 0 ans0 :: vltL sesI v l t hb vb T (ledO l rs :: bytes md dp data :: bytes mm ep more :: L)) := s3'.f
  clear s2 s3' o0 o1 o2 o3 o4 o5 o6 zo
  go_wp2_with (first | (refine wpl_alloc_agg rfl 136 rfl s3 [.pointer none] (by kernel_rfl) ?_; intro w4 g5 s4 _; clear s3) | (refine wpl_store_agg rfl rfl 136 (.tmp 5) (.tmp 13) rfl (cs := [.pointer none]) s4 0 0 Tryz.size_ses rfl rfl rfl (Nat.le_refl 1) (fun v hv => by simp at hv; subst hv; rfl) ?_; intro w5 s5; rw [setL_all _ _ (by rfl)] at s5; clear s4; have s5o : Sat W0 w5 (seg true g 0 (opC kd hd ag ct ot dp dn dc ep en ec) :: []) := s5.f; obtain ⟨o0, o1, o2, o3, o4, o5, o6, zo⟩ := HO.out _ _ _ _ _ _ _ _ _ _ s5o; clear s5o))
  refine (vCode z s5).mono ?_
  rintro e wE ⟨rfl, sE⟩
  clear s5
  have sr0 : Sat W0 _ (seg true ga 0 ans0 :: vltL sesI v l t hb vb T (ledO l rs :: bytes md dp data :: bytes mm ep more :: L)) := sE.f
  clear sE
  go_wp2_with (refine wpl_stAns rfl rfl (.tmp 4) (.tmp 18) rfl sr0 rfl rfl ?_; intro ws ss; clear sr0)
  have hr := ansLd ss
  have HS := Lib.hid ss.tail; clear ss
  refine bodyPost_ret (v := .agg #[.int .i64 z, .int .i64 0, .bool false, .slice none 0 0]) (by simp [results, Tryz.results52, asAddr]; exact hr) rfl ?_
  exact ansV_no ((vltShut rfl HN.out.1 HS.out).pull 1)
 rcases tAt_cases T hT hd with ⟨e1, hno⟩ | ⟨k, m, y, rfl, hk64, hk, e1, hyes⟩
 ·rw [show vFinish (T.map Slt.th) ⟨kd, hd, ag, ct, ot, data, more⟩ rs = (T.map Slt.th, noA 5, rs) by unfold vFinish; rw [e1]]
  exact hErr 5 (by decide) fun w X s => sesAtNo hd hno hT s
 ·cases y with
  | key b p c =>
   rw [show vFinish (T.map Slt.th) ⟨kd, (k : Int), ag, ct, ot, data, more⟩ rs = (T.map Slt.th, noA 6, rs) by unfold vFinish; rw [e1]; rfl]
   exact hErr 6 (by decide) fun w X s => sesAtKey hk hT s
  | ses x s =>
   clear hErr
   have hx := okV_ses hV hk
   have hka := fun (w : World) (X : List Assn) (s : Sat W0 w (vltL sesI v l t hb vb T X)) => sesAtSes hk hT s
   have e0 : vFinish (T.map Slt.th) ⟨kd, (k : Int), ag, ct, ot, data, more⟩ rs = ((T.map Slt.th).set k none, ⟨0, 0, false, x.K.tag x.key x.custom x.out x.msg⟩, note (noteN rs x.K.ek (x.K.es x.key.length) (x.K.fin x.msg.length x.out)) 8 1024 1) := by
    unfold vFinish; rw [e1]
    rfl
   rw [e0]
   clear e0 e1
   have hsm := fun (w : World) (X : List Assn) (h : Sat W0 w (ledO l rs :: sesI.A x s :: X)) => macSum (pv := ptrO l) x.K l rs x.key x.custom x.msg rfl hx.1 hR (by have := hx.2.2; omega) h
   have hrm := roomyN hR x.K.ek (x.K.es x.key.length) (x.K.fin x.msg.length x.out) (Nat.le_trans (MKind.fin_tot x.K x.msg.length x.out) (by omega))
   have hrm2 : tot (noteN rs x.K.ek (x.K.es x.key.length) (x.K.fin x.msg.length x.out)) + 1 ≤ 4611686018427387904 ∧ (noteN rs x.K.ek (x.K.es x.key.length) (x.K.fin x.msg.length x.out)).length ≤ 4294967296 := by
    exact hrm
   have hfr := fun (w : World) (X : List Assn) (h : Sat W0 w (ledO l (noteN rs x.K.ek (x.K.es x.key.length) (x.K.fin x.msg.length x.out)) :: vltL sesI v l t hb vb T X)) => freeSes hx (by omega) hk hT hrm2.1 hrm2.2 h
   have HN := Lib.hid (And.intro hS (And.intro hka (And.intro hk (And.intro hsm (And.intro hfr hx))))); clear hS hT hka hk hyes hV hB hsm hfr hrm hrm2 hx hR
   go_enter Tryz.func52, Tryz.ntmps52
   go_wp2_with (first | (refine wpl_box rfl 27 (.tmp 1) rfl (opC kd (k : Int) ag ct ot dp dn dc ep en ec) rfl s0 ?_; intro w1 g s1 _; clear s0) | (refine wpl_alloc_agg rfl 44 rfl s1 _ (zero_ans _) ?_; intro w2 ga s2' _; clear s1; have s2 : Sat W0 w2 (seg true g 0 (opC kd (k : Int) ag ct ot dp dn dc ep en ec) :: seg true ga 0 ans0 :: vltL sesI v l t hb vb T (ledO l rs :: bytes md dp data :: bytes mm ep more :: L)) := s2'.f; clear s2'; obtain ⟨o0, o1, o2, o3, o4, o5, o6, zo⟩ := HO.out _ _ _ _ _ _ _ _ _ _ s2))
   refine (HN.out.2.1 _ _ (s2.f : Sat W0 w2 (vltL sesI v l t hb vb T (seg true g 0 (opC kd (k : Int) ag ct ot dp dn dc ep en ec) :: seg true ga 0 ans0 :: ledO l rs :: bytes md dp data :: bytes mm ep more :: L)))).mono ?_
   rintro e w3 ⟨rfl, s3'⟩
   have s3 : Sat W0 w3 (seg true g 0 (opC kd (k : Int) ag ct ot dp dn dc ep en ec) :: seg true ga 0 ans0 :: vltL sesI v l t hb vb T (ledO l rs :: bytes md dp data :: bytes mm ep more :: L)) := s3'.f
   clear s2 s3' o0 o1 o2 o3 o4 o5 o6 zo
   go_wp2_with (first | (refine wpl_alloc_agg rfl 136 rfl s3 [.pointer none] (by kernel_rfl) ?_; intro w4 g5 s4 _; clear s3) | (refine wpl_store_agg rfl rfl 136 (.tmp 5) (.tmp 13) rfl (cs := [.pointer (some ⟨s, 0, none⟩)]) s4 0 0 Tryz.size_ses rfl rfl rfl (Nat.le_refl 1) (fun v hv => by simp at hv; subst hv; rfl) ?_; intro w5 s5; rw [setL_all _ _ (by rfl)] at s5; clear s4; have s5o : Sat W0 w5 (seg true g 0 (opC kd (k : Int) ag ct ot dp dn dc ep en ec) :: []) := s5.f; obtain ⟨o0, o1, o2, o3, o4, o5, o6, zo⟩ := HO.out _ _ _ _ _ _ _ _ _ _ s5o; clear s5o))
   have hCf := fun (w' : World) (X : List Assn) (h : Sat W0 w' (seg true g5 0 [.pointer (some ⟨s, 0, none⟩)] :: seg true v 0 (vlC t l T) :: seg true g 0 (opC kd (k : Int) ag ct ot dp dn dc ep en ec) :: X)) => (by
    have h1 := h.pull 1
    have h2 := h.pull 2
    exact ⟨h.at 0 rfl, h.lt (by simp), Sat.at h1 1 rfl, Sat.lt h1 (by simp [vlC]), Sat.at h2 1 rfl, Sat.at h2 5 rfl, Sat.lt h2 (by simp)⟩ : w'.cell? ⟨g5, 0, none⟩ = some (.pointer (some ⟨s, 0, none⟩)) ∧ g5 < w'.heap.size ∧ w'.cell? ⟨v, 1, none⟩ = some (ptrO l) ∧ v < w'.heap.size ∧ w'.cell? ⟨g, 1, none⟩ = some (.int .i64 (k : Int)) ∧ w'.cell? ⟨g, 5, none⟩ = some (.slice dp dn dc) ∧ g < w'.heap.size)
   have HC := Lib.hid hCf; clear hCf
   have s6a := sltOut HN.out.2.2.1 (s5.f : Sat W0 w5 (stars (T.map (Slt.A sesI)) :: seg true g5 0 [.pointer (some ⟨s, 0, none⟩)] :: seg true v 0 (vlC t l T) :: seg true g 0 (opC kd (k : Int) ag ct ot dp dn dc ep en ec) :: tabC t hb vb (heldC T) (valsC T) (seg true ga 0 ans0 :: ledO l rs :: bytes md dp data :: bytes mm ep more :: L)))
   have s6 : Sat W0 w5 (memA m (sesI.form x) :: sesI.A x s :: stars ((T.map (Slt.A sesI)).eraseIdx k) :: seg true g5 0 [.pointer (some ⟨s, 0, none⟩)] :: seg true v 0 (vlC t l T) :: seg true g 0 (opC kd (k : Int) ag ct ot dp dn dc ep en ec) :: tabC t hb vb (heldC T) (valsC T) (seg true ga 0 ans0 :: ledO l rs :: bytes md dp data :: bytes mm ep more :: L)) := s6a
   have s7 : Sat W0 w5 (seg true g5 0 [.pointer (some ⟨s, 0, none⟩)] :: seg true v 0 (vlC t l T) :: seg true g 0 (opC kd (k : Int) ag ct ot dp dn dc ep en ec) :: memA m (sesI.form x) :: sesI.A x s :: ledO l rs :: stars ((T.map (Slt.A sesI)).eraseIdx k) :: tabC t hb vb (heldC T) (valsC T) (seg true ga 0 ans0 :: bytes md dp data :: bytes mm ep more :: L)) := s6.f
   clear s5 s6 s6a
   try (go_wp2_with fail)
   have sd := s7.drew
   clear s7
   refine region_E (fun w' => w'.cell? ⟨g5, 0, none⟩ = some (.pointer (some ⟨s, 0, none⟩)) ∧ g5 < w'.heap.size ∧ w'.cell? ⟨v, 1, none⟩ = some (ptrO l) ∧ v < w'.heap.size ∧ w'.cell? ⟨g, 1, none⟩ = some (.int .i64 (k : Int)) ∧ w'.cell? ⟨g, 5, none⟩ = some (.slice dp dn dc) ∧ g < w'.heap.size) [1, 5] (by kernel_rfl) ?_
   have hHeld := HC.out _ _ sd
   iterate 6
    first | refine autoT' hHeld (h := ?_) | refine autoP' (h := ?_)
    try simp only [pA1, pA2, pA3, pA4]
   refine anyE_last' (i := 6) (h := fun K hK => ?_)
   go_simp
   refine (HN.out.2.2.2.1 _ _ (sd.f : Sat W0 _ (ledO l rs :: sesI.A x s :: seg true g5 0 [.pointer (some ⟨s, 0, none⟩)] :: seg true v 0 (vlC t l T) :: seg true g 0 (opC kd (k : Int) ag ct ot dp dn dc ep en ec) :: memA m (sesI.form x) :: stars ((T.map (Slt.A sesI)).eraseIdx k) :: tabC t hb vb (heldC T) (valsC T) (seg true ga 0 ans0 :: bytes md dp data :: bytes mm ep more :: L)))).mono ?_
   rintro e w6 ⟨q, c, rfl, s8⟩
   clear sd
   go_wp2_with fail
   refine hK.out _ _ ?_
   clear hK K
   try simp only [pA1, pA2, pA3, pA4]
   iterate 5
    first | refine autoT' hHeld (h := ?_) | refine autoP' (h := ?_)
    try simp only [pA1, pA2, pA3, pA4]
   refine anyE_done (by kernel_rfl) ?_ _
   clear hHeld
   obtain ⟨R, hRr⟩ : ∃ R, R = noteN rs x.K.ek (x.K.es x.key.length) (x.K.fin x.msg.length x.out) := ⟨_, rfl⟩
   rw [← hRr, show ses x.K s x.key x.custom x.out x.msg = sesI.A x s from rfl] at s8
   have s9 := sltIn (s' := ⟨m, some (.ses x s)⟩) HN.out.2.2.1 (s8.f : Sat W0 w6 (memA m (sesI.form x) :: sesI.A x s :: stars ((T.map (Slt.A sesI)).eraseIdx k) :: seg true ga 0 ans0 :: seg true v 0 (vlC t l T) :: row q c 1 x.out (u8s (x.K.tag x.key x.custom x.out x.msg)) :: tabC t hb vb (heldC T) (valsC T) (ledO l R :: seg true g 0 (opC kd (k : Int) ag ct ot dp dn dc ep en ec) :: bytes md dp data :: bytes mm ep more :: L)))
   rw [set_same HN.out.2.2.1] at s9
   have hfr := HN.out.2.2.2.2.1
   rw [← hRr] at hfr
   have HR := Lib.hid (And.intro hRr hfr); clear s8 hRr hfr
   have s10 : Sat W0 w6 (seg true g 0 (opC kd (k : Int) ag ct ot dp dn dc ep en ec) :: ledO l R :: seg true ga 0 ans0 :: row q c 1 x.out (u8s (x.K.tag x.key x.custom x.out x.msg)) :: vltL sesI v l t hb vb T (bytes md dp data :: bytes mm ep more :: L)) := s9.f
   clear s9
   obtain ⟨o0, o1, o2, o3, o4, o5, o6, zo⟩ := HO.out _ _ _ _ _ _ _ _ _ _ s10
   go_wp2_with fail
   refine (HR.out.2 _ _ (s10.f : Sat W0 w6 (ledO l R :: vltL sesI v l t hb vb T (seg true ga 0 ans0 :: row q c 1 x.out (u8s (x.K.tag x.key x.custom x.out x.msg)) :: bytes md dp data :: bytes mm ep more :: L)))).mono ?_
   rintro e w7 ⟨rfl, s11⟩
   clear s10 o0 o1 o2 o3 o4 o5 o6 zo
   have sr0 : Sat W0 _ (seg true ga 0 ans0 :: row q c 1 x.out (u8s (x.K.tag x.key x.custom x.out x.msg)) :: vltL sesI v l t hb vb (T.set k ⟨m, none⟩) (ledO l (note R 8 1024 1) :: bytes md dp data :: bytes mm ep more :: L)) := s11.f
   clear s11
   go_wp2_with (refine wpl_stAns rfl rfl (.tmp 4) (.tmp 38) rfl sr0 rfl rfl ?_; intro ws ss; clear sr0)
   have hr := ansLd ss
   have HS := Lib.hid ss.tail; clear ss
   refine bodyPost_ret (v := .agg #[.int .i64 0, .int .i64 0, .bool false, .slice q x.out c]) (by simp [results, Tryz.results52, asAddr]; exact hr) rfl ?_
   rw [← HR.out.1]
   obtain ⟨h1, h2, h3, s12⟩ := rowBytes HS.out
   refine ansV_b h1 h2 h3 ?_
   exact (vltShut (th_set _ _ _) (by rw [List.length_set]; exact HN.out.1) (s12.f : Sat W0 ws (vltL sesI v l t hb vb (T.set k ⟨m, none⟩) (ledO l (note R 8 1024 1) :: bytes true q (x.K.tag x.key x.custom x.out x.msg) :: bytes md dp data :: bytes mm ep more :: L)))).pull 1
theorem vVerifyW {W0 w : World} {L : List Assn} {v : Nat} {l : Option Nat} {rs : List Run3} {md mm : Bool} {dp ep : Option Addr} {dn dc en ec : Nat} {B : Nat} (S : Sts SesD) (kd : Nat) (hd : Int) (ag : Nat) (ct ot : Int) (data more : List Byte) (hV : okV B S) (hB : B + 65536 ≤ 1000000000) (hR : Roomy rs) (hdn : data.length = dn) (hdc : dn ≤ dc) (hdm : dc ≤ maxLen)
  (hs : Sat W0 w (ledO l rs :: vlt sesI v l S :: bytes md dp data :: bytes mm ep more :: L)) :
  Calls Tryz.prog 53 #[.pointer (some ⟨v, 0, none⟩), .agg #[.int .u8 (kd : Int), .int .i64 hd, .int .u8 (ag : Int), .int .i64 ct, .int .i64 ot, .slice dp dn dc, .slice ep en ec]] w fun e w' => ansV sesI W0 v l (vVerify S ⟨kd, hd, ag, ct, ot, data, more⟩ rs) (bytes md dp data :: bytes mm ep more :: L) e w' := by
 obtain ⟨t, hb, vb, T, rfl, hS, hT, s0'⟩ := vltOpen (show Sat W0 w (vlt sesI v l S :: ledO l rs :: bytes md dp data :: bytes mm ep more :: L) from hs.pull 1)
 have s0 : Sat W0 w (vltL sesI v l t hb vb T (ledO l rs :: bytes md dp data :: bytes mm ep more :: L)) := s0'.f
 clear hs s0'
 have HO := Lib.hid (hOp W0)
 have hErr : ∀ z : Int, z ≠ 0 → (∀ (w : World) (X : List Assn), Sat W0 w (vltL sesI v l t hb vb T X) → Calls Tryz.prog 75 #[.pointer (some ⟨v, 0, none⟩), .int .i64 hd] w fun e w' => e = .returned (.tuple #[.agg #[.pointer none], .int .i64 z]) ∧ Sat W0 w' (vltL sesI v l t hb vb T X)) →
   Calls Tryz.prog 53 #[.pointer (some ⟨v, 0, none⟩), .agg #[.int .u8 (kd : Int), .int .i64 hd, .int .u8 (ag : Int), .int .i64 ct, .int .i64 ot, .slice dp dn dc, .slice ep en ec]] w fun e w' => ansV sesI W0 v l (T.map Slt.th, noA z, rs) (bytes md dp data :: bytes mm ep more :: L) e w' := by
  intro z hz hka
  have hzc : (z != 0) = true := by rw [bne_iff_ne]; exact hz
  have HN := Lib.hid (And.intro hS hka); clear hS hT hka hV hB hR hz
  go_enter Tryz.func53, Tryz.ntmps53
  go_wp2_with (first | (refine wpl_box rfl 27 (.tmp 1) rfl (opC kd hd ag ct ot dp dn dc ep en ec) rfl s0 ?_; intro w1 g s1 _; clear s0) | (refine wpl_alloc_agg rfl 44 rfl s1 _ (zero_ans _) ?_; intro w2 ga s2' _; clear s1; have s2 : Sat W0 w2 (seg true g 0 (opC kd hd ag ct ot dp dn dc ep en ec) :: seg true ga 0 ans0 :: vltL sesI v l t hb vb T (ledO l rs :: bytes md dp data :: bytes mm ep more :: L)) := s2'.f; clear s2'; obtain ⟨o0, o1, o2, o3, o4, o5, o6, zo⟩ := HO.out _ _ _ _ _ _ _ _ _ _ s2))
  refine (HN.out.2 _ _ (s2.f : Sat W0 w2 (vltL sesI v l t hb vb T (seg true g 0 (opC kd hd ag ct ot dp dn dc ep en ec) :: seg true ga 0 ans0 :: ledO l rs :: bytes md dp data :: bytes mm ep more :: L)))).mono ?_
  rintro e w3 ⟨rfl, s3'⟩
  have s3 : Sat W0 w3 (seg true g 0 (opC kd hd ag ct ot dp dn dc ep en ec) :: seg true ga 0 ans0 :: vltL sesI v l t hb vb T (ledO l rs :: bytes md dp data :: bytes mm ep more :: L)) := s3'.f
  clear s2 s3' o0 o1 o2 o3 o4 o5 o6 zo
  go_wp2_with (first | (refine wpl_alloc_agg rfl 136 rfl s3 [.pointer none] (by kernel_rfl) ?_; intro w4 g5 s4 _; clear s3) | (refine wpl_store_agg rfl rfl 136 (.tmp 5) (.tmp 13) rfl (cs := [.pointer none]) s4 0 0 Tryz.size_ses rfl rfl rfl (Nat.le_refl 1) (fun v hv => by simp at hv; subst hv; rfl) ?_; intro w5 s5; rw [setL_all _ _ (by rfl)] at s5; clear s4; have s5o : Sat W0 w5 (seg true g 0 (opC kd hd ag ct ot dp dn dc ep en ec) :: []) := s5.f; obtain ⟨o0, o1, o2, o3, o4, o5, o6, zo⟩ := HO.out _ _ _ _ _ _ _ _ _ _ s5o; clear s5o))
  refine (vCode z s5).mono ?_
  rintro e wE ⟨rfl, sE⟩
  clear s5
  have sr0 : Sat W0 _ (seg true ga 0 ans0 :: vltL sesI v l t hb vb T (ledO l rs :: bytes md dp data :: bytes mm ep more :: L)) := sE.f
  clear sE
  go_wp2_with (refine wpl_stAns rfl rfl (.tmp 4) (.tmp 18) rfl sr0 rfl rfl ?_; intro ws ss; clear sr0)
  have hr := ansLd ss
  have HS := Lib.hid ss.tail; clear ss
  refine bodyPost_ret (v := .agg #[.int .i64 z, .int .i64 0, .bool false, .slice none 0 0]) (by simp [results, Tryz.results53, asAddr]; exact hr) rfl ?_
  exact ansV_no ((vltShut rfl HN.out.1 HS.out).pull 1)
 rcases tAt_cases T hT hd with ⟨e1, hno⟩ | ⟨k, m, y, rfl, hk64, hk, e1, hyes⟩
 ·rw [show vVerify (T.map Slt.th) ⟨kd, hd, ag, ct, ot, data, more⟩ rs = (T.map Slt.th, noA 5, rs) by unfold vVerify; rw [e1]]
  exact hErr 5 (by decide) fun w X s => sesAtNo hd hno hT s
 ·cases y with
  | key b p c =>
   rw [show vVerify (T.map Slt.th) ⟨kd, (k : Int), ag, ct, ot, data, more⟩ rs = (T.map Slt.th, noA 6, rs) by unfold vVerify; rw [e1]; rfl]
   exact hErr 6 (by decide) fun w X s => sesAtKey hk hT s
  | ses x s =>
   clear hErr
   have hx := okV_ses hV hk
   have hka := fun (w : World) (X : List Assn) (s : Sat W0 w (vltL sesI v l t hb vb T X)) => sesAtSes hk hT s
   by_cases hlt : dn = x.out
   rotate_left
   ·have e0 : vVerify (T.map Slt.th) ⟨kd, (k : Int), ag, ct, ot, data, more⟩ rs = (T.map Slt.th, noA 11, rs) := by unfold vVerify; rw [e1]; exact if_neg (by rw [hdn]; exact hlt)
    rw [e0]
    clear e0 e1
    have hvl := fun (w : World) (X : List Assn) (h : Sat W0 w (sesI.A x s :: X)) => macVerifyLen (n := dn) (cap := dc) (pt := dp) (pv := ptrO l) hx.1.1 hlt h
    have HN := Lib.hid (And.intro hS (And.intro hka (And.intro hk hvl))); clear hS hT hka hk hyes hV hB hR hvl hx
    go_enter Tryz.func53, Tryz.ntmps53
    go_wp2_with (first | (refine wpl_box rfl 27 (.tmp 1) rfl (opC kd (k : Int) ag ct ot dp dn dc ep en ec) rfl s0 ?_; intro w1 g s1 _; clear s0) | (refine wpl_alloc_agg rfl 44 rfl s1 _ (zero_ans _) ?_; intro w2 ga s2' _; clear s1; have s2 : Sat W0 w2 (seg true g 0 (opC kd (k : Int) ag ct ot dp dn dc ep en ec) :: seg true ga 0 ans0 :: vltL sesI v l t hb vb T (ledO l rs :: bytes md dp data :: bytes mm ep more :: L)) := s2'.f; clear s2'; obtain ⟨o0, o1, o2, o3, o4, o5, o6, zo⟩ := HO.out _ _ _ _ _ _ _ _ _ _ s2))
    refine (HN.out.2.1 _ _ (s2.f : Sat W0 w2 (vltL sesI v l t hb vb T (seg true g 0 (opC kd (k : Int) ag ct ot dp dn dc ep en ec) :: seg true ga 0 ans0 :: ledO l rs :: bytes md dp data :: bytes mm ep more :: L)))).mono ?_
    rintro e w3 ⟨rfl, s3'⟩
    have s3 : Sat W0 w3 (seg true g 0 (opC kd (k : Int) ag ct ot dp dn dc ep en ec) :: seg true ga 0 ans0 :: vltL sesI v l t hb vb T (ledO l rs :: bytes md dp data :: bytes mm ep more :: L)) := s3'.f
    clear s2 s3' o0 o1 o2 o3 o4 o5 o6 zo
    go_wp2_with (first | (refine wpl_alloc_agg rfl 136 rfl s3 [.pointer none] (by kernel_rfl) ?_; intro w4 g5 s4 _; clear s3) | (refine wpl_store_agg rfl rfl 136 (.tmp 5) (.tmp 13) rfl (cs := [.pointer (some ⟨s, 0, none⟩)]) s4 0 0 Tryz.size_ses rfl rfl rfl (Nat.le_refl 1) (fun v hv => by simp at hv; subst hv; rfl) ?_; intro w5 s5; rw [setL_all _ _ (by rfl)] at s5; clear s4; have s5o : Sat W0 w5 (seg true g 0 (opC kd (k : Int) ag ct ot dp dn dc ep en ec) :: []) := s5.f; obtain ⟨o0, o1, o2, o3, o4, o5, o6, zo⟩ := HO.out _ _ _ _ _ _ _ _ _ _ s5o; clear s5o))
    have hCf := fun (w' : World) (X : List Assn) (h : Sat W0 w' (seg true g5 0 [.pointer (some ⟨s, 0, none⟩)] :: seg true v 0 (vlC t l T) :: seg true g 0 (opC kd (k : Int) ag ct ot dp dn dc ep en ec) :: X)) => (by
     have h1 := h.pull 1
     have h2 := h.pull 2
     exact ⟨h.at 0 rfl, h.lt (by simp), Sat.at h1 1 rfl, Sat.lt h1 (by simp [vlC]), Sat.at h2 1 rfl, Sat.at h2 5 rfl, Sat.lt h2 (by simp)⟩ : w'.cell? ⟨g5, 0, none⟩ = some (.pointer (some ⟨s, 0, none⟩)) ∧ g5 < w'.heap.size ∧ w'.cell? ⟨v, 1, none⟩ = some (ptrO l) ∧ v < w'.heap.size ∧ w'.cell? ⟨g, 1, none⟩ = some (.int .i64 (k : Int)) ∧ w'.cell? ⟨g, 5, none⟩ = some (.slice dp dn dc) ∧ g < w'.heap.size)
    have HC := Lib.hid hCf; clear hCf
    have s6a := sltOut HN.out.2.2.1 (s5.f : Sat W0 w5 (stars (T.map (Slt.A sesI)) :: seg true g5 0 [.pointer (some ⟨s, 0, none⟩)] :: seg true v 0 (vlC t l T) :: seg true g 0 (opC kd (k : Int) ag ct ot dp dn dc ep en ec) :: tabC t hb vb (heldC T) (valsC T) (seg true ga 0 ans0 :: ledO l rs :: bytes md dp data :: bytes mm ep more :: L)))
    have s6 : Sat W0 w5 (memA m (sesI.form x) :: sesI.A x s :: stars ((T.map (Slt.A sesI)).eraseIdx k) :: seg true g5 0 [.pointer (some ⟨s, 0, none⟩)] :: seg true v 0 (vlC t l T) :: seg true g 0 (opC kd (k : Int) ag ct ot dp dn dc ep en ec) :: tabC t hb vb (heldC T) (valsC T) (seg true ga 0 ans0 :: ledO l rs :: bytes md dp data :: bytes mm ep more :: L)) := s6a
    have s7 : Sat W0 w5 (seg true g5 0 [.pointer (some ⟨s, 0, none⟩)] :: seg true v 0 (vlC t l T) :: seg true g 0 (opC kd (k : Int) ag ct ot dp dn dc ep en ec) :: memA m (sesI.form x) :: sesI.A x s :: ledO l rs :: stars ((T.map (Slt.A sesI)).eraseIdx k) :: tabC t hb vb (heldC T) (valsC T) (seg true ga 0 ans0 :: bytes md dp data :: bytes mm ep more :: L)) := s6.f
    clear s5 s6 s6a
    try (go_wp2_with fail)
    have sd := s7.drew
    clear s7
    refine region_E (fun w' => w'.cell? ⟨g5, 0, none⟩ = some (.pointer (some ⟨s, 0, none⟩)) ∧ g5 < w'.heap.size ∧ w'.cell? ⟨v, 1, none⟩ = some (ptrO l) ∧ v < w'.heap.size ∧ w'.cell? ⟨g, 1, none⟩ = some (.int .i64 (k : Int)) ∧ w'.cell? ⟨g, 5, none⟩ = some (.slice dp dn dc) ∧ g < w'.heap.size) [1, 5, 7] (by kernel_rfl) ?_
    have hHeld := HC.out _ _ sd
    iterate 8
     first | refine autoT' hHeld (h := ?_) | refine autoP' (h := ?_)
     try simp only [pA1, pA2, pA3, pA4]
    refine anyE_last' (i := 8) (h := fun K hK => ?_)
    go_simp
    refine (HN.out.2.2.2 _ _ (sd.f : Sat W0 _ (sesI.A x s :: seg true g5 0 [.pointer (some ⟨s, 0, none⟩)] :: seg true v 0 (vlC t l T) :: seg true g 0 (opC kd (k : Int) ag ct ot dp dn dc ep en ec) :: memA m (sesI.form x) :: ledO l rs :: stars ((T.map (Slt.A sesI)).eraseIdx k) :: tabC t hb vb (heldC T) (valsC T) (seg true ga 0 ans0 :: bytes md dp data :: bytes mm ep more :: L)))).mono ?_
    rintro e w6 ⟨rfl, rfl⟩
    go_wp2_with fail
    refine hK.out _ _ ?_
    clear hK K
    try simp only [pA1, pA2, pA3, pA4]
    iterate 5
     first | refine autoT' hHeld (h := ?_) | refine autoP' (h := ?_)
     try simp only [pA1, pA2, pA3, pA4]
    refine anyE_done (by kernel_rfl) ?_ _
    clear hHeld
    have s8 := sltIn (s' := ⟨m, some (.ses x s)⟩) HN.out.2.2.1 (sd.f : Sat W0 _ (memA m (sesI.form x) :: sesI.A x s :: stars ((T.map (Slt.A sesI)).eraseIdx k) :: seg true ga 0 ans0 :: seg true v 0 (vlC t l T) :: tabC t hb vb (heldC T) (valsC T) (ledO l rs :: bytes md dp data :: bytes mm ep more :: L)))
    rw [set_same HN.out.2.2.1] at s8
    have s9 : Sat W0 _ (seg true ga 0 ans0 :: vltL sesI v l t hb vb T (ledO l rs :: bytes md dp data :: bytes mm ep more :: L)) := s8.f
    clear sd s8
    go_wp2_with fail
    refine (vCode 11 s9).mono ?_
    rintro e wE ⟨rfl, sE⟩
    clear s9
    have sr0 : Sat W0 _ (seg true ga 0 ans0 :: vltL sesI v l t hb vb T (ledO l rs :: bytes md dp data :: bytes mm ep more :: L)) := sE.f
    clear sE
    go_wp2_with (refine wpl_stAns rfl rfl (.tmp 4) (.tmp 34) rfl sr0 rfl rfl ?_; intro ws ss; clear sr0)
    have hr := ansLd ss
    have HS := Lib.hid ss.tail; clear ss
    refine bodyPost_ret (v := .agg #[.int .i64 11, .int .i64 0, .bool false, .slice none 0 0]) (by simp [results, Tryz.results53, asAddr]; exact hr) rfl ?_
    exact ansV_no ((vltShut rfl HN.out.1 HS.out).pull 1)
   ·subst hlt
    have e0 : vVerify (T.map Slt.th) ⟨kd, (k : Int), ag, ct, ot, data, more⟩ rs = ((T.map Slt.th).set k none, ⟨0, 0, decide (x.K.tag x.key x.custom x.out x.msg = data), []⟩, note ((note (noteN rs x.K.ek (x.K.es x.key.length) (x.K.fin x.msg.length x.out)) 6 (x.out : Int) 1)) 8 1024 1) := by
     unfold vVerify; rw [e1]
     refine (if_pos hdn).trans ?_
     rw [Int.toNat_natCast]
    rw [e0]
    clear e0 e1
    have hsm := fun (w : World) (X : List Assn) (h : Sat W0 w (ledO l rs :: bytes md dp data :: sesI.A x s :: X)) => macVerify (pv := ptrO l) (cap := dc) x.K l rs x.key x.custom x.msg data rfl hx.1 hR (by have := hx.2.2; omega) hdn h
    have hrm := roomyN hR x.K.ek (x.K.es x.key.length) (x.K.fin x.msg.length x.out) (Nat.le_trans (MKind.fin_tot x.K x.msg.length x.out) (by omega))
    have hrm2 : tot ((note (noteN rs x.K.ek (x.K.es x.key.length) (x.K.fin x.msg.length x.out)) 6 (x.out : Int) 1)) + 1 ≤ 4611686018427387904 ∧ ((note (noteN rs x.K.ek (x.K.es x.key.length) (x.K.fin x.msg.length x.out)) 6 (x.out : Int) 1)).length ≤ 4294967296 := by
     have h1 := hR.1
     have h2 := hR.2
     have h3 := noteN_len rs x.K.ek (x.K.es x.key.length) (x.K.fin x.msg.length x.out)
     have h4 := note_len (noteN rs x.K.ek (x.K.es x.key.length) (x.K.fin x.msg.length x.out)) 6 (x.out : Int) 1
     have h5 := MKind.fin_tot x.K x.msg.length x.out
     rw [tot_note, tot_noteN]
     omega
    have hfr := fun (w : World) (X : List Assn) (h : Sat W0 w (ledO l ((note (noteN rs x.K.ek (x.K.es x.key.length) (x.K.fin x.msg.length x.out)) 6 (x.out : Int) 1)) :: vltL sesI v l t hb vb T X)) => freeSes hx (by omega) hk hT hrm2.1 hrm2.2 h
    have HN := Lib.hid (And.intro hS (And.intro hka (And.intro hk (And.intro hsm (And.intro hfr hx))))); clear hS hT hka hk hyes hV hB hsm hfr hrm hrm2 hx hR
    go_enter Tryz.func53, Tryz.ntmps53
    go_wp2_with (first | (refine wpl_box rfl 27 (.tmp 1) rfl ([.int .u8 (kd : Int), .int .i64 (k : Int), .int .u8 (ag : Int), .int .i64 ct, .int .i64 ot, .slice dp x.out dc, .slice ep en ec]) rfl s0 ?_; intro w1 g s1 _; clear s0) | (refine wpl_alloc_agg rfl 44 rfl s1 _ (zero_ans _) ?_; intro w2 ga s2' _; clear s1; have s2 : Sat W0 w2 (seg true g 0 ([.int .u8 (kd : Int), .int .i64 (k : Int), .int .u8 (ag : Int), .int .i64 ct, .int .i64 ot, .slice dp x.out dc, .slice ep en ec]) :: seg true ga 0 ans0 :: vltL sesI v l t hb vb T (ledO l rs :: bytes md dp data :: bytes mm ep more :: L)) := s2'.f; clear s2'; obtain ⟨o0, o1, o2, o3, o4, o5, o6, zo⟩ := HO.out _ _ _ _ _ _ _ _ _ _ s2))
    refine (HN.out.2.1 _ _ (s2.f : Sat W0 w2 (vltL sesI v l t hb vb T (seg true g 0 ([.int .u8 (kd : Int), .int .i64 (k : Int), .int .u8 (ag : Int), .int .i64 ct, .int .i64 ot, .slice dp x.out dc, .slice ep en ec]) :: seg true ga 0 ans0 :: ledO l rs :: bytes md dp data :: bytes mm ep more :: L)))).mono ?_
    rintro e w3 ⟨rfl, s3'⟩
    have s3 : Sat W0 w3 (seg true g 0 ([.int .u8 (kd : Int), .int .i64 (k : Int), .int .u8 (ag : Int), .int .i64 ct, .int .i64 ot, .slice dp x.out dc, .slice ep en ec]) :: seg true ga 0 ans0 :: vltL sesI v l t hb vb T (ledO l rs :: bytes md dp data :: bytes mm ep more :: L)) := s3'.f
    clear s2 s3' o0 o1 o2 o3 o4 o5 o6 zo
    go_wp2_with (first | (refine wpl_alloc_agg rfl 136 rfl s3 [.pointer none] (by kernel_rfl) ?_; intro w4 g5 s4 _; clear s3) | (refine wpl_store_agg rfl rfl 136 (.tmp 5) (.tmp 13) rfl (cs := [.pointer (some ⟨s, 0, none⟩)]) s4 0 0 Tryz.size_ses rfl rfl rfl (Nat.le_refl 1) (fun v hv => by simp at hv; subst hv; rfl) ?_; intro w5 s5; rw [setL_all _ _ (by rfl)] at s5; clear s4; have s5o : Sat W0 w5 (seg true g 0 ([.int .u8 (kd : Int), .int .i64 (k : Int), .int .u8 (ag : Int), .int .i64 ct, .int .i64 ot, .slice dp x.out dc, .slice ep en ec]) :: []) := s5.f; obtain ⟨o0, o1, o2, o3, o4, o5, o6, zo⟩ := HO.out _ _ _ _ _ _ _ _ _ _ s5o; clear s5o))
    have hCf := fun (w' : World) (X : List Assn) (h : Sat W0 w' (seg true g5 0 [.pointer (some ⟨s, 0, none⟩)] :: seg true v 0 (vlC t l T) :: seg true g 0 ([.int .u8 (kd : Int), .int .i64 (k : Int), .int .u8 (ag : Int), .int .i64 ct, .int .i64 ot, .slice dp x.out dc, .slice ep en ec]) :: X)) => (by
     have h1 := h.pull 1
     have h2 := h.pull 2
     exact ⟨h.at 0 rfl, h.lt (by simp), Sat.at h1 1 rfl, Sat.lt h1 (by simp [vlC]), Sat.at h2 1 rfl, Sat.at h2 5 rfl, Sat.lt h2 (by simp)⟩ : w'.cell? ⟨g5, 0, none⟩ = some (.pointer (some ⟨s, 0, none⟩)) ∧ g5 < w'.heap.size ∧ w'.cell? ⟨v, 1, none⟩ = some (ptrO l) ∧ v < w'.heap.size ∧ w'.cell? ⟨g, 1, none⟩ = some (.int .i64 (k : Int)) ∧ w'.cell? ⟨g, 5, none⟩ = some (.slice dp x.out dc) ∧ g < w'.heap.size)
    have HC := Lib.hid hCf; clear hCf
    have s6a := sltOut HN.out.2.2.1 (s5.f : Sat W0 w5 (stars (T.map (Slt.A sesI)) :: seg true g5 0 [.pointer (some ⟨s, 0, none⟩)] :: seg true v 0 (vlC t l T) :: seg true g 0 ([.int .u8 (kd : Int), .int .i64 (k : Int), .int .u8 (ag : Int), .int .i64 ct, .int .i64 ot, .slice dp x.out dc, .slice ep en ec]) :: tabC t hb vb (heldC T) (valsC T) (seg true ga 0 ans0 :: ledO l rs :: bytes md dp data :: bytes mm ep more :: L)))
    have s6 : Sat W0 w5 (memA m (sesI.form x) :: sesI.A x s :: stars ((T.map (Slt.A sesI)).eraseIdx k) :: seg true g5 0 [.pointer (some ⟨s, 0, none⟩)] :: seg true v 0 (vlC t l T) :: seg true g 0 ([.int .u8 (kd : Int), .int .i64 (k : Int), .int .u8 (ag : Int), .int .i64 ct, .int .i64 ot, .slice dp x.out dc, .slice ep en ec]) :: tabC t hb vb (heldC T) (valsC T) (seg true ga 0 ans0 :: ledO l rs :: bytes md dp data :: bytes mm ep more :: L)) := s6a
    have s7 : Sat W0 w5 (seg true g5 0 [.pointer (some ⟨s, 0, none⟩)] :: seg true v 0 (vlC t l T) :: seg true g 0 ([.int .u8 (kd : Int), .int .i64 (k : Int), .int .u8 (ag : Int), .int .i64 ct, .int .i64 ot, .slice dp x.out dc, .slice ep en ec]) :: memA m (sesI.form x) :: sesI.A x s :: ledO l rs :: stars ((T.map (Slt.A sesI)).eraseIdx k) :: tabC t hb vb (heldC T) (valsC T) (seg true ga 0 ans0 :: bytes md dp data :: bytes mm ep more :: L)) := s6.f
    clear s5 s6 s6a
    try (go_wp2_with fail)
    have sd := s7.drew
    clear s7
    refine region_E (fun w' => w'.cell? ⟨g5, 0, none⟩ = some (.pointer (some ⟨s, 0, none⟩)) ∧ g5 < w'.heap.size ∧ w'.cell? ⟨v, 1, none⟩ = some (ptrO l) ∧ v < w'.heap.size ∧ w'.cell? ⟨g, 1, none⟩ = some (.int .i64 (k : Int)) ∧ w'.cell? ⟨g, 5, none⟩ = some (.slice dp x.out dc) ∧ g < w'.heap.size) [1, 5, 7] (by kernel_rfl) ?_
    have hHeld := HC.out _ _ sd
    iterate 8
     first | refine autoT' hHeld (h := ?_) | refine autoP' (h := ?_)
     try simp only [pA1, pA2, pA3, pA4]
    refine anyE_last' (i := 8) (h := fun K hK => ?_)
    go_simp
    refine (HN.out.2.2.2.1 _ _ (sd.f : Sat W0 _ (ledO l rs :: bytes md dp data :: sesI.A x s :: seg true g5 0 [.pointer (some ⟨s, 0, none⟩)] :: seg true v 0 (vlC t l T) :: seg true g 0 ([.int .u8 (kd : Int), .int .i64 (k : Int), .int .u8 (ag : Int), .int .i64 ct, .int .i64 ot, .slice dp x.out dc, .slice ep en ec]) :: memA m (sesI.form x) :: stars ((T.map (Slt.A sesI)).eraseIdx k) :: tabC t hb vb (heldC T) (valsC T) (seg true ga 0 ans0 :: bytes mm ep more :: L)))).mono ?_
    rintro e w6 ⟨rfl, s8⟩
    clear sd
    go_wp2_with fail
    refine hK.out _ _ ?_
    clear hK K
    try simp only [pA1, pA2, pA3, pA4]
    iterate 5
     first | refine autoT' hHeld (h := ?_) | refine autoP' (h := ?_)
     try simp only [pA1, pA2, pA3, pA4]
    refine anyE_done (by kernel_rfl) ?_ _
    clear hHeld
    obtain ⟨R, hRr⟩ : ∃ R, R = (note (noteN rs x.K.ek (x.K.es x.key.length) (x.K.fin x.msg.length x.out)) 6 (x.out : Int) 1) := ⟨_, rfl⟩
    rw [← hRr, show ses x.K s x.key x.custom x.out x.msg = sesI.A x s from rfl] at s8
    have s9 := sltIn (s' := ⟨m, some (.ses x s)⟩) HN.out.2.2.1 (s8.f : Sat W0 w6 (memA m (sesI.form x) :: sesI.A x s :: stars ((T.map (Slt.A sesI)).eraseIdx k) :: seg true ga 0 ans0 :: seg true v 0 (vlC t l T) :: tabC t hb vb (heldC T) (valsC T) (ledO l R :: seg true g 0 ([.int .u8 (kd : Int), .int .i64 (k : Int), .int .u8 (ag : Int), .int .i64 ct, .int .i64 ot, .slice dp x.out dc, .slice ep en ec]) :: bytes md dp data :: bytes mm ep more :: L)))
    rw [set_same HN.out.2.2.1] at s9
    have hfr := HN.out.2.2.2.2.1
    rw [← hRr] at hfr
    have HR := Lib.hid (And.intro hRr hfr); clear s8 hRr hfr
    have s10 : Sat W0 w6 (seg true g 0 ([.int .u8 (kd : Int), .int .i64 (k : Int), .int .u8 (ag : Int), .int .i64 ct, .int .i64 ot, .slice dp x.out dc, .slice ep en ec]) :: ledO l R :: seg true ga 0 ans0 :: vltL sesI v l t hb vb T (bytes md dp data :: bytes mm ep more :: L)) := s9.f
    clear s9
    obtain ⟨o0, o1, o2, o3, o4, o5, o6, zo⟩ := HO.out _ _ _ _ _ _ _ _ _ _ s10
    go_wp2_with fail
    refine (HR.out.2 _ _ (s10.f : Sat W0 w6 (ledO l R :: vltL sesI v l t hb vb T (seg true ga 0 ans0 :: bytes md dp data :: bytes mm ep more :: L)))).mono ?_
    rintro e w7 ⟨rfl, s11⟩
    clear s10 o0 o1 o2 o3 o4 o5 o6 zo
    have sr0 : Sat W0 _ (seg true ga 0 ans0 :: vltL sesI v l t hb vb (T.set k ⟨m, none⟩) (ledO l (note R 8 1024 1) :: bytes md dp data :: bytes mm ep more :: L)) := s11.f
    clear s11
    go_wp2_with (refine wpl_stAns rfl rfl (.tmp 4) (.tmp 40) rfl sr0 rfl rfl ?_; intro ws ss; clear sr0)
    have hr := ansLd ss
    have HS := Lib.hid ss.tail; clear ss
    refine bodyPost_ret (v := .agg #[.int .i64 0, .int .i64 0, .bool (decide (x.K.tag x.key x.custom x.out x.msg = data)), .slice none 0 0]) (by simp [results, Tryz.results53, asAddr]; exact hr) rfl ?_
    rw [← HR.out.1]
    exact ansV_s ((vltShut (th_set _ _ _) (by rw [List.length_set]; exact HN.out.1) HS.out).pull 1)
theorem vDropW {W0 w : World} {L : List Assn} {v : Nat} {l : Option Nat} {rs : List Run3} {md mm : Bool} {dp ep : Option Addr} {dn dc en ec : Nat} {B : Nat} (S : Sts SesD) (kd : Nat) (hd : Int) (ag : Nat) (ct ot : Int) (data more : List Byte) (hV : okV B S) (hB : B + 65536 ≤ 1000000000) (hR : Roomy rs) (hdn : data.length = dn) (hdc : dn ≤ dc) (hdm : dc ≤ maxLen)
  (hs : Sat W0 w (ledO l rs :: vlt sesI v l S :: bytes md dp data :: bytes mm ep more :: L)) :
  Calls Tryz.prog 58 #[.pointer (some ⟨v, 0, none⟩), .agg #[.int .u8 (kd : Int), .int .i64 hd, .int .u8 (ag : Int), .int .i64 ct, .int .i64 ot, .slice dp dn dc, .slice ep en ec]] w fun e w' => ansV sesI W0 v l (vDrop S ⟨kd, hd, ag, ct, ot, data, more⟩ rs) (bytes md dp data :: bytes mm ep more :: L) e w' := by
 obtain ⟨t, hb, vb, T, rfl, hS, hT, s0'⟩ := vltOpen (show Sat W0 w (vlt sesI v l S :: ledO l rs :: bytes md dp data :: bytes mm ep more :: L) from hs.pull 1)
 have s0 : Sat W0 w (vltL sesI v l t hb vb T (ledO l rs :: bytes md dp data :: bytes mm ep more :: L)) := s0'.f
 clear hs s0'
 have HO := Lib.hid (hOp W0)
 rcases tAt_cases T hT hd with ⟨e1, hno⟩ | ⟨k, m, y, rfl, hk64, hk, e1, hyes⟩
 ·have e0 : vDrop (T.map Slt.th) ⟨kd, hd, ag, ct, ot, data, more⟩ rs = (T.map Slt.th, noA 5, rs) := by unfold vDrop; rw [e1]
  rw [e0]
  clear e0 e1
  have hka := fun (w : World) (X : List Assn) (s : Sat W0 w (tabC t hb vb (heldC T) (valsC T) X)) => get_no_th hd hno (heldC_len hT) (valsC_len hT) (by decide) (by decide) s
  have HN := Lib.hid (And.intro hS hka); clear hS hT hka hno hV hB hR
  go_enter Tryz.func58, Tryz.ntmps58
  go_wp2_with (first | (refine wpl_box rfl 27 (.tmp 1) rfl (opC kd hd ag ct ot dp dn dc ep en ec) rfl s0 ?_; intro w1 g s1 _; clear s0) | (refine wpl_alloc_agg rfl 44 rfl s1 _ (zero_ans _) ?_; intro w2 ga s2' _; clear s1; have s2 : Sat W0 w2 (seg true g 0 (opC kd hd ag ct ot dp dn dc ep en ec) :: seg true ga 0 ans0 :: vltL sesI v l t hb vb T (ledO l rs :: bytes md dp data :: bytes mm ep more :: L)) := s2'.f; clear s2'; obtain ⟨o0, o1, o2, o3, o4, o5, o6, zo⟩ := HO.out _ _ _ _ _ _ _ _ _ _ s2))
  have s3 : Sat W0 w2 (seg true v 0 (vlC t l T) :: seg true g 0 (opC kd hd ag ct ot dp dn dc ep en ec) :: tabC t hb vb (heldC T) (valsC T) (stars (T.map (Slt.A sesI)) :: seg true ga 0 ans0 :: ledO l rs :: bytes md dp data :: bytes mm ep more :: L)) := s2.f
  clear s2 o0 o1 o2 o3 o4 o5 o6 zo
  have hCf := fun (w' : World) (X : List Assn) (h : Sat W0 w' (seg true v 0 (vlC t l T) :: seg true g 0 (opC kd hd ag ct ot dp dn dc ep en ec) :: X)) => (by
   have h1 := h.pull 1
   exact ⟨h.at 0 rfl, h.lt (by simp [vlC]), Sat.at h1 1 rfl, Sat.lt h1 (by simp)⟩ : w'.cell? ⟨v, 0, none⟩ = some (.pointer (some ⟨t, 0, none⟩)) ∧ v < w'.heap.size ∧ w'.cell? ⟨g, 1, none⟩ = some (.int .i64 hd) ∧ g < w'.heap.size)
  have HC := Lib.hid hCf; clear hCf
  have sd := s3.drew
  clear s3
  refine region_E (fun w' => w'.cell? ⟨v, 0, none⟩ = some (.pointer (some ⟨t, 0, none⟩)) ∧ v < w'.heap.size ∧ w'.cell? ⟨g, 1, none⟩ = some (.int .i64 hd) ∧ g < w'.heap.size) [4, 6] (by kernel_rfl) ?_
  have hHeld := HC.out _ _ sd
  iterate 7
   first | refine autoT' hHeld (h := ?_) | refine autoP' (h := ?_)
   try simp only [pA1, pA2, pA3, pA4]
  refine anyE_last' (i := 7) (h := fun K hK => ?_)
  go_simp
  refine (HN.out.2 _ _ (sd.f : Sat W0 _ (tabC t hb vb (heldC T) (valsC T) (seg true v 0 (vlC t l T) :: seg true g 0 (opC kd hd ag ct ot dp dn dc ep en ec) :: stars (T.map (Slt.A sesI)) :: seg true ga 0 ans0 :: ledO l rs :: bytes md dp data :: bytes mm ep more :: L)))).mono ?_
  rintro e w3 ⟨rfl, s4⟩
  clear sd
  go_wp2_with fail
  refine hK.out _ _ ?_
  clear hK K
  try simp only [pA1, pA2, pA3, pA4]
  iterate 5
   first | refine autoT' hHeld (h := ?_) | refine autoP' (h := ?_)
   try simp only [pA1, pA2, pA3, pA4]
  refine anyE_done (by kernel_rfl) ?_ _
  clear hHeld
  have s5 : Sat W0 w3 (seg true g 0 (opC kd hd ag ct ot dp dn dc ep en ec) :: seg true ga 0 ans0 :: vltL sesI v l t hb vb T (ledO l rs :: bytes md dp data :: bytes mm ep more :: L)) := s4.f
  clear s4
  go_wp2_with fail
  refine (vCode 5 s5).mono ?_
  rintro e wE ⟨rfl, sE⟩
  clear s5
  have sr0 : Sat W0 _ (seg true ga 0 ans0 :: vltL sesI v l t hb vb T (ledO l rs :: bytes md dp data :: bytes mm ep more :: L)) := sE.f
  clear sE
  go_wp2_with (refine wpl_stAns rfl rfl (.tmp 4) (.tmp 21) rfl sr0 rfl rfl ?_; intro ws ss; clear sr0)
  have hr := ansLd ss
  have HS := Lib.hid ss.tail; clear ss
  refine bodyPost_ret (v := .agg #[.int .i64 5, .int .i64 0, .bool false, .slice none 0 0]) (by simp [results, Tryz.results58, asAddr]; exact hr) rfl ?_
  exact ansV_no ((vltShut rfl HN.out.1 HS.out).pull 1)
 ·have hfr : ∀ (w : World) (X : List Assn), Sat W0 w (ledO l rs :: vltL sesI v l t hb vb T X) → Calls Tryz.prog 80 #[.pointer (some ⟨v, 0, none⟩), .int .i64 (k : Int)] w fun e w' => e = .returned (.tuple #[]) ∧ Sat W0 w' (ledO l (note rs 8 1024 1) :: vltL sesI v l t hb vb (T.set k ⟨m, none⟩) X) := by
   have h1 := hR.1
   have h2 := hR.2
   cases y with
   | key b p c => exact fun w X h => freeKey hk hT (by omega) (by omega) h
   | ses x s => exact fun w X h => freeSes (okV_ses hV hk) (by omega) hk hT (by omega) (by omega) h
  have e0 : vDrop (T.map Slt.th) ⟨kd, (k : Int), ag, ct, ot, data, more⟩ rs = ((T.map Slt.th).set k none, ⟨0, 0, false, []⟩, note rs 8 1024 1) := by
   unfold vDrop; rw [e1]
   show ((T.map Slt.th).set (Int.toNat (k : Int)) none, _, _) = _
   rw [Int.toNat_natCast]
  rw [e0]
  clear e0 e1
  have hka := fun (w : World) (X : List Assn) (s : Sat W0 w (tabC t hb vb (heldC T) (valsC T) X)) => get_yes_th k (heldC_get hk) (valsC_get hk) (heldC_len hT) (valsC_len hT) (by decide) (by decide) s
  have e2 : Slt.v ⟨m, some y⟩ = .iface y.tid y.val := rfl
  rw [e2] at hka
  have HN := Lib.hid (And.intro hS (And.intro hka hfr)); clear hS hT hka hk hyes hV hB hR hfr e2
  go_enter Tryz.func58, Tryz.ntmps58
  go_wp2_with (first | (refine wpl_box rfl 27 (.tmp 1) rfl (opC kd (k : Int) ag ct ot dp dn dc ep en ec) rfl s0 ?_; intro w1 g s1 _; clear s0) | (refine wpl_alloc_agg rfl 44 rfl s1 _ (zero_ans _) ?_; intro w2 ga s2' _; clear s1; have s2 : Sat W0 w2 (seg true g 0 (opC kd (k : Int) ag ct ot dp dn dc ep en ec) :: seg true ga 0 ans0 :: vltL sesI v l t hb vb T (ledO l rs :: bytes md dp data :: bytes mm ep more :: L)) := s2'.f; clear s2'; obtain ⟨o0, o1, o2, o3, o4, o5, o6, zo⟩ := HO.out _ _ _ _ _ _ _ _ _ _ s2))
  have s3 : Sat W0 w2 (seg true v 0 (vlC t l T) :: seg true g 0 (opC kd (k : Int) ag ct ot dp dn dc ep en ec) :: tabC t hb vb (heldC T) (valsC T) (stars (T.map (Slt.A sesI)) :: seg true ga 0 ans0 :: ledO l rs :: bytes md dp data :: bytes mm ep more :: L)) := s2.f
  clear s2 o0 o1 o2 o3 o4 o5 o6 zo
  have hCf := fun (w' : World) (X : List Assn) (h : Sat W0 w' (seg true v 0 (vlC t l T) :: seg true g 0 (opC kd (k : Int) ag ct ot dp dn dc ep en ec) :: X)) => (by
   have h1 := h.pull 1
   exact ⟨h.at 0 rfl, h.lt (by simp [vlC]), Sat.at h1 1 rfl, Sat.lt h1 (by simp)⟩ : w'.cell? ⟨v, 0, none⟩ = some (.pointer (some ⟨t, 0, none⟩)) ∧ v < w'.heap.size ∧ w'.cell? ⟨g, 1, none⟩ = some (.int .i64 (k : Int)) ∧ g < w'.heap.size)
  have HC := Lib.hid hCf; clear hCf
  have sd := s3.drew
  clear s3
  refine region_E (fun w' => w'.cell? ⟨v, 0, none⟩ = some (.pointer (some ⟨t, 0, none⟩)) ∧ v < w'.heap.size ∧ w'.cell? ⟨g, 1, none⟩ = some (.int .i64 (k : Int)) ∧ g < w'.heap.size) [4, 6] (by kernel_rfl) ?_
  have hHeld := HC.out _ _ sd
  iterate 7
   first | refine autoT' hHeld (h := ?_) | refine autoP' (h := ?_)
   try simp only [pA1, pA2, pA3, pA4]
  refine anyE_last' (i := 7) (h := fun K hK => ?_)
  go_simp
  refine (HN.out.2.1 _ _ (sd.f : Sat W0 _ (tabC t hb vb (heldC T) (valsC T) (seg true v 0 (vlC t l T) :: seg true g 0 (opC kd (k : Int) ag ct ot dp dn dc ep en ec) :: stars (T.map (Slt.A sesI)) :: seg true ga 0 ans0 :: ledO l rs :: bytes md dp data :: bytes mm ep more :: L)))).mono ?_
  rintro e w3 ⟨rfl, s4⟩
  clear sd
  go_wp2_with fail
  refine hK.out _ _ ?_
  clear hK K
  try simp only [pA1, pA2, pA3, pA4]
  iterate 5
   first | refine autoT' hHeld (h := ?_) | refine autoP' (h := ?_)
   try simp only [pA1, pA2, pA3, pA4]
  refine anyE_done (by kernel_rfl) ?_ _
  clear hHeld
  have s5 : Sat W0 w3 (seg true g 0 (opC kd (k : Int) ag ct ot dp dn dc ep en ec) :: seg true ga 0 ans0 :: vltL sesI v l t hb vb T (ledO l rs :: bytes md dp data :: bytes mm ep more :: L)) := s4.f
  clear s4
  obtain ⟨o0, o1, o2, o3, o4, o5, o6, zo⟩ := HO.out _ _ _ _ _ _ _ _ _ _ s5
  go_wp2_with fail
  refine (HN.out.2.2 _ _ (s5.f : Sat W0 w3 (ledO l rs :: vltL sesI v l t hb vb T (seg true ga 0 ans0 :: bytes md dp data :: bytes mm ep more :: L)))).mono ?_
  rintro e w4 ⟨rfl, s6⟩
  clear s5 o0 o1 o2 o3 o4 o5 o6 zo
  go_wp2_with fail
  refine (vCode 0 s6).mono ?_
  rintro e w5 ⟨rfl, s7⟩
  clear s6
  have sr0 : Sat W0 _ (seg true ga 0 ans0 :: vltL sesI v l t hb vb (T.set k ⟨m, none⟩) (ledO l (note rs 8 1024 1) :: bytes md dp data :: bytes mm ep more :: L)) := s7.f
  clear s7
  go_wp2_with (refine wpl_stAns rfl rfl (.tmp 4) (.tmp 26) rfl sr0 rfl rfl ?_; intro ws ss; clear sr0)
  have hr := ansLd ss
  have HS := Lib.hid ss.tail; clear ss
  refine bodyPost_ret (v := .agg #[.int .i64 0, .int .i64 0, .bool false, .slice none 0 0]) (by simp [results, Tryz.results58, asAddr]; exact hr) rfl ?_
  exact ansV_s ((vltShut (th_set _ _ _) (by rw [List.length_set]; exact HN.out.1) HS.out).pull 1)
end Go.Proofs.YtbefjaodpbgpcaaGreat
