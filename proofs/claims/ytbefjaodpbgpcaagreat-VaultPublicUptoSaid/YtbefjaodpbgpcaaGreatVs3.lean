
import Derived.Test.YtbefjaodpbgpcaaGreatVs0
import Derived.Test.YtbefjaodpbgpcaaGreatHE
import Derived.Test.YtbefjaodpbgpcaaGreatHC
set_option linter.unusedVariables false
set_option linter.unusedSimpArgs false
set_option maxRecDepth 100000
set_option maxHeartbeats 16000000
namespace Go.Proofs.YtbefjaodpbgpcaaGreat
open Go.RowKit Go.Sep Go.Bv Go.Kec Go.Aes Go.Sha
def fullS {σ : Type} (S : Sts σ) : Bool := S.all (·.isSome)
theorem full_count {σ : Type} (T : List (Slt σ)) (hT : T.length = 64) : ((((heldC T).count true : Nat) : Int) == ((64 : Nat) : Int)) = fullS (T.map Slt.th) := by
 have h1 : fullS (T.map Slt.th) = (heldC T).all id := by
  unfold fullS heldC
  rw [List.all_map, List.all_map]
  congr 1
  funext s
  simp [Slt.th, Option.isSome_map]
 rw [h1, Bool.eq_iff_iff]
 have h2 := heldC_len hT
 rw [← h2]
 simp only [beq_iff_eq, List.all_eq_true, id_eq]
 constructor
 ·intro h b hb
  have h3 : (heldC T).count true = (heldC T).length := by omega
  exact (List.count_eq_length.1 h3 b hb).symm
 ·intro h
  have h3 : (heldC T).count true = (heldC T).length := List.count_eq_length.2 fun b hb => (h b hb).symm
  omega
def beginE (o : OpC) (kl : Nat) : Int := if o.alg < 1 ∨ 7 < o.alg then 4 else (kindA o.alg).code kl o.data.length o.out
def vBegin (S : Sts SesD) (o : OpC) (rs : List Run3) : Sts SesD × Ans × List Run3 :=
 match tAt S o.handle with
 | none => (S, noA 5, rs)
 | some (.ses _) => (S, noA 6, rs)
 | some (.key k) =>
  if beginE o k.length = 0 then (if fullS S then (S, noA 8, rs) else ((vTake S (.ses ⟨kindA o.alg, o.out.toNat, k, o.data, []⟩)).1, (vTake S (.ses ⟨kindA o.alg, o.out.toNat, k, o.data, []⟩)).2, (kindA o.alg).beg k.length o.data.length rs))
  else (S, noA (beginE o k.length), rs)
def vClone (S : Sts SesD) (o : OpC) (rs : List Run3) : Sts SesD × Ans × List Run3 :=
 match tAt S o.handle with
 | none => (S, noA 5, rs)
 | some x => if fullS S then (S, noA 8, rs) else ((vTake S x).1, (vTake S x).2, rs)
theorem beginRefuse {W0 w : World} {L : List Assn} {pk pc : Option Addr} {nk ck n cap ag : Nat} {out : Int} (pv : Value) (kd : Nat) (hd ct : Int) (data more : List Byte) (hn : data.length = n) (hc : beginE ⟨kd, hd, ag, ct, out, data, more⟩ nk ≠ 0) (hs : Sat W0 w L) :
  Calls Tryz.prog 73 #[pv, .int .u8 (ag : Int), .slice pk nk ck, .slice pc n cap, .int .i64 out] w fun e w' => e = .returned (.tuple #[.pointer none, .int .i64 (beginE ⟨kd, hd, ag, ct, out, data, more⟩ nk)]) ∧ Sat W0 w' L := by
 by_cases h : ag < 1 ∨ 7 < ag
 ·have e0 : beginE ⟨kd, hd, ag, ct, out, data, more⟩ nk = 4 := if_pos h
  rw [e0]
  exact macUnknown (ag : Int) (fun k h1 h2 h3 => by omega) pv _ _ _ hs
 ·have e0 : beginE ⟨kd, hd, ag, ct, out, data, more⟩ nk = (kindA ag).code nk n out := by
   unfold beginE
   rw [if_neg h, hn]
  rw [e0] at hc ⊢
  exact macRefuse (kindA ag) out (by rw [kindA_alg ag (by omega) (by omega)]) hc hs
theorem beginFine {kd : Nat} {hd : Int} {ag : Nat} {ct out : Int} {data more key : List Byte} (hc : beginE ⟨kd, hd, ag, ct, out, data, more⟩ key.length = 0) (hk : key.length ≤ 512) : ∃ o : Nat, out = (o : Int) ∧ (kindA ag).alg = ag ∧ (kindA ag).fits key data o := by
 unfold beginE at hc
 by_cases h : ag < 1 ∨ 7 < ag
 ·rw [if_pos h] at hc; cases hc
 ·rw [if_neg h] at hc
  obtain ⟨o, e, hf⟩ := code_fits hc (by omega)
  exact ⟨o, e, kindA_alg ag (by omega) (by omega), hf⟩
theorem vBeginW {W0 w : World} {L : List Assn} {v : Nat} {l : Option Nat} {rs : List Run3} {md mm : Bool} {dp ep : Option Addr} {dn dc en ec : Nat} {B : Nat} (S : Sts SesD) (kd : Nat) (hd : Int) (ag : Nat) (ct ot : Int) (data more : List Byte) (hV : okV B S) (hB : B + 65536 ≤ 1000000000) (hR : Roomy rs) (hdn : data.length = dn) (hdc : dn ≤ dc) (hdm : dc ≤ maxLen)
  (hs : Sat W0 w (ledO l rs :: vlt sesI v l S :: bytes md dp data :: bytes mm ep more :: L)) :
  Calls Tryz.prog 50 #[.pointer (some ⟨v, 0, none⟩), .agg #[.int .u8 (kd : Int), .int .i64 hd, .int .u8 (ag : Int), .int .i64 ct, .int .i64 ot, .slice dp dn dc, .slice ep en ec]] w fun e w' => ansV sesI W0 v l (vBegin S ⟨kd, hd, ag, ct, ot, data, more⟩ rs) (bytes md dp data :: bytes mm ep more :: L) e w' := by
 obtain ⟨t, hb, vb, T, rfl, hS, hT, s0'⟩ := vltOpen (show Sat W0 w (vlt sesI v l S :: ledO l rs :: bytes md dp data :: bytes mm ep more :: L) from hs.pull 1)
 have s0 : Sat W0 w (vltL sesI v l t hb vb T (ledO l rs :: bytes md dp data :: bytes mm ep more :: L)) := s0'.f
 clear hs s0'
 have HO := Lib.hid (hOp W0)
 have hErr : ∀ z : Int, z ≠ 0 → (∀ (w : World) (X : List Assn), Sat W0 w (vltL sesI v l t hb vb T X) → Calls Tryz.prog 71 #[.pointer (some ⟨v, 0, none⟩), .int .i64 hd] w fun e w' => e = .returned (.tuple #[.slice none 0 0, .int .i64 z]) ∧ Sat W0 w' (vltL sesI v l t hb vb T X)) →
   Calls Tryz.prog 50 #[.pointer (some ⟨v, 0, none⟩), .agg #[.int .u8 (kd : Int), .int .i64 hd, .int .u8 (ag : Int), .int .i64 ct, .int .i64 ot, .slice dp dn dc, .slice ep en ec]] w fun e w' => ansV sesI W0 v l (T.map Slt.th, noA z, rs) (bytes md dp data :: bytes mm ep more :: L) e w' := by
  intro z hz hka
  have hzc : (z != 0) = true := by rw [bne_iff_ne]; exact hz
  have HN := Lib.hid (And.intro hS hka); clear hS hT hka hV hB hR hz
  go_enter Tryz.func50, Tryz.ntmps50
  go_wp2_with (first | (refine wpl_box rfl 27 (.tmp 1) rfl (opC kd hd ag ct ot dp dn dc ep en ec) rfl s0 ?_; intro w1 g s1 _; clear s0) | (refine wpl_alloc_agg rfl 44 rfl s1 _ (zero_ans _) ?_; intro w2 ga s2' _; clear s1; have s2 : Sat W0 w2 (seg true g 0 (opC kd hd ag ct ot dp dn dc ep en ec) :: seg true ga 0 ans0 :: vltL sesI v l t hb vb T (ledO l rs :: bytes md dp data :: bytes mm ep more :: L)) := s2'.f; clear s2'; obtain ⟨o0, o1, o2, o3, o4, o5, o6, zo⟩ := HO.out _ _ _ _ _ _ _ _ _ _ s2))
  refine (HN.out.2 _ _ (s2.f : Sat W0 w2 (vltL sesI v l t hb vb T (seg true g 0 (opC kd hd ag ct ot dp dn dc ep en ec) :: seg true ga 0 ans0 :: ledO l rs :: bytes md dp data :: bytes mm ep more :: L)))).mono ?_
  rintro e w3 ⟨rfl, s3'⟩
  have s3 : Sat W0 w3 (seg true g 0 (opC kd hd ag ct ot dp dn dc ep en ec) :: seg true ga 0 ans0 :: vltL sesI v l t hb vb T (ledO l rs :: bytes md dp data :: bytes mm ep more :: L)) := s3'.f
  clear s2 s3' o0 o1 o2 o3 o4 o5 o6 zo
  go_wp2_with fail
  refine (vCode z s3).mono ?_
  rintro e wE ⟨rfl, sE⟩
  clear s3
  have sr0 : Sat W0 _ (seg true ga 0 ans0 :: vltL sesI v l t hb vb T (ledO l rs :: bytes md dp data :: bytes mm ep more :: L)) := sE.f
  clear sE
  go_wp2_with (refine wpl_stAns rfl rfl (.tmp 4) (.tmp 20) rfl sr0 rfl rfl ?_; intro ws ss; clear sr0)
  have hr := ansLd ss
  have HS := Lib.hid ss.tail; clear ss
  refine bodyPost_ret (v := .agg #[.int .i64 z, .int .i64 0, .bool false, .slice none 0 0]) (by simp [results, Tryz.results50, asAddr]; exact hr) rfl ?_
  exact ansV_no ((vltShut rfl HN.out.1 HS.out).pull 1)
 rcases tAt_cases T hT hd with ⟨e1, hno⟩ | ⟨k, m, y, rfl, hk64, hk, e1, hyes⟩
 ·rw [show vBegin (T.map Slt.th) ⟨kd, hd, ag, ct, ot, data, more⟩ rs = (T.map Slt.th, noA 5, rs) by unfold vBegin; rw [e1]]
  exact hErr 5 (by decide) fun w X s => keyAtNo hd hno hT s
 ·cases y with
  | ses x s =>
   rw [show vBegin (T.map Slt.th) ⟨kd, (k : Int), ag, ct, ot, data, more⟩ rs = (T.map Slt.th, noA 6, rs) by unfold vBegin; rw [e1]; rfl]
   exact hErr 6 (by decide) fun w X s => keyAtSes hk hT s
  | key b p c =>
   clear hErr
   have hkl := okV_key hV hk
   have hka := fun (w : World) (X : List Assn) (s : Sat W0 w (vltL sesI v l t hb vb T X)) => keyAtKey (n := b.length) hk rfl hT s
   have hfu := fun (w : World) (X : List Assn) (s : Sat W0 w (tabC t hb vb (heldC T) (valsC T) X)) => full_th (heldC_len hT) (valsC_len hT) (by decide) (by decide) s
   have hfc := full_count T hT
   rw [hfc] at hfu
   have hE : tAt (T.map Slt.th) (k : Int) = some (.key b) := e1
   obtain ⟨nk, hnk⟩ : ∃ n, n = b.length := ⟨_, rfl⟩
   obtain ⟨F, hF⟩ : ∃ F, F = fullS (T.map Slt.th) := ⟨_, rfl⟩
   rw [← hnk] at hka
   rw [← hF] at hfu
   have hfaf : ∀ (w : World) (X : List Assn), Sat W0 w (stars (T.map (Slt.A sesI)) :: X) → (nk ≤ c ∧ c ≤ maxLen) ∧ Sat W0 w (bytes true p b :: memA m b :: stars ((T.map (Slt.A sesI)).eraseIdx k) :: X) := fun w X h => by
    have h1 := sltOut hk h
    have h1' : Sat W0 w (memA m b :: locO sesI (some (.key b p c)) :: stars ((T.map (Slt.A sesI)).eraseIdx k) :: X) := h1
    have h2 := h1'.swap
    exact ⟨by rw [hnk]; exact h2.fact fun x hx => hx.1, h2.imp fun x hx => hx.2⟩
   have hbak : ∀ (w : World) (X : List Assn), nk ≤ c ∧ c ≤ maxLen → Sat W0 w (bytes true p b :: memA m b :: stars ((T.map (Slt.A sesI)).eraseIdx k) :: X) → Sat W0 w (stars (T.map (Slt.A sesI)) :: X) := fun w X hc h => by
    have h1 : Sat W0 w (locO sesI (some (.key b p c)) :: memA m b :: stars ((T.map (Slt.A sesI)).eraseIdx k) :: X) := h.imp fun x hx => ⟨by rw [← hnk]; exact hc, hx⟩
    have h2 := sltIn (s' := ⟨m, some (.key b p c)⟩) hk (h1.f : Sat W0 w (memA m b :: locO sesI (some (.key b p c)) :: stars ((T.map (Slt.A sesI)).eraseIdx k) :: X))
    rw [set_same hk] at h2
    exact h2
   by_cases hz : beginE ⟨kd, (k : Int), ag, ct, ot, data, more⟩ b.length = 0
   rotate_left
   ·have e0 : vBegin (T.map Slt.th) ⟨kd, (k : Int), ag, ct, ot, data, more⟩ rs = (T.map Slt.th, noA (beginE ⟨kd, (k : Int), ag, ct, ot, data, more⟩ b.length), rs) := by unfold vBegin; rw [hE]; exact if_neg hz
    rw [e0]
    clear e0 e1 hE
    have hrf := fun (pv : Value) (w : World) (X : List Assn) (s : Sat W0 w X) => beginRefuse (pk := p) (ck := c) (pc := dp) (cap := dc) pv kd (k : Int) ct data more hdn hz s
    rw [← hnk] at hrf hz ⊢
    obtain ⟨z, hzz⟩ : ∃ z, z = beginE ⟨kd, (k : Int), ag, ct, ot, data, more⟩ nk := ⟨_, rfl⟩
    rw [← hzz] at hrf hz ⊢
    have HN := Lib.hid (And.intro hS (And.intro hka (And.intro hfu (And.intro hrf (And.intro hfaf hbak))))); clear hS hT hka hk hyes hV hB hR hfu hrf hfaf hbak hfc hkl hnk hF hzz
    have hzc : (z != 0) = true := by rw [bne_iff_ne]; exact hz
    clear hz
    go_enter Tryz.func50, Tryz.ntmps50
    go_wp2_with (first | (refine wpl_box rfl 27 (.tmp 1) rfl (opC kd (k : Int) ag ct ot dp dn dc ep en ec) rfl s0 ?_; intro w1 g s1 _; clear s0) | (refine wpl_alloc_agg rfl 44 rfl s1 _ (zero_ans _) ?_; intro w2 ga s2' _; clear s1; have s2 : Sat W0 w2 (seg true g 0 (opC kd (k : Int) ag ct ot dp dn dc ep en ec) :: seg true ga 0 ans0 :: vltL sesI v l t hb vb T (ledO l rs :: bytes md dp data :: bytes mm ep more :: L)) := s2'.f; clear s2'; obtain ⟨o0, o1, o2, o3, o4, o5, o6, zo⟩ := HO.out _ _ _ _ _ _ _ _ _ _ s2))
    refine (HN.out.2.1 _ _ (s2.f : Sat W0 w2 (vltL sesI v l t hb vb T (seg true g 0 (opC kd (k : Int) ag ct ot dp dn dc ep en ec) :: seg true ga 0 ans0 :: ledO l rs :: bytes md dp data :: bytes mm ep more :: L)))).mono ?_
    rintro e w3 ⟨rfl, s3'⟩
    have s3 : Sat W0 w3 (seg true g 0 (opC kd (k : Int) ag ct ot dp dn dc ep en ec) :: seg true ga 0 ans0 :: vltL sesI v l t hb vb T (ledO l rs :: bytes md dp data :: bytes mm ep more :: L)) := s3'.f
    clear s2 s3' o0 o1 o2 o3 o4 o5 o6 zo
    have s4 : Sat W0 w3 (seg true v 0 (vlC t l T) :: seg true g 0 (opC kd (k : Int) ag ct ot dp dn dc ep en ec) :: tabC t hb vb (heldC T) (valsC T) (stars (T.map (Slt.A sesI)) :: seg true ga 0 ans0 :: ledO l rs :: bytes md dp data :: bytes mm ep more :: L)) := s3.f
    clear s3
    have c0 := s4.at 0 rfl
    have z0 := s4.lt (by simp [vlC])
    go_wp2_with fail
    refine (HN.out.2.2.1 _ _ (s4.f : Sat W0 w3 (tabC t hb vb (heldC T) (valsC T) (seg true v 0 (vlC t l T) :: seg true g 0 (opC kd (k : Int) ag ct ot dp dn dc ep en ec) :: stars (T.map (Slt.A sesI)) :: seg true ga 0 ans0 :: ledO l rs :: bytes md dp data :: bytes mm ep more :: L)))).mono ?_
    rintro e w4 ⟨rfl, kf, rfl⟩
    have s5 := s4.drewN kf
    obtain ⟨w5, hw5⟩ : ∃ w5, w5 = w3.drewN kf := ⟨_, rfl⟩
    rw [← hw5] at s5 ⊢
    clear s4 c0 z0 hw5
    cases F with
    | true =>
     have s6 : Sat W0 w5 (seg true g 0 (opC kd (k : Int) ag ct ot dp dn dc ep en ec) :: seg true ga 0 ans0 :: vltL sesI v l t hb vb T (ledO l rs :: bytes md dp data :: bytes mm ep more :: L)) := s5.f
     obtain ⟨o0, o1, o2, o3, o4, o5, o6, zo⟩ := HO.out _ _ _ _ _ _ _ _ _ _ s6
     clear s5
     go_wp2_with fail
     refine (HN.out.2.2.2.1 _ _ _ s6).mono ?_
     rintro e w6 ⟨rfl, s7⟩
     clear s6 o0 o1 o2 o3 o4 o5 o6 zo
     go_wp2_with fail
     refine (vCode z s7).mono ?_
     rintro e wE ⟨rfl, sE⟩
     clear s7
     have sr0 : Sat W0 _ (seg true ga 0 ans0 :: vltL sesI v l t hb vb T (ledO l rs :: bytes md dp data :: bytes mm ep more :: L)) := sE.f
     clear sE
     go_wp2_with (refine wpl_stAns rfl rfl (.tmp 4) (.tmp 41) rfl sr0 rfl rfl ?_; intro ws ss; clear sr0)
     have hr := ansLd ss
     have HS := Lib.hid ss.tail; clear ss
     refine bodyPost_ret (v := .agg #[.int .i64 z, .int .i64 0, .bool false, .slice none 0 0]) (by simp [results, Tryz.results50, asAddr]; exact hr) rfl ?_
     exact ansV_no ((vltShut rfl HN.out.1 HS.out).pull 1)
    | false =>
     have hCf := fun (w' : World) (X : List Assn) (h : Sat W0 w' (seg true v 0 (vlC t l T) :: seg true g 0 (opC kd (k : Int) ag ct ot dp dn dc ep en ec) :: X)) => (by
      have h1 := h.pull 1
      exact ⟨h.at 1 rfl, h.lt (by simp [vlC]), Sat.at h1 2 rfl, Sat.at h1 5 rfl, Sat.at h1 4 rfl, Sat.lt h1 (by simp)⟩ : w'.cell? ⟨v, 1, none⟩ = some (ptrO l) ∧ v < w'.heap.size ∧ w'.cell? ⟨g, 2, none⟩ = some (.int .u8 (ag : Int)) ∧ w'.cell? ⟨g, 5, none⟩ = some (.slice dp dn dc) ∧ w'.cell? ⟨g, 4, none⟩ = some (.int .i64 ot) ∧ g < w'.heap.size)
     have sd := s5.drew
     clear s5
     go_wp2_with fail
     refine region_E (fun w' => w'.cell? ⟨v, 1, none⟩ = some (ptrO l) ∧ v < w'.heap.size ∧ w'.cell? ⟨g, 2, none⟩ = some (.int .u8 (ag : Int)) ∧ w'.cell? ⟨g, 5, none⟩ = some (.slice dp dn dc) ∧ w'.cell? ⟨g, 4, none⟩ = some (.int .i64 ot) ∧ g < w'.heap.size) [3, 5, 8, 10] (by kernel_rfl) ?_
     have hHeld := hCf _ _ sd
     iterate 11
      first | refine autoT' hHeld (h := ?_) | refine autoP' (h := ?_)
      try simp only [pA1, pA2, pA3, pA4]
     refine anyE_last' (i := 11) (h := fun K hK => ?_)
     go_simp
     refine (HN.out.2.2.2.1 _ _ _ sd).mono ?_
     rintro e w6 ⟨rfl, s6⟩
     clear sd
     go_wp2_with fail
     refine hK.out _ _ ?_
     clear hK K
     try simp only [pA1, pA2, pA3, pA4]
     iterate 5
      first | refine autoT' hHeld (h := ?_) | refine autoP' (h := ?_)
      try simp only [pA1, pA2, pA3, pA4]
     refine anyE_done (by kernel_rfl) ?_ _
     clear hHeld hCf
     have s7 : Sat W0 w6 (seg true g 0 (opC kd (k : Int) ag ct ot dp dn dc ep en ec) :: seg true ga 0 ans0 :: vltL sesI v l t hb vb T (ledO l rs :: bytes md dp data :: bytes mm ep more :: L)) := s6.f
     clear s6
     go_wp2_with fail
     refine (vCode z s7).mono ?_
     rintro e wE ⟨rfl, sE⟩
     clear s7
     have sr0 : Sat W0 _ (seg true ga 0 ans0 :: vltL sesI v l t hb vb T (ledO l rs :: bytes md dp data :: bytes mm ep more :: L)) := sE.f
     clear sE
     go_wp2_with (refine wpl_stAns rfl rfl (.tmp 4) (.tmp 63) rfl sr0 rfl rfl ?_; intro ws ss; clear sr0)
     have hr := ansLd ss
     have HS := Lib.hid ss.tail; clear ss
     refine bodyPost_ret (v := .agg #[.int .i64 z, .int .i64 0, .bool false, .slice none 0 0]) (by simp [results, Tryz.results50, asAddr]; exact hr) rfl ?_
     exact ansV_no ((vltShut rfl HN.out.1 HS.out).pull 1)
   ·obtain ⟨ou, rfl, hal, hfit⟩ := beginFine hz hkl
    by_cases hfl : F = true
    ·subst hfl
     have e0 : vBegin (T.map Slt.th) ⟨kd, (k : Int), ag, ct, (ou : Int), data, more⟩ rs = (T.map Slt.th, noA 8, rs) := by unfold vBegin; rw [hE]; exact (if_pos hz).trans (if_pos hF.symm)
     rw [e0]
     clear e0 e1 hE hF hfc
     have hbg := fun (w : World) (X : List Assn) (h1 : nk ≤ c) (h2 : c ≤ maxLen) (s : Sat W0 w (ledO none [] :: bytes true p b :: bytes md dp data :: X)) => macBegin (pv := .pointer none) (av := .int .u8 (ag : Int)) (ov := .int .i64 (ou : Int)) (ck := c) (cap := dc) (kindA ag) none [] b data rfl (by rw [hal]) rfl hfit ⟨by decide, by decide⟩ hnk.symm h1 h2 hdn hdc hdm s
     have hwp := fun (w : World) (X : List Assn) (s : Nat) (h : Sat W0 w (ledO none [] :: ses (kindA ag) s b data ou [] :: X)) => macWipe (pv := .pointer none) (kindA ag) none [] b data [] rfl hfit ⟨by decide, by decide⟩ (by simp) h
     have HN := Lib.hid (And.intro hS (And.intro hka (And.intro hfu (And.intro hbg (And.intro hfaf (And.intro hbak hwp)))))); clear hS hT hka hk hyes hV hB hR hfu hbg hfaf hbak hkl hwp hnk hz hal hfit hdn hdc hdm
     go_enter Tryz.func50, Tryz.ntmps50
     go_wp2_with (first | (refine wpl_box rfl 27 (.tmp 1) rfl (opC kd (k : Int) ag ct (ou : Int) dp dn dc ep en ec) rfl s0 ?_; intro w1 g s1 _; clear s0) | (refine wpl_alloc_agg rfl 44 rfl s1 _ (zero_ans _) ?_; intro w2 ga s2' _; clear s1; have s2 : Sat W0 w2 (seg true g 0 (opC kd (k : Int) ag ct (ou : Int) dp dn dc ep en ec) :: seg true ga 0 ans0 :: vltL sesI v l t hb vb T (ledO l rs :: bytes md dp data :: bytes mm ep more :: L)) := s2'.f; clear s2'; obtain ⟨o0, o1, o2, o3, o4, o5, o6, zo⟩ := HO.out _ _ _ _ _ _ _ _ _ _ s2))
     refine (HN.out.2.1 _ _ (s2.f : Sat W0 w2 (vltL sesI v l t hb vb T (seg true g 0 (opC kd (k : Int) ag ct (ou : Int) dp dn dc ep en ec) :: seg true ga 0 ans0 :: ledO l rs :: bytes md dp data :: bytes mm ep more :: L)))).mono ?_
     rintro e w3 ⟨rfl, s3'⟩
     have s3 : Sat W0 w3 (seg true g 0 (opC kd (k : Int) ag ct (ou : Int) dp dn dc ep en ec) :: seg true ga 0 ans0 :: vltL sesI v l t hb vb T (ledO l rs :: bytes md dp data :: bytes mm ep more :: L)) := s3'.f
     clear s2 s3' o0 o1 o2 o3 o4 o5 o6 zo
     have s4 : Sat W0 w3 (seg true v 0 (vlC t l T) :: seg true g 0 (opC kd (k : Int) ag ct (ou : Int) dp dn dc ep en ec) :: tabC t hb vb (heldC T) (valsC T) (stars (T.map (Slt.A sesI)) :: seg true ga 0 ans0 :: ledO l rs :: bytes md dp data :: bytes mm ep more :: L)) := s3.f
     clear s3
     have c0 := s4.at 0 rfl
     have z0 := s4.lt (by simp [vlC])
     go_wp2_with fail
     refine (HN.out.2.2.1 _ _ (s4.f : Sat W0 w3 (tabC t hb vb (heldC T) (valsC T) (seg true v 0 (vlC t l T) :: seg true g 0 (opC kd (k : Int) ag ct (ou : Int) dp dn dc ep en ec) :: stars (T.map (Slt.A sesI)) :: seg true ga 0 ans0 :: ledO l rs :: bytes md dp data :: bytes mm ep more :: L)))).mono ?_
     rintro e w4 ⟨rfl, kf, rfl⟩
     have s5 := s4.drewN kf
     obtain ⟨w5, hw5⟩ : ∃ w5, w5 = w3.drewN kf := ⟨_, rfl⟩
     rw [← hw5] at s5 ⊢
     clear s4 c0 z0 hw5
     have s6 : Sat W0 w5 (seg true g 0 (opC kd (k : Int) ag ct (ou : Int) dp dn dc ep en ec) :: stars (T.map (Slt.A sesI)) :: seg true v 0 (vlC t l T) :: tabC t hb vb (heldC T) (valsC T) (seg true ga 0 ans0 :: ledO l rs :: bytes md dp data :: bytes mm ep more :: L)) := s5.f
     clear s5
     obtain ⟨o0, o1, o2, o3, o4, o5, o6, zo⟩ := HO.out _ _ _ _ _ _ _ _ _ _ s6
     obtain ⟨hpc, s7⟩ := HN.out.2.2.2.2.1 _ _ (show Sat W0 w5 (stars (T.map (Slt.A sesI)) :: seg true g 0 (opC kd (k : Int) ag ct (ou : Int) dp dn dc ep en ec) :: seg true v 0 (vlC t l T) :: tabC t hb vb (heldC T) (valsC T) (seg true ga 0 ans0 :: ledO l rs :: bytes md dp data :: bytes mm ep more :: L)) from s6.pull 1)
     have HP := Lib.hid hpc; clear hpc s6
     go_wp2_with fail
     refine (HN.out.2.2.2.1 _ (memA m b :: stars ((T.map (Slt.A sesI)).eraseIdx k) :: seg true g 0 (opC kd (k : Int) ag ct (ou : Int) dp dn dc ep en ec) :: seg true v 0 (vlC t l T) :: tabC t hb vb (heldC T) (valsC T) (seg true ga 0 ans0 :: ledO l rs :: bytes mm ep more :: L)) HP.out.1 HP.out.2 (by have h1 := ledNone s7; exact h1.f)).mono ?_
     rintro e w6 ⟨s, rfl, s8⟩
     clear s7 o0 o1 o2 o3 o4 o5 o6 zo
     go_wp2_with fail
     refine (HN.out.2.2.2.2.2.2 _ (bytes true p b :: memA m b :: stars ((T.map (Slt.A sesI)).eraseIdx k) :: seg true g 0 (opC kd (k : Int) ag ct (ou : Int) dp dn dc ep en ec) :: seg true v 0 (vlC t l T) :: tabC t hb vb (heldC T) (valsC T) (seg true ga 0 ans0 :: ledO l rs :: bytes md dp data :: bytes mm ep more :: L)) s (by have h1 := ledNone s8; exact h1.f)).mono ?_
     rintro e w7 ⟨rfl, s9⟩
     clear s8
     have sa := HN.out.2.2.2.2.2.1 _ _ HP.out (s9.f : Sat W0 w7 (bytes true p b :: memA m b :: stars ((T.map (Slt.A sesI)).eraseIdx k) :: seg true g 0 (opC kd (k : Int) ag ct (ou : Int) dp dn dc ep en ec) :: seg true v 0 (vlC t l T) :: tabC t hb vb (heldC T) (valsC T) (seg true ga 0 ans0 :: ledO l rs :: bytes md dp data :: bytes mm ep more :: L)))
     have sb : Sat W0 w7 (seg true g 0 (opC kd (k : Int) ag ct (ou : Int) dp dn dc ep en ec) :: seg true ga 0 ans0 :: vltL sesI v l t hb vb T (ledO l rs :: bytes md dp data :: bytes mm ep more :: L)) := sa.f
     clear s9 sa
     go_wp2_with fail
     refine (vCode 8 sb).mono ?_
     rintro e wE ⟨rfl, sE⟩
     clear sb
     have sr0 : Sat W0 _ (seg true ga 0 ans0 :: vltL sesI v l t hb vb T (ledO l rs :: bytes md dp data :: bytes mm ep more :: L)) := sE.f
     clear sE
     go_wp2_with (refine wpl_stAns rfl rfl (.tmp 4) (.tmp 44) rfl sr0 rfl rfl ?_; intro ws ss; clear sr0)
     have hr := ansLd ss
     have HS := Lib.hid ss.tail; clear ss
     refine bodyPost_ret (v := .agg #[.int .i64 8, .int .i64 0, .bool false, .slice none 0 0]) (by simp [results, Tryz.results50, asAddr]; exact hr) rfl ?_
     exact ansV_no ((vltShut rfl HN.out.1 HS.out).pull 1)
    ·have hff : F = false := by simpa using hfl
     subst hff
     clear hfl
     obtain ⟨Kd, hKd⟩ : ∃ K, K = kindA ag := ⟨_, rfl⟩
     have e0 : vBegin (T.map Slt.th) ⟨kd, (k : Int), ag, ct, (ou : Int), data, more⟩ rs = ((vTake (T.map Slt.th) (.ses ⟨Kd, ou, b, data, []⟩)).1, (vTake (T.map Slt.th) (.ses ⟨Kd, ou, b, data, []⟩)).2, Kd.beg nk dn rs) := by
      unfold vBegin; rw [hE]
      refine (if_pos hz).trans ((if_neg (by rw [← hF]; exact Bool.false_ne_true)).trans ?_)
      rw [hKd, hnk, hdn]; rfl
     rw [e0]
     rw [← hKd] at hal hfit
     clear e0 e1 hE hF hfc hKd
     have hbg := fun (w : World) (X : List Assn) (h1 : nk ≤ c) (h2 : c ≤ maxLen) (s : Sat W0 w (ledO l rs :: bytes true p b :: bytes md dp data :: X)) => macBegin (pv := ptrO l) (av := .int .u8 (ag : Int)) (ov := .int .i64 (ou : Int)) (ck := c) (cap := dc) Kd l rs b data rfl (by rw [hal]) rfl hfit hR hnk.symm h1 h2 hdn hdc hdm s
     have htk := fun (w : World) (X : List Assn) (s : Nat) (h : Sat W0 w (sesI.A ⟨Kd, ou, b, data, []⟩ s :: vltL sesI v l t hb vb T X)) => takeSes (s := s) (B := 0) ⟨Kd, ou, b, data, []⟩ ⟨hfit, hkl, Nat.le_refl 0⟩ (by decide) hT h
     have HN := Lib.hid (And.intro hS (And.intro hka (And.intro hfu (And.intro hbg (And.intro hfaf (And.intro hbak htk)))))); clear hS hT hka hk hyes hV hB hR hfu hbg hfaf hbak hkl htk hnk hz hal hfit hdn hdc hdm
     go_enter Tryz.func50, Tryz.ntmps50
     go_wp2_with (first | (refine wpl_box rfl 27 (.tmp 1) rfl (opC kd (k : Int) ag ct (ou : Int) dp dn dc ep en ec) rfl s0 ?_; intro w1 g s1 _; clear s0) | (refine wpl_alloc_agg rfl 44 rfl s1 _ (zero_ans _) ?_; intro w2 ga s2' _; clear s1; have s2 : Sat W0 w2 (seg true g 0 (opC kd (k : Int) ag ct (ou : Int) dp dn dc ep en ec) :: seg true ga 0 ans0 :: vltL sesI v l t hb vb T (ledO l rs :: bytes md dp data :: bytes mm ep more :: L)) := s2'.f; clear s2'; obtain ⟨o0, o1, o2, o3, o4, o5, o6, zo⟩ := HO.out _ _ _ _ _ _ _ _ _ _ s2))
     refine (HN.out.2.1 _ _ (s2.f : Sat W0 w2 (vltL sesI v l t hb vb T (seg true g 0 (opC kd (k : Int) ag ct (ou : Int) dp dn dc ep en ec) :: seg true ga 0 ans0 :: ledO l rs :: bytes md dp data :: bytes mm ep more :: L)))).mono ?_
     rintro e w3 ⟨rfl, s3'⟩
     have s3 : Sat W0 w3 (seg true g 0 (opC kd (k : Int) ag ct (ou : Int) dp dn dc ep en ec) :: seg true ga 0 ans0 :: vltL sesI v l t hb vb T (ledO l rs :: bytes md dp data :: bytes mm ep more :: L)) := s3'.f
     clear s2 s3' o0 o1 o2 o3 o4 o5 o6 zo
     have s4 : Sat W0 w3 (seg true v 0 (vlC t l T) :: seg true g 0 (opC kd (k : Int) ag ct (ou : Int) dp dn dc ep en ec) :: tabC t hb vb (heldC T) (valsC T) (stars (T.map (Slt.A sesI)) :: seg true ga 0 ans0 :: ledO l rs :: bytes md dp data :: bytes mm ep more :: L)) := s3.f
     clear s3
     have c0 := s4.at 0 rfl
     have z0 := s4.lt (by simp [vlC])
     go_wp2_with fail
     refine (HN.out.2.2.1 _ _ (s4.f : Sat W0 w3 (tabC t hb vb (heldC T) (valsC T) (seg true v 0 (vlC t l T) :: seg true g 0 (opC kd (k : Int) ag ct (ou : Int) dp dn dc ep en ec) :: stars (T.map (Slt.A sesI)) :: seg true ga 0 ans0 :: ledO l rs :: bytes md dp data :: bytes mm ep more :: L)))).mono ?_
     rintro e w4 ⟨rfl, kf, rfl⟩
     have s5 := s4.drewN kf
     obtain ⟨w5, hw5⟩ : ∃ w5, w5 = w3.drewN kf := ⟨_, rfl⟩
     rw [← hw5] at s5 ⊢
     clear s4 c0 z0 hw5
     go_wp2_with fail
     have hCf := fun (w' : World) (X : List Assn) (h : Sat W0 w' (seg true v 0 (vlC t l T) :: seg true g 0 (opC kd (k : Int) ag ct (ou : Int) dp dn dc ep en ec) :: X)) => (by
      have h1 := h.pull 1
      exact ⟨h.at 1 rfl, h.lt (by simp [vlC]), Sat.at h1 2 rfl, Sat.at h1 5 rfl, Sat.at h1 4 rfl, Sat.lt h1 (by simp)⟩ : w'.cell? ⟨v, 1, none⟩ = some (ptrO l) ∧ v < w'.heap.size ∧ w'.cell? ⟨g, 2, none⟩ = some (.int .u8 (ag : Int)) ∧ w'.cell? ⟨g, 5, none⟩ = some (.slice dp dn dc) ∧ w'.cell? ⟨g, 4, none⟩ = some (.int .i64 (ou : Int)) ∧ g < w'.heap.size)
     have sd := s5.drew
     clear s5
     obtain ⟨hpc, s7⟩ := HN.out.2.2.2.2.1 _ _ (sd.f : Sat W0 _ (stars (T.map (Slt.A sesI)) :: seg true v 0 (vlC t l T) :: seg true g 0 (opC kd (k : Int) ag ct (ou : Int) dp dn dc ep en ec) :: tabC t hb vb (heldC T) (valsC T) (seg true ga 0 ans0 :: ledO l rs :: bytes md dp data :: bytes mm ep more :: L)))
     have hk0 := hCf _ _ sd
     have HP := Lib.hid (And.intro hpc hCf); clear hpc sd hCf
     refine region_E (fun w' => w'.cell? ⟨v, 1, none⟩ = some (ptrO l) ∧ v < w'.heap.size ∧ w'.cell? ⟨g, 2, none⟩ = some (.int .u8 (ag : Int)) ∧ w'.cell? ⟨g, 5, none⟩ = some (.slice dp dn dc) ∧ w'.cell? ⟨g, 4, none⟩ = some (.int .i64 (ou : Int)) ∧ g < w'.heap.size) [3, 5, 8, 10] (by kernel_rfl) ?_
     have hHeld := hk0
     iterate 11
      first | refine autoT' hHeld (h := ?_) | refine autoP' (h := ?_)
      try simp only [pA1, pA2, pA3, pA4]
     refine anyE_last' (i := 11) (h := fun K hK => ?_)
     go_simp
     refine (HN.out.2.2.2.1 _ _ HP.out.1.1 HP.out.1.2 (s7.f : Sat W0 _ (ledO l rs :: bytes true p b :: bytes md dp data :: memA m b :: stars ((T.map (Slt.A sesI)).eraseIdx k) :: seg true v 0 (vlC t l T) :: seg true g 0 (opC kd (k : Int) ag ct (ou : Int) dp dn dc ep en ec) :: tabC t hb vb (heldC T) (valsC T) (seg true ga 0 ans0 :: bytes mm ep more :: L)))).mono ?_
     rintro e w6 ⟨s, rfl, s8⟩
     clear s7 hk0
     go_wp2_with fail
     refine hK.out _ _ ?_
     clear hK K
     try simp only [pA1, pA2, pA3, pA4]
     iterate 5
      first | refine autoT' hHeld (h := ?_) | refine autoP' (h := ?_)
      try simp only [pA1, pA2, pA3, pA4]
     refine anyE_done (by kernel_rfl) ?_ _
     clear hHeld
     have sa := HN.out.2.2.2.2.2.1 _ _ HP.out.1 (s8.f : Sat W0 w6 (bytes true p b :: memA m b :: stars ((T.map (Slt.A sesI)).eraseIdx k) :: ses Kd s b data ou [] :: ledO l (Kd.beg nk dn rs) :: seg true v 0 (vlC t l T) :: seg true g 0 (opC kd (k : Int) ag ct (ou : Int) dp dn dc ep en ec) :: tabC t hb vb (heldC T) (valsC T) (seg true ga 0 ans0 :: bytes md dp data :: bytes mm ep more :: L)))
     have sb : Sat W0 w6 (sesI.A ⟨Kd, ou, b, data, []⟩ s :: vltL sesI v l t hb vb T (seg true ga 0 ans0 :: ledO l (Kd.beg nk dn rs) :: bytes md dp data :: bytes mm ep more :: L)) := by
      have sc : Sat W0 w6 (stars (T.map (Slt.A sesI)) :: sesI.A ⟨Kd, ou, b, data, []⟩ s :: ledO l (Kd.beg nk dn rs) :: seg true v 0 (vlC t l T) :: seg true g 0 (opC kd (k : Int) ag ct (ou : Int) dp dn dc ep en ec) :: tabC t hb vb (heldC T) (valsC T) (seg true ga 0 ans0 :: bytes md dp data :: bytes mm ep more :: L)) := sa
      exact sc.f
     clear s8 sa
     go_wp2_with fail
     refine (HN.out.2.2.2.2.2.2 _ _ s sb).mono ?_
     rintro e wT (⟨i, m2, him, hit, rfl, sT⟩ | ⟨hit, rfl, sT⟩)
     ·have sr0 : Sat W0 _ (seg true ga 0 ans0 :: vltL sesI v l t hb vb (T.set i ⟨m2, some (.ses ⟨Kd, ou, b, data, []⟩ s)⟩) (ledO l (Kd.beg nk dn rs) :: bytes md dp data :: bytes mm ep more :: L)) := sT.f
      clear sT sb
      go_wp2_with (refine wpl_stAns rfl rfl (.tmp 4) (.tmp 68) rfl sr0 rfl rfl ?_; intro ws ss; clear sr0)
      have hr := ansLd ss
      have HS := Lib.hid ss.tail; clear ss
      refine bodyPost_ret (v := .agg #[.int .i64 0, .int .i64 (i : Int), .bool false, .slice none 0 0]) (by simp [results, Tryz.results50, asAddr]; exact hr) rfl ?_
      rw [hit]
      exact ansV_h ((vltShut (th_set _ _ _) (by rw [List.length_set]; exact HN.out.1) HS.out).pull 1)
     ·have sr0 : Sat W0 _ (seg true ga 0 ans0 :: vltL sesI v l t hb vb T (ledO l (Kd.beg nk dn rs) :: bytes md dp data :: bytes mm ep more :: L)) := sT.f
      clear sT sb
      go_wp2_with (refine wpl_stAns rfl rfl (.tmp 4) (.tmp 68) rfl sr0 rfl rfl ?_; intro ws ss; clear sr0)
      have hr := ansLd ss
      have HS := Lib.hid ss.tail; clear ss
      refine bodyPost_ret (v := .agg #[.int .i64 8, .int .i64 0, .bool false, .slice none 0 0]) (by simp [results, Tryz.results50, asAddr]; exact hr) rfl ?_
      rw [hit]
      exact ansV_no ((vltShut rfl HN.out.1 HS.out).pull 1)
end Go.Proofs.YtbefjaodpbgpcaaGreat
