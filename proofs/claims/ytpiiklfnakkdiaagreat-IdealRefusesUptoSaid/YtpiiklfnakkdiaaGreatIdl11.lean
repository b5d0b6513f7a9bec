
/- The ideal vault: looked at, copied, let go; under the conditions that each names. -/
import Derived.Test.YtpiiklfnakkdiaaGreatHF
namespace Go.Proofs.YtpiiklfnakkdiaaGreat
open Go.RowKit Go.Sep Go.Bv Go.Kec Go.Aes Go.Sha
set_option linter.unusedVariables false
set_option linter.unusedSimpArgs false
abbrev segH (p k al ou : Nat) (kq : Option Addr) (kl cq : Nat) (c2 : Option Addr) (cl c3 : Nat) (mq : Option Addr) (ml mc : Nat) : Assn := seg true p 0 [.int .i64 (k : Int), .int .u8 (al : Int), .int .i64 (ou : Int), .slice kq kl cq, .slice c2 cl c3, .slice mq ml mc]
theorem hold_bd {B : Nat} {H : Hold} (h : H.ok B) (hB : B ≤ 1000000000) : H.kb.length ≤ 1000000000 ∧ H.cb.length ≤ 1000000000 ∧ H.mb.length ≤ 1000000000 := by
 cases H with
 | key k => exact ⟨Nat.le_trans (show k.length ≤ 512 from h) (by decide), Nat.zero_le _, Nat.zero_le _⟩
 | sn K o k c m =>
  have hf := fits_bdI h.1
  exact ⟨Nat.le_trans hf.1 (by decide), Nat.le_trans hf.2.1 (by decide), Nat.le_trans h.2.2 hB⟩
theorem setBack {T : Held} {k : Nat} {x : Option (Nat × Hold)} (hk : T[k]? = some x) : (T.set k none).set k x = T := by
 obtain ⟨hl, hv⟩ := List.getElem?_eq_some_iff.1 hk
 rw [List.set_set, ← hv, List.set_getElem_self]
theorem takeBack {T : Held} {k p i p2 : Nat} {H H2 : Hold} (hk : T[k]? = some (some (p, H))) (hi : T[i]? = some none) : ((T.set k none).set i (some (p2, H2)))[k]? = some none ∧ ((T.set k none).set i (some (p2, H2))).set k (some (p, H)) = T.set i (some (p2, H2)) := by
 have hne : i ≠ k := by rintro rfl; rw [hk] at hi; cases hi
 have hl := (List.getElem?_eq_some_iff.1 hk).1
 refine ⟨by rw [List.getElem?_set_ne hne, List.getElem?_set_self hl], ?_⟩
 rw [List.set_comm _ _ hne, setBack hk]
theorem setTT (T : Held) (k : Nat) : ∀ j : Nat, T[j]? = some none → (T.set k none)[j]? = some none := by
 intro j h
 by_cases e : k = j
 ·subst e
  rw [List.getElem?_set_self (List.getElem?_eq_some_iff.1 h).1]
 ·rw [List.getElem?_set_ne e]; exact h
theorem simp_none {S : Slots} {o : OpC} {c : Int} (h : (if o.kind = 9 then iAt S o.handle false else iAny S o.handle) = (c, none)) : iSimple S o = (S, noA c) := by
 unfold iSimple; rw [h]
theorem simp_some {S : Slots} {o : OpC} {H : Hold} (h : (if o.kind = 9 then iAt S o.handle false else iAny S o.handle) = (0, some H)) : iSimple S o = if o.kind = 9 then (S, ⟨0, 0, false, H.kb⟩) else if o.kind = 6 then iTake S H else (S.set o.handle.toNat none, noA 0) := by
 unfold iSimple; rw [h]
theorem any_of {S : Slots} {h : Int} {c : Int} {x : Option Hold} (he : iAt S h false = (c, x)) (hc : ¬ (c = 6 ∧ x = none)) : iAny S h = (c, x) := by
 unfold iAny
 rw [he]
 split
 ·rename_i h1
  cases h1
  exact absurd ⟨rfl, rfl⟩ hc
 ·rfl
theorem any_six {S : Slots} {h : Int} (he : iAt S h false = (6, none)) : iAny S h = iAt S h true := by
 unfold iAny; rw [he]; rfl
set_option maxRecDepth 100000 in
set_option maxHeartbeats 16000000 in
theorem iSimpleW {W0 w : World} {L : List Assn} {v B : Nat} {md mm : Bool} {dp ep : Option Addr} {dn dc en ec : Nat} (S : Slots) (kd : Nat) (hd : Int) (ag : Nat) (ct ot : Int) (data more : List Byte) (hS : okS B S) (hB : B ≤ 1000000000)
  (hs : Sat W0 w (vaultA v S :: bytes md dp data :: bytes mm ep more :: L)) :
  Calls Tryz.prog 46 #[.pointer (some ⟨v, 0, none⟩), .agg #[.int .u8 (kd : Int), .int .i64 hd, .int .u8 (ag : Int), .int .i64 ct, .int .i64 ot, .slice dp dn dc, .slice ep en ec]] w fun e w' => ansP W0 v (iSimple S ⟨kd, hd, ag, ct, ot, data, more⟩) (bytes md dp data :: bytes mm ep more :: L) e w' := by
 obtain ⟨T, rfl, s0⟩ := vOpen hs
 have hT : T.length = 64 := by rw [← namesT_len]; exact hS.1
 have HN := Lib.hid (And.intro hS (And.intro hB hT)); clear hS hB hT hs
 have HO := Lib.hid (hOp W0)
 go_enter Tryz.func46, Tryz.ntmps46
 go_wp2_with (first | (refine wpl_box rfl 26 (.tmp 1) rfl [.int .u8 (kd : Int), .int .i64 hd, .int .u8 (ag : Int), .int .i64 ct, .int .i64 ot, .slice dp dn dc, .slice ep en ec] rfl s0 ?_; intro w1 g s1 _; clear s0) | (refine wpl_alloc_agg rfl 35 rfl s1 _ (zero_ans _) ?_; intro w2 ga s2' _; clear s1; have s2 : Sat W0 w2 (seg true g 0 [.int .u8 (kd : Int), .int .i64 hd, .int .u8 (ag : Int), .int .i64 ct, .int .i64 ot, .slice dp dn dc, .slice ep en ec] :: seg true ga 0 ans0 :: seg true v 0 (.bool true :: cellsT T) :: slotsA 0 T :: bytes md dp data :: bytes mm ep more :: L) := (Sat.sub (s2') (by with_reducible repeat first | exact Fr1 | exact Fr2 | (apply Fr3; focus ((repeat (first | exact Tk1 | apply Tk2)); done)) | apply Fr4)); clear s2'; obtain ⟨o0, o1, o2, o3, o4, o5, o6, zo⟩ := HO.out _ _ _ _ _ _ _ _ _ _ s2))
 refine (iAtW T HN.out.2.2 hd false (Sat.sub (s2) (by with_reducible repeat first | exact Fr1 | exact Fr2 | (apply Fr3; focus ((repeat (first | exact Tk1 | apply Tk2)); done)) | apply Fr4))).mono ?_
 rintro e w3 ⟨rfl, ⟨c, hat, hc, rfl⟩ | ⟨p, H, h1, h2, hat, hTp, hal, rfl⟩⟩
 ·rcases hc with rfl | rfl
  ·have e0 := simp_none (o := ⟨kd, hd, ag, ct, ot, data, more⟩) (c := 5) (S := namesT T) (by simp only; rw [any_of hat (by decide), hat]; simp)
   have HE := Lib.hid e0; clear e0
   go_wp2_with fail
   refine (iNo 5 s2).mono ?_
   rintro e w4 ⟨rfl, s4⟩
   clear s2 o0 o1 o2 o3 o4 o5 o6 zo
   have sr0 : Sat W0 _ (seg true ga 0 ans0 :: seg true v 0 (.bool true :: cellsT T) :: slotsA 0 T :: bytes md dp data :: bytes mm ep more :: L) := (Sat.sub (s4) (by with_reducible repeat first | exact Fr1 | exact Fr2 | (apply Fr3; focus ((repeat (first | exact Tk1 | apply Tk2)); done)) | apply Fr4))
   go_wp2_with (refine wpl_stAns rfl rfl (.tmp 4) (.tmp 31) rfl sr0 rfl rfl ?_; intro ws ss; clear sr0)
   have hr := ansLd ss
   have HS := Lib.hid ss.tail; clear ss
   refine bodyPost_ret (v := .agg #[.int .i64 5, .int .i64 0, .bool false, .slice none 0 0]) (by simp [results, Tryz.results46, asAddr]; exact hr) rfl ?_
   rw [HE.out]
   exact ansP_no (vShut T rfl HS.out)
  ·by_cases k9 : kd = 9
   ·have k9c : ((kd : Int) != 9) = false := by rw [k9]; rfl
    have e0 := simp_none (o := ⟨kd, hd, ag, ct, ot, data, more⟩) (c := 6) (S := namesT T) (by simp only; rw [if_pos k9, hat])
    clear k9
    have HE := Lib.hid e0; clear e0
    go_wp2_with fail
    refine (iNo 6 s2).mono ?_
    rintro e w4 ⟨rfl, s4⟩
    clear s2 o0 o1 o2 o3 o4 o5 o6 zo
    have sr0 : Sat W0 _ (seg true ga 0 ans0 :: seg true v 0 (.bool true :: cellsT T) :: slotsA 0 T :: bytes md dp data :: bytes mm ep more :: L) := (Sat.sub (s4) (by with_reducible repeat first | exact Fr1 | exact Fr2 | (apply Fr3; focus ((repeat (first | exact Tk1 | apply Tk2)); done)) | apply Fr4))
    go_wp2_with (refine wpl_stAns rfl rfl (.tmp 4) (.tmp 31) rfl sr0 rfl rfl ?_; intro ws ss; clear sr0)
    have hr := ansLd ss
    have HS := Lib.hid ss.tail; clear ss
    refine bodyPost_ret (v := .agg #[.int .i64 6, .int .i64 0, .bool false, .slice none 0 0]) (by simp [results, Tryz.results46, asAddr]; exact hr) rfl ?_
    rw [HE.out]
    exact ansP_no (vShut T rfl HS.out)
   ·have k9c : ((kd : Int) != 9) = true := by rw [bne_iff_ne]; omega
    have k9b : ((kd : Int) == 9) = false := by rw [beq_eq_false_iff_ne]; omega
    go_wp2_with fail
    refine (iAtW T HN.out.2.2 hd true (Sat.sub (s2) (by with_reducible repeat first | exact Fr1 | exact Fr2 | (apply Fr3; focus ((repeat (first | exact Tk1 | apply Tk2)); done)) | apply Fr4))).mono ?_
    rintro e w3 ⟨rfl, ⟨c, hat2, hc, rfl⟩ | ⟨p, H, h1, h2, hat2, hTp, hal, rfl⟩⟩
    ·have e0 := simp_none (o := ⟨kd, hd, ag, ct, ot, data, more⟩) (c := c) (S := namesT T) (by simp only; rw [if_neg k9, any_six hat, hat2])
     clear k9 hat
     rcases hc with rfl | rfl
     ·have HE := Lib.hid e0; clear e0
      go_wp2_with fail
      refine (iNo 5 s2).mono ?_
      rintro e w4 ⟨rfl, s4⟩
      clear s2 o0 o1 o2 o3 o4 o5 o6 zo
      have sr0 : Sat W0 _ (seg true ga 0 ans0 :: seg true v 0 (.bool true :: cellsT T) :: slotsA 0 T :: bytes md dp data :: bytes mm ep more :: L) := (Sat.sub (s4) (by with_reducible repeat first | exact Fr1 | exact Fr2 | (apply Fr3; focus ((repeat (first | exact Tk1 | apply Tk2)); done)) | apply Fr4))
      go_wp2_with (refine wpl_stAns rfl rfl (.tmp 4) (.tmp 31) rfl sr0 rfl rfl ?_; intro ws ss; clear sr0)
      have hr := ansLd ss
      have HS := Lib.hid ss.tail; clear ss
      refine bodyPost_ret (v := .agg #[.int .i64 5, .int .i64 0, .bool false, .slice none 0 0]) (by simp [results, Tryz.results46, asAddr]; exact hr) rfl ?_
      rw [HE.out]
      exact ansP_no (vShut T rfl HS.out)
     ·have HE := Lib.hid e0; clear e0
      go_wp2_with fail
      refine (iNo 6 s2).mono ?_
      rintro e w4 ⟨rfl, s4⟩
      clear s2 o0 o1 o2 o3 o4 o5 o6 zo
      have sr0 : Sat W0 _ (seg true ga 0 ans0 :: seg true v 0 (.bool true :: cellsT T) :: slotsA 0 T :: bytes md dp data :: bytes mm ep more :: L) := (Sat.sub (s4) (by with_reducible repeat first | exact Fr1 | exact Fr2 | (apply Fr3; focus ((repeat (first | exact Tk1 | apply Tk2)); done)) | apply Fr4))
      go_wp2_with (refine wpl_stAns rfl rfl (.tmp 4) (.tmp 31) rfl sr0 rfl rfl ?_; intro ws ss; clear sr0)
      have hr := ansLd ss
      have HS := Lib.hid ss.tail; clear ss
      refine bodyPost_ret (v := .agg #[.int .i64 6, .int .i64 0, .bool false, .slice none 0 0]) (by simp [results, Tryz.results46, asAddr]; exact hr) rfl ?_
      rw [HE.out]
      exact ansP_no (vShut T rfl HS.out)
    ·have e0 := simp_some (o := ⟨kd, hd, ag, ct, ot, data, more⟩) (S := namesT T) (H := H) (by simp only; rw [if_neg k9, any_six hat, hat2])
     clear hat hat2
     obtain ⟨k, rfl⟩ : ∃ k : Nat, hd = (k : Int) := ⟨hd.toNat, by omega⟩
     rw [Int.toNat_natCast] at hTp
     simp only [Int.toNat_natCast] at e0
     have hkI : (k : Int) < 64 := h2
     have so := slotsOpen k hTp ((Sat.sub (s2) (by with_reducible repeat first | exact Fr1 | exact Fr2 | (apply Fr3; focus ((repeat (first | exact Tk1 | apply Tk2)); done)) | apply Fr4)) : Sat W0 w3 (slotsA 0 T :: seg true g 0 [.int .u8 (kd : Int), .int .i64 (k : Int), .int .u8 (ag : Int), .int .i64 ct, .int .i64 ot, .slice dp dn dc, .slice ep en ec] :: seg true ga 0 ans0 :: seg true v 0 (.bool true :: cellsT T) :: bytes md dp data :: bytes mm ep more :: L))
     obtain ⟨q, hq, so2⟩ := holdOpen so
     obtain ⟨kq, cq, c2, c3, mq, mc⟩ := q
     rw [Nat.zero_add] at so2
     have hok := HN.out.1.2 _ (mem_of_get (namesT_get hTp))
     have hbk : H.kb.length ≤ 1000000000 ∧ H.cb.length ≤ 1000000000 ∧ H.mb.length ≤ 1000000000 := hold_bd hok HN.out.2.1
     obtain ⟨al, hal2⟩ : ∃ al : Nat, al = H.alg := ⟨_, rfl⟩
     obtain ⟨ou, hou⟩ : ∃ ou : Nat, ou = H.out := ⟨_, rfl⟩
     obtain ⟨kl, hkl⟩ : ∃ n, n = H.kb.length := ⟨_, rfl⟩
     obtain ⟨cl, hcl⟩ : ∃ n, n = H.cb.length := ⟨_, rfl⟩
     obtain ⟨ml, hml⟩ : ∃ n, n = H.mb.length := ⟨_, rfl⟩
     have so3 : Sat W0 w3 (seg true p 0 [.int .i64 (k : Int), .int .u8 (H.alg : Int), .int .i64 (H.out : Int), .slice kq H.kb.length cq, .slice c2 H.cb.length c3, .slice mq H.mb.length mc] :: bytes true kq H.kb :: bytes true c2 H.cb :: row mq mc 1 H.mb.length (u8s H.mb) :: slotsA 0 (T.set k none) :: seg true g 0 [.int .u8 (kd : Int), .int .i64 (k : Int), .int .u8 (ag : Int), .int .i64 ct, .int .i64 ot, .slice dp dn dc, .slice ep en ec] :: seg true ga 0 ans0 :: seg true v 0 (.bool true :: cellsT T) :: bytes md dp data :: bytes mm ep more :: L) := so2
     rw [← hal2, ← hou, ← hkl, ← hcl, ← hml] at so3
     obtain ⟨_, hm1, hm2, RW, so4, back⟩ := rowWand ((Sat.sub (so3) (by with_reducible repeat first | exact Fr1 | exact Fr2 | (apply Fr3; focus ((repeat (first | exact Tk1 | apply Tk2)); done)) | apply Fr4)) : Sat W0 w3 (row mq mc 1 ml (u8s H.mb) :: segH p k al ou kq kl cq c2 cl c3 mq ml mc :: bytes true kq H.kb :: bytes true c2 H.cb :: slotsA 0 (T.set k none) :: seg true g 0 [.int .u8 (kd : Int), .int .i64 (k : Int), .int .u8 (ag : Int), .int .i64 ct, .int .i64 ot, .slice dp dn dc, .slice ep en ec] :: seg true ga 0 ans0 :: seg true v 0 (.bool true :: cellsT T) :: bytes md dp data :: bytes mm ep more :: L))
     have s5 : Sat W0 w3 (segH p k al ou kq kl cq c2 cl c3 mq ml mc :: seg true v 0 (.bool true :: cellsT T) :: bytes true kq H.kb :: bytes true c2 H.cb :: bytes true mq H.mb :: RW :: slotsA 0 (T.set k none) :: seg true g 0 [.int .u8 (kd : Int), .int .i64 (k : Int), .int .u8 (ag : Int), .int .i64 ct, .int .i64 ot, .slice dp dn dc, .slice ep en ec] :: seg true ga 0 ans0 :: bytes md dp data :: bytes mm ep more :: L) := (Sat.sub (so4) (by with_reducible repeat first | exact Fr1 | exact Fr2 | (apply Fr3; focus ((repeat (first | exact Tk1 | apply Tk2)); done)) | apply Fr4))
     have hclose : ∀ (w' : World) (L' : List Assn) (T2 : Held), T2[k]? = some none → Sat W0 w' (segH p k al ou kq kl cq c2 cl c3 mq ml mc :: bytes true kq H.kb :: bytes true c2 H.cb :: bytes true mq H.mb :: RW :: slotsA 0 T2 :: L') → Sat W0 w' (slotsA 0 (T2.set k (some (p, H))) :: L') := by
      intro w' L' T2 hT2 h
      have h2 := back _ _ ((Sat.sub (h) (by with_reducible repeat first | exact Fr1 | exact Fr2 | (apply Fr3; focus ((repeat (first | exact Tk1 | apply Tk2)); done)) | apply Fr4)) : Sat W0 w' (bytes true mq H.mb :: RW :: segH p k al ou kq kl cq c2 cl c3 mq ml mc :: bytes true kq H.kb :: bytes true c2 H.cb :: slotsA 0 T2 :: L'))
      rw [hal2, hou, hkl, hcl, hml] at h2
      have h3 : Sat W0 w' (holdL p (0 + k) H ⟨kq, cq, c2, c3, mq, mc⟩ (slotsA 0 T2 :: L')) := by
       rw [Nat.zero_add]
       have h4 : Sat W0 w' (seg true p 0 [.int .i64 (k : Int), .int .u8 (H.alg : Int), .int .i64 (H.out : Int), .slice kq H.kb.length cq, .slice c2 H.cb.length c3, .slice mq H.mb.length mc] :: bytes true kq H.kb :: bytes true c2 H.cb :: row mq mc 1 H.mb.length (u8s H.mb) :: slotsA 0 T2 :: L') := (Sat.sub (h2) (by with_reducible repeat first | exact Fr1 | exact Fr2 | (apply Fr3; focus ((repeat (first | exact Tk1 | apply Tk2)); done)) | apply Fr4))
       exact h4
      exact slotsShut k hT2 (holdShut _ hq h3)
     have hno : ∀ (w' : World) (c : Int), Sat W0 w' (seg true v 0 (.bool true :: cellsT T) :: segH p k al ou kq kl cq c2 cl c3 mq ml mc :: bytes true kq H.kb :: bytes true c2 H.cb :: bytes true mq H.mb :: RW :: slotsA 0 (T.set k none) :: bytes md dp data :: bytes mm ep more :: L) → ansP W0 v (namesT T, noA c) (bytes md dp data :: bytes mm ep more :: L) (.returned (.agg #[.int .i64 c, .int .i64 0, .bool false, .slice none 0 0])) w' := by
      intro w' c s8
      have s9 := hclose _ _ _ (by rw [List.getElem?_set_self (List.getElem?_eq_some_iff.1 hTp).1]) ((Sat.sub (s8) (by with_reducible repeat first | exact Fr1 | exact Fr2 | (apply Fr3; focus ((repeat (first | exact Tk1 | apply Tk2)); done)) | apply Fr4)) : Sat W0 w' (segH p k al ou kq kl cq c2 cl c3 mq ml mc :: bytes true kq H.kb :: bytes true c2 H.cb :: bytes true mq H.mb :: RW :: slotsA 0 (T.set k none) :: seg true v 0 (.bool true :: cellsT T) :: bytes md dp data :: bytes mm ep more :: L))
      rw [setBack hTp] at s9
      exact ansP_no (vShut T rfl (s9.pull 1 |>.sub (.cons .here (.cons .here .done))))
     have HNO := Lib.hid hno; clear hno
     have htk := fun (w : World) (X : List Assn) (s : Sat W0 w (seg true v 0 (.bool true :: cellsT T) :: slotsA 0 (T.set k none) :: bytes true kq H.kb :: bytes true c2 H.cb :: bytes true mq H.mb :: X)) => iTakeW (v := v) (ck := cq) (cc := c3) (cm := mc) T (T.set k none) H (k : Int) HN.out.2.2 (setTT T k) hkl.symm hcl.symm hml.symm (by rw [hkl]; exact hbk.1) (by rw [hcl]; exact hbk.2.1) (by rw [hml]; exact hbk.2.2) s
     rw [← hal2, ← hou] at htk
     have hcln := fun (w : World) (X : List Assn) (s : Sat W0 w (bytes true kq H.kb :: X)) => bClone (cap := cq) H.kb hkl.symm (by have := hbk.1; omega) s
     have HT := Lib.hid (And.intro hTp (And.intro hclose (And.intro htk (And.intro hcln hkl)))); clear hTp hclose htk hcln hkl hcl hml hal2 hou hbk hok hq so so2 so3 so4 back hm1 hm2 hal h1 h2 s2
     have cp0 := s5.at 0 rfl
     have cp1 := s5.at 1 rfl
     have cp2 := s5.at 2 rfl
     have cp3 := s5.at 3 rfl
     have cp4 := s5.at 4 rfl
     have cp5 := s5.at 5 rfl
     have zp := s5.lt (by simp)
     rw [if_neg k9] at e0
     by_cases k6 : kd = 6
     ·have k6b : ((kd : Int) == 6) = true := by rw [k6]; rfl
      rw [if_pos k6] at e0
      have HE := Lib.hid e0; clear e0 k6 k9
      go_wp2_with fail
      refine (HT.out.2.2.1 _ (RW :: segH p k al ou kq kl cq c2 cl c3 mq ml mc :: seg true ga 0 ans0 :: bytes md dp data :: bytes mm ep more :: L) (Sat.sub (s5) (by with_reducible repeat first | exact Fr1 | exact Fr2 | (apply Fr3; focus ((repeat (first | exact Tk1 | apply Tk2)); done)) | apply Fr4))).mono ?_
      rintro e w6 (⟨i, p2, hin', hit', rfl, s6⟩ | ⟨hit', rfl, s6⟩)
      ·have hin := Lib.hid hin'; clear hin'
       have hit := Lib.hid hit'; clear hit'
       clear s5 o0 o1 o2 o3 o4 o5 o6 zo cp0 cp1 cp2 cp3 cp4 cp5 zp
       have sr0 : Sat W0 _ (seg true ga 0 ans0 :: seg true v 0 (.bool true :: cellsT (T.set i (some (p2, H)))) :: segH p k al ou kq kl cq c2 cl c3 mq ml mc :: bytes true kq H.kb :: bytes true c2 H.cb :: bytes true mq H.mb :: RW :: slotsA 0 ((T.set k none).set i (some (p2, H))) :: bytes md dp data :: bytes mm ep more :: L) := (Sat.sub (s6) (by with_reducible repeat first | exact Fr1 | exact Fr2 | (apply Fr3; focus ((repeat (first | exact Tk1 | apply Tk2)); done)) | apply Fr4))
       go_wp2_with (refine wpl_stAns rfl rfl (.tmp 4) (.tmp 48) rfl sr0 rfl rfl ?_; intro ws ss; clear sr0)
       have hr := ansLd ss
       have HS := Lib.hid ss.tail; clear ss
       refine bodyPost_ret (v := .agg #[.int .i64 0, .int .i64 (i : Int), .bool false, .slice none 0 0]) (by simp [results, Tryz.results46, asAddr]; exact hr) rfl ?_
       rw [HE.out, hit.out]
       have s8 := HS.out
       have hb := takeBack (p2 := p2) (H2 := H) HT.out.1 hin.out
       have s9 := HT.out.2.1 _ _ _ hb.1 ((Sat.sub (s8) (by with_reducible repeat first | exact Fr1 | exact Fr2 | (apply Fr3; focus ((repeat (first | exact Tk1 | apply Tk2)); done)) | apply Fr4)) : Sat W0 ws (segH p k al ou kq kl cq c2 cl c3 mq ml mc :: bytes true kq H.kb :: bytes true c2 H.cb :: bytes true mq H.mb :: RW :: slotsA 0 ((T.set k none).set i (some (p2, H))) :: seg true v 0 (.bool true :: cellsT (T.set i (some (p2, H)))) :: bytes md dp data :: bytes mm ep more :: L))
       rw [hb.2] at s9
       exact ansP_h (vShut (T.set i (some (p2, H))) (namesT_set _ _ _) (s9.pull 1 |>.sub (.cons .here (.cons .here .done))))
      ·have hit := Lib.hid hit'; clear hit'
       clear s5 o0 o1 o2 o3 o4 o5 o6 zo cp0 cp1 cp2 cp3 cp4 cp5 zp
       have sr0 : Sat W0 _ (seg true ga 0 ans0 :: seg true v 0 (.bool true :: cellsT T) :: segH p k al ou kq kl cq c2 cl c3 mq ml mc :: bytes true kq H.kb :: bytes true c2 H.cb :: bytes true mq H.mb :: RW :: slotsA 0 (T.set k none) :: bytes md dp data :: bytes mm ep more :: L) := (Sat.sub (s6) (by with_reducible repeat first | exact Fr1 | exact Fr2 | (apply Fr3; focus ((repeat (first | exact Tk1 | apply Tk2)); done)) | apply Fr4))
       go_wp2_with (refine wpl_stAns rfl rfl (.tmp 4) (.tmp 48) rfl sr0 rfl rfl ?_; intro ws ss; clear sr0)
       have hr := ansLd ss
       have HS := Lib.hid ss.tail; clear ss
       refine bodyPost_ret (v := .agg #[.int .i64 8, .int .i64 0, .bool false, .slice none 0 0]) (by simp [results, Tryz.results46, asAddr]; exact hr) rfl ?_
       rw [HE.out, hit.out]
       exact HNO.out _ _ HS.out
     ·have k6b : ((kd : Int) == 6) = false := by rw [beq_eq_false_iff_ne]; omega
      rw [if_neg k6] at e0
      have HE := Lib.hid e0; clear e0 k6 k9
      clear cp0 cp1 cp2 cp3 cp4 cp5 zp
      have s7 : Sat W0 w3 (seg true v 0 (.bool true :: cellsT T) :: slotsA 0 (T.set k none) :: seg true g 0 [.int .u8 (kd : Int), .int .i64 (k : Int), .int .u8 (ag : Int), .int .i64 ct, .int .i64 ot, .slice dp dn dc, .slice ep en ec] :: seg true ga 0 ans0 :: bytes md dp data :: bytes mm ep more :: L) := (Sat.sub (s5) (by with_reducible repeat first | exact Fr1 | exact Fr2 | (apply Fr3; focus ((repeat (first | exact Tk1 | apply Tk2)); done)) | apply Fr4))
      clear s5
      have hvl : 1 + k < (Value.bool true :: cellsT T).length := by rw [List.length_cons, cellsT_len, HN.out.2.2]; omega
      have cv := s7.at (1 + k) (cellsT_get HT.out.1)
      have fv := s7.fr (1 + k) hvl
      have zv := s7.lt (by simp)
      go_wp2_with fail
      refine wp_region_quiet_tail_lit 6 (by kernel_rfl) (by kernel_rfl) ?_
      simp only [List.take_succ_cons, List.take_zero, List.drop_succ_cons, List.drop_zero]
      repeat (go_big_quiet_step (fail))
      refine wpQuiet_nil ?_
      rintro _ ⟨nr, rfl⟩
      have s8' := (s7.drewN nr).store (i := 1 + k) hvl (.pointer none) (q := 1 + k) (by omega)
      rw [show (Value.bool true :: cellsT T).set (1 + k) (.pointer none) = Value.bool true :: cellsT (T.set k none) from cellsT_set T k none] at s8'
      clear s7 hvl
      have sr0 : Sat W0 _ (seg true ga 0 ans0 :: seg true v 0 (.bool true :: cellsT (T.set k none)) :: slotsA 0 (T.set k none) :: bytes md dp data :: bytes mm ep more :: L) := (Sat.sub (s8') (by with_reducible repeat first | exact Fr1 | exact Fr2 | (apply Fr3; focus ((repeat (first | exact Tk1 | apply Tk2)); done)) | apply Fr4))
      go_wp2_with (refine wpl_stAns rfl rfl (.tmp 4) (.tmp 55) rfl sr0 rfl rfl ?_; intro ws ss; clear sr0)
      have hr := ansLd ss
      have HS := Lib.hid ss.tail; clear ss
      refine bodyPost_ret (v := .agg #[.int .i64 0, .int .i64 0, .bool false, .slice none 0 0]) (by simp [results, Tryz.results46, asAddr]; exact hr) rfl ?_
      rw [HE.out]
      exact ansP_no (vShut (T.set k none) (namesT_set _ _ _) HS.out)
 ·have e0 := simp_some (o := ⟨kd, hd, ag, ct, ot, data, more⟩) (S := namesT T) (H := H) (by simp only; rw [any_of hat (by simp), hat]; simp)
  clear hat
  obtain ⟨k, rfl⟩ : ∃ k : Nat, hd = (k : Int) := ⟨hd.toNat, by omega⟩
  rw [Int.toNat_natCast] at hTp
  simp only [Int.toNat_natCast] at e0
  have hkI : (k : Int) < 64 := h2
  have so := slotsOpen k hTp ((Sat.sub (s2) (by with_reducible repeat first | exact Fr1 | exact Fr2 | (apply Fr3; focus ((repeat (first | exact Tk1 | apply Tk2)); done)) | apply Fr4)) : Sat W0 w3 (slotsA 0 T :: seg true g 0 [.int .u8 (kd : Int), .int .i64 (k : Int), .int .u8 (ag : Int), .int .i64 ct, .int .i64 ot, .slice dp dn dc, .slice ep en ec] :: seg true ga 0 ans0 :: seg true v 0 (.bool true :: cellsT T) :: bytes md dp data :: bytes mm ep more :: L))
  obtain ⟨q, hq, so2⟩ := holdOpen so
  obtain ⟨kq, cq, c2, c3, mq, mc⟩ := q
  rw [Nat.zero_add] at so2
  have hok := HN.out.1.2 _ (mem_of_get (namesT_get hTp))
  have hbk : H.kb.length ≤ 1000000000 ∧ H.cb.length ≤ 1000000000 ∧ H.mb.length ≤ 1000000000 := hold_bd hok HN.out.2.1
  obtain ⟨al, hal2⟩ : ∃ al : Nat, al = H.alg := ⟨_, rfl⟩
  obtain ⟨ou, hou⟩ : ∃ ou : Nat, ou = H.out := ⟨_, rfl⟩
  obtain ⟨kl, hkl⟩ : ∃ n, n = H.kb.length := ⟨_, rfl⟩
  obtain ⟨cl, hcl⟩ : ∃ n, n = H.cb.length := ⟨_, rfl⟩
  obtain ⟨ml, hml⟩ : ∃ n, n = H.mb.length := ⟨_, rfl⟩
  have so3 : Sat W0 w3 (seg true p 0 [.int .i64 (k : Int), .int .u8 (H.alg : Int), .int .i64 (H.out : Int), .slice kq H.kb.length cq, .slice c2 H.cb.length c3, .slice mq H.mb.length mc] :: bytes true kq H.kb :: bytes true c2 H.cb :: row mq mc 1 H.mb.length (u8s H.mb) :: slotsA 0 (T.set k none) :: seg true g 0 [.int .u8 (kd : Int), .int .i64 (k : Int), .int .u8 (ag : Int), .int .i64 ct, .int .i64 ot, .slice dp dn dc, .slice ep en ec] :: seg true ga 0 ans0 :: seg true v 0 (.bool true :: cellsT T) :: bytes md dp data :: bytes mm ep more :: L) := so2
  rw [← hal2, ← hou, ← hkl, ← hcl, ← hml] at so3
  obtain ⟨_, hm1, hm2, RW, so4, back⟩ := rowWand ((Sat.sub (so3) (by with_reducible repeat first | exact Fr1 | exact Fr2 | (apply Fr3; focus ((repeat (first | exact Tk1 | apply Tk2)); done)) | apply Fr4)) : Sat W0 w3 (row mq mc 1 ml (u8s H.mb) :: segH p k al ou kq kl cq c2 cl c3 mq ml mc :: bytes true kq H.kb :: bytes true c2 H.cb :: slotsA 0 (T.set k none) :: seg true g 0 [.int .u8 (kd : Int), .int .i64 (k : Int), .int .u8 (ag : Int), .int .i64 ct, .int .i64 ot, .slice dp dn dc, .slice ep en ec] :: seg true ga 0 ans0 :: seg true v 0 (.bool true :: cellsT T) :: bytes md dp data :: bytes mm ep more :: L))
  have s5 : Sat W0 w3 (segH p k al ou kq kl cq c2 cl c3 mq ml mc :: seg true v 0 (.bool true :: cellsT T) :: bytes true kq H.kb :: bytes true c2 H.cb :: bytes true mq H.mb :: RW :: slotsA 0 (T.set k none) :: seg true g 0 [.int .u8 (kd : Int), .int .i64 (k : Int), .int .u8 (ag : Int), .int .i64 ct, .int .i64 ot, .slice dp dn dc, .slice ep en ec] :: seg true ga 0 ans0 :: bytes md dp data :: bytes mm ep more :: L) := (Sat.sub (so4) (by with_reducible repeat first | exact Fr1 | exact Fr2 | (apply Fr3; focus ((repeat (first | exact Tk1 | apply Tk2)); done)) | apply Fr4))
  have hclose : ∀ (w' : World) (L' : List Assn) (T2 : Held), T2[k]? = some none → Sat W0 w' (segH p k al ou kq kl cq c2 cl c3 mq ml mc :: bytes true kq H.kb :: bytes true c2 H.cb :: bytes true mq H.mb :: RW :: slotsA 0 T2 :: L') → Sat W0 w' (slotsA 0 (T2.set k (some (p, H))) :: L') := by
   intro w' L' T2 hT2 h
   have h2 := back _ _ ((Sat.sub (h) (by with_reducible repeat first | exact Fr1 | exact Fr2 | (apply Fr3; focus ((repeat (first | exact Tk1 | apply Tk2)); done)) | apply Fr4)) : Sat W0 w' (bytes true mq H.mb :: RW :: segH p k al ou kq kl cq c2 cl c3 mq ml mc :: bytes true kq H.kb :: bytes true c2 H.cb :: slotsA 0 T2 :: L'))
   rw [hal2, hou, hkl, hcl, hml] at h2
   have h3 : Sat W0 w' (holdL p (0 + k) H ⟨kq, cq, c2, c3, mq, mc⟩ (slotsA 0 T2 :: L')) := by
    rw [Nat.zero_add]
    have h4 : Sat W0 w' (seg true p 0 [.int .i64 (k : Int), .int .u8 (H.alg : Int), .int .i64 (H.out : Int), .slice kq H.kb.length cq, .slice c2 H.cb.length c3, .slice mq H.mb.length mc] :: bytes true kq H.kb :: bytes true c2 H.cb :: row mq mc 1 H.mb.length (u8s H.mb) :: slotsA 0 T2 :: L') := (Sat.sub (h2) (by with_reducible repeat first | exact Fr1 | exact Fr2 | (apply Fr3; focus ((repeat (first | exact Tk1 | apply Tk2)); done)) | apply Fr4))
    exact h4
   exact slotsShut k hT2 (holdShut _ hq h3)
  have hno : ∀ (w' : World) (c : Int), Sat W0 w' (seg true v 0 (.bool true :: cellsT T) :: segH p k al ou kq kl cq c2 cl c3 mq ml mc :: bytes true kq H.kb :: bytes true c2 H.cb :: bytes true mq H.mb :: RW :: slotsA 0 (T.set k none) :: bytes md dp data :: bytes mm ep more :: L) → ansP W0 v (namesT T, noA c) (bytes md dp data :: bytes mm ep more :: L) (.returned (.agg #[.int .i64 c, .int .i64 0, .bool false, .slice none 0 0])) w' := by
   intro w' c s8
   have s9 := hclose _ _ _ (by rw [List.getElem?_set_self (List.getElem?_eq_some_iff.1 hTp).1]) ((Sat.sub (s8) (by with_reducible repeat first | exact Fr1 | exact Fr2 | (apply Fr3; focus ((repeat (first | exact Tk1 | apply Tk2)); done)) | apply Fr4)) : Sat W0 w' (segH p k al ou kq kl cq c2 cl c3 mq ml mc :: bytes true kq H.kb :: bytes true c2 H.cb :: bytes true mq H.mb :: RW :: slotsA 0 (T.set k none) :: seg true v 0 (.bool true :: cellsT T) :: bytes md dp data :: bytes mm ep more :: L))
   rw [setBack hTp] at s9
   exact ansP_no (vShut T rfl (s9.pull 1 |>.sub (.cons .here (.cons .here .done))))
  have HNO := Lib.hid hno; clear hno
  have htk := fun (w : World) (X : List Assn) (s : Sat W0 w (seg true v 0 (.bool true :: cellsT T) :: slotsA 0 (T.set k none) :: bytes true kq H.kb :: bytes true c2 H.cb :: bytes true mq H.mb :: X)) => iTakeW (v := v) (ck := cq) (cc := c3) (cm := mc) T (T.set k none) H (k : Int) HN.out.2.2 (setTT T k) hkl.symm hcl.symm hml.symm (by rw [hkl]; exact hbk.1) (by rw [hcl]; exact hbk.2.1) (by rw [hml]; exact hbk.2.2) s
  rw [← hal2, ← hou] at htk
  have hcln := fun (w : World) (X : List Assn) (s : Sat W0 w (bytes true kq H.kb :: X)) => bClone (cap := cq) H.kb hkl.symm (by have := hbk.1; omega) s
  have HT := Lib.hid (And.intro hTp (And.intro hclose (And.intro htk (And.intro hcln hkl)))); clear hTp hclose htk hcln hkl hcl hml hal2 hou hbk hok hq so so2 so3 so4 back hm1 hm2 hal h1 h2 s2
  have cp0 := s5.at 0 rfl
  have cp1 := s5.at 1 rfl
  have cp2 := s5.at 2 rfl
  have cp3 := s5.at 3 rfl
  have cp4 := s5.at 4 rfl
  have cp5 := s5.at 5 rfl
  have zp := s5.lt (by simp)
  by_cases k9 : kd = 9
  ·have k9b : ((kd : Int) == 9) = true := by rw [k9]; rfl
   rw [if_pos k9] at e0
   have HE := Lib.hid e0; clear e0 k9
   go_wp2_with fail
   refine (HT.out.2.2.2.1 _ (segH p k al ou kq kl cq c2 cl c3 mq ml mc :: seg true v 0 (.bool true :: cellsT T) :: bytes true c2 H.cb :: bytes true mq H.mb :: RW :: slotsA 0 (T.set k none) :: seg true ga 0 ans0 :: bytes md dp data :: bytes mm ep more :: L) (Sat.sub (s5) (by with_reducible repeat first | exact Fr1 | exact Fr2 | (apply Fr3; focus ((repeat (first | exact Tk1 | apply Tk2)); done)) | apply Fr4))).mono ?_
   rintro e w6 ⟨y, yc, rfl, s6'⟩
   obtain ⟨_, hy1, hy2, s6⟩ := rowBytes s6'
   have hy := Lib.hid (And.intro hy1 hy2); clear hy1 hy2 s6'
   clear s5 o0 o1 o2 o3 o4 o5 o6 zo cp0 cp1 cp2 cp3 cp4 cp5 zp
   have sr0 : Sat W0 _ (seg true ga 0 ans0 :: seg true v 0 (.bool true :: cellsT T) :: bytes true y H.kb :: segH p k al ou kq kl cq c2 cl c3 mq ml mc :: bytes true kq H.kb :: bytes true c2 H.cb :: bytes true mq H.mb :: RW :: slotsA 0 (T.set k none) :: bytes md dp data :: bytes mm ep more :: L) := (Sat.sub (s6) (by with_reducible repeat first | exact Fr1 | exact Fr2 | (apply Fr3; focus ((repeat (first | exact Tk1 | apply Tk2)); done)) | apply Fr4))
   go_wp2_with (refine wpl_stAns rfl rfl (.tmp 4) (.tmp 41) rfl sr0 rfl rfl ?_; intro ws ss; clear sr0)
   have hr := ansLd ss
   have HS := Lib.hid ss.tail; clear ss
   refine bodyPost_ret (v := .agg #[.int .i64 0, .int .i64 0, .bool false, .slice y kl yc]) (by simp [results, Tryz.results46, asAddr]; exact hr) rfl ?_
   rw [HE.out]
   have s8 := HS.out
   have s9 := HT.out.2.1 _ _ _ (by rw [List.getElem?_set_self (List.getElem?_eq_some_iff.1 HT.out.1).1]) ((Sat.sub (s8) (by with_reducible repeat first | exact Fr1 | exact Fr2 | (apply Fr3; focus ((repeat (first | exact Tk1 | apply Tk2)); done)) | apply Fr4)) : Sat W0 ws (segH p k al ou kq kl cq c2 cl c3 mq ml mc :: bytes true kq H.kb :: bytes true c2 H.cb :: bytes true mq H.mb :: RW :: slotsA 0 (T.set k none) :: seg true v 0 (.bool true :: cellsT T) :: bytes true y H.kb :: bytes md dp data :: bytes mm ep more :: L))
   rw [setBack HT.out.1] at s9
   have s10 := vShut T rfl (s9.pull 1 |>.sub (.cons .here (.cons .here .done)))
   exact ansP_b HT.out.2.2.2.2.symm hy.out.1 hy.out.2 s10
  ·have k9b : ((kd : Int) == 9) = false := by rw [beq_eq_false_iff_ne]; omega
   rw [if_neg k9] at e0
   by_cases k6 : kd = 6
   ·have k6b : ((kd : Int) == 6) = true := by rw [k6]; rfl
    rw [if_pos k6] at e0
    have HE := Lib.hid e0; clear e0 k6 k9
    go_wp2_with fail
    refine (HT.out.2.2.1 _ (RW :: segH p k al ou kq kl cq c2 cl c3 mq ml mc :: seg true ga 0 ans0 :: bytes md dp data :: bytes mm ep more :: L) (Sat.sub (s5) (by with_reducible repeat first | exact Fr1 | exact Fr2 | (apply Fr3; focus ((repeat (first | exact Tk1 | apply Tk2)); done)) | apply Fr4))).mono ?_
    rintro e w6 (⟨i, p2, hin', hit', rfl, s6⟩ | ⟨hit', rfl, s6⟩)
    ·have hin := Lib.hid hin'; clear hin'
     have hit := Lib.hid hit'; clear hit'
     clear s5 o0 o1 o2 o3 o4 o5 o6 zo cp0 cp1 cp2 cp3 cp4 cp5 zp
     have sr0 : Sat W0 _ (seg true ga 0 ans0 :: seg true v 0 (.bool true :: cellsT (T.set i (some (p2, H)))) :: segH p k al ou kq kl cq c2 cl c3 mq ml mc :: bytes true kq H.kb :: bytes true c2 H.cb :: bytes true mq H.mb :: RW :: slotsA 0 ((T.set k none).set i (some (p2, H))) :: bytes md dp data :: bytes mm ep more :: L) := (Sat.sub (s6) (by with_reducible repeat first | exact Fr1 | exact Fr2 | (apply Fr3; focus ((repeat (first | exact Tk1 | apply Tk2)); done)) | apply Fr4))
     go_wp2_with (refine wpl_stAns rfl rfl (.tmp 4) (.tmp 48) rfl sr0 rfl rfl ?_; intro ws ss; clear sr0)
     have hr := ansLd ss
     have HS := Lib.hid ss.tail; clear ss
     refine bodyPost_ret (v := .agg #[.int .i64 0, .int .i64 (i : Int), .bool false, .slice none 0 0]) (by simp [results, Tryz.results46, asAddr]; exact hr) rfl ?_
     rw [HE.out, hit.out]
     have s8 := HS.out
     have hb := takeBack (p2 := p2) (H2 := H) HT.out.1 hin.out
     have s9 := HT.out.2.1 _ _ _ hb.1 ((Sat.sub (s8) (by with_reducible repeat first | exact Fr1 | exact Fr2 | (apply Fr3; focus ((repeat (first | exact Tk1 | apply Tk2)); done)) | apply Fr4)) : Sat W0 ws (segH p k al ou kq kl cq c2 cl c3 mq ml mc :: bytes true kq H.kb :: bytes true c2 H.cb :: bytes true mq H.mb :: RW :: slotsA 0 ((T.set k none).set i (some (p2, H))) :: seg true v 0 (.bool true :: cellsT (T.set i (some (p2, H)))) :: bytes md dp data :: bytes mm ep more :: L))
     rw [hb.2] at s9
     exact ansP_h (vShut (T.set i (some (p2, H))) (namesT_set _ _ _) (s9.pull 1 |>.sub (.cons .here (.cons .here .done))))
    ·have hit := Lib.hid hit'; clear hit'
     clear s5 o0 o1 o2 o3 o4 o5 o6 zo cp0 cp1 cp2 cp3 cp4 cp5 zp
     have sr0 : Sat W0 _ (seg true ga 0 ans0 :: seg true v 0 (.bool true :: cellsT T) :: segH p k al ou kq kl cq c2 cl c3 mq ml mc :: bytes true kq H.kb :: bytes true c2 H.cb :: bytes true mq H.mb :: RW :: slotsA 0 (T.set k none) :: bytes md dp data :: bytes mm ep more :: L) := (Sat.sub (s6) (by with_reducible repeat first | exact Fr1 | exact Fr2 | (apply Fr3; focus ((repeat (first | exact Tk1 | apply Tk2)); done)) | apply Fr4))
     go_wp2_with (refine wpl_stAns rfl rfl (.tmp 4) (.tmp 48) rfl sr0 rfl rfl ?_; intro ws ss; clear sr0)
     have hr := ansLd ss
     have HS := Lib.hid ss.tail; clear ss
     refine bodyPost_ret (v := .agg #[.int .i64 8, .int .i64 0, .bool false, .slice none 0 0]) (by simp [results, Tryz.results46, asAddr]; exact hr) rfl ?_
     rw [HE.out, hit.out]
     exact HNO.out _ _ HS.out
   ·have k6b : ((kd : Int) == 6) = false := by rw [beq_eq_false_iff_ne]; omega
    rw [if_neg k6] at e0
    have HE := Lib.hid e0; clear e0 k6 k9
    clear cp0 cp1 cp2 cp3 cp4 cp5 zp
    have s7 : Sat W0 w3 (seg true v 0 (.bool true :: cellsT T) :: slotsA 0 (T.set k none) :: seg true g 0 [.int .u8 (kd : Int), .int .i64 (k : Int), .int .u8 (ag : Int), .int .i64 ct, .int .i64 ot, .slice dp dn dc, .slice ep en ec] :: seg true ga 0 ans0 :: bytes md dp data :: bytes mm ep more :: L) := (Sat.sub (s5) (by with_reducible repeat first | exact Fr1 | exact Fr2 | (apply Fr3; focus ((repeat (first | exact Tk1 | apply Tk2)); done)) | apply Fr4))
    clear s5
    have hvl : 1 + k < (Value.bool true :: cellsT T).length := by rw [List.length_cons, cellsT_len, HN.out.2.2]; omega
    have cv := s7.at (1 + k) (cellsT_get HT.out.1)
    have fv := s7.fr (1 + k) hvl
    have zv := s7.lt (by simp)
    go_wp2_with fail
    refine wp_region_quiet_tail_lit 6 (by kernel_rfl) (by kernel_rfl) ?_
    simp only [List.take_succ_cons, List.take_zero, List.drop_succ_cons, List.drop_zero]
    repeat (go_big_quiet_step (fail))
    refine wpQuiet_nil ?_
    rintro _ ⟨nr, rfl⟩
    have s8' := (s7.drewN nr).store (i := 1 + k) hvl (.pointer none) (q := 1 + k) (by omega)
    rw [show (Value.bool true :: cellsT T).set (1 + k) (.pointer none) = Value.bool true :: cellsT (T.set k none) from cellsT_set T k none] at s8'
    clear s7 hvl
    have sr0 : Sat W0 _ (seg true ga 0 ans0 :: seg true v 0 (.bool true :: cellsT (T.set k none)) :: slotsA 0 (T.set k none) :: bytes md dp data :: bytes mm ep more :: L) := (Sat.sub (s8') (by with_reducible repeat first | exact Fr1 | exact Fr2 | (apply Fr3; focus ((repeat (first | exact Tk1 | apply Tk2)); done)) | apply Fr4))
    go_wp2_with (refine wpl_stAns rfl rfl (.tmp 4) (.tmp 55) rfl sr0 rfl rfl ?_; intro ws ss; clear sr0)
    have hr := ansLd ss
    have HS := Lib.hid ss.tail; clear ss
    refine bodyPost_ret (v := .agg #[.int .i64 0, .int .i64 0, .bool false, .slice none 0 0]) (by simp [results, Tryz.results46, asAddr]; exact hr) rfl ?_
    rw [HE.out]
    exact ansP_no (vShut (T.set k none) (namesT_set _ _ _) HS.out)
end Go.Proofs.YtpiiklfnakkdiaaGreat
