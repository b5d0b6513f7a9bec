
/- The ideal vault: a key is derived (PBKDF2); under the conditions that each names. -/
import Derived.Test.YtpiiklfnakkdiaaGreatIdl13
namespace Go.Proofs.YtpiiklfnakkdiaaGreat
open Go.RowKit Go.Sep Go.Bv Go.Kec Go.Aes Go.Sha
set_option linter.unusedVariables false
set_option linter.unusedSimpArgs false
theorem pbKeyG {W0 w : World} {L : List Assn} {m m2 : Bool} {pk ps : Option Addr} {kn ck sn cs : Nat} {pv av cv nv : Value} (wide : Bool) (key salt : List Byte) (count n : Nat) (hpv : pv = .pointer none) (hav : av = .int .u8 (algN wide)) (hcv : cv = .int .i64 (count : Int)) (hnv : nv = .int .i64 (n : Int)) (hkn : key.length = kn) (hsn : salt.length = sn) (hk1 : kn ≤ ck) (hk2 : ck ≤ maxLen) (hc1 : sn ≤ cs) (hm1 : cs ≤ maxLen) (h1 : 1 ≤ count) (h2 : count ≤ 1048576) (hn : n ≤ 16320) (hkb : kn ≤ 1000000000) (hsb : sn ≤ 65536)
  (hs : Sat W0 w (bytes m pk key :: bytes m2 ps salt :: L)) :
  Calls Tryz.prog 19 #[pv, av, .slice pk kn ck, .slice ps sn cs, cv, nv] w fun e w' => ∃ q, e = .returned (.tuple #[.slice q n n, .int .i64 0]) ∧ ((pbMany wide key salt count (pbM wide n)).take n).length = n ∧ n ≤ maxLen ∧ Sat W0 w' (bytes true q ((pbMany wide key salt count (pbM wide n)).take n) :: bytes m pk key :: bytes m2 ps salt :: L) := by
 subst hpv hav hcv hnv hkn hsn
 have s1 : Sat W0 w (ledO none [] :: bytes m pk key :: bytes m2 ps salt :: L) := hs.addEmp
 refine (pbKey wide none [] key salt count n hk1 hk2 hc1 hm1 h1 h2 hn (by simp only [tot]; omega) (by simp) s1).mono ?_
 rintro e w' ⟨q, rfl, s2⟩
 obtain ⟨l1, l2, l3, s3⟩ := rowBytes s2
 exact ⟨q, rfl, l1, l3, (Sat.sub (s3) (by with_reducible repeat first | exact Fr1 | exact Fr2 | (apply Fr3; focus ((repeat (first | exact Tk1 | apply Tk2)); done)) | apply Fr4))⟩
theorem iPbkdf_none {S : Slots} {o : OpC} {c : Int} (h : iAt S o.handle false = (c, none)) : iPbkdf S o = (S, noA c) := by
 unfold iPbkdf; rw [h]
theorem iPbkdf_some {S : Slots} {o : OpC} {H : Hold} (h : iAt S o.handle false = (0, some H)) : iPbkdf S o =
  if ¬ (o.alg = 1 ∨ o.alg = 2) then (S, noA 4)
  else if 65536 < o.data.length ∨ (4294967295 * hsz (algW o.alg) : Int) < o.out then (S, noA 9)
  else if o.count < 1 ∨ 1048576 < o.count then (S, noA 10)
  else if o.out < 1 ∨ 512 < o.out then (S, noA 7)
  else if iFull S then (S, noA 8)
  else iTake S (.key ((pbMany (algW o.alg) H.kb o.data o.count.toNat (pbM (algW o.alg) o.out.toNat)).take o.out.toNat)) := by
 unfold iPbkdf; rw [h]
theorem iPbkdf_keep {W0 w' : World} {L : List Assn} {p k al ou g kl cq cl c3 ml mc ag on dn dc en ec kd : Nat} {kq c2 mq dp ep : Option Addr} {hz ct : Int} (s : Sat W0 w' (segH p k al ou kq kl cq c2 cl c3 mq ml mc :: seg true g 0 [.int .u8 (kd : Int), .int .i64 hz, .int .u8 (ag : Int), .int .i64 ct, .int .i64 (on : Int), .slice dp dn dc, .slice ep en ec] :: L)) :
  w'.cell? ⟨p, 3, none⟩ = some (.slice kq kl cq) ∧ p < w'.heap.size ∧ w'.cell? ⟨g, 2, none⟩ = some (.int .u8 (ag : Int)) ∧ w'.cell? ⟨g, 3, none⟩ = some (.int .i64 ct) ∧ w'.cell? ⟨g, 4, none⟩ = some (.int .i64 (on : Int)) ∧ w'.cell? ⟨g, 5, none⟩ = some (.slice dp dn dc) ∧ g < w'.heap.size :=
 have h : Sat W0 w' (seg true g 0 [.int .u8 (kd : Int), .int .i64 hz, .int .u8 (ag : Int), .int .i64 ct, .int .i64 (on : Int), .slice dp dn dc, .slice ep en ec] :: L) := s.tail
 ⟨s.at 3 rfl, s.lt (by simp), h.at 2 rfl, h.at 3 rfl, h.at 4 rfl, h.at 5 rfl, h.lt (by simp)⟩
set_option maxRecDepth 100000 in
set_option maxHeartbeats 32000000 in
theorem iPbkdfW {W0 w : World} {L : List Assn} {v B : Nat} {md mm : Bool} {dp ep : Option Addr} {dn dc en ec : Nat} (S : Slots) (kd : Nat) (hkd : kd = 8) (hd : Int) (ag : Nat) (ct ot : Int) (data more : List Byte) (hS : okS B S) (hB : B ≤ 1000000000) (hdn : data.length = dn) (hdc : dn ≤ dc) (hdm : dc ≤ maxLen) (hen : more.length = en) (hec : en ≤ ec) (hem : ec ≤ maxLen)
  (hs : Sat W0 w (vaultA v S :: bytes md dp data :: bytes mm ep more :: L)) :
  Calls Tryz.prog 45 #[.pointer (some ⟨v, 0, none⟩), .agg #[.int .u8 (kd : Int), .int .i64 hd, .int .u8 (ag : Int), .int .i64 ct, .int .i64 ot, .slice dp dn dc, .slice ep en ec]] w fun e w' => ansP W0 v (iPbkdf S ⟨kd, hd, ag, ct, ot, data, more⟩) (bytes md dp data :: bytes mm ep more :: L) e w' := by
 obtain ⟨T, rfl, s0⟩ := vOpen hs
 have hT : T.length = 64 := by rw [← namesT_len]; exact hS.1
 have HD := Lib.hid (And.intro hdn (And.intro hdc (And.intro hdm (And.intro hen (And.intro hec hem))))); clear hdn hdc hdm hen hec hem
 have HN := Lib.hid (And.intro hS (And.intro hB hT)); clear hS hB hT hs
 have HO := Lib.hid (hOp W0)
 have k7 : ((kd : Int) == 7) = false := by rw [hkd]; rfl
 have k8 : ((kd : Int) == 8) = true := by rw [hkd]; rfl
 clear hkd
 go_enter Tryz.func45, Tryz.ntmps45
 go_wp2_with (first | (refine wpl_box rfl 26 (.tmp 1) rfl [.int .u8 (kd : Int), .int .i64 hd, .int .u8 (ag : Int), .int .i64 ct, .int .i64 ot, .slice dp dn dc, .slice ep en ec] rfl s0 ?_; intro w1 g s1 _; clear s0) | (refine wpl_alloc_agg rfl 35 rfl s1 _ (zero_ans _) ?_; intro w2 ga s2' _; clear s1; have s2 : Sat W0 w2 (seg true g 0 [.int .u8 (kd : Int), .int .i64 hd, .int .u8 (ag : Int), .int .i64 ct, .int .i64 ot, .slice dp dn dc, .slice ep en ec] :: seg true ga 0 ans0 :: seg true v 0 (.bool true :: cellsT T) :: slotsA 0 T :: bytes md dp data :: bytes mm ep more :: L) := (Sat.sub (s2') (by with_reducible repeat first | exact Fr1 | exact Fr2 | (apply Fr3; focus ((repeat (first | exact Tk1 | apply Tk2)); done)) | apply Fr4)); clear s2'; obtain ⟨o0, o1, o2, o3, o4, o5, o6, zo⟩ := HO.out _ _ _ _ _ _ _ _ _ _ s2))
 refine (iAtW T HN.out.2.2 hd false (Sat.sub (s2) (by with_reducible repeat first | exact Fr1 | exact Fr2 | (apply Fr3; focus ((repeat (first | exact Tk1 | apply Tk2)); done)) | apply Fr4))).mono ?_
 rintro e w3 ⟨rfl, ⟨c, hat, hc, rfl⟩ | ⟨p, H, h1, h2, hat, hTp, hal, rfl⟩⟩
 ·have e0 := iPbkdf_none (o := ⟨kd, hd, ag, ct, ot, data, more⟩) (c := c) (S := namesT T) hat
  clear hat
  rcases hc with rfl | rfl
  ·have HE := Lib.hid e0; clear e0
   go_wp2_with fail
   refine (iNo 5 s2).mono ?_
   rintro e w4 ⟨rfl, s4⟩
   clear s2 o0 o1 o2 o3 o4 o5 o6 zo
   have sr0 : Sat W0 _ (seg true ga 0 ans0 :: seg true v 0 (.bool true :: cellsT T) :: slotsA 0 T :: bytes md dp data :: bytes mm ep more :: L) := (Sat.sub (s4) (by with_reducible repeat first | exact Fr1 | exact Fr2 | (apply Fr3; focus ((repeat (first | exact Tk1 | apply Tk2)); done)) | apply Fr4))
   go_wp2_with (refine wpl_stAns rfl rfl (.tmp 4) (.tmp 21) rfl sr0 rfl rfl ?_; intro ws ss; clear sr0)
   have hr := ansLd ss
   have HS := Lib.hid ss.tail; clear ss
   refine bodyPost_ret (v := .agg #[.int .i64 5, .int .i64 0, .bool false, .slice none 0 0]) (by simp [results, Tryz.results45, asAddr]; exact hr) rfl ?_
   rw [HE.out]
   exact ansP_no (vShut T rfl HS.out)
  ·have HE := Lib.hid e0; clear e0
   go_wp2_with fail
   refine (iNo 6 s2).mono ?_
   rintro e w4 ⟨rfl, s4⟩
   clear s2 o0 o1 o2 o3 o4 o5 o6 zo
   have sr0 : Sat W0 _ (seg true ga 0 ans0 :: seg true v 0 (.bool true :: cellsT T) :: slotsA 0 T :: bytes md dp data :: bytes mm ep more :: L) := (Sat.sub (s4) (by with_reducible repeat first | exact Fr1 | exact Fr2 | (apply Fr3; focus ((repeat (first | exact Tk1 | apply Tk2)); done)) | apply Fr4))
   go_wp2_with (refine wpl_stAns rfl rfl (.tmp 4) (.tmp 21) rfl sr0 rfl rfl ?_; intro ws ss; clear sr0)
   have hr := ansLd ss
   have HS := Lib.hid ss.tail; clear ss
   refine bodyPost_ret (v := .agg #[.int .i64 6, .int .i64 0, .bool false, .slice none 0 0]) (by simp [results, Tryz.results45, asAddr]; exact hr) rfl ?_
   rw [HE.out]
   exact ansP_no (vShut T rfl HS.out)
 ·have e0 := iPbkdf_some (o := ⟨kd, hd, ag, ct, ot, data, more⟩) (S := namesT T) (H := H) hat
  clear hat
  simp only at e0
  rw [HD.out.1] at e0
  rcases (by omega : ag = 1 ∨ ag = 2 ∨ ¬ (ag = 1 ∨ ag = 2)) with hg | hg | hg
  ·have e1n : ((ag : Int) != 1) = false := by rw [hg]; rfl
   have e2e : ((ag : Int) == 2) = false := by rw [beq_eq_false_iff_ne]; omega
   rw [if_neg (by omega), show algW ag = false by rw [hg]; rfl, show (4294967295 * (hsz false : Int) : Int) = 137438953440 from rfl] at e0
   have HAG := Lib.hid (show Value.int .u8 (ag : Int) = .int .u8 (algN false) by rw [hg]; rfl)
   clear hg
   by_cases hd0 : 65536 < dn
   ·rw [if_pos (.inl hd0)] at e0
    have hdI : (65536 : Int) < (dn : Int) := by omega
    have HE := Lib.hid e0; clear e0
    go_wp2_with fail
    refine (iNo 9 s2).mono ?_
    rintro e w4 ⟨rfl, s4⟩
    clear s2 o0 o1 o2 o3 o4 o5 o6 zo
    have sr0 : Sat W0 _ (seg true ga 0 ans0 :: seg true v 0 (.bool true :: cellsT T) :: slotsA 0 T :: bytes md dp data :: bytes mm ep more :: L) := (Sat.sub (s4) (by with_reducible repeat first | exact Fr1 | exact Fr2 | (apply Fr3; focus ((repeat (first | exact Tk1 | apply Tk2)); done)) | apply Fr4))
    go_wp2_with (refine wpl_stAns rfl rfl (.tmp 4) (.tmp 58) rfl sr0 rfl rfl ?_; intro ws ss; clear sr0)
    have hr := ansLd ss
    have HS := Lib.hid ss.tail; clear ss
    refine bodyPost_ret (v := .agg #[.int .i64 9, .int .i64 0, .bool false, .slice none 0 0]) (by simp [results, Tryz.results45, asAddr]; exact hr) rfl ?_
    rw [HE.out]
    exact ansP_no (vShut T rfl HS.out)
   ·have hdI : ¬ (65536 : Int) < (dn : Int) := by omega
    by_cases ho9 : (137438953440 : Int) < ot
    ·rw [if_pos (.inr ho9)] at e0
     have HE := Lib.hid e0; clear e0
     go_wp2_with fail
     refine (iNo 9 s2).mono ?_
     rintro e w4 ⟨rfl, s4⟩
     clear s2 o0 o1 o2 o3 o4 o5 o6 zo
     have sr0 : Sat W0 _ (seg true ga 0 ans0 :: seg true v 0 (.bool true :: cellsT T) :: slotsA 0 T :: bytes md dp data :: bytes mm ep more :: L) := (Sat.sub (s4) (by with_reducible repeat first | exact Fr1 | exact Fr2 | (apply Fr3; focus ((repeat (first | exact Tk1 | apply Tk2)); done)) | apply Fr4))
     go_wp2_with (refine wpl_stAns rfl rfl (.tmp 4) (.tmp 58) rfl sr0 rfl rfl ?_; intro ws ss; clear sr0)
     have hr := ansLd ss
     have HS := Lib.hid ss.tail; clear ss
     refine bodyPost_ret (v := .agg #[.int .i64 9, .int .i64 0, .bool false, .slice none 0 0]) (by simp [results, Tryz.results45, asAddr]; exact hr) rfl ?_
     rw [HE.out]
     exact ansP_no (vShut T rfl HS.out)
    ·rw [if_neg (by rintro (h | h); exact hd0 h; exact ho9 h)] at e0
     by_cases hc1 : ct < 1
     ·rw [if_pos (.inl hc1)] at e0
      have HE := Lib.hid e0; clear e0
      go_wp2_with fail
      refine (iNo 10 s2).mono ?_
      rintro e w4 ⟨rfl, s4⟩
      clear s2 o0 o1 o2 o3 o4 o5 o6 zo
      have sr0 : Sat W0 _ (seg true ga 0 ans0 :: seg true v 0 (.bool true :: cellsT T) :: slotsA 0 T :: bytes md dp data :: bytes mm ep more :: L) := (Sat.sub (s4) (by with_reducible repeat first | exact Fr1 | exact Fr2 | (apply Fr3; focus ((repeat (first | exact Tk1 | apply Tk2)); done)) | apply Fr4))
      go_wp2_with (refine wpl_stAns rfl rfl (.tmp 4) (.tmp 73) rfl sr0 rfl rfl ?_; intro ws ss; clear sr0)
      have hr := ansLd ss
      have HS := Lib.hid ss.tail; clear ss
      refine bodyPost_ret (v := .agg #[.int .i64 10, .int .i64 0, .bool false, .slice none 0 0]) (by simp [results, Tryz.results45, asAddr]; exact hr) rfl ?_
      rw [HE.out]
      exact ansP_no (vShut T rfl HS.out)
     ·by_cases hc2 : 1048576 < ct
      ·rw [if_pos (.inr hc2)] at e0
       have HE := Lib.hid e0; clear e0
       go_wp2_with fail
       refine (iNo 10 s2).mono ?_
       rintro e w4 ⟨rfl, s4⟩
       clear s2 o0 o1 o2 o3 o4 o5 o6 zo
       have sr0 : Sat W0 _ (seg true ga 0 ans0 :: seg true v 0 (.bool true :: cellsT T) :: slotsA 0 T :: bytes md dp data :: bytes mm ep more :: L) := (Sat.sub (s4) (by with_reducible repeat first | exact Fr1 | exact Fr2 | (apply Fr3; focus ((repeat (first | exact Tk1 | apply Tk2)); done)) | apply Fr4))
       go_wp2_with (refine wpl_stAns rfl rfl (.tmp 4) (.tmp 73) rfl sr0 rfl rfl ?_; intro ws ss; clear sr0)
       have hr := ansLd ss
       have HS := Lib.hid ss.tail; clear ss
       refine bodyPost_ret (v := .agg #[.int .i64 10, .int .i64 0, .bool false, .slice none 0 0]) (by simp [results, Tryz.results45, asAddr]; exact hr) rfl ?_
       rw [HE.out]
       exact ansP_no (vShut T rfl HS.out)
      ·rw [if_neg (by rintro (h | h); exact hc1 h; exact hc2 h)] at e0
       by_cases ho1 : ot < 1
       ·rw [if_pos (.inl ho1)] at e0
        have HE := Lib.hid e0; clear e0
        go_wp2_with fail
        refine (iNo 7 s2).mono ?_
        rintro e w4 ⟨rfl, s4⟩
        clear s2 o0 o1 o2 o3 o4 o5 o6 zo
        have sr0 : Sat W0 _ (seg true ga 0 ans0 :: seg true v 0 (.bool true :: cellsT T) :: slotsA 0 T :: bytes md dp data :: bytes mm ep more :: L) := (Sat.sub (s4) (by with_reducible repeat first | exact Fr1 | exact Fr2 | (apply Fr3; focus ((repeat (first | exact Tk1 | apply Tk2)); done)) | apply Fr4))
        go_wp2_with (refine wpl_stAns rfl rfl (.tmp 4) (.tmp 83) rfl sr0 rfl rfl ?_; intro ws ss; clear sr0)
        have hr := ansLd ss
        have HS := Lib.hid ss.tail; clear ss
        refine bodyPost_ret (v := .agg #[.int .i64 7, .int .i64 0, .bool false, .slice none 0 0]) (by simp [results, Tryz.results45, asAddr]; exact hr) rfl ?_
        rw [HE.out]
        exact ansP_no (vShut T rfl HS.out)
       ·by_cases ho2 : 512 < ot
        ·rw [if_pos (.inr ho2)] at e0
         have HE := Lib.hid e0; clear e0
         go_wp2_with fail
         refine (iNo 7 s2).mono ?_
         rintro e w4 ⟨rfl, s4⟩
         clear s2 o0 o1 o2 o3 o4 o5 o6 zo
         have sr0 : Sat W0 _ (seg true ga 0 ans0 :: seg true v 0 (.bool true :: cellsT T) :: slotsA 0 T :: bytes md dp data :: bytes mm ep more :: L) := (Sat.sub (s4) (by with_reducible repeat first | exact Fr1 | exact Fr2 | (apply Fr3; focus ((repeat (first | exact Tk1 | apply Tk2)); done)) | apply Fr4))
         go_wp2_with (refine wpl_stAns rfl rfl (.tmp 4) (.tmp 83) rfl sr0 rfl rfl ?_; intro ws ss; clear sr0)
         have hr := ansLd ss
         have HS := Lib.hid ss.tail; clear ss
         refine bodyPost_ret (v := .agg #[.int .i64 7, .int .i64 0, .bool false, .slice none 0 0]) (by simp [results, Tryz.results45, asAddr]; exact hr) rfl ?_
         rw [HE.out]
         exact ansP_no (vShut T rfl HS.out)
        ·rw [if_neg (by rintro (h | h); exact ho1 h; exact ho2 h)] at e0
         have ho : ∃ on : Nat, ot = (on : Int) := ⟨ot.toNat, by omega⟩
         obtain ⟨on, rfl⟩ := ho
         rw [Int.toNat_natCast] at e0
         obtain ⟨cn, rfl⟩ : ∃ cn : Nat, ct = (cn : Int) := ⟨ct.toNat, by omega⟩
         rw [Int.toNat_natCast] at e0
         have HCN := Lib.hid (show 1 ≤ cn ∧ cn ≤ 1048576 by omega)
         go_wp2_with fail
         refine (iHeldT T HN.out.1 HN.out.2.1 ((Sat.sub (s2) (by with_reducible repeat first | exact Fr1 | exact Fr2 | (apply Fr3; focus ((repeat (first | exact Tk1 | apply Tk2)); done)) | apply Fr4)) : Sat W0 w3 (seg true v 0 (.bool true :: cellsT T) :: slotsA 0 T :: seg true g 0 [.int .u8 (kd : Int), .int .i64 hd, .int .u8 (ag : Int), .int .i64 (cn : Int), .int .i64 (on : Int), .slice dp dn dc, .slice ep en ec] :: seg true ga 0 ans0 :: bytes md dp data :: bytes mm ep more :: L))).mono ?_
         rintro e w4 ⟨hn, hp, hcc, hhn, rfl, s3'⟩
         have s3 : Sat W0 w4 (seg true g 0 [.int .u8 (kd : Int), .int .i64 hd, .int .u8 (ag : Int), .int .i64 (cn : Int), .int .i64 (on : Int), .slice dp dn dc, .slice ep en ec] :: seg true ga 0 ans0 :: seg true v 0 (.bool true :: cellsT T) :: slotsA 0 T :: bytes md dp data :: bytes mm ep more :: L) := (Sat.sub (s3') (by with_reducible repeat first | exact Fr1 | exact Fr2 | (apply Fr3; focus ((repeat (first | exact Tk1 | apply Tk2)); done)) | apply Fr4))
         clear s2 s3' o0 o1 o2 o3 o4 o5 o6 zo
         obtain ⟨o0, o1, o2, o3, o4, o5, o6, zo⟩ := HO.out _ _ _ _ _ _ _ _ _ _ s3
         have hff := heldL_full (namesT T) 0
         rw [← hhn, namesT_len, HN.out.2.2] at hff
         by_cases hfu : iFull (namesT T) = true
         ·rw [if_pos hfu] at e0
          rw [hfu] at hff
          have hm : ((hn : Int) == 64) = true := by
           have h6 : hn = 64 := by rw [hff]
           rw [h6]; rfl
          clear hff hfu hhn
          have HE := Lib.hid e0; clear e0
          go_wp2_with fail
          refine (iNo 8 s3).mono ?_
          rintro e w5 ⟨rfl, s4⟩
          clear s3 o0 o1 o2 o3 o4 o5 o6 zo
          have sr0 : Sat W0 _ (seg true ga 0 ans0 :: seg true v 0 (.bool true :: cellsT T) :: slotsA 0 T :: bytes md dp data :: bytes mm ep more :: L) := (Sat.sub (s4) (by with_reducible repeat first | exact Fr1 | exact Fr2 | (apply Fr3; focus ((repeat (first | exact Tk1 | apply Tk2)); done)) | apply Fr4))
          go_wp2_with (refine wpl_stAns rfl rfl (.tmp 4) (.tmp 88) rfl sr0 rfl rfl ?_; intro ws ss; clear sr0)
          have hr := ansLd ss
          have HS := Lib.hid ss.tail; clear ss
          refine bodyPost_ret (v := .agg #[.int .i64 8, .int .i64 0, .bool false, .slice none 0 0]) (by simp [results, Tryz.results45, asAddr]; exact hr) rfl ?_
          rw [HE.out]
          exact ansP_no (vShut T rfl HS.out)
         ·rw [if_neg hfu] at e0
          have hm : ((hn : Int) == 64) = false := by
           rw [beq_eq_false_iff_ne]
           intro h6
           exact hfu (hff.mp (by omega))
          clear hff hfu hhn
          have HE0 := Lib.hid e0; clear e0
          obtain ⟨k, rfl⟩ : ∃ k : Nat, hd = (k : Int) := ⟨hd.toNat, by omega⟩
          rw [Int.toNat_natCast] at hTp
          have hkI : (k : Int) < 64 := h2
          have so := slotsOpen k hTp ((Sat.sub (s3) (by with_reducible repeat first | exact Fr1 | exact Fr2 | (apply Fr3; focus ((repeat (first | exact Tk1 | apply Tk2)); done)) | apply Fr4)) : Sat W0 w4 (slotsA 0 T :: seg true g 0 [.int .u8 (kd : Int), .int .i64 (k : Int), .int .u8 (ag : Int), .int .i64 (cn : Int), .int .i64 (on : Int), .slice dp dn dc, .slice ep en ec] :: seg true ga 0 ans0 :: seg true v 0 (.bool true :: cellsT T) :: bytes md dp data :: bytes mm ep more :: L))
          obtain ⟨q, hq, so2⟩ := holdOpen so
          obtain ⟨kq, cq, c2, c3, mq, mc⟩ := q
          rw [Nat.zero_add] at so2
          have hok := HN.out.1.2 _ (mem_of_get (namesT_get hTp))
          have hbk : H.kb.length ≤ 1000000000 ∧ H.cb.length ≤ 1000000000 ∧ H.mb.length ≤ 1000000000 := hold_bd hok HN.out.2.1
          obtain ⟨al, hal2⟩ : ∃ al : Nat, al = H.alg := ⟨_, rfl⟩
          obtain ⟨ou, hou⟩ : ∃ ou : Nat, ou = H.out := ⟨_, rfl⟩
          obtain ⟨kl, hkl⟩ : ∃ n, n = H.kb.length := ⟨_, rfl⟩
          obtain ⟨cl, hcl⟩ : ∃ n, n = H.cb.length := ⟨_, rfl⟩
          obtain ⟨ml, hml⟩ : ∃ n, n = H.mb.length := ⟨_, rfl⟩
          have so3 : Sat W0 w4 (seg true p 0 [.int .i64 (k : Int), .int .u8 (H.alg : Int), .int .i64 (H.out : Int), .slice kq H.kb.length cq, .slice c2 H.cb.length c3, .slice mq H.mb.length mc] :: bytes true kq H.kb :: bytes true c2 H.cb :: row mq mc 1 H.mb.length (u8s H.mb) :: slotsA 0 (T.set k none) :: seg true g 0 [.int .u8 (kd : Int), .int .i64 (k : Int), .int .u8 (ag : Int), .int .i64 (cn : Int), .int .i64 (on : Int), .slice dp dn dc, .slice ep en ec] :: seg true ga 0 ans0 :: seg true v 0 (.bool true :: cellsT T) :: bytes md dp data :: bytes mm ep more :: L) := so2
          rw [← hal2, ← hou, ← hkl, ← hcl, ← hml] at so3
          obtain ⟨_, hm1, hm2, RW, so4, back⟩ := rowWand ((Sat.sub (so3) (by with_reducible repeat first | exact Fr1 | exact Fr2 | (apply Fr3; focus ((repeat (first | exact Tk1 | apply Tk2)); done)) | apply Fr4)) : Sat W0 w4 (row mq mc 1 ml (u8s H.mb) :: segH p k al ou kq kl cq c2 cl c3 mq ml mc :: bytes true kq H.kb :: bytes true c2 H.cb :: slotsA 0 (T.set k none) :: seg true g 0 [.int .u8 (kd : Int), .int .i64 (k : Int), .int .u8 (ag : Int), .int .i64 (cn : Int), .int .i64 (on : Int), .slice dp dn dc, .slice ep en ec] :: seg true ga 0 ans0 :: seg true v 0 (.bool true :: cellsT T) :: bytes md dp data :: bytes mm ep more :: L))
          have s5 : Sat W0 w4 (segH p k al ou kq kl cq c2 cl c3 mq ml mc :: seg true v 0 (.bool true :: cellsT T) :: bytes true kq H.kb :: bytes true c2 H.cb :: bytes true mq H.mb :: RW :: slotsA 0 (T.set k none) :: seg true g 0 [.int .u8 (kd : Int), .int .i64 (k : Int), .int .u8 (ag : Int), .int .i64 (cn : Int), .int .i64 (on : Int), .slice dp dn dc, .slice ep en ec] :: seg true ga 0 ans0 :: bytes md dp data :: bytes mm ep more :: L) := (Sat.sub (so4) (by with_reducible repeat first | exact Fr1 | exact Fr2 | (apply Fr3; focus ((repeat (first | exact Tk1 | apply Tk2)); done)) | apply Fr4))
          have hclose : ∀ (w' : World) (L' : List Assn) (T2 : Held), T2[k]? = some none → Sat W0 w' (segH p k al ou kq kl cq c2 cl c3 mq ml mc :: bytes true kq H.kb :: bytes true c2 H.cb :: bytes true mq H.mb :: RW :: slotsA 0 T2 :: L') → Sat W0 w' (slotsA 0 (T2.set k (some (p, H))) :: L') := by
           intro w' L' T2 hT2 h
           have h2 := back _ _ ((Sat.sub (h) (by with_reducible repeat first | exact Fr1 | exact Fr2 | (apply Fr3; focus ((repeat (first | exact Tk1 | apply Tk2)); done)) | apply Fr4)) : Sat W0 w' (bytes true mq H.mb :: RW :: segH p k al ou kq kl cq c2 cl c3 mq ml mc :: bytes true kq H.kb :: bytes true c2 H.cb :: slotsA 0 T2 :: L'))
           rw [hal2, hou, hkl, hcl, hml] at h2
           have h3 : Sat W0 w' (holdL p (0 + k) H ⟨kq, cq, c2, c3, mq, mc⟩ (slotsA 0 T2 :: L')) := by
            rw [Nat.zero_add]
            have h4 : Sat W0 w' (seg true p 0 [.int .i64 (k : Int), .int .u8 (H.alg : Int), .int .i64 (H.out : Int), .slice kq H.kb.length cq, .slice c2 H.cb.length c3, .slice mq H.mb.length mc] :: bytes true kq H.kb :: bytes true c2 H.cb :: row mq mc 1 H.mb.length (u8s H.mb) :: slotsA 0 T2 :: L') := (Sat.sub (h2) (by with_reducible repeat first | exact Fr1 | exact Fr2 | (apply Fr3; focus ((repeat (first | exact Tk1 | apply Tk2)); done)) | apply Fr4))
            exact h4
           exact slotsShut k hT2 (holdShut _ hq h3)
          have hno : ∀ (w' : World) (c : Int), Sat W0 w' (seg true v 0 (.bool true :: cellsT T) :: segH p k al ou kq kl cq c2 cl c3 mq ml mc :: bytes true kq H.kb :: bytes true c2 H.cb :: bytes true mq H.mb :: RW :: slotsA 0 (T.set k none) :: bytes md dp data :: bytes mm ep more :: L) → ansP W0 v (namesT T, noA c) (bytes md dp data :: bytes mm ep more :: L) (.returned (.agg #[.int .i64 c, .int .i64 0, .bool false, .slice none 0 0])) w' := by
           intro w' c s8
           have s9 := hclose _ _ _ (by rw [List.getElem?_set_self (List.getElem?_eq_some_iff.1 hTp).1]) ((Sat.sub (s8) (by with_reducible repeat first | exact Fr1 | exact Fr2 | (apply Fr3; focus ((repeat (first | exact Tk1 | apply Tk2)); done)) | apply Fr4)) : Sat W0 w' (segH p k al ou kq kl cq c2 cl c3 mq ml mc :: bytes true kq H.kb :: bytes true c2 H.cb :: bytes true mq H.mb :: RW :: slotsA 0 (T.set k none) :: seg true v 0 (.bool true :: cellsT T) :: bytes md dp data :: bytes mm ep more :: L))
           rw [setBack hTp] at s9
           exact ansP_no (vShut T rfl (s9.pull 1 |>.sub (.cons .here (.cons .here .done))))
          have HNO := Lib.hid hno; clear hno
          have htk := fun (w : World) (X : List Assn) (s : Sat W0 w (seg true v 0 (.bool true :: cellsT T) :: slotsA 0 (T.set k none) :: bytes true kq H.kb :: bytes true c2 H.cb :: bytes true mq H.mb :: X)) => iTakeW (v := v) (ck := cq) (cc := c3) (cm := mc) T (T.set k none) H (k : Int) HN.out.2.2 (setTT T k) hkl.symm hcl.symm hml.symm (by rw [hkl]; exact hbk.1) (by rw [hcl]; exact hbk.2.1) (by rw [hml]; exact hbk.2.2) s
          rw [← hal2, ← hou] at htk
          have hcln := fun (w : World) (X : List Assn) (s : Sat W0 w (bytes true kq H.kb :: X)) => bClone (cap := cq) H.kb hkl.symm (by have := hbk.1; omega) s
          have HKL := Lib.hid (And.intro hkl.symm (And.intro (show kl ≤ cq by rw [hkl]; exact hq.1) (And.intro (show cq ≤ maxLen from hq.2.1) (show kl ≤ 1000000000 by rw [hkl]; exact hbk.1))))
          have HT := Lib.hid (And.intro hTp (And.intro hclose (And.intro htk (And.intro hcln hkl)))); clear hTp hclose htk hcln hkl hcl hml hal2 hou hbk hok hq so so2 so3 so4 back hm1 hm2 hal h1 h2 s3
          have cp0 := s5.at 0 rfl
          have cp1 := s5.at 1 rfl
          have cp2 := s5.at 2 rfl
          have cp3 := s5.at 3 rfl
          have cp4 := s5.at 4 rfl
          have cp5 := s5.at 5 rfl
          have zp := s5.lt (by simp)
          have HE := HE0; clear HE0
          go_wp2_with fail
          have s5d := s5.drew
          clear o0 o1 o2 o3 o4 o5 o6 zo cp0 cp1 cp2 cp3 cp4 cp5 zp
          have hs5 := iPbkdf_keep ((Sat.sub (s5d) (by with_reducible repeat first | exact Fr1 | exact Fr2 | (apply Fr3; focus ((repeat (first | exact Tk1 | apply Tk2)); done)) | apply Fr4)) : Sat W0 w4.drew (segH p k al ou kq kl cq c2 cl c3 mq ml mc :: seg true g 0 [.int .u8 (kd : Int), .int .i64 (k : Int), .int .u8 (ag : Int), .int .i64 (cn : Int), .int .i64 (on : Int), .slice dp dn dc, .slice ep en ec] :: []))
          refine region_E (fun w' => w'.cell? ⟨p, 3, none⟩ = some (.slice kq kl cq) ∧ p < w'.heap.size ∧ w'.cell? ⟨g, 2, none⟩ = some (.int .u8 (ag : Int)) ∧ w'.cell? ⟨g, 3, none⟩ = some (.int .i64 (cn : Int)) ∧ w'.cell? ⟨g, 4, none⟩ = some (.int .i64 (on : Int)) ∧ w'.cell? ⟨g, 5, none⟩ = some (.slice dp dn dc) ∧ g < w'.heap.size) [1, 5, 7, 9, 11] (by kernel_rfl) ?_
          have hHeld := hs5
          iterate 12
           first | refine autoT hHeld (by rfl) (by rfl) (x := ?_) (v := ?_) ?_ (by kernel_rfl) ?_ ?_ ?_ | refine autoP (by rfl) (x := ?_) (v := ?_) ?_ (by kernel_rfl) ?_ ?_ ?_
           rotate_left 2
           ·(simp only [gE1, gE2, gE3]; rfl)
           ·exact fun _ _ _ h => h
           ·refine Or.inl ⟨by rfl, fun w hSw => ?_⟩
            (try dsimp only at hSw)
            go_simp
            try (with_reducible rfl)
           try simp only [pA1, pA2, pA3, pA4]
          refine anyE_one (i := 12) (x := ?_) ?_ (by kernel_rfl) (fun K hK => ?_)
          rotate_left
          ·(simp only [gE1, gE2, gE3]; rfl)
          go_simp
          refine (pbKeyG (pv := .pointer none) (av := .int .u8 (ag : Int)) (cv := .int .i64 (cn : Int)) (nv := .int .i64 (on : Int)) (ck := cq) (cs := dc) false H.kb data cn on rfl HAG.out rfl rfl HKL.out.1 HD.out.1 HKL.out.2.1 HKL.out.2.2.1 HD.out.2.1 HD.out.2.2.1 HCN.out.1 HCN.out.2 (by omega) HKL.out.2.2.2 (by omega) (Sat.sub (s5d) (by with_reducible repeat first | exact Fr1 | exact Fr2 | (apply Fr3; focus ((repeat (first | exact Tk1 | apply Tk2)); done)) | apply Fr4))).mono ?_
          rintro e w5 ⟨xq, rfl, hxl, hx2, s6'⟩
          obtain ⟨xc, hxc⟩ : ∃ xc, xc = on := ⟨_, rfl⟩
          have s6 : Sat W0 w5 (bytes true xq ((pbMany false H.kb data cn (pbM false on)).take on) :: segH p k al ou kq kl cq c2 cl c3 mq ml mc :: seg true v 0 (.bool true :: cellsT T) :: bytes true kq H.kb :: bytes true c2 H.cb :: bytes true mq H.mb :: RW :: slotsA 0 (T.set k none) :: seg true g 0 [.int .u8 (kd : Int), .int .i64 (k : Int), .int .u8 (ag : Int), .int .i64 (cn : Int), .int .i64 (on : Int), .slice dp dn dc, .slice ep en ec] :: seg true ga 0 ans0 :: bytes md dp data :: bytes mm ep more :: L) := (Sat.sub (s6') (by with_reducible repeat first | exact Fr1 | exact Fr2 | (apply Fr3; focus ((repeat (first | exact Tk1 | apply Tk2)); done)) | apply Fr4))
          have hk4 := iPbkdf_keep ((Sat.sub (s6) (by with_reducible repeat first | exact Fr1 | exact Fr2 | (apply Fr3; focus ((repeat (first | exact Tk1 | apply Tk2)); done)) | apply Fr4)) : Sat W0 w5 (segH p k al ou kq kl cq c2 cl c3 mq ml mc :: seg true g 0 [.int .u8 (kd : Int), .int .i64 (k : Int), .int .u8 (ag : Int), .int .i64 (cn : Int), .int .i64 (on : Int), .slice dp dn dc, .slice ep en ec] :: []))
          go_wp2_with fail
          refine hK.out _ _ hk4 ?_
          clear hK K hHeld
          have hHeld := hk4
          try simp only [pA1, pA2, pA3, pA4]
          iterate 5
           first | refine autoT hHeld (by rfl) (by rfl) (x := ?_) (v := ?_) ?_ (by kernel_rfl) ?_ ?_ ?_ | refine autoP (by rfl) (x := ?_) (v := ?_) ?_ (by kernel_rfl) ?_ ?_ ?_
           rotate_left 2
           ·(simp only [gE1, gE2, gE3]; rfl)
           ·exact fun _ _ _ h => h
           ·refine Or.inl ⟨by rfl, fun w hSw => ?_⟩
            (try dsimp only at hSw)
            go_simp
            try (with_reducible rfl)
           try simp only [pA1, pA2, pA3, pA4]
          clear s5 s5d s6' hHeld hk4 hs5
          refine anyE_done (by kernel_rfl) ?_ _
          have htk2 := fun (w : World) (X : List Assn) (s : Sat W0 w (seg true v 0 (.bool true :: cellsT T) :: slotsA 0 (T.set k none) :: bytes true xq ((pbMany false H.kb data cn (pbM false on)).take on) :: bytes true none [] :: bytes true none [] :: X)) => iTakeW (v := v) (ck := on) (cc := 0) (cm := 0) T (T.set k none) (.key ((pbMany false H.kb data cn (pbM false on)).take on)) 0 HN.out.2.2 (setTT T k) hxl rfl rfl (by omega) (Nat.zero_le _) (Nat.zero_le _) s
          have HTK := Lib.hid htk2; clear htk2
          go_wp2_with fail
          refine (HTK.out _ (segH p k al ou kq kl cq c2 cl c3 mq ml mc :: bytes true kq H.kb :: bytes true c2 H.cb :: bytes true mq H.mb :: RW :: seg true g 0 [.int .u8 (kd : Int), .int .i64 (k : Int), .int .u8 (ag : Int), .int .i64 (cn : Int), .int .i64 (on : Int), .slice dp dn dc, .slice ep en ec] :: seg true ga 0 ans0 :: bytes md dp data :: bytes mm ep more :: L) (by have h1 := bytesNil true none (bytesNil true none s6); exact (Sat.sub (h1) (by with_reducible repeat first | exact Fr1 | exact Fr2 | (apply Fr3; focus ((repeat (first | exact Tk1 | apply Tk2)); done)) | apply Fr4)))).mono ?_
          rintro e w6 (⟨i, p2, hin', hit', rfl, s7⟩ | ⟨hit', rfl, s7⟩)
          ·have hin := Lib.hid hin'; clear hin'
           have hit := Lib.hid hit'; clear hit'
           have s7b : Sat W0 w6 (seg true v 0 (.bool true :: cellsT (T.set i (some (p2, (.key ((pbMany false H.kb data cn (pbM false on)).take on)))))) :: slotsA 0 ((T.set k none).set i (some (p2, (.key ((pbMany false H.kb data cn (pbM false on)).take on))))) :: bytes true xq ((pbMany false H.kb data cn (pbM false on)).take on) :: bytes true none [] :: bytes true none [] :: segH p k al ou kq kl cq c2 cl c3 mq ml mc :: bytes true kq H.kb :: bytes true c2 H.cb :: bytes true mq H.mb :: RW :: seg true g 0 [.int .u8 (kd : Int), .int .i64 (k : Int), .int .u8 (ag : Int), .int .i64 (cn : Int), .int .i64 (on : Int), .slice dp dn dc, .slice ep en ec] :: seg true ga 0 ans0 :: bytes md dp data :: bytes mm ep more :: L) := s7
           clear s6 s7
           have sr0 : Sat W0 _ (seg true ga 0 ans0 :: seg true v 0 (.bool true :: cellsT (T.set i (some (p2, (.key ((pbMany false H.kb data cn (pbM false on)).take on)))))) :: segH p k al ou kq kl cq c2 cl c3 mq ml mc :: bytes true kq H.kb :: bytes true c2 H.cb :: bytes true mq H.mb :: RW :: slotsA 0 ((T.set k none).set i (some (p2, (.key ((pbMany false H.kb data cn (pbM false on)).take on))))) :: bytes md dp data :: bytes mm ep more :: L) := (Sat.sub (s7b) (by with_reducible repeat first | exact Fr1 | exact Fr2 | (apply Fr3; focus ((repeat (first | exact Tk1 | apply Tk2)); done)) | apply Fr4))
           go_wp2_with (refine wpl_stAns rfl rfl (.tmp 4) (.tmp 130) rfl sr0 rfl rfl ?_; intro ws ss; clear sr0)
           have hr := ansLd ss
           have HS := Lib.hid ss.tail; clear ss
           refine bodyPost_ret (v := .agg #[.int .i64 0, .int .i64 (i : Int), .bool false, .slice none 0 0]) (by simp [results, Tryz.results45, asAddr]; exact hr) rfl ?_
           rw [HE.out, hit.out]
           have s8 := HS.out
           have hb := takeBack (p2 := p2) (H2 := (.key ((pbMany false H.kb data cn (pbM false on)).take on))) HT.out.1 hin.out
           have s9 := HT.out.2.1 _ _ _ hb.1 ((Sat.sub (s8) (by with_reducible repeat first | exact Fr1 | exact Fr2 | (apply Fr3; focus ((repeat (first | exact Tk1 | apply Tk2)); done)) | apply Fr4)) : Sat W0 ws (segH p k al ou kq kl cq c2 cl c3 mq ml mc :: bytes true kq H.kb :: bytes true c2 H.cb :: bytes true mq H.mb :: RW :: slotsA 0 ((T.set k none).set i (some (p2, (.key ((pbMany false H.kb data cn (pbM false on)).take on))))) :: seg true v 0 (.bool true :: cellsT (T.set i (some (p2, (.key ((pbMany false H.kb data cn (pbM false on)).take on)))))) :: bytes md dp data :: bytes mm ep more :: L))
           rw [hb.2] at s9
           exact ansP_h (vShut (T.set i (some (p2, (.key ((pbMany false H.kb data cn (pbM false on)).take on))))) (namesT_set _ _ _) (s9.pull 1 |>.sub (.cons .here (.cons .here .done))))
          ·have hit := Lib.hid hit'; clear hit'
           have s7b : Sat W0 w6 (seg true v 0 (.bool true :: cellsT T) :: slotsA 0 (T.set k none) :: bytes true xq ((pbMany false H.kb data cn (pbM false on)).take on) :: bytes true none [] :: bytes true none [] :: segH p k al ou kq kl cq c2 cl c3 mq ml mc :: bytes true kq H.kb :: bytes true c2 H.cb :: bytes true mq H.mb :: RW :: seg true g 0 [.int .u8 (kd : Int), .int .i64 (k : Int), .int .u8 (ag : Int), .int .i64 (cn : Int), .int .i64 (on : Int), .slice dp dn dc, .slice ep en ec] :: seg true ga 0 ans0 :: bytes md dp data :: bytes mm ep more :: L) := s7
           clear s6 s7
           have sr0 : Sat W0 _ (seg true ga 0 ans0 :: seg true v 0 (.bool true :: cellsT T) :: segH p k al ou kq kl cq c2 cl c3 mq ml mc :: bytes true kq H.kb :: bytes true c2 H.cb :: bytes true mq H.mb :: RW :: slotsA 0 (T.set k none) :: bytes md dp data :: bytes mm ep more :: L) := (Sat.sub (s7b) (by with_reducible repeat first | exact Fr1 | exact Fr2 | (apply Fr3; focus ((repeat (first | exact Tk1 | apply Tk2)); done)) | apply Fr4))
           go_wp2_with (refine wpl_stAns rfl rfl (.tmp 4) (.tmp 130) rfl sr0 rfl rfl ?_; intro ws ss; clear sr0)
           have hr := ansLd ss
           have HS := Lib.hid ss.tail; clear ss
           refine bodyPost_ret (v := .agg #[.int .i64 8, .int .i64 0, .bool false, .slice none 0 0]) (by simp [results, Tryz.results45, asAddr]; exact hr) rfl ?_
           rw [HE.out, hit.out]
           exact HNO.out _ _ HS.out
  ·have e1n : ((ag : Int) != 1) = true := by rw [bne_iff_ne]; omega
   have e2n : ((ag : Int) != 2) = false := by rw [hg]; rfl
   have e2e : ((ag : Int) == 2) = true := by rw [beq_iff_eq]; omega
   rw [if_neg (by omega), show algW ag = true by rw [hg]; rfl, show (4294967295 * (hsz true : Int) : Int) = 274877906880 from rfl] at e0
   have HAG := Lib.hid (show Value.int .u8 (ag : Int) = .int .u8 (algN true) by rw [hg]; rfl)
   clear hg
   by_cases hd0 : 65536 < dn
   ·rw [if_pos (.inl hd0)] at e0
    have hdI : (65536 : Int) < (dn : Int) := by omega
    have HE := Lib.hid e0; clear e0
    go_wp2_with fail
    refine (iNo 9 s2).mono ?_
    rintro e w4 ⟨rfl, s4⟩
    clear s2 o0 o1 o2 o3 o4 o5 o6 zo
    have sr0 : Sat W0 _ (seg true ga 0 ans0 :: seg true v 0 (.bool true :: cellsT T) :: slotsA 0 T :: bytes md dp data :: bytes mm ep more :: L) := (Sat.sub (s4) (by with_reducible repeat first | exact Fr1 | exact Fr2 | (apply Fr3; focus ((repeat (first | exact Tk1 | apply Tk2)); done)) | apply Fr4))
    go_wp2_with (refine wpl_stAns rfl rfl (.tmp 4) (.tmp 58) rfl sr0 rfl rfl ?_; intro ws ss; clear sr0)
    have hr := ansLd ss
    have HS := Lib.hid ss.tail; clear ss
    refine bodyPost_ret (v := .agg #[.int .i64 9, .int .i64 0, .bool false, .slice none 0 0]) (by simp [results, Tryz.results45, asAddr]; exact hr) rfl ?_
    rw [HE.out]
    exact ansP_no (vShut T rfl HS.out)
   ·have hdI : ¬ (65536 : Int) < (dn : Int) := by omega
    by_cases ho9 : (274877906880 : Int) < ot
    ·rw [if_pos (.inr ho9)] at e0
     have HE := Lib.hid e0; clear e0
     go_wp2_with fail
     refine (iNo 9 s2).mono ?_
     rintro e w4 ⟨rfl, s4⟩
     clear s2 o0 o1 o2 o3 o4 o5 o6 zo
     have sr0 : Sat W0 _ (seg true ga 0 ans0 :: seg true v 0 (.bool true :: cellsT T) :: slotsA 0 T :: bytes md dp data :: bytes mm ep more :: L) := (Sat.sub (s4) (by with_reducible repeat first | exact Fr1 | exact Fr2 | (apply Fr3; focus ((repeat (first | exact Tk1 | apply Tk2)); done)) | apply Fr4))
     go_wp2_with (refine wpl_stAns rfl rfl (.tmp 4) (.tmp 58) rfl sr0 rfl rfl ?_; intro ws ss; clear sr0)
     have hr := ansLd ss
     have HS := Lib.hid ss.tail; clear ss
     refine bodyPost_ret (v := .agg #[.int .i64 9, .int .i64 0, .bool false, .slice none 0 0]) (by simp [results, Tryz.results45, asAddr]; exact hr) rfl ?_
     rw [HE.out]
     exact ansP_no (vShut T rfl HS.out)
    ·rw [if_neg (by rintro (h | h); exact hd0 h; exact ho9 h)] at e0
     by_cases hc1 : ct < 1
     ·rw [if_pos (.inl hc1)] at e0
      have HE := Lib.hid e0; clear e0
      go_wp2_with fail
      refine (iNo 10 s2).mono ?_
      rintro e w4 ⟨rfl, s4⟩
      clear s2 o0 o1 o2 o3 o4 o5 o6 zo
      have sr0 : Sat W0 _ (seg true ga 0 ans0 :: seg true v 0 (.bool true :: cellsT T) :: slotsA 0 T :: bytes md dp data :: bytes mm ep more :: L) := (Sat.sub (s4) (by with_reducible repeat first | exact Fr1 | exact Fr2 | (apply Fr3; focus ((repeat (first | exact Tk1 | apply Tk2)); done)) | apply Fr4))
      go_wp2_with (refine wpl_stAns rfl rfl (.tmp 4) (.tmp 73) rfl sr0 rfl rfl ?_; intro ws ss; clear sr0)
      have hr := ansLd ss
      have HS := Lib.hid ss.tail; clear ss
      refine bodyPost_ret (v := .agg #[.int .i64 10, .int .i64 0, .bool false, .slice none 0 0]) (by simp [results, Tryz.results45, asAddr]; exact hr) rfl ?_
      rw [HE.out]
      exact ansP_no (vShut T rfl HS.out)
     ·by_cases hc2 : 1048576 < ct
      ·rw [if_pos (.inr hc2)] at e0
       have HE := Lib.hid e0; clear e0
       go_wp2_with fail
       refine (iNo 10 s2).mono ?_
       rintro e w4 ⟨rfl, s4⟩
       clear s2 o0 o1 o2 o3 o4 o5 o6 zo
       have sr0 : Sat W0 _ (seg true ga 0 ans0 :: seg true v 0 (.bool true :: cellsT T) :: slotsA 0 T :: bytes md dp data :: bytes mm ep more :: L) := (Sat.sub (s4) (by with_reducible repeat first | exact Fr1 | exact Fr2 | (apply Fr3; focus ((repeat (first | exact Tk1 | apply Tk2)); done)) | apply Fr4))
       go_wp2_with (refine wpl_stAns rfl rfl (.tmp 4) (.tmp 73) rfl sr0 rfl rfl ?_; intro ws ss; clear sr0)
       have hr := ansLd ss
       have HS := Lib.hid ss.tail; clear ss
       refine bodyPost_ret (v := .agg #[.int .i64 10, .int .i64 0, .bool false, .slice none 0 0]) (by simp [results, Tryz.results45, asAddr]; exact hr) rfl ?_
       rw [HE.out]
       exact ansP_no (vShut T rfl HS.out)
      ·rw [if_neg (by rintro (h | h); exact hc1 h; exact hc2 h)] at e0
       by_cases ho1 : ot < 1
       ·rw [if_pos (.inl ho1)] at e0
        have HE := Lib.hid e0; clear e0
        go_wp2_with fail
        refine (iNo 7 s2).mono ?_
        rintro e w4 ⟨rfl, s4⟩
        clear s2 o0 o1 o2 o3 o4 o5 o6 zo
        have sr0 : Sat W0 _ (seg true ga 0 ans0 :: seg true v 0 (.bool true :: cellsT T) :: slotsA 0 T :: bytes md dp data :: bytes mm ep more :: L) := (Sat.sub (s4) (by with_reducible repeat first | exact Fr1 | exact Fr2 | (apply Fr3; focus ((repeat (first | exact Tk1 | apply Tk2)); done)) | apply Fr4))
        go_wp2_with (refine wpl_stAns rfl rfl (.tmp 4) (.tmp 83) rfl sr0 rfl rfl ?_; intro ws ss; clear sr0)
        have hr := ansLd ss
        have HS := Lib.hid ss.tail; clear ss
        refine bodyPost_ret (v := .agg #[.int .i64 7, .int .i64 0, .bool false, .slice none 0 0]) (by simp [results, Tryz.results45, asAddr]; exact hr) rfl ?_
        rw [HE.out]
        exact ansP_no (vShut T rfl HS.out)
       ·by_cases ho2 : 512 < ot
        ·rw [if_pos (.inr ho2)] at e0
         have HE := Lib.hid e0; clear e0
         go_wp2_with fail
         refine (iNo 7 s2).mono ?_
         rintro e w4 ⟨rfl, s4⟩
         clear s2 o0 o1 o2 o3 o4 o5 o6 zo
         have sr0 : Sat W0 _ (seg true ga 0 ans0 :: seg true v 0 (.bool true :: cellsT T) :: slotsA 0 T :: bytes md dp data :: bytes mm ep more :: L) := (Sat.sub (s4) (by with_reducible repeat first | exact Fr1 | exact Fr2 | (apply Fr3; focus ((repeat (first | exact Tk1 | apply Tk2)); done)) | apply Fr4))
         go_wp2_with (refine wpl_stAns rfl rfl (.tmp 4) (.tmp 83) rfl sr0 rfl rfl ?_; intro ws ss; clear sr0)
         have hr := ansLd ss
         have HS := Lib.hid ss.tail; clear ss
         refine bodyPost_ret (v := .agg #[.int .i64 7, .int .i64 0, .bool false, .slice none 0 0]) (by simp [results, Tryz.results45, asAddr]; exact hr) rfl ?_
         rw [HE.out]
         exact ansP_no (vShut T rfl HS.out)
        ·rw [if_neg (by rintro (h | h); exact ho1 h; exact ho2 h)] at e0
         have ho : ∃ on : Nat, ot = (on : Int) := ⟨ot.toNat, by omega⟩
         obtain ⟨on, rfl⟩ := ho
         rw [Int.toNat_natCast] at e0
         obtain ⟨cn, rfl⟩ : ∃ cn : Nat, ct = (cn : Int) := ⟨ct.toNat, by omega⟩
         rw [Int.toNat_natCast] at e0
         have HCN := Lib.hid (show 1 ≤ cn ∧ cn ≤ 1048576 by omega)
         go_wp2_with fail
         refine (iHeldT T HN.out.1 HN.out.2.1 ((Sat.sub (s2) (by with_reducible repeat first | exact Fr1 | exact Fr2 | (apply Fr3; focus ((repeat (first | exact Tk1 | apply Tk2)); done)) | apply Fr4)) : Sat W0 w3 (seg true v 0 (.bool true :: cellsT T) :: slotsA 0 T :: seg true g 0 [.int .u8 (kd : Int), .int .i64 hd, .int .u8 (ag : Int), .int .i64 (cn : Int), .int .i64 (on : Int), .slice dp dn dc, .slice ep en ec] :: seg true ga 0 ans0 :: bytes md dp data :: bytes mm ep more :: L))).mono ?_
         rintro e w4 ⟨hn, hp, hcc, hhn, rfl, s3'⟩
         have s3 : Sat W0 w4 (seg true g 0 [.int .u8 (kd : Int), .int .i64 hd, .int .u8 (ag : Int), .int .i64 (cn : Int), .int .i64 (on : Int), .slice dp dn dc, .slice ep en ec] :: seg true ga 0 ans0 :: seg true v 0 (.bool true :: cellsT T) :: slotsA 0 T :: bytes md dp data :: bytes mm ep more :: L) := (Sat.sub (s3') (by with_reducible repeat first | exact Fr1 | exact Fr2 | (apply Fr3; focus ((repeat (first | exact Tk1 | apply Tk2)); done)) | apply Fr4))
         clear s2 s3' o0 o1 o2 o3 o4 o5 o6 zo
         obtain ⟨o0, o1, o2, o3, o4, o5, o6, zo⟩ := HO.out _ _ _ _ _ _ _ _ _ _ s3
         have hff := heldL_full (namesT T) 0
         rw [← hhn, namesT_len, HN.out.2.2] at hff
         by_cases hfu : iFull (namesT T) = true
         ·rw [if_pos hfu] at e0
          rw [hfu] at hff
          have hm : ((hn : Int) == 64) = true := by
           have h6 : hn = 64 := by rw [hff]
           rw [h6]; rfl
          clear hff hfu hhn
          have HE := Lib.hid e0; clear e0
          go_wp2_with fail
          refine (iNo 8 s3).mono ?_
          rintro e w5 ⟨rfl, s4⟩
          clear s3 o0 o1 o2 o3 o4 o5 o6 zo
          have sr0 : Sat W0 _ (seg true ga 0 ans0 :: seg true v 0 (.bool true :: cellsT T) :: slotsA 0 T :: bytes md dp data :: bytes mm ep more :: L) := (Sat.sub (s4) (by with_reducible repeat first | exact Fr1 | exact Fr2 | (apply Fr3; focus ((repeat (first | exact Tk1 | apply Tk2)); done)) | apply Fr4))
          go_wp2_with (refine wpl_stAns rfl rfl (.tmp 4) (.tmp 88) rfl sr0 rfl rfl ?_; intro ws ss; clear sr0)
          have hr := ansLd ss
          have HS := Lib.hid ss.tail; clear ss
          refine bodyPost_ret (v := .agg #[.int .i64 8, .int .i64 0, .bool false, .slice none 0 0]) (by simp [results, Tryz.results45, asAddr]; exact hr) rfl ?_
          rw [HE.out]
          exact ansP_no (vShut T rfl HS.out)
         ·rw [if_neg hfu] at e0
          have hm : ((hn : Int) == 64) = false := by
           rw [beq_eq_false_iff_ne]
           intro h6
           exact hfu (hff.mp (by omega))
          clear hff hfu hhn
          have HE0 := Lib.hid e0; clear e0
          obtain ⟨k, rfl⟩ : ∃ k : Nat, hd = (k : Int) := ⟨hd.toNat, by omega⟩
          rw [Int.toNat_natCast] at hTp
          have hkI : (k : Int) < 64 := h2
          have so := slotsOpen k hTp ((Sat.sub (s3) (by with_reducible repeat first | exact Fr1 | exact Fr2 | (apply Fr3; focus ((repeat (first | exact Tk1 | apply Tk2)); done)) | apply Fr4)) : Sat W0 w4 (slotsA 0 T :: seg true g 0 [.int .u8 (kd : Int), .int .i64 (k : Int), .int .u8 (ag : Int), .int .i64 (cn : Int), .int .i64 (on : Int), .slice dp dn dc, .slice ep en ec] :: seg true ga 0 ans0 :: seg true v 0 (.bool true :: cellsT T) :: bytes md dp data :: bytes mm ep more :: L))
          obtain ⟨q, hq, so2⟩ := holdOpen so
          obtain ⟨kq, cq, c2, c3, mq, mc⟩ := q
          rw [Nat.zero_add] at so2
          have hok := HN.out.1.2 _ (mem_of_get (namesT_get hTp))
          have hbk : H.kb.length ≤ 1000000000 ∧ H.cb.length ≤ 1000000000 ∧ H.mb.length ≤ 1000000000 := hold_bd hok HN.out.2.1
          obtain ⟨al, hal2⟩ : ∃ al : Nat, al = H.alg := ⟨_, rfl⟩
          obtain ⟨ou, hou⟩ : ∃ ou : Nat, ou = H.out := ⟨_, rfl⟩
          obtain ⟨kl, hkl⟩ : ∃ n, n = H.kb.length := ⟨_, rfl⟩
          obtain ⟨cl, hcl⟩ : ∃ n, n = H.cb.length := ⟨_, rfl⟩
          obtain ⟨ml, hml⟩ : ∃ n, n = H.mb.length := ⟨_, rfl⟩
          have so3 : Sat W0 w4 (seg true p 0 [.int .i64 (k : Int), .int .u8 (H.alg : Int), .int .i64 (H.out : Int), .slice kq H.kb.length cq, .slice c2 H.cb.length c3, .slice mq H.mb.length mc] :: bytes true kq H.kb :: bytes true c2 H.cb :: row mq mc 1 H.mb.length (u8s H.mb) :: slotsA 0 (T.set k none) :: seg true g 0 [.int .u8 (kd : Int), .int .i64 (k : Int), .int .u8 (ag : Int), .int .i64 (cn : Int), .int .i64 (on : Int), .slice dp dn dc, .slice ep en ec] :: seg true ga 0 ans0 :: seg true v 0 (.bool true :: cellsT T) :: bytes md dp data :: bytes mm ep more :: L) := so2
          rw [← hal2, ← hou, ← hkl, ← hcl, ← hml] at so3
          obtain ⟨_, hm1, hm2, RW, so4, back⟩ := rowWand ((Sat.sub (so3) (by with_reducible repeat first | exact Fr1 | exact Fr2 | (apply Fr3; focus ((repeat (first | exact Tk1 | apply Tk2)); done)) | apply Fr4)) : Sat W0 w4 (row mq mc 1 ml (u8s H.mb) :: segH p k al ou kq kl cq c2 cl c3 mq ml mc :: bytes true kq H.kb :: bytes true c2 H.cb :: slotsA 0 (T.set k none) :: seg true g 0 [.int .u8 (kd : Int), .int .i64 (k : Int), .int .u8 (ag : Int), .int .i64 (cn : Int), .int .i64 (on : Int), .slice dp dn dc, .slice ep en ec] :: seg true ga 0 ans0 :: seg true v 0 (.bool true :: cellsT T) :: bytes md dp data :: bytes mm ep more :: L))
          have s5 : Sat W0 w4 (segH p k al ou kq kl cq c2 cl c3 mq ml mc :: seg true v 0 (.bool true :: cellsT T) :: bytes true kq H.kb :: bytes true c2 H.cb :: bytes true mq H.mb :: RW :: slotsA 0 (T.set k none) :: seg true g 0 [.int .u8 (kd : Int), .int .i64 (k : Int), .int .u8 (ag : Int), .int .i64 (cn : Int), .int .i64 (on : Int), .slice dp dn dc, .slice ep en ec] :: seg true ga 0 ans0 :: bytes md dp data :: bytes mm ep more :: L) := (Sat.sub (so4) (by with_reducible repeat first | exact Fr1 | exact Fr2 | (apply Fr3; focus ((repeat (first | exact Tk1 | apply Tk2)); done)) | apply Fr4))
          have hclose : ∀ (w' : World) (L' : List Assn) (T2 : Held), T2[k]? = some none → Sat W0 w' (segH p k al ou kq kl cq c2 cl c3 mq ml mc :: bytes true kq H.kb :: bytes true c2 H.cb :: bytes true mq H.mb :: RW :: slotsA 0 T2 :: L') → Sat W0 w' (slotsA 0 (T2.set k (some (p, H))) :: L') := by
           intro w' L' T2 hT2 h
           have h2 := back _ _ ((Sat.sub (h) (by with_reducible repeat first | exact Fr1 | exact Fr2 | (apply Fr3; focus ((repeat (first | exact Tk1 | apply Tk2)); done)) | apply Fr4)) : Sat W0 w' (bytes true mq H.mb :: RW :: segH p k al ou kq kl cq c2 cl c3 mq ml mc :: bytes true kq H.kb :: bytes true c2 H.cb :: slotsA 0 T2 :: L'))
           rw [hal2, hou, hkl, hcl, hml] at h2
           have h3 : Sat W0 w' (holdL p (0 + k) H ⟨kq, cq, c2, c3, mq, mc⟩ (slotsA 0 T2 :: L')) := by
            rw [Nat.zero_add]
            have h4 : Sat W0 w' (seg true p 0 [.int .i64 (k : Int), .int .u8 (H.alg : Int), .int .i64 (H.out : Int), .slice kq H.kb.length cq, .slice c2 H.cb.length c3, .slice mq H.mb.length mc] :: bytes true kq H.kb :: bytes true c2 H.cb :: row mq mc 1 H.mb.length (u8s H.mb) :: slotsA 0 T2 :: L') := (Sat.sub (h2) (by with_reducible repeat first | exact Fr1 | exact Fr2 | (apply Fr3; focus ((repeat (first | exact Tk1 | apply Tk2)); done)) | apply Fr4))
            exact h4
           exact slotsShut k hT2 (holdShut _ hq h3)
          have hno : ∀ (w' : World) (c : Int), Sat W0 w' (seg true v 0 (.bool true :: cellsT T) :: segH p k al ou kq kl cq c2 cl c3 mq ml mc :: bytes true kq H.kb :: bytes true c2 H.cb :: bytes true mq H.mb :: RW :: slotsA 0 (T.set k none) :: bytes md dp data :: bytes mm ep more :: L) → ansP W0 v (namesT T, noA c) (bytes md dp data :: bytes mm ep more :: L) (.returned (.agg #[.int .i64 c, .int .i64 0, .bool false, .slice none 0 0])) w' := by
           intro w' c s8
           have s9 := hclose _ _ _ (by rw [List.getElem?_set_self (List.getElem?_eq_some_iff.1 hTp).1]) ((Sat.sub (s8) (by with_reducible repeat first | exact Fr1 | exact Fr2 | (apply Fr3; focus ((repeat (first | exact Tk1 | apply Tk2)); done)) | apply Fr4)) : Sat W0 w' (segH p k al ou kq kl cq c2 cl c3 mq ml mc :: bytes true kq H.kb :: bytes true c2 H.cb :: bytes true mq H.mb :: RW :: slotsA 0 (T.set k none) :: seg true v 0 (.bool true :: cellsT T) :: bytes md dp data :: bytes mm ep more :: L))
           rw [setBack hTp] at s9
           exact ansP_no (vShut T rfl (s9.pull 1 |>.sub (.cons .here (.cons .here .done))))
          have HNO := Lib.hid hno; clear hno
          have htk := fun (w : World) (X : List Assn) (s : Sat W0 w (seg true v 0 (.bool true :: cellsT T) :: slotsA 0 (T.set k none) :: bytes true kq H.kb :: bytes true c2 H.cb :: bytes true mq H.mb :: X)) => iTakeW (v := v) (ck := cq) (cc := c3) (cm := mc) T (T.set k none) H (k : Int) HN.out.2.2 (setTT T k) hkl.symm hcl.symm hml.symm (by rw [hkl]; exact hbk.1) (by rw [hcl]; exact hbk.2.1) (by rw [hml]; exact hbk.2.2) s
          rw [← hal2, ← hou] at htk
          have hcln := fun (w : World) (X : List Assn) (s : Sat W0 w (bytes true kq H.kb :: X)) => bClone (cap := cq) H.kb hkl.symm (by have := hbk.1; omega) s
          have HKL := Lib.hid (And.intro hkl.symm (And.intro (show kl ≤ cq by rw [hkl]; exact hq.1) (And.intro (show cq ≤ maxLen from hq.2.1) (show kl ≤ 1000000000 by rw [hkl]; exact hbk.1))))
          have HT := Lib.hid (And.intro hTp (And.intro hclose (And.intro htk (And.intro hcln hkl)))); clear hTp hclose htk hcln hkl hcl hml hal2 hou hbk hok hq so so2 so3 so4 back hm1 hm2 hal h1 h2 s3
          have cp0 := s5.at 0 rfl
          have cp1 := s5.at 1 rfl
          have cp2 := s5.at 2 rfl
          have cp3 := s5.at 3 rfl
          have cp4 := s5.at 4 rfl
          have cp5 := s5.at 5 rfl
          have zp := s5.lt (by simp)
          have HE := HE0; clear HE0
          go_wp2_with fail
          have s5d := s5.drew
          clear o0 o1 o2 o3 o4 o5 o6 zo cp0 cp1 cp2 cp3 cp4 cp5 zp
          have hs5 := iPbkdf_keep ((Sat.sub (s5d) (by with_reducible repeat first | exact Fr1 | exact Fr2 | (apply Fr3; focus ((repeat (first | exact Tk1 | apply Tk2)); done)) | apply Fr4)) : Sat W0 w4.drew (segH p k al ou kq kl cq c2 cl c3 mq ml mc :: seg true g 0 [.int .u8 (kd : Int), .int .i64 (k : Int), .int .u8 (ag : Int), .int .i64 (cn : Int), .int .i64 (on : Int), .slice dp dn dc, .slice ep en ec] :: []))
          refine region_E (fun w' => w'.cell? ⟨p, 3, none⟩ = some (.slice kq kl cq) ∧ p < w'.heap.size ∧ w'.cell? ⟨g, 2, none⟩ = some (.int .u8 (ag : Int)) ∧ w'.cell? ⟨g, 3, none⟩ = some (.int .i64 (cn : Int)) ∧ w'.cell? ⟨g, 4, none⟩ = some (.int .i64 (on : Int)) ∧ w'.cell? ⟨g, 5, none⟩ = some (.slice dp dn dc) ∧ g < w'.heap.size) [1, 5, 7, 9, 11] (by kernel_rfl) ?_
          have hHeld := hs5
          iterate 12
           first | refine autoT hHeld (by rfl) (by rfl) (x := ?_) (v := ?_) ?_ (by kernel_rfl) ?_ ?_ ?_ | refine autoP (by rfl) (x := ?_) (v := ?_) ?_ (by kernel_rfl) ?_ ?_ ?_
           rotate_left 2
           ·(simp only [gE1, gE2, gE3]; rfl)
           ·exact fun _ _ _ h => h
           ·refine Or.inl ⟨by rfl, fun w hSw => ?_⟩
            (try dsimp only at hSw)
            go_simp
            try (with_reducible rfl)
           try simp only [pA1, pA2, pA3, pA4]
          refine anyE_one (i := 12) (x := ?_) ?_ (by kernel_rfl) (fun K hK => ?_)
          rotate_left
          ·(simp only [gE1, gE2, gE3]; rfl)
          go_simp
          refine (pbKeyG (pv := .pointer none) (av := .int .u8 (ag : Int)) (cv := .int .i64 (cn : Int)) (nv := .int .i64 (on : Int)) (ck := cq) (cs := dc) true H.kb data cn on rfl HAG.out rfl rfl HKL.out.1 HD.out.1 HKL.out.2.1 HKL.out.2.2.1 HD.out.2.1 HD.out.2.2.1 HCN.out.1 HCN.out.2 (by omega) HKL.out.2.2.2 (by omega) (Sat.sub (s5d) (by with_reducible repeat first | exact Fr1 | exact Fr2 | (apply Fr3; focus ((repeat (first | exact Tk1 | apply Tk2)); done)) | apply Fr4))).mono ?_
          rintro e w5 ⟨xq, rfl, hxl, hx2, s6'⟩
          obtain ⟨xc, hxc⟩ : ∃ xc, xc = on := ⟨_, rfl⟩
          have s6 : Sat W0 w5 (bytes true xq ((pbMany true H.kb data cn (pbM true on)).take on) :: segH p k al ou kq kl cq c2 cl c3 mq ml mc :: seg true v 0 (.bool true :: cellsT T) :: bytes true kq H.kb :: bytes true c2 H.cb :: bytes true mq H.mb :: RW :: slotsA 0 (T.set k none) :: seg true g 0 [.int .u8 (kd : Int), .int .i64 (k : Int), .int .u8 (ag : Int), .int .i64 (cn : Int), .int .i64 (on : Int), .slice dp dn dc, .slice ep en ec] :: seg true ga 0 ans0 :: bytes md dp data :: bytes mm ep more :: L) := (Sat.sub (s6') (by with_reducible repeat first | exact Fr1 | exact Fr2 | (apply Fr3; focus ((repeat (first | exact Tk1 | apply Tk2)); done)) | apply Fr4))
          have hk4 := iPbkdf_keep ((Sat.sub (s6) (by with_reducible repeat first | exact Fr1 | exact Fr2 | (apply Fr3; focus ((repeat (first | exact Tk1 | apply Tk2)); done)) | apply Fr4)) : Sat W0 w5 (segH p k al ou kq kl cq c2 cl c3 mq ml mc :: seg true g 0 [.int .u8 (kd : Int), .int .i64 (k : Int), .int .u8 (ag : Int), .int .i64 (cn : Int), .int .i64 (on : Int), .slice dp dn dc, .slice ep en ec] :: []))
          go_wp2_with fail
          refine hK.out _ _ hk4 ?_
          clear hK K hHeld
          have hHeld := hk4
          try simp only [pA1, pA2, pA3, pA4]
          iterate 5
           first | refine autoT hHeld (by rfl) (by rfl) (x := ?_) (v := ?_) ?_ (by kernel_rfl) ?_ ?_ ?_ | refine autoP (by rfl) (x := ?_) (v := ?_) ?_ (by kernel_rfl) ?_ ?_ ?_
           rotate_left 2
           ·(simp only [gE1, gE2, gE3]; rfl)
           ·exact fun _ _ _ h => h
           ·refine Or.inl ⟨by rfl, fun w hSw => ?_⟩
            (try dsimp only at hSw)
            go_simp
            try (with_reducible rfl)
           try simp only [pA1, pA2, pA3, pA4]
          clear s5 s5d s6' hHeld hk4 hs5
          refine anyE_done (by kernel_rfl) ?_ _
          have htk2 := fun (w : World) (X : List Assn) (s : Sat W0 w (seg true v 0 (.bool true :: cellsT T) :: slotsA 0 (T.set k none) :: bytes true xq ((pbMany true H.kb data cn (pbM true on)).take on) :: bytes true none [] :: bytes true none [] :: X)) => iTakeW (v := v) (ck := on) (cc := 0) (cm := 0) T (T.set k none) (.key ((pbMany true H.kb data cn (pbM true on)).take on)) 0 HN.out.2.2 (setTT T k) hxl rfl rfl (by omega) (Nat.zero_le _) (Nat.zero_le _) s
          have HTK := Lib.hid htk2; clear htk2
          go_wp2_with fail
          refine (HTK.out _ (segH p k al ou kq kl cq c2 cl c3 mq ml mc :: bytes true kq H.kb :: bytes true c2 H.cb :: bytes true mq H.mb :: RW :: seg true g 0 [.int .u8 (kd : Int), .int .i64 (k : Int), .int .u8 (ag : Int), .int .i64 (cn : Int), .int .i64 (on : Int), .slice dp dn dc, .slice ep en ec] :: seg true ga 0 ans0 :: bytes md dp data :: bytes mm ep more :: L) (by have h1 := bytesNil true none (bytesNil true none s6); exact (Sat.sub (h1) (by with_reducible repeat first | exact Fr1 | exact Fr2 | (apply Fr3; focus ((repeat (first | exact Tk1 | apply Tk2)); done)) | apply Fr4)))).mono ?_
          rintro e w6 (⟨i, p2, hin', hit', rfl, s7⟩ | ⟨hit', rfl, s7⟩)
          ·have hin := Lib.hid hin'; clear hin'
           have hit := Lib.hid hit'; clear hit'
           have s7b : Sat W0 w6 (seg true v 0 (.bool true :: cellsT (T.set i (some (p2, (.key ((pbMany true H.kb data cn (pbM true on)).take on)))))) :: slotsA 0 ((T.set k none).set i (some (p2, (.key ((pbMany true H.kb data cn (pbM true on)).take on))))) :: bytes true xq ((pbMany true H.kb data cn (pbM true on)).take on) :: bytes true none [] :: bytes true none [] :: segH p k al ou kq kl cq c2 cl c3 mq ml mc :: bytes true kq H.kb :: bytes true c2 H.cb :: bytes true mq H.mb :: RW :: seg true g 0 [.int .u8 (kd : Int), .int .i64 (k : Int), .int .u8 (ag : Int), .int .i64 (cn : Int), .int .i64 (on : Int), .slice dp dn dc, .slice ep en ec] :: seg true ga 0 ans0 :: bytes md dp data :: bytes mm ep more :: L) := s7
           clear s6 s7
           have sr0 : Sat W0 _ (seg true ga 0 ans0 :: seg true v 0 (.bool true :: cellsT (T.set i (some (p2, (.key ((pbMany true H.kb data cn (pbM true on)).take on)))))) :: segH p k al ou kq kl cq c2 cl c3 mq ml mc :: bytes true kq H.kb :: bytes true c2 H.cb :: bytes true mq H.mb :: RW :: slotsA 0 ((T.set k none).set i (some (p2, (.key ((pbMany true H.kb data cn (pbM true on)).take on))))) :: bytes md dp data :: bytes mm ep more :: L) := (Sat.sub (s7b) (by with_reducible repeat first | exact Fr1 | exact Fr2 | (apply Fr3; focus ((repeat (first | exact Tk1 | apply Tk2)); done)) | apply Fr4))
           go_wp2_with (refine wpl_stAns rfl rfl (.tmp 4) (.tmp 130) rfl sr0 rfl rfl ?_; intro ws ss; clear sr0)
           have hr := ansLd ss
           have HS := Lib.hid ss.tail; clear ss
           refine bodyPost_ret (v := .agg #[.int .i64 0, .int .i64 (i : Int), .bool false, .slice none 0 0]) (by simp [results, Tryz.results45, asAddr]; exact hr) rfl ?_
           rw [HE.out, hit.out]
           have s8 := HS.out
           have hb := takeBack (p2 := p2) (H2 := (.key ((pbMany true H.kb data cn (pbM true on)).take on))) HT.out.1 hin.out
           have s9 := HT.out.2.1 _ _ _ hb.1 ((Sat.sub (s8) (by with_reducible repeat first | exact Fr1 | exact Fr2 | (apply Fr3; focus ((repeat (first | exact Tk1 | apply Tk2)); done)) | apply Fr4)) : Sat W0 ws (segH p k al ou kq kl cq c2 cl c3 mq ml mc :: bytes true kq H.kb :: bytes true c2 H.cb :: bytes true mq H.mb :: RW :: slotsA 0 ((T.set k none).set i (some (p2, (.key ((pbMany true H.kb data cn (pbM true on)).take on))))) :: seg true v 0 (.bool true :: cellsT (T.set i (some (p2, (.key ((pbMany true H.kb data cn (pbM true on)).take on)))))) :: bytes md dp data :: bytes mm ep more :: L))
           rw [hb.2] at s9
           exact ansP_h (vShut (T.set i (some (p2, (.key ((pbMany true H.kb data cn (pbM true on)).take on))))) (namesT_set _ _ _) (s9.pull 1 |>.sub (.cons .here (.cons .here .done))))
          ·have hit := Lib.hid hit'; clear hit'
           have s7b : Sat W0 w6 (seg true v 0 (.bool true :: cellsT T) :: slotsA 0 (T.set k none) :: bytes true xq ((pbMany true H.kb data cn (pbM true on)).take on) :: bytes true none [] :: bytes true none [] :: segH p k al ou kq kl cq c2 cl c3 mq ml mc :: bytes true kq H.kb :: bytes true c2 H.cb :: bytes true mq H.mb :: RW :: seg true g 0 [.int .u8 (kd : Int), .int .i64 (k : Int), .int .u8 (ag : Int), .int .i64 (cn : Int), .int .i64 (on : Int), .slice dp dn dc, .slice ep en ec] :: seg true ga 0 ans0 :: bytes md dp data :: bytes mm ep more :: L) := s7
           clear s6 s7
           have sr0 : Sat W0 _ (seg true ga 0 ans0 :: seg true v 0 (.bool true :: cellsT T) :: segH p k al ou kq kl cq c2 cl c3 mq ml mc :: bytes true kq H.kb :: bytes true c2 H.cb :: bytes true mq H.mb :: RW :: slotsA 0 (T.set k none) :: bytes md dp data :: bytes mm ep more :: L) := (Sat.sub (s7b) (by with_reducible repeat first | exact Fr1 | exact Fr2 | (apply Fr3; focus ((repeat (first | exact Tk1 | apply Tk2)); done)) | apply Fr4))
           go_wp2_with (refine wpl_stAns rfl rfl (.tmp 4) (.tmp 130) rfl sr0 rfl rfl ?_; intro ws ss; clear sr0)
           have hr := ansLd ss
           have HS := Lib.hid ss.tail; clear ss
           refine bodyPost_ret (v := .agg #[.int .i64 8, .int .i64 0, .bool false, .slice none 0 0]) (by simp [results, Tryz.results45, asAddr]; exact hr) rfl ?_
           rw [HE.out, hit.out]
           exact HNO.out _ _ HS.out
  ·have e1n : ((ag : Int) != 1) = true := by rw [bne_iff_ne]; omega
   have e2n : ((ag : Int) != 2) = true := by rw [bne_iff_ne]; omega
   have e2e : ((ag : Int) == 2) = false := by rw [beq_eq_false_iff_ne]; omega
   rw [if_pos hg] at e0
   clear hg
   have HE := Lib.hid e0; clear e0
   go_wp2_with fail
   refine (iNo 4 s2).mono ?_
   rintro e w4 ⟨rfl, s4⟩
   clear s2 o0 o1 o2 o3 o4 o5 o6 zo
   have sr0 : Sat W0 _ (seg true ga 0 ans0 :: seg true v 0 (.bool true :: cellsT T) :: slotsA 0 T :: bytes md dp data :: bytes mm ep more :: L) := (Sat.sub (s4) (by with_reducible repeat first | exact Fr1 | exact Fr2 | (apply Fr3; focus ((repeat (first | exact Tk1 | apply Tk2)); done)) | apply Fr4))
   go_wp2_with (refine wpl_stAns rfl rfl (.tmp 4) (.tmp 39) rfl sr0 rfl rfl ?_; intro ws ss; clear sr0)
   have hr := ansLd ss
   have HS := Lib.hid ss.tail; clear ss
   refine bodyPost_ret (v := .agg #[.int .i64 4, .int .i64 0, .bool false, .slice none 0 0]) (by simp [results, Tryz.results45, asAddr]; exact hr) rfl ?_
   rw [HE.out]
   exact ansP_no (vShut T rfl HS.out)
end Go.Proofs.YtpiiklfnakkdiaaGreat
