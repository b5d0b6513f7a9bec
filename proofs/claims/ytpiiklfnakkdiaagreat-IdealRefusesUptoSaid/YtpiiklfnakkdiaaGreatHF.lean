/- Idl9, Idl8, IdlE, Idl10: texts that lie apart elsewhere, as one; each under the conditions that it names. -/
import Derived.Test.YtpiiklfnakkdiaaGreatHE
import Derived.Test.YtpiiklfnakkdiaaGreatHD
import Derived.Laws.BytesArg
import Derived.MapKept
import Derived.Laws.StructEq

/- The ideal vault: a message goes on; under the conditions that each names. -/
namespace Go.Proofs.YtpiiklfnakkdiaaGreat
open Go.RowKit Go.Sep Go.Bv Go.Kec Go.Aes Go.Sha
set_option linter.unusedVariables false
set_option linter.unusedSimpArgs false
theorem step_app8 {W0 w : World} {L : List Assn} {ops : Array Oper} {o : Oper} {a : Act} {K : Act → World → Prop} {Q : Exit → Act → World → Prop} {E : Prop} (hgd : o.guard = none) (s x : Operand) (ho : o.op = .call { callee := .builtin .append, args := #[s, x], argTypes := #[24, 24] })
  {p : Option Addr} {cp n : Nat} {xs : List Byte} {m : Bool} {q : Option Addr} {k cq : Nat} {ys : List Byte} (hv : a.eval s = .slice p n cp) (hx : a.eval x = .slice q k cq)
  (hs : Sat W0 w (row p cp 1 n (u8s xs) :: bytes m q ys :: L)) (hk : ys.length = k) (hb : n + k ≤ 140737488355328)
  (h : ∀ p' c' w', Sat W0 w' (row p' c' 1 (n + k) (u8s (xs ++ ys)) :: bytes m q ys :: L) → K (a.put o.dst (.slice p' (n + k) c')) w') : if Region.wanted o (yielded ops a.tmps) = true then Oper.wp Tryz.prog o a w K Q else E := by
 obtain ⟨i3, hi3, hz3, hs3, hb3⟩ := info_parts Tryz.info_u8
 have hB : Sat W0 w (bytes m q ys :: row p cp 1 n (u8s xs) :: L) := hs.pull 1
 refine step_append hgd s x 24 ho Tryz.underlying24 hi3 hz3 hs3 hb3 rfl (by decide) hs hv q k cq hx (u8s ys) (by rw [u8s_len, hk, Nat.mul_one]) (bytesNews hB) (bytesNone0 hB hk) (u8s_one _) (by unfold maxLen; omega) (by omega) ?_
 intro p' c' w' h1 _ _
 rw [← u8s_append] at h1
 exact h p' c' w' h1
theorem cellsT_same {T : Held} {k p : Nat} {H H' : Hold} (h : T[k]? = some (some (p, H))) : cellsT (T.set k (some (p, H'))) = cellsT T := by
 apply List.ext_getElem?
 intro j
 simp only [cellsT, List.getElem?_map, List.getElem?_set]
 by_cases e : k = j
 ·subst e
  rw [if_pos rfl]
  have hl := (List.getElem?_eq_some_iff.1 h).1
  rw [if_pos hl, h]
  rfl
 ·rw [if_neg e]
theorem holdMore {kn : MKind} {o : Nat} {key c m d : List Byte} : (Hold.sn kn o key c m).more d = .sn kn o key c (m ++ d) := rfl
set_option maxRecDepth 100000 in
set_option maxHeartbeats 8000000 in
theorem iUpdateW {W0 w : World} {L : List Assn} {v B : Nat} {md mm : Bool} {dp ep : Option Addr} {dn dc en ec : Nat} (S : Slots) (kd : Nat) (hd : Int) (ag : Nat) (ct ot : Int) (data more : List Byte) (hS : okS B S) (hB : B ≤ 1000000000) (hdn : data.length = dn) (hdb : dn ≤ 1000000000)
  (hs : Sat W0 w (vaultA v S :: bytes md dp data :: bytes mm ep more :: L)) :
  Calls Tryz.prog 43 #[.pointer (some ⟨v, 0, none⟩), .agg #[.int .u8 (kd : Int), .int .i64 hd, .int .u8 (ag : Int), .int .i64 ct, .int .i64 ot, .slice dp dn dc, .slice ep en ec]] w fun e w' => ansP W0 v (iUpdate S ⟨kd, hd, ag, ct, ot, data, more⟩) (bytes md dp data :: bytes mm ep more :: L) e w' := by
 obtain ⟨T, rfl, s0⟩ := vOpen hs
 have hT : T.length = 64 := by rw [← namesT_len]; exact hS.1
 have HN := Lib.hid (And.intro hS (And.intro hB (And.intro hdn (And.intro hdb hT)))); clear hS hB hdn hdb hT hs
 have HO := Lib.hid (hOp W0)
 go_enter Tryz.func43, Tryz.ntmps43
 go_wp2_with (first | (refine wpl_box rfl 26 (.tmp 1) rfl [.int .u8 (kd : Int), .int .i64 hd, .int .u8 (ag : Int), .int .i64 ct, .int .i64 ot, .slice dp dn dc, .slice ep en ec] rfl s0 ?_; intro w1 g s1 _; clear s0) | (refine wpl_alloc_agg rfl 35 rfl s1 _ (zero_ans _) ?_; intro w2 ga s2' _; clear s1; have s2 : Sat W0 w2 (seg true g 0 [.int .u8 (kd : Int), .int .i64 hd, .int .u8 (ag : Int), .int .i64 ct, .int .i64 ot, .slice dp dn dc, .slice ep en ec] :: seg true ga 0 ans0 :: seg true v 0 (.bool true :: cellsT T) :: slotsA 0 T :: bytes md dp data :: bytes mm ep more :: L) := (Sat.sub (s2') (by with_reducible repeat first | exact Fr1 | exact Fr2 | (apply Fr3; focus ((repeat (first | exact Tk1 | apply Tk2)); done)) | apply Fr4)); clear s2'; obtain ⟨o0, o1, o2, o3, o4, o5, o6, zo⟩ := HO.out _ _ _ _ _ _ _ _ _ _ s2))
 refine (iAtW T HN.out.2.2.2.2 hd true (Sat.sub (s2) (by with_reducible repeat first | exact Fr1 | exact Fr2 | (apply Fr3; focus ((repeat (first | exact Tk1 | apply Tk2)); done)) | apply Fr4))).mono ?_
 rintro e w3 ⟨rfl, ⟨c, hat, hc, rfl⟩ | ⟨p, H, h1, h2, hat, hTp, hal, rfl⟩⟩
 ·have e0 : iUpdate (namesT T) ⟨kd, hd, ag, ct, ot, data, more⟩ = (namesT T, noA c) := by unfold iUpdate; simp only; rw [hat]
  rcases hc with rfl | rfl
  ·have HE := Lib.hid e0; clear e0 hat
   go_wp2_with fail
   refine (iNo 5 s2).mono ?_
   rintro e w4 ⟨rfl, s4⟩
   clear s2 o0 o1 o2 o3 o4 o5 o6 zo
   have sr0 : Sat W0 _ (seg true ga 0 ans0 :: seg true v 0 (.bool true :: cellsT T) :: slotsA 0 T :: bytes md dp data :: bytes mm ep more :: L) := (Sat.sub (s4) (by with_reducible repeat first | exact Fr1 | exact Fr2 | (apply Fr3; focus ((repeat (first | exact Tk1 | apply Tk2)); done)) | apply Fr4))
   go_wp2_with (refine wpl_stAns rfl rfl (.tmp 4) (.tmp 25) rfl sr0 rfl rfl ?_; intro ws ss; clear sr0)
   have hr := ansLd ss
   have HS := Lib.hid ss.tail; clear ss
   refine bodyPost_ret (v := .agg #[.int .i64 5, .int .i64 0, .bool false, .slice none 0 0]) (by simp [results, Tryz.results43, asAddr]; exact hr) rfl ?_
   rw [HE.out]
   exact ansP_no (vShut T rfl HS.out)
  ·have HE := Lib.hid e0; clear e0 hat
   go_wp2_with fail
   refine (iNo 6 s2).mono ?_
   rintro e w4 ⟨rfl, s4⟩
   clear s2 o0 o1 o2 o3 o4 o5 o6 zo
   have sr0 : Sat W0 _ (seg true ga 0 ans0 :: seg true v 0 (.bool true :: cellsT T) :: slotsA 0 T :: bytes md dp data :: bytes mm ep more :: L) := (Sat.sub (s4) (by with_reducible repeat first | exact Fr1 | exact Fr2 | (apply Fr3; focus ((repeat (first | exact Tk1 | apply Tk2)); done)) | apply Fr4))
   go_wp2_with (refine wpl_stAns rfl rfl (.tmp 4) (.tmp 25) rfl sr0 rfl rfl ?_; intro ws ss; clear sr0)
   have hr := ansLd ss
   have HS := Lib.hid ss.tail; clear ss
   refine bodyPost_ret (v := .agg #[.int .i64 6, .int .i64 0, .bool false, .slice none 0 0]) (by simp [results, Tryz.results43, asAddr]; exact hr) rfl ?_
   rw [HE.out]
   exact ansP_no (vShut T rfl HS.out)
 ·obtain ⟨kn, o, key, cu, msg, rfl⟩ := Hold.alg_ses hal
  obtain ⟨k, hk⟩ : ∃ k : Nat, k = hd.toNat := ⟨_, rfl⟩
  rw [← hk] at hTp
  by_cases hlt : 65536 < dn
  ·have e0 : iUpdate (namesT T) ⟨kd, hd, ag, ct, ot, data, more⟩ = (namesT T, noA 9) := by unfold iUpdate; simp only; rw [hat]; simp only; rw [if_pos (by rw [HN.out.2.2.1]; exact hlt)]
   have hlI : (65536 : Int) < (dn : Int) := by omega
   have HE := Lib.hid e0; clear e0 hat h1 h2 hTp hal hk
   go_wp2_with fail
   refine (iNo 9 s2).mono ?_
   rintro e w4 ⟨rfl, s4⟩
   clear s2 o0 o1 o2 o3 o4 o5 o6 zo
   have sr0 : Sat W0 _ (seg true ga 0 ans0 :: seg true v 0 (.bool true :: cellsT T) :: slotsA 0 T :: bytes md dp data :: bytes mm ep more :: L) := (Sat.sub (s4) (by with_reducible repeat first | exact Fr1 | exact Fr2 | (apply Fr3; focus ((repeat (first | exact Tk1 | apply Tk2)); done)) | apply Fr4))
   go_wp2_with (refine wpl_stAns rfl rfl (.tmp 4) (.tmp 25) rfl sr0 rfl rfl ?_; intro ws ss; clear sr0)
   have hr := ansLd ss
   have HS := Lib.hid ss.tail; clear ss
   refine bodyPost_ret (v := .agg #[.int .i64 9, .int .i64 0, .bool false, .slice none 0 0]) (by simp [results, Tryz.results43, asAddr]; exact hr) rfl ?_
   rw [HE.out]
   exact ansP_no (vShut T rfl HS.out)
  ·have e0 : iUpdate (namesT T) ⟨kd, hd, ag, ct, ot, data, more⟩ = ((namesT T).set k (some (.sn kn o key cu (msg ++ data))), noA 0) := by unfold iUpdate; simp only; rw [hat]; simp only; rw [if_neg (by rw [HN.out.2.2.1]; exact hlt), hk, holdMore]
   have hlI : ¬ (65536 : Int) < (dn : Int) := by omega
   have hmb : msg.length ≤ 1000000000 := by
    have h3 := HN.out.1.2 _ (mem_of_get (namesT_get hTp))
    have h4 := HN.out.2.1
    have h5 := h3.2.2
    omega
   have so := slotsOpen k hTp ((Sat.sub (s2) (by with_reducible repeat first | exact Fr1 | exact Fr2 | (apply Fr3; focus ((repeat (first | exact Tk1 | apply Tk2)); done)) | apply Fr4)) : Sat W0 w3 (slotsA 0 T :: seg true g 0 [.int .u8 (kd : Int), .int .i64 hd, .int .u8 (ag : Int), .int .i64 ct, .int .i64 ot, .slice dp dn dc, .slice ep en ec] :: seg true ga 0 ans0 :: seg true v 0 (.bool true :: cellsT T) :: bytes md dp data :: bytes mm ep more :: L))
   obtain ⟨q, hq, so2⟩ := holdOpen so
   have HE := Lib.hid (And.intro e0 (And.intro hTp (And.intro hq hmb))); clear e0 hat h1 h2 hTp hal hk hq hmb so s2 o0 o1 o2 o3 o4 o5 o6 zo
   obtain ⟨kq, cq, c2, c3, mq, mc⟩ := q
   rw [Nat.zero_add] at so2
   have so3 : Sat W0 w3 (seg true p 0 [.int .i64 (k : Int), .int .u8 (kn.alg : Int), .int .i64 (o : Int), .slice kq key.length cq, .slice c2 cu.length c3, .slice mq msg.length mc] :: bytes true kq key :: bytes true c2 cu :: row mq mc 1 msg.length (u8s msg) :: slotsA 0 (T.set k none) :: seg true g 0 [.int .u8 (kd : Int), .int .i64 hd, .int .u8 (ag : Int), .int .i64 ct, .int .i64 ot, .slice dp dn dc, .slice ep en ec] :: seg true ga 0 ans0 :: seg true v 0 (.bool true :: cellsT T) :: bytes md dp data :: bytes mm ep more :: L) := so2
   have s5 : Sat W0 w3 (seg true p 0 [.int .i64 (k : Int), .int .u8 (kn.alg : Int), .int .i64 (o : Int), .slice kq key.length cq, .slice c2 cu.length c3, .slice mq msg.length mc] :: seg true g 0 [.int .u8 (kd : Int), .int .i64 hd, .int .u8 (ag : Int), .int .i64 ct, .int .i64 ot, .slice dp dn dc, .slice ep en ec] :: row mq mc 1 msg.length (u8s msg) :: bytes md dp data :: seg true ga 0 ans0 :: seg true v 0 (.bool true :: cellsT T) :: slotsA 0 (T.set k none) :: bytes true kq key :: bytes true c2 cu :: bytes mm ep more :: L) := (Sat.sub (so3) (by with_reducible repeat first | exact Fr1 | exact Fr2 | (apply Fr3; focus ((repeat (first | exact Tk1 | apply Tk2)); done)) | apply Fr4))
   clear so2 so3
   have hST : ∀ wx X, Sat W0 wx (seg true p 0 [.int .i64 (k : Int), .int .u8 (kn.alg : Int), .int .i64 (o : Int), .slice kq key.length cq, .slice c2 cu.length c3, .slice mq msg.length mc] :: seg true g 0 [.int .u8 (kd : Int), .int .i64 hd, .int .u8 (ag : Int), .int .i64 ct, .int .i64 ot, .slice dp dn dc, .slice ep en ec] :: X) → wx.cell? ⟨p, 5, none⟩ = some (.slice mq msg.length mc) ∧ p < wx.heap.size ∧ wx.cell? ⟨g, 5, none⟩ = some (.slice dp dn dc) ∧ g < wx.heap.size := fun wx X h => by
    have h2 : Sat W0 wx (seg true g 0 [.int .u8 (kd : Int), .int .i64 hd, .int .u8 (ag : Int), .int .i64 ct, .int .i64 ot, .slice dp dn dc, .slice ep en ec] :: _) := h.pull 1
    exact ⟨h.at 5 rfl, h.lt (by simp), h2.at 5 rfl, h2.lt (by simp)⟩
   have HST := Lib.hid hST; clear hST
   obtain ⟨_, zp, o5, zo⟩ := HST.out _ _ s5
   obtain ⟨ml, hml⟩ : ∃ ml, ml = msg.length := ⟨_, rfl⟩
   rw [← hml] at s5 HST
   have hmlb : ml ≤ 1000000000 := by rw [hml]; exact HE.out.2.2.2
   have HML := Lib.hid (And.intro hml hmlb); clear hml hmlb
   go_wp2_with fail
   have s5d := s5.drew
   clear o5 zo zp
   refine region_E (fun w' => w'.cell? ⟨p, 5, none⟩ = some (.slice mq ml mc) ∧ p < w'.heap.size ∧ w'.cell? ⟨g, 5, none⟩ = some (.slice dp dn dc) ∧ g < w'.heap.size) [4, 6] (by kernel_rfl) ?_
   have hHeld := HST.out _ _ s5d
   iterate 7
    first | refine autoT hHeld (by rfl) (by rfl) (x := ?_) (v := ?_) ?_ (by kernel_rfl) ?_ ?_ ?_ | refine autoP (by rfl) (x := ?_) (v := ?_) ?_ (by kernel_rfl) ?_ ?_ ?_
    rotate_left 2
    ·(simp only [gE1, gE2, gE3]; rfl)
    ·exact fun _ _ _ h => h
    ·refine Or.inl ⟨by rfl, fun w hSw => ?_⟩
     (try dsimp only at hSw)
     go_simp
     try (with_reducible rfl)
    try simp only [pA1, pA2, pA3, pA4]
   refine anyE_last (i := 7) (x := ?_) ?_ (by kernel_rfl) (by kernel_rfl) (fun K hK => ?_)
   rotate_left
   ·(simp only [gE1, gE2, gE3]; rfl)
   refine step_app8 rfl (.tmp 30) (.tmp 32) rfl rfl rfl ((Sat.sub (s5d) (by with_reducible repeat first | exact Fr1 | exact Fr2 | (apply Fr3; focus ((repeat (first | exact Tk1 | apply Tk2)); done)) | apply Fr4)) : Sat W0 _ (row mq mc 1 ml (u8s msg) :: bytes md dp data :: seg true p 0 [.int .i64 (k : Int), .int .u8 (kn.alg : Int), .int .i64 (o : Int), .slice kq key.length cq, .slice c2 cu.length c3, .slice mq ml mc] :: seg true ga 0 ans0 :: seg true v 0 (.bool true :: cellsT T) :: slotsA 0 (T.set k none) :: bytes true kq key :: bytes true c2 cu :: bytes mm ep more :: L)) HN.out.2.2.1 (by have := HML.out.2; have := HN.out.2.2.2.1; omega) ?_
   intro pn cn w6 s6'
   have s6 : Sat W0 w6 (seg true p 0 [.int .i64 (k : Int), .int .u8 (kn.alg : Int), .int .i64 (o : Int), .slice kq key.length cq, .slice c2 cu.length c3, .slice mq ml mc] :: row pn cn 1 (ml + dn) (u8s (msg ++ data)) :: bytes md dp data :: seg true ga 0 ans0 :: seg true v 0 (.bool true :: cellsT T) :: slotsA 0 (T.set k none) :: bytes true kq key :: bytes true c2 cu :: bytes mm ep more :: L) := (Sat.sub (s6') (by with_reducible repeat first | exact Fr1 | exact Fr2 | (apply Fr3; focus ((repeat (first | exact Tk1 | apply Tk2)); done)) | apply Fr4))
   clear s5 s5d s6'
   have cp5 := s6.at 5 rfl
   have fp5 := s6.fr 5 (by simp)
   have zp := s6.lt (by simp)
   refine hK.out _ _ ?_
   clear hK
   try simp only [pA1, pA2, pA3, pA4]
   iterate 2
    first | refine autoT hHeld (by rfl) (by rfl) (x := ?_) (v := ?_) ?_ (by kernel_rfl) ?_ ?_ ?_ | refine autoP (by rfl) (x := ?_) (v := ?_) ?_ (by kernel_rfl) ?_ ?_ ?_
    rotate_left 2
    ·(simp only [gE1, gE2, gE3]; rfl)
    ·exact fun _ _ _ h => h
    ·refine Or.inl ⟨by rfl, fun w hSw => ?_⟩
     (try dsimp only at hSw)
     go_simp
     try (with_reducible rfl)
    try simp only [pA1, pA2, pA3, pA4]
   refine anyE_last (i := 10) (x := ?_) ?_ (by kernel_rfl) (by kernel_rfl) (fun K hK => ?_)
   rotate_left
   ·(simp only [gE1, gE2, gE3]; rfl)
   go_simp
   refine hK.out _ _ ?_
   clear hK
   try simp only [pA1, pA2, pA3, pA4]
   have s7' := s6.store (i := 5) (by simp) (.slice pn (ml + dn) cn) (q := 5) rfl
   have s7 : Sat W0 _ (seg true p 0 [.int .i64 (k : Int), .int .u8 (kn.alg : Int), .int .i64 (o : Int), .slice kq key.length cq, .slice c2 cu.length c3, .slice pn (ml + dn) cn] :: row pn cn 1 (ml + dn) (u8s (msg ++ data)) :: bytes md dp data :: seg true ga 0 ans0 :: seg true v 0 (.bool true :: cellsT T) :: slotsA 0 (T.set k none) :: bytes true kq key :: bytes true c2 cu :: bytes mm ep more :: L) := s7'
   clear s6 s7' cp5 fp5 zp
   refine anyE_done (by kernel_rfl) ?_ _
   have HS7 := Lib.hid s7; clear s7
   have sr0 : Sat W0 _ (seg true ga 0 ans0 :: seg true p 0 [.int .i64 (k : Int), .int .u8 (kn.alg : Int), .int .i64 (o : Int), .slice kq key.length cq, .slice c2 cu.length c3, .slice pn (ml + dn) cn] :: row pn cn 1 (ml + dn) (u8s (msg ++ data)) :: bytes md dp data :: seg true v 0 (.bool true :: cellsT T) :: slotsA 0 (T.set k none) :: bytes true kq key :: bytes true c2 cu :: bytes mm ep more :: L) := (Sat.sub (HS7.out) (by with_reducible repeat first | exact Fr1 | exact Fr2 | (apply Fr3; focus ((repeat (first | exact Tk1 | apply Tk2)); done)) | apply Fr4))
   go_wp2_with (refine wpl_stAns rfl rfl (.tmp 4) (.tmp 36) rfl sr0 rfl rfl ?_; intro ws ss; clear sr0)
   have hr := ansLd ss
   have HS := Lib.hid ss.tail; clear ss
   refine bodyPost_ret (v := .agg #[.int .i64 0, .int .i64 0, .bool false, .slice none 0 0]) (by simp [results, Tryz.results43, asAddr]; exact hr) rfl ?_
   rw [HE.out.1]
   have s8 := HS.out
   have s9 : Sat W0 ws (holdL p (0 + k) (.sn kn o key cu (msg ++ data)) ⟨kq, cq, c2, c3, pn, cn⟩ (slotsA 0 (T.set k none) :: seg true v 0 (.bool true :: cellsT T) :: bytes md dp data :: bytes mm ep more :: L)) := by
    have s8b : Sat W0 ws (seg true p 0 [.int .i64 (k : Int), .int .u8 (kn.alg : Int), .int .i64 (o : Int), .slice kq key.length cq, .slice c2 cu.length c3, .slice pn (msg ++ data).length cn] :: bytes true kq key :: bytes true c2 cu :: row pn cn 1 (msg ++ data).length (u8s (msg ++ data)) :: slotsA 0 (T.set k none) :: seg true v 0 (.bool true :: cellsT T) :: bytes md dp data :: bytes mm ep more :: L) := by
     rw [List.length_append, ← HML.out.1, HN.out.2.2.1]
     exact (Sat.sub (s8) (by with_reducible repeat first | exact Fr1 | exact Fr2 | (apply Fr3; focus ((repeat (first | exact Tk1 | apply Tk2)); done)) | apply Fr4))
    rw [Nat.zero_add]
    exact s8b
   have s10 := slotsShut k (by rw [List.getElem?_set_self (List.getElem?_eq_some_iff.1 HE.out.2.1).1]) (holdShut ⟨kq, cq, c2, c3, pn, cn⟩ (show HQ.ok ⟨kq, cq, c2, c3, pn, cn⟩ (.sn kn o key cu (msg ++ data)) from HE.out.2.2.1) s9)
   rw [List.set_set] at s10
   have s11 : Sat W0 ws (seg true v 0 (.bool true :: cellsT (T.set k (some (p, .sn kn o key cu (msg ++ data))))) :: slotsA 0 (T.set k (some (p, .sn kn o key cu (msg ++ data)))) :: bytes md dp data :: bytes mm ep more :: L) := by
    rw [cellsT_same HE.out.2.1]
    exact s10.pull 1
   exact ansP_no (vShut (T.set k (some (p, .sn kn o key cu (msg ++ data)))) (namesT_set _ _ _) s11)
end Go.Proofs.YtpiiklfnakkdiaaGreat

/- The ideal vault: a session's tag; under the conditions that each names. -/
namespace Go.Proofs.YtpiiklfnakkdiaaGreat
open Go.RowKit Go.Sep Go.Bv Go.Kec Go.Aes Go.Sha
set_option linter.unusedVariables false
set_option linter.unusedSimpArgs false
def isKm (a : Nat) : Bool := decide (4 ≤ a)
def stA (a : Nat) : Int := if a = 4 ∨ a = 6 then 128 else if a = 5 ∨ a = 7 then 256 else 0
def xoA (a : Nat) : Bool := decide (6 ≤ a)
set_option maxHeartbeats 2000000 in
theorem iKmacOf (w : World) (K : MKind) : Calls Tryz.prog 64 #[.int .u8 (K.alg : Int)] w fun e w' => e = .returned (.tuple #[.bool (isKm K.alg), .int .i64 (stA K.alg), .bool (xoA K.alg)]) ∧ w' = w := by
 rcases K with (wide | wide) | _ | ⟨large | large, xof | xof⟩
 ·show Calls Tryz.prog 64 _ w fun e w' => e = .returned (.tuple #[.bool false, .int .i64 0, .bool false]) ∧ w' = w
  simp only [MKind.alg]
  go_enter Tryz.func64, Tryz.ntmps64
  go_wp2
  exact bodyPost_ret (v := .tuple #[.bool false, .int .i64 0, .bool false]) (by simp [results, Tryz.results64, go_sem]) rfl ⟨rfl, rfl⟩
 ·show Calls Tryz.prog 64 _ w fun e w' => e = .returned (.tuple #[.bool false, .int .i64 0, .bool false]) ∧ w' = w
  simp only [MKind.alg]
  go_enter Tryz.func64, Tryz.ntmps64
  go_wp2
  exact bodyPost_ret (v := .tuple #[.bool false, .int .i64 0, .bool false]) (by simp [results, Tryz.results64, go_sem]) rfl ⟨rfl, rfl⟩
 ·show Calls Tryz.prog 64 _ w fun e w' => e = .returned (.tuple #[.bool false, .int .i64 0, .bool false]) ∧ w' = w
  simp only [MKind.alg]
  go_enter Tryz.func64, Tryz.ntmps64
  go_wp2
  exact bodyPost_ret (v := .tuple #[.bool false, .int .i64 0, .bool false]) (by simp [results, Tryz.results64, go_sem]) rfl ⟨rfl, rfl⟩
 ·show Calls Tryz.prog 64 _ w fun e w' => e = .returned (.tuple #[.bool true, .int .i64 128, .bool false]) ∧ w' = w
  simp only [MKind.alg]
  go_enter Tryz.func64, Tryz.ntmps64
  go_wp2
  exact bodyPost_ret (v := .tuple #[.bool true, .int .i64 128, .bool false]) (by simp [results, Tryz.results64, go_sem]) rfl ⟨rfl, rfl⟩
 ·show Calls Tryz.prog 64 _ w fun e w' => e = .returned (.tuple #[.bool true, .int .i64 128, .bool true]) ∧ w' = w
  simp only [MKind.alg]
  go_enter Tryz.func64, Tryz.ntmps64
  go_wp2
  exact bodyPost_ret (v := .tuple #[.bool true, .int .i64 128, .bool true]) (by simp [results, Tryz.results64, go_sem]) rfl ⟨rfl, rfl⟩
 ·show Calls Tryz.prog 64 _ w fun e w' => e = .returned (.tuple #[.bool true, .int .i64 256, .bool false]) ∧ w' = w
  simp only [MKind.alg]
  go_enter Tryz.func64, Tryz.ntmps64
  go_wp2
  exact bodyPost_ret (v := .tuple #[.bool true, .int .i64 256, .bool false]) (by simp [results, Tryz.results64, go_sem]) rfl ⟨rfl, rfl⟩
 ·show Calls Tryz.prog 64 _ w fun e w' => e = .returned (.tuple #[.bool true, .int .i64 256, .bool true]) ∧ w' = w
  simp only [MKind.alg]
  go_enter Tryz.func64, Tryz.ntmps64
  go_wp2
  exact bodyPost_ret (v := .tuple #[.bool true, .int .i64 256, .bool true]) (by simp [results, Tryz.results64, go_sem]) rfl ⟨rfl, rfl⟩
theorem kst_stA (large xof : Bool) : stA (MKind.km large xof).alg = (kst large : Int) ∧ xoA (MKind.km large xof).alg = xof ∧ isKm (MKind.km large xof).alg = true := by
 cases large <;> cases xof <;> exact ⟨rfl, rfl, rfl⟩
theorem fits_bdI {K : MKind} {key custom : List Byte} {o : Nat} (h : K.fits key custom o) : key.length ≤ 100000000 ∧ custom.length ≤ 64 ∧ 1 ≤ o ∧ o ≤ 64 := by
 have hm : K.most ≤ 64 := by rcases K with (wide | wide) | _ | ⟨large | large, xof | xof⟩ <;> decide
 obtain ⟨h1, h2, h3, h4⟩ := h
 refine ⟨h3, ?_, h1, by omega⟩
 cases K with
 | hm wide => simp only at h4; subst h4; exact Nat.zero_le _
 | cm => simp only at h4; obtain ⟨rfl, _⟩ := h4; exact Nat.zero_le _
 | km large xof => simp only at h4; exact h4
set_option maxRecDepth 100000 in
set_option maxHeartbeats 8000000 in
theorem iTag {W0 w : World} {L : List Assn} {p i o : Nat} {kq c2 mq : Option Addr} {cq c3 mc kl cl ml : Nat} (kn : MKind) (key cu msg : List Byte) (hf : kn.fits key cu o) (hkl : key.length = kl) (hcl : cu.length = cl) (hml : msg.length = ml) (h1 : kl ≤ cq) (h2 : cq ≤ maxLen) (h3 : cl ≤ c3) (h4 : c3 ≤ maxLen) (hb : ml ≤ 1000000000)
  (hs : Sat W0 w (row mq mc 1 ml (u8s msg) :: seg true p 0 [.int .i64 (i : Int), .int .u8 (kn.alg : Int), .int .i64 (o : Int), .slice kq kl cq, .slice c2 cl c3, .slice mq ml mc] :: bytes true kq key :: bytes true c2 cu :: L)) :
  Calls Tryz.prog 65 #[.pointer (some ⟨p, 0, none⟩)] w fun e w' => ∃ x c, e = .returned (.slice x o c) ∧ Sat W0 w' (row x c 1 o (u8s (kn.tag key cu o msg)) :: row mq mc 1 ml (u8s msg) :: seg true p 0 [.int .i64 (i : Int), .int .u8 (kn.alg : Int), .int .i64 (o : Int), .slice kq kl cq, .slice c2 cl c3, .slice mq ml mc] :: bytes true kq key :: bytes true c2 cu :: L) := by
 obtain ⟨_, hmc, hmm, R, s1, back⟩ := rowWand hs
 have hbd := fits_bdI hf
 have htl := kn.tag_len key cu o msg hf
 have hkm := fun w => iKmacOf w kn
 have hS : ∀ al wx X, Sat W0 wx (seg true p 0 [.int .i64 (i : Int), .int .u8 (al : Int), .int .i64 (o : Int), .slice kq kl cq, .slice c2 cl c3, .slice mq ml mc] :: X) → wx.cell? ⟨p, 1, none⟩ = some (.int .u8 (al : Int)) ∧ wx.cell? ⟨p, 2, none⟩ = some (.int .i64 (o : Int)) ∧ wx.cell? ⟨p, 3, none⟩ = some (.slice kq kl cq) ∧ wx.cell? ⟨p, 4, none⟩ = some (.slice c2 cl c3) ∧ wx.cell? ⟨p, 5, none⟩ = some (.slice mq ml mc) ∧ p < wx.heap.size := fun al wx X h => ⟨h.at 1 rfl, h.at 2 rfl, h.at 3 rfl, h.at 4 rfl, h.at 5 rfl, h.lt (by simp)⟩
 have HN := Lib.hid (And.intro hkm (And.intro hf (And.intro hkl (And.intro hcl (And.intro hml (And.intro h1 (And.intro h2 (And.intro h3 (And.intro h4 (And.intro hb (And.intro hmc (And.intro hmm (And.intro hbd (And.intro htl (And.intro back hS))))))))))))))); clear hkm hf hkl hcl hml h1 h2 h3 h4 hb hmc hmm hbd htl back hS hs
 obtain ⟨al, hal⟩ : ∃ al : Nat, al = kn.alg := ⟨_, rfl⟩
 rw [← hal] at s1 ⊢
 have s2 : Sat W0 w (seg true p 0 [.int .i64 (i : Int), .int .u8 (al : Int), .int .i64 (o : Int), .slice kq kl cq, .slice c2 cl c3, .slice mq ml mc] :: bytes true kq key :: bytes true c2 cu :: bytes true mq msg :: R :: L) := (Sat.sub (s1) (by with_reducible repeat first | exact Fr1 | exact Fr2 | (apply Fr3; focus ((repeat (first | exact Tk1 | apply Tk2)); done)) | apply Fr4))
 clear s1
 have hkm2 := HN.out.1
 rw [← hal] at hkm2
 have hSS := HN.out.2.2.2.2.2.2.2.2.2.2.2.2.2.2.2 al
 have HK := Lib.hid (And.intro hkm2 (And.intro hSS hal)); clear hkm2 hSS hal
 obtain ⟨d1, d2, d3, d4, d5, zp⟩ := HK.out.2.1 _ _ s2
 rcases kn with wide | _ | ⟨large, xof⟩
 ·have hkf : isKm al = false := by rw [HK.out.2.2]; cases wide <;> rfl
  have h3 : ((al : Int) == 3) = false := by rw [HK.out.2.2]; cases wide <;> rfl
  have hk1 := HK.out.1
  rw [hkf] at hk1
  go_enter Tryz.func65, Tryz.ntmps65
  go_wp2_with fail
  refine (hk1 _).mono ?_
  rintro e w3 ⟨rfl, rfl⟩
  go_wp2_with fail
  have s2d := s2.drew
  clear d1 d2 d3 d4 d5 zp s2
  refine region_E (fun w' => w'.cell? ⟨p, 1, none⟩ = some (.int .u8 (al : Int)) ∧ w'.cell? ⟨p, 2, none⟩ = some (.int .i64 (o : Int)) ∧ w'.cell? ⟨p, 3, none⟩ = some (.slice kq kl cq) ∧ w'.cell? ⟨p, 4, none⟩ = some (.slice c2 cl c3) ∧ w'.cell? ⟨p, 5, none⟩ = some (.slice mq ml mc) ∧ p < w'.heap.size) [3, 7, 11] (by kernel_rfl) ?_
  have hHeld := HK.out.2.1 _ _ s2d
  iterate 12
   first | refine autoT hHeld (by rfl) (by rfl) (x := ?_) (v := ?_) ?_ (by kernel_rfl) ?_ ?_ ?_ | refine autoP (by rfl) (x := ?_) (v := ?_) ?_ (by kernel_rfl) ?_ ?_ ?_
   rotate_left 2
   ·(simp only [gE1, gE2, gE3]; rfl)
   ·exact fun _ _ _ h => h
   ·refine Or.inl ⟨by rfl, fun w hSw => ?_⟩
    (try dsimp only at hSw)
    go_simp
    try (with_reducible rfl)
   try simp only [pA1, pA2, pA3, pA4]
  refine anyE_one (i := 12) (x := ?_) ?_ (by kernel_rfl) (fun K hK => ?_)
  rotate_left
  ·(simp only [gE1, gE2, gE3]; rfl)
  go_simp
  have s3e : Sat W0 _ (ledO none [] :: _) := s2d.addEmp
  refine (hmacTagF (pv := .pointer none) (av := .int .u8 (al : Int)) (cap := cq) (cap2 := mc) wide none [] key msg HN.out.2.2.1 HN.out.2.2.2.2.1 rfl (by rw [HK.out.2.2]; cases wide <;> rfl) HN.out.2.2.2.2.2.1 HN.out.2.2.2.2.2.2.1 HN.out.2.2.2.2.2.2.2.2.2.2.1 HN.out.2.2.2.2.2.2.2.2.2.2.2.1 (by have := HN.out.2.2.2.2.2.2.2.2.2.2.2.2.1; have := HN.out.2.2.2.2.2.2.2.2.2.1; have := HN.out.2.2.1; simp only [tot]; omega) (by simp) (Sat.sub (s3e) (by with_reducible repeat first | exact Fr1 | exact Fr2 | (apply Fr3; focus ((repeat (first | exact Tk1 | apply Tk2)); done)) | apply Fr4))).mono ?_
  rintro e w4 ⟨xq, xc, rfl, hx1, hx2, s4'⟩
  clear s3e
  have s4 : Sat W0 w4 (bytes true xq (hmac wide key msg) :: seg true p 0 [.int .i64 (i : Int), .int .u8 (al : Int), .int .i64 (o : Int), .slice kq kl cq, .slice c2 cl c3, .slice mq ml mc] :: bytes true kq key :: bytes true c2 cu :: bytes true mq msg :: R :: L) := (Sat.sub (s4') (by with_reducible repeat first | exact Fr1 | exact Fr2 | (apply Fr3; focus ((repeat (first | exact Tk1 | apply Tk2)); done)) | apply Fr4))
  have hk4 := HK.out.2.1 _ _ ((Sat.sub (s4) (by with_reducible repeat first | exact Fr1 | exact Fr2 | (apply Fr3; focus ((repeat (first | exact Tk1 | apply Tk2)); done)) | apply Fr4)) : Sat W0 w4 (seg true p 0 [.int .i64 (i : Int), .int .u8 (al : Int), .int .i64 (o : Int), .slice kq kl cq, .slice c2 cl c3, .slice mq ml mc] :: []))
  go_wp2_with fail
  refine hK.out _ _ hk4 ?_
  clear hK K hHeld
  have hHeld := hk4
  try simp only [pA1, pA2, pA3, pA4]
  iterate 4
   first | refine autoT hHeld (by rfl) (by rfl) (x := ?_) (v := ?_) ?_ (by kernel_rfl) ?_ ?_ ?_ | refine autoP (by rfl) (x := ?_) (v := ?_) ?_ (by kernel_rfl) ?_ ?_ ?_
   rotate_left 2
   ·(simp only [gE1, gE2, gE3]; rfl)
   ·exact fun _ _ _ h => h
   ·refine Or.inl ⟨by rfl, fun w hSw => ?_⟩
    (try dsimp only at hSw)
    go_simp
    try (with_reducible rfl)
   try simp only [pA1, pA2, pA3, pA4]
  clear s2d s4'
  refine anyE_done (by kernel_rfl) ?_ _
  have hxl := hmac_len wide key msg
  have hx0 : o ≤ hsz wide := HN.out.2.1.2.1
  obtain ⟨_, d2, _, _, _, zp⟩ := hk4
  clear hHeld
  have goI : (o : Int) ≤ (xc : Int) := by omega
  have HXL := Lib.hid (And.intro hxl hx0); clear hxl hx0 hx1 hx2
  have s5 := bytesTake o s4
  clear s4
  go_wp2_with fail
  refine (bClone (cap := xc) ((hmac wide key msg).take o) (by have := HN.out.2.2.2.2.2.2.2.2.2.2.2.2.1; rw [List.length_take, HXL.out.1]; have := HXL.out.2; omega) (by have := HN.out.2.2.2.2.2.2.2.2.2.2.2.2.1; omega) s5).mono ?_
  rintro e w9 ⟨y, yc, rfl, s9⟩
  have HS := Lib.hid s9; clear s5 s9 d2 zp
  go_wp2_with fail
  go_ret
  refine ⟨y, yc, rfl, ?_⟩
  have s9 := HS.out
  rw [show (hmac wide key msg).take o = (MKind.hm wide).tag key cu o msg from rfl] at s9
  have s10 := HN.out.2.2.2.2.2.2.2.2.2.2.2.2.2.2.1 _ _ ((Sat.sub (s9) (by with_reducible repeat first | exact Fr1 | exact Fr2 | (apply Fr3; focus ((repeat (first | exact Tk1 | apply Tk2)); done)) | apply Fr4)) : Sat W0 w9 (bytes true mq msg :: R :: row y yc 1 o (u8s ((MKind.hm wide).tag key cu o msg)) :: seg true p 0 [.int .i64 (i : Int), .int .u8 (al : Int), .int .i64 (o : Int), .slice kq kl cq, .slice c2 cl c3, .slice mq ml mc] :: bytes true kq key :: bytes true c2 cu :: L))
  exact (Sat.sub (s10) (by with_reducible repeat first | exact Fr1 | exact Fr2 | (apply Fr3; focus ((repeat (first | exact Tk1 | apply Tk2)); done)) | apply Fr4))
 ·have hkf : isKm al = false := by rw [HK.out.2.2]; rfl
  have h3 : ((al : Int) == 3) = true := by rw [HK.out.2.2]; rfl
  have hk1 := HK.out.1
  rw [hkf] at hk1
  go_enter Tryz.func65, Tryz.ntmps65
  go_wp2_with fail
  refine (hk1 _).mono ?_
  rintro e w3 ⟨rfl, rfl⟩
  go_wp2_with fail
  have s2d := s2.drew
  clear d1 d2 d3 d4 d5 zp s2
  refine region_E (fun w' => w'.cell? ⟨p, 1, none⟩ = some (.int .u8 (al : Int)) ∧ w'.cell? ⟨p, 2, none⟩ = some (.int .i64 (o : Int)) ∧ w'.cell? ⟨p, 3, none⟩ = some (.slice kq kl cq) ∧ w'.cell? ⟨p, 4, none⟩ = some (.slice c2 cl c3) ∧ w'.cell? ⟨p, 5, none⟩ = some (.slice mq ml mc) ∧ p < w'.heap.size) [3, 7] (by kernel_rfl) ?_
  have hHeld := HK.out.2.1 _ _ s2d
  iterate 8
   first | refine autoT hHeld (by rfl) (by rfl) (x := ?_) (v := ?_) ?_ (by kernel_rfl) ?_ ?_ ?_ | refine autoP (by rfl) (x := ?_) (v := ?_) ?_ (by kernel_rfl) ?_ ?_ ?_
   rotate_left 2
   ·(simp only [gE1, gE2, gE3]; rfl)
   ·exact fun _ _ _ h => h
   ·refine Or.inl ⟨by rfl, fun w hSw => ?_⟩
    (try dsimp only at hSw)
    go_simp
    try (with_reducible rfl)
   try simp only [pA1, pA2, pA3, pA4]
  refine anyE_one (i := 8) (x := ?_) ?_ (by kernel_rfl) (fun K hK => ?_)
  rotate_left
  ·(simp only [gE1, gE2, gE3]; rfl)
  go_simp
  refine (cmTagF (ck := cq) (cp := mc) key msg HN.out.2.1.2.2.2.2 HN.out.2.2.1 HN.out.2.2.2.2.2.1 HN.out.2.2.2.2.2.2.1 HN.out.2.2.2.2.1 HN.out.2.2.2.2.2.2.2.2.2.2.1 HN.out.2.2.2.2.2.2.2.2.2.2.2.1 HN.out.2.2.2.2.2.2.2.2.2.1 (Sat.sub (s2d) (by with_reducible repeat first | exact Fr1 | exact Fr2 | (apply Fr3; focus ((repeat (first | exact Tk1 | apply Tk2)); done)) | apply Fr4))).mono ?_
  rintro e w4 ⟨xg, rfl, s4a⟩
  have s4' := bytesOf s4a
  clear s4a
  obtain ⟨xq, hxq⟩ : ∃ xq : Option Addr, xq = some ⟨xg, 0, none⟩ := ⟨_, rfl⟩
  rw [← hxq] at s4' ⊢
  clear hxq
  have s4 : Sat W0 w4 (bytes true xq (cmTag (aesEnc key.length (expand key)) (cmK1 key) (cmK2 key) (cmSt key msg)) :: seg true p 0 [.int .i64 (i : Int), .int .u8 (al : Int), .int .i64 (o : Int), .slice kq kl cq, .slice c2 cl c3, .slice mq ml mc] :: bytes true kq key :: bytes true c2 cu :: bytes true mq msg :: R :: L) := (Sat.sub (s4') (by with_reducible repeat first | exact Fr1 | exact Fr2 | (apply Fr3; focus ((repeat (first | exact Tk1 | apply Tk2)); done)) | apply Fr4))
  have hk4 := HK.out.2.1 _ _ ((Sat.sub (s4) (by with_reducible repeat first | exact Fr1 | exact Fr2 | (apply Fr3; focus ((repeat (first | exact Tk1 | apply Tk2)); done)) | apply Fr4)) : Sat W0 w4 (seg true p 0 [.int .i64 (i : Int), .int .u8 (al : Int), .int .i64 (o : Int), .slice kq kl cq, .slice c2 cl c3, .slice mq ml mc] :: []))
  go_wp2_with fail
  refine hK.out _ _ hk4 ?_
  clear hK K hHeld
  have hHeld := hk4
  try simp only [pA1, pA2, pA3, pA4]
  iterate 4
   first | refine autoT hHeld (by rfl) (by rfl) (x := ?_) (v := ?_) ?_ (by kernel_rfl) ?_ ?_ ?_ | refine autoP (by rfl) (x := ?_) (v := ?_) ?_ (by kernel_rfl) ?_ ?_ ?_
   rotate_left 2
   ·(simp only [gE1, gE2, gE3]; rfl)
   ·exact fun _ _ _ h => h
   ·refine Or.inl ⟨by rfl, fun w hSw => ?_⟩
    (try dsimp only at hSw)
    go_simp
    try (with_reducible rfl)
   try simp only [pA1, pA2, pA3, pA4]
  clear s2d s4'
  refine anyE_done (by kernel_rfl) ?_ _
  have hxl : (cmTag (aesEnc key.length (expand key)) (cmK1 key) (cmK2 key) (cmSt key msg)).length = 16 := by
   have hk' := HN.out.2.1.2.2.2.2
   obtain ⟨u1, u2, u3⟩ := cmSt_inv hk' msg
   exact cmTag_len _ (fun x hx => aesEnc_len _ _ _ (expand_240 hk') hx (by omega)) _ _ _ (dbl_len _) (dbl_len _) u1 u2
  have hx0 : o ≤ 16 := HN.out.2.1.2.1
  obtain ⟨_, d2, _, _, _, zp⟩ := hk4
  clear hHeld
  have goI : (o : Int) ≤ 16 := by omega
  have HXL := Lib.hid (And.intro hxl hx0); clear hxl hx0 
  have s5 := bytesTake o s4
  clear s4
  go_wp2_with fail
  refine (bClone (cap := 16) ((cmTag (aesEnc key.length (expand key)) (cmK1 key) (cmK2 key) (cmSt key msg)).take o) (by have := HN.out.2.2.2.2.2.2.2.2.2.2.2.2.1; rw [List.length_take, HXL.out.1]; have := HXL.out.2; omega) (by have := HN.out.2.2.2.2.2.2.2.2.2.2.2.2.1; omega) s5).mono ?_
  rintro e w9 ⟨y, yc, rfl, s9⟩
  have HS := Lib.hid s9; clear s5 s9 d2 zp
  go_wp2_with fail
  go_ret
  refine ⟨y, yc, rfl, ?_⟩
  have s9 := HS.out
  rw [show (cmTag (aesEnc key.length (expand key)) (cmK1 key) (cmK2 key) (cmSt key msg)).take o = MKind.cm.tag key cu o msg from rfl] at s9
  have s10 := HN.out.2.2.2.2.2.2.2.2.2.2.2.2.2.2.1 _ _ ((Sat.sub (s9) (by with_reducible repeat first | exact Fr1 | exact Fr2 | (apply Fr3; focus ((repeat (first | exact Tk1 | apply Tk2)); done)) | apply Fr4)) : Sat W0 w9 (bytes true mq msg :: R :: row y yc 1 o (u8s (MKind.cm.tag key cu o msg)) :: seg true p 0 [.int .i64 (i : Int), .int .u8 (al : Int), .int .i64 (o : Int), .slice kq kl cq, .slice c2 cl c3, .slice mq ml mc] :: bytes true kq key :: bytes true c2 cu :: L))
  exact (Sat.sub (s10) (by with_reducible repeat first | exact Fr1 | exact Fr2 | (apply Fr3; focus ((repeat (first | exact Tk1 | apply Tk2)); done)) | apply Fr4))
 ·have hkf : isKm al = true := by rw [HK.out.2.2]; exact (kst_stA large xof).2.2
  have hst : stA al = (kst large : Int) := by rw [HK.out.2.2]; exact (kst_stA large xof).1
  have hxo : xoA al = xof := by rw [HK.out.2.2]; exact (kst_stA large xof).2.1
  have hk1 := HK.out.1
  rw [hkf, hst, hxo] at hk1
  clear hkf hst hxo
  go_enter Tryz.func65, Tryz.ntmps65
  go_wp2_with fail
  refine (hk1 _).mono ?_
  rintro e w3 ⟨rfl, rfl⟩
  go_wp2_with fail
  have s2d := s2.drew
  clear d1 d2 d3 d4 d5 zp s2
  refine region_E (fun w' => w'.cell? ⟨p, 1, none⟩ = some (.int .u8 (al : Int)) ∧ w'.cell? ⟨p, 2, none⟩ = some (.int .i64 (o : Int)) ∧ w'.cell? ⟨p, 3, none⟩ = some (.slice kq kl cq) ∧ w'.cell? ⟨p, 4, none⟩ = some (.slice c2 cl c3) ∧ w'.cell? ⟨p, 5, none⟩ = some (.slice mq ml mc) ∧ p < w'.heap.size) [4, 8, 12, 16] (by kernel_rfl) ?_
  have hHeld := HK.out.2.1 _ _ s2d
  iterate 18
   first | refine autoT hHeld (by rfl) (by rfl) (x := ?_) (v := ?_) ?_ (by kernel_rfl) ?_ ?_ ?_ | refine autoP (by rfl) (x := ?_) (v := ?_) ?_ (by kernel_rfl) ?_ ?_ ?_
   rotate_left 2
   ·(simp only [gE1, gE2, gE3]; rfl)
   ·exact fun _ _ _ h => h
   ·refine Or.inl ⟨by rfl, fun w hSw => ?_⟩
    (try dsimp only at hSw)
    go_simp
    try (with_reducible rfl)
   try simp only [pA1, pA2, pA3, pA4]
  refine anyE_one (i := 18) (x := ?_) ?_ (by kernel_rfl) (fun K hK => ?_)
  rotate_left
  ·(simp only [gE1, gE2, gE3]; rfl)
  go_simp
  refine (kmTagF (ck := cq) (cap := c3) (cp := mc) (sv := .int .i64 (kst large : Int)) (nv := .int .i64 (o : Int)) (xv := .bool xof) key cu msg o xof rfl rfl rfl (kst_ok large) HN.out.2.2.1 HN.out.2.2.2.2.2.1 HN.out.2.2.2.2.2.2.1 (by have := HN.out.2.2.2.2.2.2.2.2.2.2.2.2.1; have := HN.out.2.2.1; omega) HN.out.2.2.2.1 HN.out.2.2.2.2.2.2.2.1 HN.out.2.2.2.2.2.2.2.2.1 (by have := HN.out.2.2.2.2.2.2.2.2.2.2.2.2.1; have := HN.out.2.2.2.1; omega) HN.out.2.2.2.2.1 HN.out.2.2.2.2.2.2.2.2.2.2.1 HN.out.2.2.2.2.2.2.2.2.2.2.2.1 HN.out.2.2.2.2.2.2.2.2.2.1 (by have := HN.out.2.2.2.2.2.2.2.2.2.2.2.2.1; omega) (by have := HN.out.2.2.2.2.2.2.2.2.2.2.2.2.1; omega) (Sat.sub (s2d) (by with_reducible repeat first | exact Fr1 | exact Fr2 | (apply Fr3; focus ((repeat (first | exact Tk1 | apply Tk2)); done)) | apply Fr4))).mono ?_
  rintro e w4 ⟨xg, rfl, s4a⟩
  have s4' := bytesOf s4a
  clear s4a
  obtain ⟨xq, hxq⟩ : ∃ xq : Option Addr, xq = some ⟨xg, 0, none⟩ := ⟨_, rfl⟩
  rw [← hxq] at s4' ⊢
  clear hxq
  have s4 : Sat W0 w4 (bytes true xq (kmTag (krt large) (kmPre (krt large) key cu ++ msg) o (kmBits xof o)) :: seg true p 0 [.int .i64 (i : Int), .int .u8 (al : Int), .int .i64 (o : Int), .slice kq kl cq, .slice c2 cl c3, .slice mq ml mc] :: bytes true kq key :: bytes true c2 cu :: bytes true mq msg :: R :: L) := (Sat.sub (s4') (by with_reducible repeat first | exact Fr1 | exact Fr2 | (apply Fr3; focus ((repeat (first | exact Tk1 | apply Tk2)); done)) | apply Fr4))
  have hk4 := HK.out.2.1 _ _ ((Sat.sub (s4) (by with_reducible repeat first | exact Fr1 | exact Fr2 | (apply Fr3; focus ((repeat (first | exact Tk1 | apply Tk2)); done)) | apply Fr4)) : Sat W0 w4 (seg true p 0 [.int .i64 (i : Int), .int .u8 (al : Int), .int .i64 (o : Int), .slice kq kl cq, .slice c2 cl c3, .slice mq ml mc] :: []))
  go_wp2_with fail
  refine hK.out _ _ hk4 ?_
  clear hK K hHeld
  have hHeld := hk4
  try simp only [pA1, pA2, pA3, pA4]
  iterate 4
   first | refine autoT hHeld (by rfl) (by rfl) (x := ?_) (v := ?_) ?_ (by kernel_rfl) ?_ ?_ ?_ | refine autoP (by rfl) (x := ?_) (v := ?_) ?_ (by kernel_rfl) ?_ ?_ ?_
   rotate_left 2
   ·(simp only [gE1, gE2, gE3]; rfl)
   ·exact fun _ _ _ h => h
   ·refine Or.inl ⟨by rfl, fun w hSw => ?_⟩
    (try dsimp only at hSw)
    go_simp
    try (with_reducible rfl)
   try simp only [pA1, pA2, pA3, pA4]
  clear s2d s4'
  refine anyE_done (by kernel_rfl) ?_ _
  have hxl : (kmTag (krt large) (kmPre (krt large) key cu ++ msg) o (kmBits xof o)).length = o := HN.out.2.2.2.2.2.2.2.2.2.2.2.2.2.1
  have hx0 : o ≤ o := Nat.le_refl _
  obtain ⟨_, d2, _, _, _, zp⟩ := hk4
  clear hHeld
  have goI : (o : Int) ≤ (o : Int) := by omega
  have HXL := Lib.hid (And.intro hxl hx0); clear hxl hx0 
  have s5 := bytesTake o s4
  clear s4
  go_wp2_with fail
  refine (bClone (cap := o) ((kmTag (krt large) (kmPre (krt large) key cu ++ msg) o (kmBits xof o)).take o) (by have := HN.out.2.2.2.2.2.2.2.2.2.2.2.2.1; rw [List.length_take, HXL.out.1]; have := HXL.out.2; omega) (by have := HN.out.2.2.2.2.2.2.2.2.2.2.2.2.1; omega) s5).mono ?_
  rintro e w9 ⟨y, yc, rfl, s9⟩
  have HS := Lib.hid s9; clear s5 s9 d2 zp
  go_wp2_with fail
  go_ret
  refine ⟨y, yc, rfl, ?_⟩
  have s9 := HS.out
  rw [show (kmTag (krt large) (kmPre (krt large) key cu ++ msg) o (kmBits xof o)).take o = (MKind.km large xof).tag key cu o msg from List.take_of_length_le (by rw [HXL.out.1]; exact Nat.le_refl _)] at s9
  have s10 := HN.out.2.2.2.2.2.2.2.2.2.2.2.2.2.2.1 _ _ ((Sat.sub (s9) (by with_reducible repeat first | exact Fr1 | exact Fr2 | (apply Fr3; focus ((repeat (first | exact Tk1 | apply Tk2)); done)) | apply Fr4)) : Sat W0 w9 (bytes true mq msg :: R :: row y yc 1 o (u8s ((MKind.km large xof).tag key cu o msg)) :: seg true p 0 [.int .i64 (i : Int), .int .u8 (al : Int), .int .i64 (o : Int), .slice kq kl cq, .slice c2 cl c3, .slice mq ml mc] :: bytes true kq key :: bytes true c2 cu :: L))
  exact (Sat.sub (s10) (by with_reducible repeat first | exact Fr1 | exact Fr2 | (apply Fr3; focus ((repeat (first | exact Tk1 | apply Tk2)); done)) | apply Fr4))
end Go.Proofs.YtpiiklfnakkdiaaGreat

/- Bytes held against each other by way of strings; under the conditions that each names. -/
namespace Go.Proofs.YtpiiklfnakkdiaaGreat
open Go.RowKit Go.Sep Go.Bv Go.Kec Go.Aes Go.Sha
set_option linter.unusedVariables false
set_option linter.unusedSimpArgs false
def strOfB (bs : List Byte) : ByteArray := strOfNums (bs.map v8)
theorem u8_inj {x y : Byte} (h : UInt8.ofNat (v8 x).toNat = UInt8.ofNat (v8 y).toNat) : x = y := by
 have h1 := congrArg UInt8.toNat h
 have hx := x.isLt
 have hy := y.isLt
 have ex : (v8 x).toNat = x.toNat := by unfold v8; exact Int.toNat_natCast _
 have ey : (v8 y).toNat = y.toNat := by unfold v8; exact Int.toNat_natCast _
 rw [ex, ey, UInt8.toNat_ofNat', UInt8.toNat_ofNat', Nat.mod_eq_of_lt hx, Nat.mod_eq_of_lt hy] at h1
 exact BitVec.eq_of_toNat_eq h1
theorem strOfB_inj {xs ys : List Byte} (h : strOfB xs = strOfB ys) : xs = ys := by
 have h1 : (strOfB xs).data.toList = (strOfB ys).data.toList := by rw [h]
 unfold strOfB at h1
 rw [strOfNums_data, strOfNums_data, List.map_map, List.map_map] at h1
 have hinj : ∀ {xs ys : List Byte}, xs.map ((fun n : Int => UInt8.ofNat n.toNat) ∘ v8) = ys.map ((fun n : Int => UInt8.ofNat n.toNat) ∘ v8) → xs = ys := by
  intro xs
  induction xs with
  | nil => intro ys h; cases ys with
   | nil => rfl
   | cons y ys => simp at h
  | cons x xs ih => intro ys h; cases ys with
   | nil => simp at h
   | cons y ys =>
    simp only [List.map_cons, List.cons.injEq, Function.comp_apply] at h
    rw [u8_inj h.1, ih h.2]
 exact hinj h1
theorem strOfB_beq (xs ys : List Byte) : (strOfB xs == strOfB ys) = decide (xs = ys) := by
 by_cases h : xs = ys
 ·subst h
  rw [decide_eq_true rfl]
  exact (MapKept.bytes_beq _ _).2 rfl
 ·rw [decide_eq_false h]
  rcases hb : (strOfB xs == strOfB ys) with _ | _
  ·rfl
  ·exact absurd (strOfB_inj ((MapKept.bytes_beq _ _).1 hb)) h
theorem convBytes {W0 w : World} {L : List Assn} {m : Bool} {p : Option Addr} {n c : Nat} {bs : List Byte} (hn : bs.length = n) (hs : Sat W0 w (bytes m p bs :: L)) :
  (convert 24 9 (.slice p n c)).run Tryz.prog w = .ok (.string (strOfB bs)) w := by
 by_cases hb : bs = []
 ·subst hb
  obtain rfl : n = 0 := hn.symm
  cases p with
  | none => exact run_convert_bytes_nil w 24 5 Tryz.underlying24 Tryz.underlying5 0 c 9 Tryz.underlying9
  | some a =>
   rw [run_convert_bytes_string w 24 9 5 (some a) 0 c Tryz.underlying24 Tryz.underlying5 Tryz.underlying9]
   exact run_bytesToString w a 0 c [] (by simp [loadCells, loadCellsFrom])
 ·obtain ⟨b, o, rfl, h1⟩ := bytesCell hs hb
  refine run_convert_bytes_arg w 24 5 Tryz.underlying24 Tryz.underlying5 b o n c (bs.map v8) (by rw [List.length_map]; exact hn) (fun i hi => ?_) 9 Tryz.underlying9
  have hi' : i < bs.length := by omega
  have := h1.cell (u8s_get bs i hi')
  rw [this]
  simp [hi']
set_option maxHeartbeats 1000000 in
theorem bEqual {W0 w : World} {L : List Assn} {m1 m2 : Bool} {pa pb : Option Addr} {n ca k cb : Nat} (xs ys : List Byte) (hx : xs.length = n) (hy : ys.length = k) (hs : Sat W0 w (bytes m1 pa xs :: bytes m2 pb ys :: L)) :
  Calls Tryz.prog 66 #[.slice pa n ca, .slice pb k cb] w fun e w' => e = .returned (.bool (decide (xs = ys))) ∧ w' = w := by
 have c1 := convBytes (c := ca) hx hs
 have c2 := convBytes (c := cb) hy (hs.pull 1 : Sat W0 w (bytes m2 pb ys :: _))
 have hb := strOfB_beq xs ys
 obtain ⟨sx, hsx⟩ : ∃ s, s = strOfB xs := ⟨_, rfl⟩
 obtain ⟨sy, hsy⟩ : ∃ s, s = strOfB ys := ⟨_, rfl⟩
 rw [← hsx] at c1 hb
 rw [← hsy] at c2 hb
 obtain ⟨d, hd⟩ : ∃ d, d = decide (xs = ys) := ⟨_, rfl⟩
 rw [← hd] at hb ⊢
 clear hsx hsy hd hx hy hs
 have hb2 : (sx.toList == sy.toList) = d := by rw [← beq_toListBytes]; exact hb
 clear hb
 go_enter Tryz.func66, Tryz.ntmps66
 go_wp2
 go_ret
 exact ⟨rfl, rfl⟩
end Go.Proofs.YtpiiklfnakkdiaaGreat

/- The ideal vault: a session ends; under the conditions that each names. -/
namespace Go.Proofs.YtpiiklfnakkdiaaGreat
open Go.RowKit Go.Sep Go.Bv Go.Kec Go.Aes Go.Sha
set_option linter.unusedVariables false
set_option linter.unusedSimpArgs false
theorem ansP_b {W0 w' : World} {v n c : Nat} {S : Slots} {R : List Assn} {T : List Byte} {q : Option Addr} (hn : T.length = n) (h1 : n ≤ c) (h2 : c ≤ maxLen) (h : Sat W0 w' (vaultA v S :: bytes true q T :: R)) : ansP W0 v (S, ⟨0, 0, false, T⟩) R (.returned (.agg #[.int .i64 0, .int .i64 0, .bool false, .slice q n c])) w' := by
 subst hn
 exact ⟨q, c, rfl, h1, h2, h⟩
theorem ansP_v {W0 w' : World} {v : Nat} {S : Slots} {R : List Assn} {b : Bool} (h : Sat W0 w' (vaultA v S :: R)) : ansP W0 v (S, ⟨0, 0, b, []⟩) R (.returned (.agg #[.int .i64 0, .int .i64 0, .bool b, .slice none 0 0])) w' := by
 have h2 := bytesNil true none (h.pull 0)
 exact ⟨none, 0, rfl, Nat.le_refl _, Nat.zero_le _, h2.pull 1⟩
set_option maxRecDepth 100000 in
set_option maxHeartbeats 8000000 in
theorem iEndW {W0 w : World} {L : List Assn} {v B : Nat} {md mm : Bool} {dp ep : Option Addr} {dn dc en ec : Nat} (S : Slots) (kd : Nat) (hd : Int) (ag : Nat) (ct ot : Int) (data more : List Byte) (hS : okS B S) (hB : B ≤ 1000000000) (hdn : data.length = dn) (hdb : dn ≤ 1000000000)
  (hs : Sat W0 w (vaultA v S :: bytes md dp data :: bytes mm ep more :: L)) :
  Calls Tryz.prog 44 #[.pointer (some ⟨v, 0, none⟩), .agg #[.int .u8 (kd : Int), .int .i64 hd, .int .u8 (ag : Int), .int .i64 ct, .int .i64 ot, .slice dp dn dc, .slice ep en ec]] w fun e w' => ansP W0 v (iEnd S ⟨kd, hd, ag, ct, ot, data, more⟩) (bytes md dp data :: bytes mm ep more :: L) e w' := by
 obtain ⟨T, rfl, s0⟩ := vOpen hs
 have hT : T.length = 64 := by rw [← namesT_len]; exact hS.1
 have HN := Lib.hid (And.intro hS (And.intro hB (And.intro hdn (And.intro hdb hT)))); clear hS hB hdn hdb hT hs
 have HO := Lib.hid (hOp W0)
 go_enter Tryz.func44, Tryz.ntmps44
 go_wp2_with (first | (refine wpl_box rfl 26 (.tmp 1) rfl [.int .u8 (kd : Int), .int .i64 hd, .int .u8 (ag : Int), .int .i64 ct, .int .i64 ot, .slice dp dn dc, .slice ep en ec] rfl s0 ?_; intro w1 g s1 _; clear s0) | (refine wpl_alloc_agg rfl 35 rfl s1 _ (zero_ans _) ?_; intro w2 ga s2' _; clear s1; have s2 : Sat W0 w2 (seg true g 0 [.int .u8 (kd : Int), .int .i64 hd, .int .u8 (ag : Int), .int .i64 ct, .int .i64 ot, .slice dp dn dc, .slice ep en ec] :: seg true ga 0 ans0 :: seg true v 0 (.bool true :: cellsT T) :: slotsA 0 T :: bytes md dp data :: bytes mm ep more :: L) := (Sat.sub (s2') (by with_reducible repeat first | exact Fr1 | exact Fr2 | (apply Fr3; focus ((repeat (first | exact Tk1 | apply Tk2)); done)) | apply Fr4)); clear s2'; obtain ⟨o0, o1, o2, o3, o4, o5, o6, zo⟩ := HO.out _ _ _ _ _ _ _ _ _ _ s2))
 refine (iAtW T HN.out.2.2.2.2 hd true (Sat.sub (s2) (by with_reducible repeat first | exact Fr1 | exact Fr2 | (apply Fr3; focus ((repeat (first | exact Tk1 | apply Tk2)); done)) | apply Fr4))).mono ?_
 rintro e w3 ⟨rfl, ⟨c, hat, hc, rfl⟩ | ⟨p, H, h1, h2, hat, hTp, hal, rfl⟩⟩
 ·have e0 : iEnd (namesT T) ⟨kd, hd, ag, ct, ot, data, more⟩ = (namesT T, noA c) := by unfold iEnd; simp only; rw [hat]
  rcases hc with rfl | rfl
  ·have HE := Lib.hid e0; clear e0 hat
   go_wp2_with fail
   go_quiet (fail)
   have s3 := s2.drewN nq
   clear s2 o0 o1 o2 o3 o4 o5 o6 zo
   go_wp2_with fail
   refine (iNo 5 s3).mono ?_
   rintro e w4 ⟨rfl, s4⟩
   clear s3
   have sr0 : Sat W0 _ (seg true ga 0 ans0 :: seg true v 0 (.bool true :: cellsT T) :: slotsA 0 T :: bytes md dp data :: bytes mm ep more :: L) := (Sat.sub (s4) (by with_reducible repeat first | exact Fr1 | exact Fr2 | (apply Fr3; focus ((repeat (first | exact Tk1 | apply Tk2)); done)) | apply Fr4))
   go_wp2_with (refine wpl_stAns rfl rfl (.tmp 4) (.tmp 35) rfl sr0 rfl rfl ?_; intro ws ss; clear sr0)
   have hr := ansLd ss
   have HS := Lib.hid ss.tail; clear ss
   refine bodyPost_ret (v := .agg #[.int .i64 5, .int .i64 0, .bool false, .slice none 0 0]) (by simp [results, Tryz.results44, asAddr]; exact hr) rfl ?_
   rw [HE.out]
   exact ansP_no (vShut T rfl HS.out)
  ·have HE := Lib.hid e0; clear e0 hat
   go_wp2_with fail
   go_quiet (fail)
   have s3 := s2.drewN nq
   clear s2 o0 o1 o2 o3 o4 o5 o6 zo
   go_wp2_with fail
   refine (iNo 6 s3).mono ?_
   rintro e w4 ⟨rfl, s4⟩
   clear s3
   have sr0 : Sat W0 _ (seg true ga 0 ans0 :: seg true v 0 (.bool true :: cellsT T) :: slotsA 0 T :: bytes md dp data :: bytes mm ep more :: L) := (Sat.sub (s4) (by with_reducible repeat first | exact Fr1 | exact Fr2 | (apply Fr3; focus ((repeat (first | exact Tk1 | apply Tk2)); done)) | apply Fr4))
   go_wp2_with (refine wpl_stAns rfl rfl (.tmp 4) (.tmp 35) rfl sr0 rfl rfl ?_; intro ws ss; clear sr0)
   have hr := ansLd ss
   have HS := Lib.hid ss.tail; clear ss
   refine bodyPost_ret (v := .agg #[.int .i64 6, .int .i64 0, .bool false, .slice none 0 0]) (by simp [results, Tryz.results44, asAddr]; exact hr) rfl ?_
   rw [HE.out]
   exact ansP_no (vShut T rfl HS.out)
 ·obtain ⟨kn, o, key, cu, msg, rfl⟩ := Hold.alg_ses hal
  obtain ⟨k, rfl⟩ : ∃ k : Nat, hd = (k : Int) := ⟨hd.toNat, by omega⟩
  rw [Int.toNat_natCast] at hTp
  have h3 := HN.out.1.2 _ (mem_of_get (namesT_get hTp))
  have hfit : kn.fits key cu o := h3.1
  have hmb : msg.length ≤ 1000000000 := Nat.le_trans h3.2.2 HN.out.2.1
  have so := slotsOpen k hTp ((Sat.sub (s2) (by with_reducible repeat first | exact Fr1 | exact Fr2 | (apply Fr3; focus ((repeat (first | exact Tk1 | apply Tk2)); done)) | apply Fr4)) : Sat W0 w3 (slotsA 0 T :: seg true g 0 [.int .u8 (kd : Int), .int .i64 (k : Int), .int .u8 (ag : Int), .int .i64 ct, .int .i64 ot, .slice dp dn dc, .slice ep en ec] :: seg true ga 0 ans0 :: seg true v 0 (.bool true :: cellsT T) :: bytes md dp data :: bytes mm ep more :: L))
  obtain ⟨q, hq, so2⟩ := holdOpen so
  obtain ⟨kq, cq, c2, c3, mq, mc⟩ := q
  rw [Nat.zero_add] at so2
  have so3 : Sat W0 w3 (seg true p 0 [.int .i64 (k : Int), .int .u8 (kn.alg : Int), .int .i64 (o : Int), .slice kq key.length cq, .slice c2 cu.length c3, .slice mq msg.length mc] :: bytes true kq key :: bytes true c2 cu :: row mq mc 1 msg.length (u8s msg) :: slotsA 0 (T.set k none) :: seg true g 0 [.int .u8 (kd : Int), .int .i64 (k : Int), .int .u8 (ag : Int), .int .i64 ct, .int .i64 ot, .slice dp dn dc, .slice ep en ec] :: seg true ga 0 ans0 :: seg true v 0 (.bool true :: cellsT T) :: bytes md dp data :: bytes mm ep more :: L) := so2
  have htg := fun (w : World) (X : List Assn) (s : Sat W0 w (row mq mc 1 msg.length (u8s msg) :: seg true p 0 [.int .i64 (k : Int), .int .u8 (kn.alg : Int), .int .i64 (o : Int), .slice kq key.length cq, .slice c2 cu.length c3, .slice mq msg.length mc] :: bytes true kq key :: bytes true c2 cu :: X)) => iTag kn key cu msg hfit rfl rfl rfl hq.1 hq.2.1 hq.2.2.1 hq.2.2.2 hmb s
  have htl := kn.tag_len key cu o msg hfit
  obtain ⟨tg, htgE⟩ : ∃ tg, tg = kn.tag key cu o msg := ⟨_, rfl⟩
  rw [← htgE] at htg htl
  obtain ⟨al, hal2⟩ : ∃ al : Nat, al = kn.alg := ⟨_, rfl⟩
  rw [← hal2] at htg so3
  obtain ⟨kl, hkl⟩ : ∃ n, n = key.length := ⟨_, rfl⟩
  obtain ⟨cl, hcl⟩ : ∃ n, n = cu.length := ⟨_, rfl⟩
  obtain ⟨ml, hml⟩ : ∃ n, n = msg.length := ⟨_, rfl⟩
  rw [← hkl, ← hcl, ← hml] at htg so3
  have hgo5 : iEnd (namesT T) ⟨kd, (k : Int), ag, ct, ot, data, more⟩ = (if kd = 5 then (if data.length = o then ((namesT T).set k none, ⟨0, 0, decide (tg = data), []⟩) else (namesT T, noA 11)) else ((namesT T).set k none, ⟨0, 0, false, tg⟩)) := by
   unfold iEnd; simp only; rw [hat, htgE]; rfl
  have HT := Lib.hid (And.intro htg (And.intro htl (And.intro hgo5 hTp))); clear htg htl hgo5 htgE hal2 hkl hcl hml h3 hfit hmb hq so so2 hat hal hTp
  have s5 : Sat W0 w3 (seg true p 0 [.int .i64 (k : Int), .int .u8 (al : Int), .int .i64 (o : Int), .slice kq kl cq, .slice c2 cl c3, .slice mq ml mc] :: seg true g 0 [.int .u8 (kd : Int), .int .i64 (k : Int), .int .u8 (ag : Int), .int .i64 ct, .int .i64 ot, .slice dp dn dc, .slice ep en ec] :: row mq mc 1 ml (u8s msg) :: bytes true kq key :: bytes true c2 cu :: slotsA 0 (T.set k none) :: seg true ga 0 ans0 :: seg true v 0 (.bool true :: cellsT T) :: bytes md dp data :: bytes mm ep more :: L) := (Sat.sub (so3) (by with_reducible repeat first | exact Fr1 | exact Fr2 | (apply Fr3; focus ((repeat (first | exact Tk1 | apply Tk2)); done)) | apply Fr4))
  clear so3
  have cp2 := s5.at 2 rfl
  have zp := s5.lt (by simp)
  have hkI : (k : Int) < 64 := h2
  clear h1 h2
  by_cases k5 : kd = 5
  ·have k5b : ((kd : Int) == 5) = true := by rw [k5]; rfl
   by_cases hdo : dn = o
   ·have hdb : ((dn : Int) != (o : Int)) = false := by rw [hdo]; simp
    have e0 : iEnd (namesT T) ⟨kd, (k : Int), ag, ct, ot, data, more⟩ = ((namesT T).set k none, ⟨0, 0, decide (tg = data), []⟩) := by rw [HT.out.2.2.1, if_pos k5, if_pos (by rw [HN.out.2.2.1]; exact hdo)]
    have HE := Lib.hid e0; clear e0 k5 hdo s2
    go_wp2_with fail
    go_quiet (fail)
    have s6 := s5.drewN nq
    clear s5 o0 o1 o2 o3 o4 o5 o6 zo cp2 zp
    go_wp2_with fail
    refine (HT.out.1 _ (seg true g 0 [.int .u8 (kd : Int), .int .i64 (k : Int), .int .u8 (ag : Int), .int .i64 ct, .int .i64 ot, .slice dp dn dc, .slice ep en ec] :: slotsA 0 (T.set k none) :: seg true ga 0 ans0 :: seg true v 0 (.bool true :: cellsT T) :: bytes md dp data :: bytes mm ep more :: L) (Sat.sub (s6) (by with_reducible repeat first | exact Fr1 | exact Fr2 | (apply Fr3; focus ((repeat (first | exact Tk1 | apply Tk2)); done)) | apply Fr4))).mono ?_
    rintro e w7 ⟨x, xc, rfl, s7'⟩
    obtain ⟨_, hx1, hx2, s7''⟩ := rowBytes s7'
    have s7 : Sat W0 w7 (seg true v 0 (.bool true :: cellsT T) :: seg true g 0 [.int .u8 (kd : Int), .int .i64 (k : Int), .int .u8 (ag : Int), .int .i64 ct, .int .i64 ot, .slice dp dn dc, .slice ep en ec] :: bytes true x tg :: slotsA 0 (T.set k none) :: seg true ga 0 ans0 :: bytes md dp data :: bytes mm ep more :: L) := (Sat.sub (s7'') (by with_reducible repeat first | exact Fr1 | exact Fr2 | (apply Fr3; focus ((repeat (first | exact Tk1 | apply Tk2)); done)) | apply Fr4))
    clear s6 s7' s7''
    have HX := Lib.hid (And.intro hx1 hx2); clear hx1 hx2
    obtain ⟨o0, o1, _, _, _, o5, _, zo⟩ := HO.out _ _ _ _ _ _ _ _ _ _ ((Sat.sub (s7) (by with_reducible repeat first | exact Fr1 | exact Fr2 | (apply Fr3; focus ((repeat (first | exact Tk1 | apply Tk2)); done)) | apply Fr4)) : Sat W0 w7 (seg true g 0 [.int .u8 (kd : Int), .int .i64 (k : Int), .int .u8 (ag : Int), .int .i64 ct, .int .i64 ot, .slice dp dn dc, .slice ep en ec] :: []))
    have hvl : 1 + k < (Value.bool true :: cellsT T).length := by rw [List.length_cons, cellsT_len, HN.out.2.2.2.2]; omega
    have cv := s7.at (1 + k) (cellsT_get HT.out.2.2.2)
    have fv := s7.fr (1 + k) hvl
    have zv := s7.lt (by simp)
    go_wp2_with fail
    refine wp_region_quiet_tail_lit 6 (by kernel_rfl) (by kernel_rfl) ?_
    simp only [List.take_succ_cons, List.take_zero, List.drop_succ_cons, List.drop_zero]
    repeat (go_big_quiet_step (fail))
    refine wpQuiet_nil ?_
    rintro _ ⟨nr, rfl⟩
    have s8' := (s7.drewN nr).store (i := 1 + k) hvl (.pointer none) (q := 1 + k) (by omega)
    rw [show (Value.bool true :: cellsT T).set (1 + k) (.pointer none) = Value.bool true :: cellsT (T.set k none) from cellsT_set T k none] at s8'
    have hgv : g ≠ v := Sat.ne' ((Sat.sub (s7) (by with_reducible repeat first | exact Fr1 | exact Fr2 | (apply Fr3; focus ((repeat (first | exact Tk1 | apply Tk2)); done)) | apply Fr4)) : Sat W0 w7 (seg true g 0 [.int .u8 (kd : Int), .int .i64 (k : Int), .int .u8 (ag : Int), .int .i64 ct, .int .i64 ot, .slice dp dn dc, .slice ep en ec] :: seg true v 0 (.bool true :: cellsT T) :: [])) (by simp) (by simp)
    clear s7 hvl
    have s9 : Sat W0 ((w7.drewN nr).setCell ⟨v, 1 + k, none⟩ (.pointer none)) (bytes true x tg :: bytes md dp data :: seg true g 0 [.int .u8 (kd : Int), .int .i64 (k : Int), .int .u8 (ag : Int), .int .i64 ct, .int .i64 ot, .slice dp dn dc, .slice ep en ec] :: seg true v 0 (.bool true :: cellsT (T.set k none)) :: slotsA 0 (T.set k none) :: seg true ga 0 ans0 :: bytes mm ep more :: L) := (Sat.sub (s8') (by with_reducible repeat first | exact Fr1 | exact Fr2 | (apply Fr3; focus ((repeat (first | exact Tk1 | apply Tk2)); done)) | apply Fr4))
    clear s8'
    go_wp2_with fail
    refine (bEqual (ca := xc) (cb := dc) tg data HT.out.2.1 HN.out.2.2.1 (Sat.sub (s9) (by with_reducible repeat first | exact Fr1 | exact Fr2 | (apply Fr3; focus ((repeat (first | exact Tk1 | apply Tk2)); done)) | apply Fr4))).mono ?_
    rintro e w10 ⟨rfl, rfl⟩
    obtain ⟨bb, hbb⟩ : ∃ bb, bb = decide (tg = data) := ⟨_, rfl⟩
    rw [← hbb]
    have HBB := Lib.hid hbb; clear hbb
    clear o0 o1 o5 zo cv fv zv hgv
    have sr0 : Sat W0 _ (seg true ga 0 ans0 :: seg true v 0 (.bool true :: cellsT (T.set k none)) :: slotsA 0 (T.set k none) :: bytes md dp data :: bytes mm ep more :: L) := (Sat.sub (s9) (by with_reducible repeat first | exact Fr1 | exact Fr2 | (apply Fr3; focus ((repeat (first | exact Tk1 | apply Tk2)); done)) | apply Fr4))
    go_wp2_with (refine wpl_stAns rfl rfl (.tmp 4) (.tmp 51) rfl sr0 rfl rfl ?_; intro ws ss; clear sr0)
    have hr := ansLd ss
    have HS := Lib.hid ss.tail; clear ss
    refine bodyPost_ret (v := .agg #[.int .i64 0, .int .i64 0, .bool bb, .slice none 0 0]) (by simp [results, Tryz.results44, asAddr]; exact hr) rfl ?_
    rw [HE.out, ← HBB.out]
    exact ansP_v (vShut (T.set k none) (namesT_set _ _ _) HS.out)
   ·have hdb : ((dn : Int) != (o : Int)) = true := by rw [bne_iff_ne]; omega
    have e0 : iEnd (namesT T) ⟨kd, (k : Int), ag, ct, ot, data, more⟩ = (namesT T, noA 11) := by rw [HT.out.2.2.1, if_pos k5, if_neg (by rw [HN.out.2.2.1]; exact hdo)]
    have HE := Lib.hid e0; clear e0 k5 hdo
    go_wp2_with fail
    go_quiet (fail)
    have s6 := s2.drewN nq
    clear s2 s5 o0 o1 o2 o3 o4 o5 o6 zo cp2 zp
    go_wp2_with fail
    refine (iNo 11 s6).mono ?_
    rintro e w4 ⟨rfl, s4⟩
    clear s6
    have sr0 : Sat W0 _ (seg true ga 0 ans0 :: seg true v 0 (.bool true :: cellsT T) :: slotsA 0 T :: bytes md dp data :: bytes mm ep more :: L) := (Sat.sub (s4) (by with_reducible repeat first | exact Fr1 | exact Fr2 | (apply Fr3; focus ((repeat (first | exact Tk1 | apply Tk2)); done)) | apply Fr4))
    go_wp2_with (refine wpl_stAns rfl rfl (.tmp 4) (.tmp 35) rfl sr0 rfl rfl ?_; intro ws ss; clear sr0)
    have hr := ansLd ss
    have HS := Lib.hid ss.tail; clear ss
    refine bodyPost_ret (v := .agg #[.int .i64 11, .int .i64 0, .bool false, .slice none 0 0]) (by simp [results, Tryz.results44, asAddr]; exact hr) rfl ?_
    rw [HE.out]
    exact ansP_no (vShut T rfl HS.out)
  ·have k5b : ((kd : Int) == 5) = false := by rw [beq_eq_false_iff_ne]; omega
   have e0 : iEnd (namesT T) ⟨kd, (k : Int), ag, ct, ot, data, more⟩ = ((namesT T).set k none, ⟨0, 0, false, tg⟩) := by rw [HT.out.2.2.1, if_neg k5]
   have HE := Lib.hid e0; clear e0 k5 s2
   go_wp2_with fail
   go_quiet (fail)
   have s6 := s5.drewN nq
   clear s5 o0 o1 o2 o3 o4 o5 o6 zo cp2 zp
   go_wp2_with fail
   refine (HT.out.1 _ (seg true g 0 [.int .u8 (kd : Int), .int .i64 (k : Int), .int .u8 (ag : Int), .int .i64 ct, .int .i64 ot, .slice dp dn dc, .slice ep en ec] :: slotsA 0 (T.set k none) :: seg true ga 0 ans0 :: seg true v 0 (.bool true :: cellsT T) :: bytes md dp data :: bytes mm ep more :: L) (Sat.sub (s6) (by with_reducible repeat first | exact Fr1 | exact Fr2 | (apply Fr3; focus ((repeat (first | exact Tk1 | apply Tk2)); done)) | apply Fr4))).mono ?_
   rintro e w7 ⟨x, xc, rfl, s7'⟩
   obtain ⟨_, hx1, hx2, s7''⟩ := rowBytes s7'
   have s7 : Sat W0 w7 (seg true v 0 (.bool true :: cellsT T) :: seg true g 0 [.int .u8 (kd : Int), .int .i64 (k : Int), .int .u8 (ag : Int), .int .i64 ct, .int .i64 ot, .slice dp dn dc, .slice ep en ec] :: bytes true x tg :: slotsA 0 (T.set k none) :: seg true ga 0 ans0 :: bytes md dp data :: bytes mm ep more :: L) := (Sat.sub (s7'') (by with_reducible repeat first | exact Fr1 | exact Fr2 | (apply Fr3; focus ((repeat (first | exact Tk1 | apply Tk2)); done)) | apply Fr4))
   clear s6 s7' s7''
   have HX := Lib.hid (And.intro hx1 hx2); clear hx1 hx2
   obtain ⟨o0, o1, _, _, _, o5, _, zo⟩ := HO.out _ _ _ _ _ _ _ _ _ _ ((Sat.sub (s7) (by with_reducible repeat first | exact Fr1 | exact Fr2 | (apply Fr3; focus ((repeat (first | exact Tk1 | apply Tk2)); done)) | apply Fr4)) : Sat W0 w7 (seg true g 0 [.int .u8 (kd : Int), .int .i64 (k : Int), .int .u8 (ag : Int), .int .i64 ct, .int .i64 ot, .slice dp dn dc, .slice ep en ec] :: []))
   have hvl : 1 + k < (Value.bool true :: cellsT T).length := by rw [List.length_cons, cellsT_len, HN.out.2.2.2.2]; omega
   have cv := s7.at (1 + k) (cellsT_get HT.out.2.2.2)
   have fv := s7.fr (1 + k) hvl
   have zv := s7.lt (by simp)
   go_wp2_with fail
   refine wp_region_quiet_tail_lit 6 (by kernel_rfl) (by kernel_rfl) ?_
   simp only [List.take_succ_cons, List.take_zero, List.drop_succ_cons, List.drop_zero]
   repeat (go_big_quiet_step (fail))
   refine wpQuiet_nil ?_
   rintro _ ⟨nr, rfl⟩
   have s8' := (s7.drewN nr).store (i := 1 + k) hvl (.pointer none) (q := 1 + k) (by omega)
   rw [show (Value.bool true :: cellsT T).set (1 + k) (.pointer none) = Value.bool true :: cellsT (T.set k none) from cellsT_set T k none] at s8'
   have hgv : g ≠ v := Sat.ne' ((Sat.sub (s7) (by with_reducible repeat first | exact Fr1 | exact Fr2 | (apply Fr3; focus ((repeat (first | exact Tk1 | apply Tk2)); done)) | apply Fr4)) : Sat W0 w7 (seg true g 0 [.int .u8 (kd : Int), .int .i64 (k : Int), .int .u8 (ag : Int), .int .i64 ct, .int .i64 ot, .slice dp dn dc, .slice ep en ec] :: seg true v 0 (.bool true :: cellsT T) :: [])) (by simp) (by simp)
   clear s7 hvl
   have s9 : Sat W0 ((w7.drewN nr).setCell ⟨v, 1 + k, none⟩ (.pointer none)) (bytes true x tg :: bytes md dp data :: seg true g 0 [.int .u8 (kd : Int), .int .i64 (k : Int), .int .u8 (ag : Int), .int .i64 ct, .int .i64 ot, .slice dp dn dc, .slice ep en ec] :: seg true v 0 (.bool true :: cellsT (T.set k none)) :: slotsA 0 (T.set k none) :: seg true ga 0 ans0 :: bytes mm ep more :: L) := (Sat.sub (s8') (by with_reducible repeat first | exact Fr1 | exact Fr2 | (apply Fr3; focus ((repeat (first | exact Tk1 | apply Tk2)); done)) | apply Fr4))
   clear s8'
   have sr0 : Sat W0 _ (seg true ga 0 ans0 :: seg true v 0 (.bool true :: cellsT (T.set k none)) :: slotsA 0 (T.set k none) :: bytes true x tg :: bytes md dp data :: bytes mm ep more :: L) := (Sat.sub (s9) (by with_reducible repeat first | exact Fr1 | exact Fr2 | (apply Fr3; focus ((repeat (first | exact Tk1 | apply Tk2)); done)) | apply Fr4))
   go_wp2_with (refine wpl_stAns rfl rfl (.tmp 4) (.tmp 53) rfl sr0 rfl rfl ?_; intro ws ss; clear sr0)
   have hr := ansLd ss
   have HS := Lib.hid ss.tail; clear ss
   refine bodyPost_ret (v := .agg #[.int .i64 0, .int .i64 0, .bool false, .slice x o xc]) (by simp [results, Tryz.results44, asAddr]; exact hr) rfl ?_
   rw [HE.out]
   have s8 := HS.out
   have s10 := vShut (T.set k none) (namesT_set _ _ _) s8
   exact ansP_b HT.out.2.1 HX.out.1 HX.out.2 s10
end Go.Proofs.YtpiiklfnakkdiaaGreat
