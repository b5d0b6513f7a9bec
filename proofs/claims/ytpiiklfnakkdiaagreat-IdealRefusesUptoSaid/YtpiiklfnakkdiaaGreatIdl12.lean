
/- The ideal vault: a session begins; under the conditions that each names. -/
import Derived.Test.YtpiiklfnakkdiaaGreatIdl11
namespace Go.Sep
open Go.RowKit
set_option linter.unusedVariables false
set_option linter.unusedSimpArgs false
theorem op_store_agg {P : Program} {o : Oper} {a : Act} {K : Act → World → Prop} {Q : Exit → Act → World → Prop} {W0 w : World} {L : List Assn} (ty : TypeId) (x y : Operand) (ho : o.op = .store ty x y) {b off : Nat} {vs cs : List Value} (hs : Sat W0 w (seg true b off vs :: L)) (k q : Nat)
  (hi : (P.info? ty).map (·.size) = some cs.length) (hx : a.eval x = .pointer (some ⟨b, q, none⟩)) (hy : a.eval y = .agg cs.toArray) (hq : q = off + k) (hn : k + cs.length ≤ vs.length) (h1 : ∀ v ∈ cs, v.oneCell' = true)
  (h : ∀ w', Sat W0 w' (seg true b off (setL vs k cs) :: L) → K (a.put o.dst undef) w') : Oper.wp P o a w K Q := by
 obtain ⟨w', hr, hs'⟩ := Sat.run_storeCells (P := P) q k cs 0 vs w hs hq (by simpa using hn) h1
 have hst : (storeVar ty ⟨b, q, none⟩ (.agg cs.toArray)).run P w = .ok () w' := by
  cases hq' : P.info? ty with
  | none => simp [hq'] at hi
  | some i =>
   have hsz : i.size = cs.length := by simpa [hq'] using hi
   simp [storeVar, sizeOf, typeInfo, hq', Value.cells, hsz, hr]
 unfold Oper.wp execOp
 simp only [ho, hx, hy, Instr.storeAt, Instr.sureAddr, Sem.run_bind, Sem.run_pure, Result.andThen_ok, hst]
 exact h w' (by simpa using hs')
end Go.Sep
namespace Go.Proofs.YtpiiklfnakkdiaaGreat
open Go.RowKit Go.Sep Go.Bv Go.Kec Go.Aes Go.Sha
set_option linter.unusedVariables false
set_option linter.unusedSimpArgs false
theorem begin_none {S : Slots} {o : OpC} {c : Int} (h : iAt S o.handle false = (c, none)) : iBegin S o = (S, noA c) := by
 unfold iBegin; rw [h]
theorem begin_some {S : Slots} {o : OpC} {k : List Byte} (h : iAt S o.handle false = (0, some (.key k))) : iBegin S o =
  if o.alg = 3 ∧ ¬ (k.length = 16 ∨ k.length = 24 ∨ k.length = 32) then (S, noA 7)
  else if o.alg < 1 ∨ 7 < o.alg then (S, noA 4)
  else if 0 < o.data.length ∧ o.alg < 4 then (S, noA 2)
  else if 64 < o.data.length then (S, noA 9)
  else if o.out < 1 ∨ (mostA o.alg : Int) < o.out then (S, noA 11)
  else iTake S (.sn (kindA o.alg) o.out.toNat k o.data []) := by
 unfold iBegin; rw [h]; rfl
set_option maxHeartbeats 2000000 in
theorem iKmacNo (w : World) (a : Nat) (h : a < 4 ∨ 7 < a) : Calls Tryz.prog 64 #[.int .u8 (a : Int)] w fun e w' => e = .returned (.tuple #[.bool false, .int .i64 0, .bool false]) ∧ w' = w := by
 have e4 : ((a : Int) == 4) = false := by rw [beq_eq_false_iff_ne]; omega
 have e5 : ((a : Int) == 5) = false := by rw [beq_eq_false_iff_ne]; omega
 have e6 : ((a : Int) == 6) = false := by rw [beq_eq_false_iff_ne]; omega
 have e7 : ((a : Int) == 7) = false := by rw [beq_eq_false_iff_ne]; omega
 clear h
 go_enter Tryz.func64, Tryz.ntmps64
 go_wp2
 exact bodyPost_ret (v := .tuple #[.bool false, .int .i64 0, .bool false]) (by simp [results, Tryz.results64, go_sem]) rfl ⟨rfl, rfl⟩
theorem keepB {W0 w' : World} {L : List Assn} {p k al ou g kl cq cl c3 ml mc ag on dn dc en ec kd : Nat} {kq c2 mq dp ep : Option Addr} {hz ct : Int} (s : Sat W0 w' (segH p k al ou kq kl cq c2 cl c3 mq ml mc :: seg true g 0 [.int .u8 (kd : Int), .int .i64 hz, .int .u8 (ag : Int), .int .i64 ct, .int .i64 (on : Int), .slice dp dn dc, .slice ep en ec] :: L)) :
  w'.cell? ⟨p, 3, none⟩ = some (.slice kq kl cq) ∧ p < w'.heap.size ∧ w'.cell? ⟨g, 2, none⟩ = some (.int .u8 (ag : Int)) ∧ w'.cell? ⟨g, 4, none⟩ = some (.int .i64 (on : Int)) ∧ w'.cell? ⟨g, 5, none⟩ = some (.slice dp dn dc) ∧ g < w'.heap.size :=
 have h : Sat W0 w' (seg true g 0 [.int .u8 (kd : Int), .int .i64 hz, .int .u8 (ag : Int), .int .i64 ct, .int .i64 (on : Int), .slice dp dn dc, .slice ep en ec] :: L) := s.tail
 ⟨s.at 3 rfl, s.lt (by simp), h.at 2 rfl, h.at 4 rfl, h.at 5 rfl, h.lt (by simp)⟩
set_option maxRecDepth 100000 in
set_option maxHeartbeats 32000000 in
theorem iBeginW {W0 w : World} {L : List Assn} {v B : Nat} {md mm : Bool} {dp ep : Option Addr} {dn dc en ec : Nat} (S : Slots) (kd : Nat) (hd : Int) (ag : Nat) (ct ot : Int) (data more : List Byte) (hS : okS B S) (hB : B ≤ 1000000000) (hdn : data.length = dn) (hdb : dn ≤ 1000000000)
  (hs : Sat W0 w (vaultA v S :: bytes md dp data :: bytes mm ep more :: L)) :
  Calls Tryz.prog 42 #[.pointer (some ⟨v, 0, none⟩), .agg #[.int .u8 (kd : Int), .int .i64 hd, .int .u8 (ag : Int), .int .i64 ct, .int .i64 ot, .slice dp dn dc, .slice ep en ec]] w fun e w' => ansP W0 v (iBegin S ⟨kd, hd, ag, ct, ot, data, more⟩) (bytes md dp data :: bytes mm ep more :: L) e w' := by
 obtain ⟨T, rfl, s0⟩ := vOpen hs
 have hT : T.length = 64 := by rw [← namesT_len]; exact hS.1
 have HD := Lib.hid (And.intro hdn hdb); clear hdn hdb
 have HN := Lib.hid (And.intro hS (And.intro hB hT)); clear hS hB hT hs
 have HO := Lib.hid (hOp W0)
 go_enter Tryz.func42, Tryz.ntmps42
 go_wp2_with (first | (refine wpl_box rfl 26 (.tmp 1) rfl [.int .u8 (kd : Int), .int .i64 hd, .int .u8 (ag : Int), .int .i64 ct, .int .i64 ot, .slice dp dn dc, .slice ep en ec] rfl s0 ?_; intro w1 g s1 _; clear s0) | (refine wpl_alloc_agg rfl 35 rfl s1 _ (zero_ans _) ?_; intro w2 ga s2' _; clear s1; have s2 : Sat W0 w2 (seg true g 0 [.int .u8 (kd : Int), .int .i64 hd, .int .u8 (ag : Int), .int .i64 ct, .int .i64 ot, .slice dp dn dc, .slice ep en ec] :: seg true ga 0 ans0 :: seg true v 0 (.bool true :: cellsT T) :: slotsA 0 T :: bytes md dp data :: bytes mm ep more :: L) := (Sat.sub (s2') (by with_reducible repeat first | exact Fr1 | exact Fr2 | (apply Fr3; focus ((repeat (first | exact Tk1 | apply Tk2)); done)) | apply Fr4)); clear s2'; obtain ⟨o0, o1, o2, o3, o4, o5, o6, zo⟩ := HO.out _ _ _ _ _ _ _ _ _ _ s2))
 refine (iAtW T HN.out.2.2 hd false (Sat.sub (s2) (by with_reducible repeat first | exact Fr1 | exact Fr2 | (apply Fr3; focus ((repeat (first | exact Tk1 | apply Tk2)); done)) | apply Fr4))).mono ?_
 rintro e w3 ⟨rfl, ⟨c, hat, hc, rfl⟩ | ⟨p, H, h1, h2, hat, hTp, hal, rfl⟩⟩
 ·have e0 := begin_none (o := ⟨kd, hd, ag, ct, ot, data, more⟩) (c := c) (S := namesT T) hat
  clear hat
  rcases hc with rfl | rfl
  ·have HE := Lib.hid e0; clear e0
   go_wp2_with fail
   refine (iNo 5 s2).mono ?_
   rintro e w4 ⟨rfl, s4⟩
   clear s2 o0 o1 o2 o3 o4 o5 o6 zo
   have sr0 : Sat W0 _ (seg true ga 0 ans0 :: seg true v 0 (.bool true :: cellsT T) :: slotsA 0 T :: bytes md dp data :: bytes mm ep more :: L) := (Sat.sub (s4) (by with_reducible repeat first | exact Fr1 | exact Fr2 | (apply Fr3; focus ((repeat (first | exact Tk1 | apply Tk2)); done)) | apply Fr4))
   go_wp2_with (refine wpl_stAns rfl rfl (.tmp 4) (.tmp 22) rfl sr0 rfl rfl ?_; intro ws ss; clear sr0)
   have hr := ansLd ss
   have HS := Lib.hid ss.tail; clear ss
   refine bodyPost_ret (v := .agg #[.int .i64 5, .int .i64 0, .bool false, .slice none 0 0]) (by simp [results, Tryz.results42, asAddr]; exact hr) rfl ?_
   rw [HE.out]
   exact ansP_no (vShut T rfl HS.out)
  ·have HE := Lib.hid e0; clear e0
   go_wp2_with fail
   refine (iNo 6 s2).mono ?_
   rintro e w4 ⟨rfl, s4⟩
   clear s2 o0 o1 o2 o3 o4 o5 o6 zo
   have sr0 : Sat W0 _ (seg true ga 0 ans0 :: seg true v 0 (.bool true :: cellsT T) :: slotsA 0 T :: bytes md dp data :: bytes mm ep more :: L) := (Sat.sub (s4) (by with_reducible repeat first | exact Fr1 | exact Fr2 | (apply Fr3; focus ((repeat (first | exact Tk1 | apply Tk2)); done)) | apply Fr4))
   go_wp2_with (refine wpl_stAns rfl rfl (.tmp 4) (.tmp 22) rfl sr0 rfl rfl ?_; intro ws ss; clear sr0)
   have hr := ansLd ss
   have HS := Lib.hid ss.tail; clear ss
   refine bodyPost_ret (v := .agg #[.int .i64 6, .int .i64 0, .bool false, .slice none 0 0]) (by simp [results, Tryz.results42, asAddr]; exact hr) rfl ?_
   rw [HE.out]
   exact ansP_no (vShut T rfl HS.out)
 ·have hH : H = .key H.kb := by obtain ⟨k, rfl⟩ := Hold.alg_key hal; rfl
  have e0 := begin_some (o := ⟨kd, hd, ag, ct, ot, data, more⟩) (S := namesT T) (k := H.kb) (by rw [← hH]; exact hat)
  clear hat
  obtain ⟨k, rfl⟩ : ∃ k : Nat, hd = (k : Int) := ⟨hd.toNat, by omega⟩
  rw [Int.toNat_natCast] at hTp
  simp only [Int.toNat_natCast] at e0
  have hkI : (k : Int) < 64 := h2
  have so := slotsOpen k hTp ((Sat.sub (s2) (by with_reducible repeat first | exact Fr1 | exact Fr2 | (apply Fr3; focus ((repeat (first | exact Tk1 | apply Tk2)); done)) | apply Fr4)) : Sat W0 w3 (slotsA 0 T :: seg true g 0 [.int .u8 (kd : Int), .int .i64 (k : Int), .int .u8 (ag : Int), .int .i64 ct, .int .i64 ot, .slice dp dn dc, .slice ep en ec] :: seg true ga 0 ans0 :: seg true v 0 (.bool true :: cellsT T) :: bytes md dp data :: bytes mm ep more :: L))
  obtain ⟨q, hq, so2⟩ := holdOpen so
  obtain ⟨kq, cq, c2, c3, mq, mc⟩ := q
  rw [Nat.zero_add] at so2
  have hok := HN.out.1.2 _ (mem_of_get (namesT_get hTp))
  have hbk : H.kb.length ≤ 1000000000 ∧ H.cb.length ≤ 1000000000 ∧ H.mb.length ≤ 1000000000 := hold_bd hok HN.out.2.1
  obtain ⟨al, hal2⟩ : ∃ al : Nat, al = H.alg := ⟨_, rfl⟩
  obtain ⟨ou, hou⟩ : ∃ ou : Nat, ou = H.out := ⟨_, rfl⟩
  obtain ⟨kl, hkl⟩ : ∃ n, n = H.kb.length := ⟨_, rfl⟩
  obtain ⟨cl, hcl⟩ : ∃ n, n = H.cb.length := ⟨_, rfl⟩
  obtain ⟨ml, hml⟩ : ∃ n, n = H.mb.length := ⟨_, rfl⟩
  have so3 : Sat W0 w3 (seg true p 0 [.int .i64 (k : Int), .int .u8 (H.alg : Int), .int .i64 (H.out : Int), .slice kq H.kb.length cq, .slice c2 H.cb.length c3, .slice mq H.mb.length mc] :: bytes true kq H.kb :: bytes true c2 H.cb :: row mq mc 1 H.mb.length (u8s H.mb) :: slotsA 0 (T.set k none) :: seg true g 0 [.int .u8 (kd : Int), .int .i64 (k : Int), .int .u8 (ag : Int), .int .i64 ct, .int .i64 ot, .slice dp dn dc, .slice ep en ec] :: seg true ga 0 ans0 :: seg true v 0 (.bool true :: cellsT T) :: bytes md dp data :: bytes mm ep more :: L) := so2
  rw [← hal2, ← hou, ← hkl, ← hcl, ← hml] at so3
  obtain ⟨_, hm1, hm2, RW, so4, back⟩ := rowWand ((Sat.sub (so3) (by with_reducible repeat first | exact Fr1 | exact Fr2 | (apply Fr3; focus ((repeat (first | exact Tk1 | apply Tk2)); done)) | apply Fr4)) : Sat W0 w3 (row mq mc 1 ml (u8s H.mb) :: segH p k al ou kq kl cq c2 cl c3 mq ml mc :: bytes true kq H.kb :: bytes true c2 H.cb :: slotsA 0 (T.set k none) :: seg true g 0 [.int .u8 (kd : Int), .int .i64 (k : Int), .int .u8 (ag : Int), .int .i64 ct, .int .i64 ot, .slice dp dn dc, .slice ep en ec] :: seg true ga 0 ans0 :: seg true v 0 (.bool true :: cellsT T) :: bytes md dp data :: bytes mm ep more :: L))
  have s5 : Sat W0 w3 (segH p k al ou kq kl cq c2 cl c3 mq ml mc :: seg true v 0 (.bool true :: cellsT T) :: bytes true kq H.kb :: bytes true c2 H.cb :: bytes true mq H.mb :: RW :: slotsA 0 (T.set k none) :: seg true g 0 [.int .u8 (kd : Int), .int .i64 (k : Int), .int .u8 (ag : Int), .int .i64 ct, .int .i64 ot, .slice dp dn dc, .slice ep en ec] :: seg true ga 0 ans0 :: bytes md dp data :: bytes mm ep more :: L) := (Sat.sub (so4) (by with_reducible repeat first | exact Fr1 | exact Fr2 | (apply Fr3; focus ((repeat (first | exact Tk1 | apply Tk2)); done)) | apply Fr4))
  have hclose : ∀ (w' : World) (L' : List Assn) (T2 : Held), T2[k]? = some none → Sat W0 w' (segH p k al ou kq kl cq c2 cl c3 mq ml mc :: bytes true kq H.kb :: bytes true c2 H.cb :: bytes true mq H.mb :: RW :: slotsA 0 T2 :: L') → Sat W0 w' (slotsA 0 (T2.set k (some (p, H))) :: L') := by
   intro w' L' T2 hT2 h
   have h2 := back _ _ ((Sat.sub (h) (by with_reducible repeat first | exact Fr1 | exact Fr2 | (apply Fr3; focus ((repeat (first | exact Tk1 | apply Tk2)); done)) | apply Fr4)) : Sat W0 w' (bytes true mq H.mb :: RW :: segH p k al ou kq kl cq c2 cl c3 mq ml mc :: bytes true kq H.kb :: bytes true c2 H.cb :: slotsA 0 T2 :: L'))
   rw [hal2, hou, hkl, hcl, hml] at h2
   have h3 : Sat W0 w' (holdL p (0 + k) H ⟨kq, cq, c2, c3, mq, mc⟩ (slotsA 0 T2 :: L')) := by
    rw [Nat.zero_add]
    have h4 : Sat W0 w' (seg true p 0 [.int .i64 (k : Int), .int .u8 (H.alg : Int), .int .i64 (H.out : Int), .slice kq H.kb.length cq, .slice c2 H.cb.length c3, .slice mq H.mb.length mc] :: bytes true kq H.kb :: bytes true c2 H.cb :: row mq mc 1 H.mb.length (u8s H.mb) :: slotsA 0 T2 :: L') := (Sat.sub (h2) (by with_reducible repeat first | exact Fr1 | exact Fr2 | (apply Fr3; focus ((repeat (first | exact Tk1 | apply Tk2)); done)) | apply Fr4))
    exact h4
   exact slotsShut k hT2 (holdShut _ hq h3)
  have hno : ∀ (w' : World) (c : Int), Sat W0 w' (seg true v 0 (.bool true :: cellsT T) :: segH p k al ou kq kl cq c2 cl c3 mq ml mc :: bytes true kq H.kb :: bytes true c2 H.cb :: bytes true mq H.mb :: RW :: slotsA 0 (T.set k none) :: bytes md dp data :: bytes mm ep more :: L) → ansP W0 v (namesT T, noA c) (bytes md dp data :: bytes mm ep more :: L) (.returned (.agg #[.int .i64 c, .int .i64 0, .bool false, .slice none 0 0])) w' := by
   intro w' c s8
   have s9 := hclose _ _ _ (by rw [List.getElem?_set_self (List.getElem?_eq_some_iff.1 hTp).1]) ((Sat.sub (s8) (by with_reducible repeat first | exact Fr1 | exact Fr2 | (apply Fr3; focus ((repeat (first | exact Tk1 | apply Tk2)); done)) | apply Fr4)) : Sat W0 w' (segH p k al ou kq kl cq c2 cl c3 mq ml mc :: bytes true kq H.kb :: bytes true c2 H.cb :: bytes true mq H.mb :: RW :: slotsA 0 (T.set k none) :: seg true v 0 (.bool true :: cellsT T) :: bytes md dp data :: bytes mm ep more :: L))
   rw [setBack hTp] at s9
   exact ansP_no (vShut T rfl (s9.pull 1 |>.sub (.cons .here (.cons .here .done))))
  have HNO := Lib.hid hno; clear hno
  have htk := fun (w : World) (X : List Assn) (s : Sat W0 w (seg true v 0 (.bool true :: cellsT T) :: slotsA 0 (T.set k none) :: bytes true kq H.kb :: bytes true c2 H.cb :: bytes true mq H.mb :: X)) => iTakeW (v := v) (ck := cq) (cc := c3) (cm := mc) T (T.set k none) H (k : Int) HN.out.2.2 (setTT T k) hkl.symm hcl.symm hml.symm (by rw [hkl]; exact hbk.1) (by rw [hcl]; exact hbk.2.1) (by rw [hml]; exact hbk.2.2) s
  rw [← hal2, ← hou] at htk
  have hcln := fun (w : World) (X : List Assn) (s : Sat W0 w (bytes true kq H.kb :: X)) => bClone (cap := cq) H.kb hkl.symm (by have := hbk.1; omega) s
  have HKL := Lib.hid (show kl ≤ 1000000000 by rw [hkl]; exact hbk.1)
  have HT := Lib.hid (And.intro hTp (And.intro hclose (And.intro htk (And.intro hcln hkl)))); clear hTp hclose htk hcln hkl hcl hml hal2 hou hbk hok hq so so2 so3 so4 back hm1 hm2 hal h1 h2 s2
  have cp0 := s5.at 0 rfl
  have cp1 := s5.at 1 rfl
  have cp2 := s5.at 2 rfl
  have cp3 := s5.at 3 rfl
  have cp4 := s5.at 4 rfl
  have cp5 := s5.at 5 rfl
  have zp := s5.lt (by simp)
  rw [← HT.out.2.2.2.2, HD.out.1] at e0
  have HH := Lib.hid hH; clear hH
  rcases (by omega : ag = 1 ∨ ag = 2 ∨ ag = 3 ∨ (4 ≤ ag ∧ ag ≤ 7) ∨ (ag < 1 ∨ 7 < ag)) with hg | hg | hg | hg | hg
  ·have e1 : ((ag : Int) == 1) = true := by rw [beq_iff_eq]; omega
   have l1 : ¬ (ag : Int) < 1 := by omega
   have l7 : ¬ (7 : Int) < (ag : Int) := by omega
   have hkm := fun w => iKmacNo w ag (by omega)
   have hmo : (mostA ag : Int) = 32 := by unfold mostA; split <;> (try split) <;> omega
   rw [hmo] at e0
   clear hmo
   rw [if_neg (by omega), if_neg (by omega)] at e0
   have hgb : 1 ≤ ag ∧ ag < 4 := by omega
   clear hg
   by_cases hd0 : 0 < dn
   ·have hdI : (0 : Int) < (dn : Int) := by omega
    rw [if_pos ⟨hd0, by omega⟩] at e0
    have HE := Lib.hid e0; clear e0
    go_wp2_with fail
    refine (hkm _).mono ?_
    rintro e w4 ⟨rfl, rfl⟩
    go_wp2_with fail
    refine (iNo 2 s5).mono ?_
    rintro e w4 ⟨rfl, s4⟩
    clear s5
    clear o0 o1 o2 o3 o4 o5 o6 zo cp0 cp1 cp2 cp3 cp4 cp5 zp
    have sr0 : Sat W0 _ (seg true ga 0 ans0 :: seg true v 0 (.bool true :: cellsT T) :: segH p k al ou kq kl cq c2 cl c3 mq ml mc :: bytes true kq H.kb :: bytes true c2 H.cb :: bytes true mq H.mb :: RW :: slotsA 0 (T.set k none) :: bytes md dp data :: bytes mm ep more :: L) := (Sat.sub (s4) (by with_reducible repeat first | exact Fr1 | exact Fr2 | (apply Fr3; focus ((repeat (first | exact Tk1 | apply Tk2)); done)) | apply Fr4))
    go_wp2_with (refine wpl_stAns rfl rfl (.tmp 4) (.tmp 71) rfl sr0 rfl rfl ?_; intro ws ss; clear sr0)
    have hr := ansLd ss
    have HS := Lib.hid ss.tail; clear ss
    refine bodyPost_ret (v := .agg #[.int .i64 2, .int .i64 0, .bool false, .slice none 0 0]) (by simp [results, Tryz.results42, asAddr]; exact hr) rfl ?_
    rw [HE.out]
    exact HNO.out _ _ HS.out
   ·have hdI : ¬ (0 : Int) < (dn : Int) := by omega
    have hdJ : ¬ (64 : Int) < (dn : Int) := by omega
    rw [if_neg (by omega), if_neg (by omega)] at e0
    by_cases ho1 : ot < 1
    ·rw [if_pos (.inl ho1)] at e0
     have HE := Lib.hid e0; clear e0
     go_wp2_with fail
     refine (hkm _).mono ?_
     rintro e w4 ⟨rfl, rfl⟩
     go_wp2_with fail
     refine (iNo 11 s5).mono ?_
     rintro e w4 ⟨rfl, s4⟩
     clear s5
     clear o0 o1 o2 o3 o4 o5 o6 zo cp0 cp1 cp2 cp3 cp4 cp5 zp
     have sr0 : Sat W0 _ (seg true ga 0 ans0 :: seg true v 0 (.bool true :: cellsT T) :: segH p k al ou kq kl cq c2 cl c3 mq ml mc :: bytes true kq H.kb :: bytes true c2 H.cb :: bytes true mq H.mb :: RW :: slotsA 0 (T.set k none) :: bytes md dp data :: bytes mm ep more :: L) := (Sat.sub (s4) (by with_reducible repeat first | exact Fr1 | exact Fr2 | (apply Fr3; focus ((repeat (first | exact Tk1 | apply Tk2)); done)) | apply Fr4))
     go_wp2_with (refine wpl_stAns rfl rfl (.tmp 4) (.tmp 88) rfl sr0 rfl rfl ?_; intro ws ss; clear sr0)
     have hr := ansLd ss
     have HS := Lib.hid ss.tail; clear ss
     refine bodyPost_ret (v := .agg #[.int .i64 11, .int .i64 0, .bool false, .slice none 0 0]) (by simp [results, Tryz.results42, asAddr]; exact hr) rfl ?_
     rw [HE.out]
     exact HNO.out _ _ HS.out
    ·by_cases ho2 : 32 < ot
     ·rw [if_pos (.inr ho2)] at e0
      have HE := Lib.hid e0; clear e0
      go_wp2_with fail
      refine (hkm _).mono ?_
      rintro e w4 ⟨rfl, rfl⟩
      go_wp2_with fail
      refine (iNo 11 s5).mono ?_
      rintro e w4 ⟨rfl, s4⟩
      clear s5
      clear o0 o1 o2 o3 o4 o5 o6 zo cp0 cp1 cp2 cp3 cp4 cp5 zp
      have sr0 : Sat W0 _ (seg true ga 0 ans0 :: seg true v 0 (.bool true :: cellsT T) :: segH p k al ou kq kl cq c2 cl c3 mq ml mc :: bytes true kq H.kb :: bytes true c2 H.cb :: bytes true mq H.mb :: RW :: slotsA 0 (T.set k none) :: bytes md dp data :: bytes mm ep more :: L) := (Sat.sub (s4) (by with_reducible repeat first | exact Fr1 | exact Fr2 | (apply Fr3; focus ((repeat (first | exact Tk1 | apply Tk2)); done)) | apply Fr4))
      go_wp2_with (refine wpl_stAns rfl rfl (.tmp 4) (.tmp 88) rfl sr0 rfl rfl ?_; intro ws ss; clear sr0)
      have hr := ansLd ss
      have HS := Lib.hid ss.tail; clear ss
      refine bodyPost_ret (v := .agg #[.int .i64 11, .int .i64 0, .bool false, .slice none 0 0]) (by simp [results, Tryz.results42, asAddr]; exact hr) rfl ?_
      rw [HE.out]
      exact HNO.out _ _ HS.out
     ·rw [if_neg (by rintro (h | h); exact ho1 h; exact ho2 h)] at e0
      obtain ⟨on, rfl⟩ : ∃ on : Nat, ot = (on : Int) := ⟨ot.toNat, by omega⟩
      rw [Int.toNat_natCast] at e0
      have htk2 := fun (w : World) (X : List Assn) (s : Sat W0 w (seg true v 0 (.bool true :: cellsT T) :: slotsA 0 (T.set k none) :: bytes true kq H.kb :: bytes md dp data :: bytes true none [] :: X)) => iTakeW (v := v) (ck := cq) (cc := dc) (cm := 0) T (T.set k none) (.sn (kindA ag) on H.kb data []) 0 HN.out.2.2 (setTT T k) HT.out.2.2.2.2.symm HD.out.1 rfl HKL.out HD.out.2 (Nat.zero_le _) s
      rw [show (Hold.sn (kindA ag) on H.kb data []).alg = ag from kindA_alg ag (by omega) (by omega)] at htk2
      have HTK := Lib.hid htk2; clear htk2
      have HE := Lib.hid e0; clear e0
      go_wp2_with fail
      refine (hkm _).mono ?_
      rintro e w4 ⟨rfl, rfl⟩
      go_wp2_with fail
      have s5d := s5.drew
      have hs5 := keepB ((Sat.sub (s5d) (by with_reducible repeat first | exact Fr1 | exact Fr2 | (apply Fr3; focus ((repeat (first | exact Tk1 | apply Tk2)); done)) | apply Fr4)) : Sat W0 w4.drew (segH p k al ou kq kl cq c2 cl c3 mq ml mc :: seg true g 0 [.int .u8 (kd : Int), .int .i64 (k : Int), .int .u8 (ag : Int), .int .i64 ct, .int .i64 (on : Int), .slice dp dn dc, .slice ep en ec] :: []))
      clear o0 o1 o2 o3 o4 o5 o6 zo cp0 cp1 cp2 cp3 cp4 cp5 zp
      refine region_E (fun w' => w'.cell? ⟨p, 3, none⟩ = some (.slice kq kl cq) ∧ p < w'.heap.size ∧ w'.cell? ⟨g, 2, none⟩ = some (.int .u8 (ag : Int)) ∧ w'.cell? ⟨g, 4, none⟩ = some (.int .i64 (on : Int)) ∧ w'.cell? ⟨g, 5, none⟩ = some (.slice dp dn dc) ∧ g < w'.heap.size) [2, 4, 8, 10] (by kernel_rfl) ?_
      have hHeld := hs5
      iterate 12
       first | refine autoT hHeld (by rfl) (by rfl) (x := ?_) (v := ?_) ?_ (by kernel_rfl) ?_ ?_ ?_ | refine autoP (by rfl) (x := ?_) (v := ?_) ?_ (by kernel_rfl) ?_ ?_ ?_
       rotate_left 2
       ·(simp only [gE1, gE2, gE3]; rfl)
       ·exact fun _ _ _ h => h
       ·refine Or.inl ⟨by rfl, fun w hSw => ?_⟩
        (try dsimp only at hSw)
        go_simp
        try (with_reducible rfl)
       try simp only [pA1, pA2, pA3, pA4]
      refine anyE_one (i := 12) (x := ?_) ?_ (by kernel_rfl) (fun K hK => ?_)
      rotate_left
      ·(simp only [gE1, gE2, gE3]; rfl)
      go_simp
      refine (HTK.out _ (bytes true c2 H.cb :: segH p k al ou kq kl cq c2 cl c3 mq ml mc :: bytes true mq H.mb :: RW :: seg true ga 0 ans0 :: seg true g 0 [.int .u8 (kd : Int), .int .i64 (k : Int), .int .u8 (ag : Int), .int .i64 ct, .int .i64 (on : Int), .slice dp dn dc, .slice ep en ec] :: bytes mm ep more :: L) (by have h1 := bytesNil true none s5d; exact (Sat.sub (h1) (by with_reducible repeat first | exact Fr1 | exact Fr2 | (apply Fr3; focus ((repeat (first | exact Tk1 | apply Tk2)); done)) | apply Fr4)))).mono ?_
      rintro e w6 (⟨i, p2, hin', hit', rfl, s6⟩ | ⟨hit', rfl, s6⟩)
      ·have hin := Lib.hid hin'; clear hin'
       have hit := Lib.hid hit'; clear hit'
       have s6b : Sat W0 w6 (seg true v 0 (.bool true :: cellsT (T.set i (some (p2, (.sn (kindA ag) on H.kb data []))))) :: slotsA 0 ((T.set k none).set i (some (p2, (.sn (kindA ag) on H.kb data [])))) :: bytes true kq H.kb :: bytes md dp data :: bytes true none [] :: bytes true c2 H.cb :: segH p k al ou kq kl cq c2 cl c3 mq ml mc :: bytes true mq H.mb :: RW :: seg true ga 0 ans0 :: seg true g 0 [.int .u8 (kd : Int), .int .i64 (k : Int), .int .u8 (ag : Int), .int .i64 ct, .int .i64 (on : Int), .slice dp dn dc, .slice ep en ec] :: bytes mm ep more :: L) := s6
       have hk6 := keepB ((Sat.sub (s6b) (by with_reducible repeat first | exact Fr1 | exact Fr2 | (apply Fr3; focus ((repeat (first | exact Tk1 | apply Tk2)); done)) | apply Fr4)) : Sat W0 w6 (segH p k al ou kq kl cq c2 cl c3 mq ml mc :: seg true g 0 [.int .u8 (kd : Int), .int .i64 (k : Int), .int .u8 (ag : Int), .int .i64 ct, .int .i64 (on : Int), .slice dp dn dc, .slice ep en ec] :: []))
       go_wp2_with fail
       refine hK.out _ _ hk6 ?_
       clear hK K s5 s5d hHeld
       have hHeld := hk6
       try simp only [pA1, pA2, pA3, pA4]
       refine anyE_last (i := 13) (x := ?_) ?_ (by kernel_rfl) (by kernel_rfl) (fun K hK => ?_)
       rotate_left
       ·(simp only [gE1, gE2, gE3]; rfl)
       rw [if_pos (by rfl)]
       refine op_store_agg 35 (.tmp 4) (.tmp 101) rfl (cs := [.int .i64 0, .int .i64 (i : Int), .bool false, .slice none 0 0]) ((Sat.sub (s6b) (by with_reducible repeat first | exact Fr1 | exact Fr2 | (apply Fr3; focus ((repeat (first | exact Tk1 | apply Tk2)); done)) | apply Fr4)) : Sat W0 w6 (seg true ga 0 ans0 :: seg true v 0 (.bool true :: cellsT (T.set i (some (p2, (.sn (kindA ag) on H.kb data []))))) :: segH p k al ou kq kl cq c2 cl c3 mq ml mc :: bytes true kq H.kb :: bytes true c2 H.cb :: bytes true mq H.mb :: RW :: slotsA 0 ((T.set k none).set i (some (p2, (.sn (kindA ag) on H.kb data [])))) :: bytes md dp data :: bytes mm ep more :: L)) 0 0 Tryz.size_ans rfl rfl rfl (Nat.le_refl 4) (ans_one _ _ _ _ _ _) ?_
       intro ws ss
       rw [setL_all _ _ (by rfl)] at ss
       clear s6
       refine hK.out _ _ ?_
       clear hK
       try simp only [pA1, pA2, pA3, pA4]
       refine anyE_done (by kernel_rfl) ?_ _
       have hr := run_loadVar_agg (P := Tryz.prog) (ty := 35) Tryz.underlying35 rfl Tryz.size_ans ss 0 0 rfl (Nat.le_refl 4)
       have hr2 : Sem.run Tryz.prog (loadVar 35 ⟨ga, 0, none⟩) ws = Result.ok (.agg #[.int .i64 0, .int .i64 (i : Int), .bool false, .slice none 0 0]) ws := hr
       have HS := Lib.hid ss.tail; clear ss hr
       go_wp2_with fail
       refine bodyPost_ret (v := .agg #[.int .i64 0, .int .i64 (i : Int), .bool false, .slice none 0 0]) (by simp [results, Tryz.results42, asAddr]; exact hr2) rfl ?_
       rw [HE.out, hit.out]
       have s8 := HS.out
       have hb := takeBack (p2 := p2) (H2 := (.sn (kindA ag) on H.kb data [])) HT.out.1 hin.out
       have s9 := HT.out.2.1 _ _ _ hb.1 ((Sat.sub (s8) (by with_reducible repeat first | exact Fr1 | exact Fr2 | (apply Fr3; focus ((repeat (first | exact Tk1 | apply Tk2)); done)) | apply Fr4)) : Sat W0 ws (segH p k al ou kq kl cq c2 cl c3 mq ml mc :: bytes true kq H.kb :: bytes true c2 H.cb :: bytes true mq H.mb :: RW :: slotsA 0 ((T.set k none).set i (some (p2, (.sn (kindA ag) on H.kb data [])))) :: seg true v 0 (.bool true :: cellsT (T.set i (some (p2, (.sn (kindA ag) on H.kb data []))))) :: bytes md dp data :: bytes mm ep more :: L))
       rw [hb.2] at s9
       exact ansP_h (vShut (T.set i (some (p2, (.sn (kindA ag) on H.kb data [])))) (namesT_set _ _ _) (s9.pull 1 |>.sub (.cons .here (.cons .here .done))))
      ·have hit := Lib.hid hit'; clear hit'
       have s6b : Sat W0 w6 (seg true v 0 (.bool true :: cellsT T) :: slotsA 0 (T.set k none) :: bytes true kq H.kb :: bytes md dp data :: bytes true none [] :: bytes true c2 H.cb :: segH p k al ou kq kl cq c2 cl c3 mq ml mc :: bytes true mq H.mb :: RW :: seg true ga 0 ans0 :: seg true g 0 [.int .u8 (kd : Int), .int .i64 (k : Int), .int .u8 (ag : Int), .int .i64 ct, .int .i64 (on : Int), .slice dp dn dc, .slice ep en ec] :: bytes mm ep more :: L) := s6
       have hk6 := keepB ((Sat.sub (s6b) (by with_reducible repeat first | exact Fr1 | exact Fr2 | (apply Fr3; focus ((repeat (first | exact Tk1 | apply Tk2)); done)) | apply Fr4)) : Sat W0 w6 (segH p k al ou kq kl cq c2 cl c3 mq ml mc :: seg true g 0 [.int .u8 (kd : Int), .int .i64 (k : Int), .int .u8 (ag : Int), .int .i64 ct, .int .i64 (on : Int), .slice dp dn dc, .slice ep en ec] :: []))
       go_wp2_with fail
       refine hK.out _ _ hk6 ?_
       clear hK K s5 s5d hHeld
       have hHeld := hk6
       try simp only [pA1, pA2, pA3, pA4]
       refine anyE_last (i := 13) (x := ?_) ?_ (by kernel_rfl) (by kernel_rfl) (fun K hK => ?_)
       rotate_left
       ·(simp only [gE1, gE2, gE3]; rfl)
       rw [if_pos (by rfl)]
       refine op_store_agg 35 (.tmp 4) (.tmp 101) rfl (cs := [.int .i64 8, .int .i64 0, .bool false, .slice none 0 0]) ((Sat.sub (s6b) (by with_reducible repeat first | exact Fr1 | exact Fr2 | (apply Fr3; focus ((repeat (first | exact Tk1 | apply Tk2)); done)) | apply Fr4)) : Sat W0 w6 (seg true ga 0 ans0 :: seg true v 0 (.bool true :: cellsT T) :: segH p k al ou kq kl cq c2 cl c3 mq ml mc :: bytes true kq H.kb :: bytes true c2 H.cb :: bytes true mq H.mb :: RW :: slotsA 0 (T.set k none) :: bytes md dp data :: bytes mm ep more :: L)) 0 0 Tryz.size_ans rfl rfl rfl (Nat.le_refl 4) (ans_one _ _ _ _ _ _) ?_
       intro ws ss
       rw [setL_all _ _ (by rfl)] at ss
       clear s6
       refine hK.out _ _ ?_
       clear hK
       try simp only [pA1, pA2, pA3, pA4]
       refine anyE_done (by kernel_rfl) ?_ _
       have hr := run_loadVar_agg (P := Tryz.prog) (ty := 35) Tryz.underlying35 rfl Tryz.size_ans ss 0 0 rfl (Nat.le_refl 4)
       have hr2 : Sem.run Tryz.prog (loadVar 35 ⟨ga, 0, none⟩) ws = Result.ok (.agg #[.int .i64 8, .int .i64 0, .bool false, .slice none 0 0]) ws := hr
       have HS := Lib.hid ss.tail; clear ss hr
       go_wp2_with fail
       refine bodyPost_ret (v := .agg #[.int .i64 8, .int .i64 0, .bool false, .slice none 0 0]) (by simp [results, Tryz.results42, asAddr]; exact hr2) rfl ?_
       rw [HE.out, hit.out]
       exact HNO.out _ _ HS.out
  ·have e1 : ((ag : Int) == 1) = false := by rw [beq_eq_false_iff_ne]; omega
   have e3 : ((ag : Int) == 3) = false := by rw [beq_eq_false_iff_ne]; omega
   have l1 : ¬ (ag : Int) < 1 := by omega
   have l7 : ¬ (7 : Int) < (ag : Int) := by omega
   have hkm := fun w => iKmacNo w ag (by omega)
   have hmo : (mostA ag : Int) = 64 := by unfold mostA; split <;> (try split) <;> omega
   rw [hmo] at e0
   clear hmo
   rw [if_neg (by omega), if_neg (by omega)] at e0
   have hgb : 1 ≤ ag ∧ ag < 4 := by omega
   clear hg
   by_cases hd0 : 0 < dn
   ·have hdI : (0 : Int) < (dn : Int) := by omega
    rw [if_pos ⟨hd0, by omega⟩] at e0
    have HE := Lib.hid e0; clear e0
    go_wp2_with fail
    refine (hkm _).mono ?_
    rintro e w4 ⟨rfl, rfl⟩
    go_wp2_with fail
    refine (iNo 2 s5).mono ?_
    rintro e w4 ⟨rfl, s4⟩
    clear s5
    clear o0 o1 o2 o3 o4 o5 o6 zo cp0 cp1 cp2 cp3 cp4 cp5 zp
    have sr0 : Sat W0 _ (seg true ga 0 ans0 :: seg true v 0 (.bool true :: cellsT T) :: segH p k al ou kq kl cq c2 cl c3 mq ml mc :: bytes true kq H.kb :: bytes true c2 H.cb :: bytes true mq H.mb :: RW :: slotsA 0 (T.set k none) :: bytes md dp data :: bytes mm ep more :: L) := (Sat.sub (s4) (by with_reducible repeat first | exact Fr1 | exact Fr2 | (apply Fr3; focus ((repeat (first | exact Tk1 | apply Tk2)); done)) | apply Fr4))
    go_wp2_with (refine wpl_stAns rfl rfl (.tmp 4) (.tmp 71) rfl sr0 rfl rfl ?_; intro ws ss; clear sr0)
    have hr := ansLd ss
    have HS := Lib.hid ss.tail; clear ss
    refine bodyPost_ret (v := .agg #[.int .i64 2, .int .i64 0, .bool false, .slice none 0 0]) (by simp [results, Tryz.results42, asAddr]; exact hr) rfl ?_
    rw [HE.out]
    exact HNO.out _ _ HS.out
   ·have hdI : ¬ (0 : Int) < (dn : Int) := by omega
    have hdJ : ¬ (64 : Int) < (dn : Int) := by omega
    rw [if_neg (by omega), if_neg (by omega)] at e0
    by_cases ho1 : ot < 1
    ·rw [if_pos (.inl ho1)] at e0
     have HE := Lib.hid e0; clear e0
     go_wp2_with fail
     refine (hkm _).mono ?_
     rintro e w4 ⟨rfl, rfl⟩
     go_wp2_with fail
     refine (iNo 11 s5).mono ?_
     rintro e w4 ⟨rfl, s4⟩
     clear s5
     clear o0 o1 o2 o3 o4 o5 o6 zo cp0 cp1 cp2 cp3 cp4 cp5 zp
     have sr0 : Sat W0 _ (seg true ga 0 ans0 :: seg true v 0 (.bool true :: cellsT T) :: segH p k al ou kq kl cq c2 cl c3 mq ml mc :: bytes true kq H.kb :: bytes true c2 H.cb :: bytes true mq H.mb :: RW :: slotsA 0 (T.set k none) :: bytes md dp data :: bytes mm ep more :: L) := (Sat.sub (s4) (by with_reducible repeat first | exact Fr1 | exact Fr2 | (apply Fr3; focus ((repeat (first | exact Tk1 | apply Tk2)); done)) | apply Fr4))
     go_wp2_with (refine wpl_stAns rfl rfl (.tmp 4) (.tmp 88) rfl sr0 rfl rfl ?_; intro ws ss; clear sr0)
     have hr := ansLd ss
     have HS := Lib.hid ss.tail; clear ss
     refine bodyPost_ret (v := .agg #[.int .i64 11, .int .i64 0, .bool false, .slice none 0 0]) (by simp [results, Tryz.results42, asAddr]; exact hr) rfl ?_
     rw [HE.out]
     exact HNO.out _ _ HS.out
    ·by_cases ho2 : 64 < ot
     ·rw [if_pos (.inr ho2)] at e0
      have HE := Lib.hid e0; clear e0
      go_wp2_with fail
      refine (hkm _).mono ?_
      rintro e w4 ⟨rfl, rfl⟩
      go_wp2_with fail
      refine (iNo 11 s5).mono ?_
      rintro e w4 ⟨rfl, s4⟩
      clear s5
      clear o0 o1 o2 o3 o4 o5 o6 zo cp0 cp1 cp2 cp3 cp4 cp5 zp
      have sr0 : Sat W0 _ (seg true ga 0 ans0 :: seg true v 0 (.bool true :: cellsT T) :: segH p k al ou kq kl cq c2 cl c3 mq ml mc :: bytes true kq H.kb :: bytes true c2 H.cb :: bytes true mq H.mb :: RW :: slotsA 0 (T.set k none) :: bytes md dp data :: bytes mm ep more :: L) := (Sat.sub (s4) (by with_reducible repeat first | exact Fr1 | exact Fr2 | (apply Fr3; focus ((repeat (first | exact Tk1 | apply Tk2)); done)) | apply Fr4))
      go_wp2_with (refine wpl_stAns rfl rfl (.tmp 4) (.tmp 88) rfl sr0 rfl rfl ?_; intro ws ss; clear sr0)
      have hr := ansLd ss
      have HS := Lib.hid ss.tail; clear ss
      refine bodyPost_ret (v := .agg #[.int .i64 11, .int .i64 0, .bool false, .slice none 0 0]) (by simp [results, Tryz.results42, asAddr]; exact hr) rfl ?_
      rw [HE.out]
      exact HNO.out _ _ HS.out
     ·rw [if_neg (by rintro (h | h); exact ho1 h; exact ho2 h)] at e0
      obtain ⟨on, rfl⟩ : ∃ on : Nat, ot = (on : Int) := ⟨ot.toNat, by omega⟩
      rw [Int.toNat_natCast] at e0
      have htk2 := fun (w : World) (X : List Assn) (s : Sat W0 w (seg true v 0 (.bool true :: cellsT T) :: slotsA 0 (T.set k none) :: bytes true kq H.kb :: bytes md dp data :: bytes true none [] :: X)) => iTakeW (v := v) (ck := cq) (cc := dc) (cm := 0) T (T.set k none) (.sn (kindA ag) on H.kb data []) 0 HN.out.2.2 (setTT T k) HT.out.2.2.2.2.symm HD.out.1 rfl HKL.out HD.out.2 (Nat.zero_le _) s
      rw [show (Hold.sn (kindA ag) on H.kb data []).alg = ag from kindA_alg ag (by omega) (by omega)] at htk2
      have HTK := Lib.hid htk2; clear htk2
      have HE := Lib.hid e0; clear e0
      go_wp2_with fail
      refine (hkm _).mono ?_
      rintro e w4 ⟨rfl, rfl⟩
      go_wp2_with fail
      have s5d := s5.drew
      have hs5 := keepB ((Sat.sub (s5d) (by with_reducible repeat first | exact Fr1 | exact Fr2 | (apply Fr3; focus ((repeat (first | exact Tk1 | apply Tk2)); done)) | apply Fr4)) : Sat W0 w4.drew (segH p k al ou kq kl cq c2 cl c3 mq ml mc :: seg true g 0 [.int .u8 (kd : Int), .int .i64 (k : Int), .int .u8 (ag : Int), .int .i64 ct, .int .i64 (on : Int), .slice dp dn dc, .slice ep en ec] :: []))
      clear o0 o1 o2 o3 o4 o5 o6 zo cp0 cp1 cp2 cp3 cp4 cp5 zp
      refine region_E (fun w' => w'.cell? ⟨p, 3, none⟩ = some (.slice kq kl cq) ∧ p < w'.heap.size ∧ w'.cell? ⟨g, 2, none⟩ = some (.int .u8 (ag : Int)) ∧ w'.cell? ⟨g, 4, none⟩ = some (.int .i64 (on : Int)) ∧ w'.cell? ⟨g, 5, none⟩ = some (.slice dp dn dc) ∧ g < w'.heap.size) [2, 4, 8, 10] (by kernel_rfl) ?_
      have hHeld := hs5
      iterate 12
       first | refine autoT hHeld (by rfl) (by rfl) (x := ?_) (v := ?_) ?_ (by kernel_rfl) ?_ ?_ ?_ | refine autoP (by rfl) (x := ?_) (v := ?_) ?_ (by kernel_rfl) ?_ ?_ ?_
       rotate_left 2
       ·(simp only [gE1, gE2, gE3]; rfl)
       ·exact fun _ _ _ h => h
       ·refine Or.inl ⟨by rfl, fun w hSw => ?_⟩
        (try dsimp only at hSw)
        go_simp
        try (with_reducible rfl)
       try simp only [pA1, pA2, pA3, pA4]
      refine anyE_one (i := 12) (x := ?_) ?_ (by kernel_rfl) (fun K hK => ?_)
      rotate_left
      ·(simp only [gE1, gE2, gE3]; rfl)
      go_simp
      refine (HTK.out _ (bytes true c2 H.cb :: segH p k al ou kq kl cq c2 cl c3 mq ml mc :: bytes true mq H.mb :: RW :: seg true ga 0 ans0 :: seg true g 0 [.int .u8 (kd : Int), .int .i64 (k : Int), .int .u8 (ag : Int), .int .i64 ct, .int .i64 (on : Int), .slice dp dn dc, .slice ep en ec] :: bytes mm ep more :: L) (by have h1 := bytesNil true none s5d; exact (Sat.sub (h1) (by with_reducible repeat first | exact Fr1 | exact Fr2 | (apply Fr3; focus ((repeat (first | exact Tk1 | apply Tk2)); done)) | apply Fr4)))).mono ?_
      rintro e w6 (⟨i, p2, hin', hit', rfl, s6⟩ | ⟨hit', rfl, s6⟩)
      ·have hin := Lib.hid hin'; clear hin'
       have hit := Lib.hid hit'; clear hit'
       have s6b : Sat W0 w6 (seg true v 0 (.bool true :: cellsT (T.set i (some (p2, (.sn (kindA ag) on H.kb data []))))) :: slotsA 0 ((T.set k none).set i (some (p2, (.sn (kindA ag) on H.kb data [])))) :: bytes true kq H.kb :: bytes md dp data :: bytes true none [] :: bytes true c2 H.cb :: segH p k al ou kq kl cq c2 cl c3 mq ml mc :: bytes true mq H.mb :: RW :: seg true ga 0 ans0 :: seg true g 0 [.int .u8 (kd : Int), .int .i64 (k : Int), .int .u8 (ag : Int), .int .i64 ct, .int .i64 (on : Int), .slice dp dn dc, .slice ep en ec] :: bytes mm ep more :: L) := s6
       have hk6 := keepB ((Sat.sub (s6b) (by with_reducible repeat first | exact Fr1 | exact Fr2 | (apply Fr3; focus ((repeat (first | exact Tk1 | apply Tk2)); done)) | apply Fr4)) : Sat W0 w6 (segH p k al ou kq kl cq c2 cl c3 mq ml mc :: seg true g 0 [.int .u8 (kd : Int), .int .i64 (k : Int), .int .u8 (ag : Int), .int .i64 ct, .int .i64 (on : Int), .slice dp dn dc, .slice ep en ec] :: []))
       go_wp2_with fail
       refine hK.out _ _ hk6 ?_
       clear hK K s5 s5d hHeld
       have hHeld := hk6
       try simp only [pA1, pA2, pA3, pA4]
       refine anyE_last (i := 13) (x := ?_) ?_ (by kernel_rfl) (by kernel_rfl) (fun K hK => ?_)
       rotate_left
       ·(simp only [gE1, gE2, gE3]; rfl)
       rw [if_pos (by rfl)]
       refine op_store_agg 35 (.tmp 4) (.tmp 101) rfl (cs := [.int .i64 0, .int .i64 (i : Int), .bool false, .slice none 0 0]) ((Sat.sub (s6b) (by with_reducible repeat first | exact Fr1 | exact Fr2 | (apply Fr3; focus ((repeat (first | exact Tk1 | apply Tk2)); done)) | apply Fr4)) : Sat W0 w6 (seg true ga 0 ans0 :: seg true v 0 (.bool true :: cellsT (T.set i (some (p2, (.sn (kindA ag) on H.kb data []))))) :: segH p k al ou kq kl cq c2 cl c3 mq ml mc :: bytes true kq H.kb :: bytes true c2 H.cb :: bytes true mq H.mb :: RW :: slotsA 0 ((T.set k none).set i (some (p2, (.sn (kindA ag) on H.kb data [])))) :: bytes md dp data :: bytes mm ep more :: L)) 0 0 Tryz.size_ans rfl rfl rfl (Nat.le_refl 4) (ans_one _ _ _ _ _ _) ?_
       intro ws ss
       rw [setL_all _ _ (by rfl)] at ss
       clear s6
       refine hK.out _ _ ?_
       clear hK
       try simp only [pA1, pA2, pA3, pA4]
       refine anyE_done (by kernel_rfl) ?_ _
       have hr := run_loadVar_agg (P := Tryz.prog) (ty := 35) Tryz.underlying35 rfl Tryz.size_ans ss 0 0 rfl (Nat.le_refl 4)
       have hr2 : Sem.run Tryz.prog (loadVar 35 ⟨ga, 0, none⟩) ws = Result.ok (.agg #[.int .i64 0, .int .i64 (i : Int), .bool false, .slice none 0 0]) ws := hr
       have HS := Lib.hid ss.tail; clear ss hr
       go_wp2_with fail
       refine bodyPost_ret (v := .agg #[.int .i64 0, .int .i64 (i : Int), .bool false, .slice none 0 0]) (by simp [results, Tryz.results42, asAddr]; exact hr2) rfl ?_
       rw [HE.out, hit.out]
       have s8 := HS.out
       have hb := takeBack (p2 := p2) (H2 := (.sn (kindA ag) on H.kb data [])) HT.out.1 hin.out
       have s9 := HT.out.2.1 _ _ _ hb.1 ((Sat.sub (s8) (by with_reducible repeat first | exact Fr1 | exact Fr2 | (apply Fr3; focus ((repeat (first | exact Tk1 | apply Tk2)); done)) | apply Fr4)) : Sat W0 ws (segH p k al ou kq kl cq c2 cl c3 mq ml mc :: bytes true kq H.kb :: bytes true c2 H.cb :: bytes true mq H.mb :: RW :: slotsA 0 ((T.set k none).set i (some (p2, (.sn (kindA ag) on H.kb data [])))) :: seg true v 0 (.bool true :: cellsT (T.set i (some (p2, (.sn (kindA ag) on H.kb data []))))) :: bytes md dp data :: bytes mm ep more :: L))
       rw [hb.2] at s9
       exact ansP_h (vShut (T.set i (some (p2, (.sn (kindA ag) on H.kb data [])))) (namesT_set _ _ _) (s9.pull 1 |>.sub (.cons .here (.cons .here .done))))
      ·have hit := Lib.hid hit'; clear hit'
       have s6b : Sat W0 w6 (seg true v 0 (.bool true :: cellsT T) :: slotsA 0 (T.set k none) :: bytes true kq H.kb :: bytes md dp data :: bytes true none [] :: bytes true c2 H.cb :: segH p k al ou kq kl cq c2 cl c3 mq ml mc :: bytes true mq H.mb :: RW :: seg true ga 0 ans0 :: seg true g 0 [.int .u8 (kd : Int), .int .i64 (k : Int), .int .u8 (ag : Int), .int .i64 ct, .int .i64 (on : Int), .slice dp dn dc, .slice ep en ec] :: bytes mm ep more :: L) := s6
       have hk6 := keepB ((Sat.sub (s6b) (by with_reducible repeat first | exact Fr1 | exact Fr2 | (apply Fr3; focus ((repeat (first | exact Tk1 | apply Tk2)); done)) | apply Fr4)) : Sat W0 w6 (segH p k al ou kq kl cq c2 cl c3 mq ml mc :: seg true g 0 [.int .u8 (kd : Int), .int .i64 (k : Int), .int .u8 (ag : Int), .int .i64 ct, .int .i64 (on : Int), .slice dp dn dc, .slice ep en ec] :: []))
       go_wp2_with fail
       refine hK.out _ _ hk6 ?_
       clear hK K s5 s5d hHeld
       have hHeld := hk6
       try simp only [pA1, pA2, pA3, pA4]
       refine anyE_last (i := 13) (x := ?_) ?_ (by kernel_rfl) (by kernel_rfl) (fun K hK => ?_)
       rotate_left
       ·(simp only [gE1, gE2, gE3]; rfl)
       rw [if_pos (by rfl)]
       refine op_store_agg 35 (.tmp 4) (.tmp 101) rfl (cs := [.int .i64 8, .int .i64 0, .bool false, .slice none 0 0]) ((Sat.sub (s6b) (by with_reducible repeat first | exact Fr1 | exact Fr2 | (apply Fr3; focus ((repeat (first | exact Tk1 | apply Tk2)); done)) | apply Fr4)) : Sat W0 w6 (seg true ga 0 ans0 :: seg true v 0 (.bool true :: cellsT T) :: segH p k al ou kq kl cq c2 cl c3 mq ml mc :: bytes true kq H.kb :: bytes true c2 H.cb :: bytes true mq H.mb :: RW :: slotsA 0 (T.set k none) :: bytes md dp data :: bytes mm ep more :: L)) 0 0 Tryz.size_ans rfl rfl rfl (Nat.le_refl 4) (ans_one _ _ _ _ _ _) ?_
       intro ws ss
       rw [setL_all _ _ (by rfl)] at ss
       clear s6
       refine hK.out _ _ ?_
       clear hK
       try simp only [pA1, pA2, pA3, pA4]
       refine anyE_done (by kernel_rfl) ?_ _
       have hr := run_loadVar_agg (P := Tryz.prog) (ty := 35) Tryz.underlying35 rfl Tryz.size_ans ss 0 0 rfl (Nat.le_refl 4)
       have hr2 : Sem.run Tryz.prog (loadVar 35 ⟨ga, 0, none⟩) ws = Result.ok (.agg #[.int .i64 8, .int .i64 0, .bool false, .slice none 0 0]) ws := hr
       have HS := Lib.hid ss.tail; clear ss hr
       go_wp2_with fail
       refine bodyPost_ret (v := .agg #[.int .i64 8, .int .i64 0, .bool false, .slice none 0 0]) (by simp [results, Tryz.results42, asAddr]; exact hr2) rfl ?_
       rw [HE.out, hit.out]
       exact HNO.out _ _ HS.out
  ·have e1 : ((ag : Int) == 1) = false := by rw [beq_eq_false_iff_ne]; omega
   have e3 : ((ag : Int) == 3) = true := by rw [beq_iff_eq]; omega
   have l1 : ¬ (ag : Int) < 1 := by omega
   have l7 : ¬ (7 : Int) < (ag : Int) := by omega
   have hkm := fun w => iKmacNo w ag (by omega)
   have hmo : (mostA ag : Int) = 16 := by unfold mostA; split <;> (try split) <;> omega
   rw [hmo] at e0
   clear hmo
   by_cases hk : kl = 16 ∨ kl = 24 ∨ kl = 32
   ·rcases hk with hk3 | hk3 | hk3
    ·have k16 : ((kl : Int) != 16) = false := by rw [hk3]; rfl
     rw [if_neg (by omega), if_neg (by omega)] at e0
     have hgb : 1 ≤ ag ∧ ag < 4 := by omega
     clear hg
     clear hk3
     by_cases hd0 : 0 < dn
     ·have hdI : (0 : Int) < (dn : Int) := by omega
      rw [if_pos ⟨hd0, by omega⟩] at e0
      have HE := Lib.hid e0; clear e0
      go_wp2_with fail
      refine (hkm _).mono ?_
      rintro e w4 ⟨rfl, rfl⟩
      go_wp2_with fail
      refine (iNo 2 s5).mono ?_
      rintro e w4 ⟨rfl, s4⟩
      clear s5
      clear o0 o1 o2 o3 o4 o5 o6 zo cp0 cp1 cp2 cp3 cp4 cp5 zp
      have sr0 : Sat W0 _ (seg true ga 0 ans0 :: seg true v 0 (.bool true :: cellsT T) :: segH p k al ou kq kl cq c2 cl c3 mq ml mc :: bytes true kq H.kb :: bytes true c2 H.cb :: bytes true mq H.mb :: RW :: slotsA 0 (T.set k none) :: bytes md dp data :: bytes mm ep more :: L) := (Sat.sub (s4) (by with_reducible repeat first | exact Fr1 | exact Fr2 | (apply Fr3; focus ((repeat (first | exact Tk1 | apply Tk2)); done)) | apply Fr4))
      go_wp2_with (refine wpl_stAns rfl rfl (.tmp 4) (.tmp 71) rfl sr0 rfl rfl ?_; intro ws ss; clear sr0)
      have hr := ansLd ss
      have HS := Lib.hid ss.tail; clear ss
      refine bodyPost_ret (v := .agg #[.int .i64 2, .int .i64 0, .bool false, .slice none 0 0]) (by simp [results, Tryz.results42, asAddr]; exact hr) rfl ?_
      rw [HE.out]
      exact HNO.out _ _ HS.out
     ·have hdI : ¬ (0 : Int) < (dn : Int) := by omega
      have hdJ : ¬ (64 : Int) < (dn : Int) := by omega
      rw [if_neg (by omega), if_neg (by omega)] at e0
      by_cases ho1 : ot < 1
      ·rw [if_pos (.inl ho1)] at e0
       have HE := Lib.hid e0; clear e0
       go_wp2_with fail
       refine (hkm _).mono ?_
       rintro e w4 ⟨rfl, rfl⟩
       go_wp2_with fail
       refine (iNo 11 s5).mono ?_
       rintro e w4 ⟨rfl, s4⟩
       clear s5
       clear o0 o1 o2 o3 o4 o5 o6 zo cp0 cp1 cp2 cp3 cp4 cp5 zp
       have sr0 : Sat W0 _ (seg true ga 0 ans0 :: seg true v 0 (.bool true :: cellsT T) :: segH p k al ou kq kl cq c2 cl c3 mq ml mc :: bytes true kq H.kb :: bytes true c2 H.cb :: bytes true mq H.mb :: RW :: slotsA 0 (T.set k none) :: bytes md dp data :: bytes mm ep more :: L) := (Sat.sub (s4) (by with_reducible repeat first | exact Fr1 | exact Fr2 | (apply Fr3; focus ((repeat (first | exact Tk1 | apply Tk2)); done)) | apply Fr4))
       go_wp2_with (refine wpl_stAns rfl rfl (.tmp 4) (.tmp 88) rfl sr0 rfl rfl ?_; intro ws ss; clear sr0)
       have hr := ansLd ss
       have HS := Lib.hid ss.tail; clear ss
       refine bodyPost_ret (v := .agg #[.int .i64 11, .int .i64 0, .bool false, .slice none 0 0]) (by simp [results, Tryz.results42, asAddr]; exact hr) rfl ?_
       rw [HE.out]
       exact HNO.out _ _ HS.out
      ·by_cases ho2 : 16 < ot
       ·rw [if_pos (.inr ho2)] at e0
        have HE := Lib.hid e0; clear e0
        go_wp2_with fail
        refine (hkm _).mono ?_
        rintro e w4 ⟨rfl, rfl⟩
        go_wp2_with fail
        refine (iNo 11 s5).mono ?_
        rintro e w4 ⟨rfl, s4⟩
        clear s5
        clear o0 o1 o2 o3 o4 o5 o6 zo cp0 cp1 cp2 cp3 cp4 cp5 zp
        have sr0 : Sat W0 _ (seg true ga 0 ans0 :: seg true v 0 (.bool true :: cellsT T) :: segH p k al ou kq kl cq c2 cl c3 mq ml mc :: bytes true kq H.kb :: bytes true c2 H.cb :: bytes true mq H.mb :: RW :: slotsA 0 (T.set k none) :: bytes md dp data :: bytes mm ep more :: L) := (Sat.sub (s4) (by with_reducible repeat first | exact Fr1 | exact Fr2 | (apply Fr3; focus ((repeat (first | exact Tk1 | apply Tk2)); done)) | apply Fr4))
        go_wp2_with (refine wpl_stAns rfl rfl (.tmp 4) (.tmp 88) rfl sr0 rfl rfl ?_; intro ws ss; clear sr0)
        have hr := ansLd ss
        have HS := Lib.hid ss.tail; clear ss
        refine bodyPost_ret (v := .agg #[.int .i64 11, .int .i64 0, .bool false, .slice none 0 0]) (by simp [results, Tryz.results42, asAddr]; exact hr) rfl ?_
        rw [HE.out]
        exact HNO.out _ _ HS.out
       ·rw [if_neg (by rintro (h | h); exact ho1 h; exact ho2 h)] at e0
        obtain ⟨on, rfl⟩ : ∃ on : Nat, ot = (on : Int) := ⟨ot.toNat, by omega⟩
        rw [Int.toNat_natCast] at e0
        have htk2 := fun (w : World) (X : List Assn) (s : Sat W0 w (seg true v 0 (.bool true :: cellsT T) :: slotsA 0 (T.set k none) :: bytes true kq H.kb :: bytes md dp data :: bytes true none [] :: X)) => iTakeW (v := v) (ck := cq) (cc := dc) (cm := 0) T (T.set k none) (.sn (kindA ag) on H.kb data []) 0 HN.out.2.2 (setTT T k) HT.out.2.2.2.2.symm HD.out.1 rfl HKL.out HD.out.2 (Nat.zero_le _) s
        rw [show (Hold.sn (kindA ag) on H.kb data []).alg = ag from kindA_alg ag (by omega) (by omega)] at htk2
        have HTK := Lib.hid htk2; clear htk2
        have HE := Lib.hid e0; clear e0
        go_wp2_with fail
        refine (hkm _).mono ?_
        rintro e w4 ⟨rfl, rfl⟩
        go_wp2_with fail
        have s5d := s5.drew
        have hs5 := keepB ((Sat.sub (s5d) (by with_reducible repeat first | exact Fr1 | exact Fr2 | (apply Fr3; focus ((repeat (first | exact Tk1 | apply Tk2)); done)) | apply Fr4)) : Sat W0 w4.drew (segH p k al ou kq kl cq c2 cl c3 mq ml mc :: seg true g 0 [.int .u8 (kd : Int), .int .i64 (k : Int), .int .u8 (ag : Int), .int .i64 ct, .int .i64 (on : Int), .slice dp dn dc, .slice ep en ec] :: []))
        clear o0 o1 o2 o3 o4 o5 o6 zo cp0 cp1 cp2 cp3 cp4 cp5 zp
        refine region_E (fun w' => w'.cell? ⟨p, 3, none⟩ = some (.slice kq kl cq) ∧ p < w'.heap.size ∧ w'.cell? ⟨g, 2, none⟩ = some (.int .u8 (ag : Int)) ∧ w'.cell? ⟨g, 4, none⟩ = some (.int .i64 (on : Int)) ∧ w'.cell? ⟨g, 5, none⟩ = some (.slice dp dn dc) ∧ g < w'.heap.size) [2, 4, 8, 10] (by kernel_rfl) ?_
        have hHeld := hs5
        iterate 12
         first | refine autoT hHeld (by rfl) (by rfl) (x := ?_) (v := ?_) ?_ (by kernel_rfl) ?_ ?_ ?_ | refine autoP (by rfl) (x := ?_) (v := ?_) ?_ (by kernel_rfl) ?_ ?_ ?_
         rotate_left 2
         ·(simp only [gE1, gE2, gE3]; rfl)
         ·exact fun _ _ _ h => h
         ·refine Or.inl ⟨by rfl, fun w hSw => ?_⟩
          (try dsimp only at hSw)
          go_simp
          try (with_reducible rfl)
         try simp only [pA1, pA2, pA3, pA4]
        refine anyE_one (i := 12) (x := ?_) ?_ (by kernel_rfl) (fun K hK => ?_)
        rotate_left
        ·(simp only [gE1, gE2, gE3]; rfl)
        go_simp
        refine (HTK.out _ (bytes true c2 H.cb :: segH p k al ou kq kl cq c2 cl c3 mq ml mc :: bytes true mq H.mb :: RW :: seg true ga 0 ans0 :: seg true g 0 [.int .u8 (kd : Int), .int .i64 (k : Int), .int .u8 (ag : Int), .int .i64 ct, .int .i64 (on : Int), .slice dp dn dc, .slice ep en ec] :: bytes mm ep more :: L) (by have h1 := bytesNil true none s5d; exact (Sat.sub (h1) (by with_reducible repeat first | exact Fr1 | exact Fr2 | (apply Fr3; focus ((repeat (first | exact Tk1 | apply Tk2)); done)) | apply Fr4)))).mono ?_
        rintro e w6 (⟨i, p2, hin', hit', rfl, s6⟩ | ⟨hit', rfl, s6⟩)
        ·have hin := Lib.hid hin'; clear hin'
         have hit := Lib.hid hit'; clear hit'
         have s6b : Sat W0 w6 (seg true v 0 (.bool true :: cellsT (T.set i (some (p2, (.sn (kindA ag) on H.kb data []))))) :: slotsA 0 ((T.set k none).set i (some (p2, (.sn (kindA ag) on H.kb data [])))) :: bytes true kq H.kb :: bytes md dp data :: bytes true none [] :: bytes true c2 H.cb :: segH p k al ou kq kl cq c2 cl c3 mq ml mc :: bytes true mq H.mb :: RW :: seg true ga 0 ans0 :: seg true g 0 [.int .u8 (kd : Int), .int .i64 (k : Int), .int .u8 (ag : Int), .int .i64 ct, .int .i64 (on : Int), .slice dp dn dc, .slice ep en ec] :: bytes mm ep more :: L) := s6
         have hk6 := keepB ((Sat.sub (s6b) (by with_reducible repeat first | exact Fr1 | exact Fr2 | (apply Fr3; focus ((repeat (first | exact Tk1 | apply Tk2)); done)) | apply Fr4)) : Sat W0 w6 (segH p k al ou kq kl cq c2 cl c3 mq ml mc :: seg true g 0 [.int .u8 (kd : Int), .int .i64 (k : Int), .int .u8 (ag : Int), .int .i64 ct, .int .i64 (on : Int), .slice dp dn dc, .slice ep en ec] :: []))
         go_wp2_with fail
         refine hK.out _ _ hk6 ?_
         clear hK K s5 s5d hHeld
         have hHeld := hk6
         try simp only [pA1, pA2, pA3, pA4]
         refine anyE_last (i := 13) (x := ?_) ?_ (by kernel_rfl) (by kernel_rfl) (fun K hK => ?_)
         rotate_left
         ·(simp only [gE1, gE2, gE3]; rfl)
         rw [if_pos (by rfl)]
         refine op_store_agg 35 (.tmp 4) (.tmp 101) rfl (cs := [.int .i64 0, .int .i64 (i : Int), .bool false, .slice none 0 0]) ((Sat.sub (s6b) (by with_reducible repeat first | exact Fr1 | exact Fr2 | (apply Fr3; focus ((repeat (first | exact Tk1 | apply Tk2)); done)) | apply Fr4)) : Sat W0 w6 (seg true ga 0 ans0 :: seg true v 0 (.bool true :: cellsT (T.set i (some (p2, (.sn (kindA ag) on H.kb data []))))) :: segH p k al ou kq kl cq c2 cl c3 mq ml mc :: bytes true kq H.kb :: bytes true c2 H.cb :: bytes true mq H.mb :: RW :: slotsA 0 ((T.set k none).set i (some (p2, (.sn (kindA ag) on H.kb data [])))) :: bytes md dp data :: bytes mm ep more :: L)) 0 0 Tryz.size_ans rfl rfl rfl (Nat.le_refl 4) (ans_one _ _ _ _ _ _) ?_
         intro ws ss
         rw [setL_all _ _ (by rfl)] at ss
         clear s6
         refine hK.out _ _ ?_
         clear hK
         try simp only [pA1, pA2, pA3, pA4]
         refine anyE_done (by kernel_rfl) ?_ _
         have hr := run_loadVar_agg (P := Tryz.prog) (ty := 35) Tryz.underlying35 rfl Tryz.size_ans ss 0 0 rfl (Nat.le_refl 4)
         have hr2 : Sem.run Tryz.prog (loadVar 35 ⟨ga, 0, none⟩) ws = Result.ok (.agg #[.int .i64 0, .int .i64 (i : Int), .bool false, .slice none 0 0]) ws := hr
         have HS := Lib.hid ss.tail; clear ss hr
         go_wp2_with fail
         refine bodyPost_ret (v := .agg #[.int .i64 0, .int .i64 (i : Int), .bool false, .slice none 0 0]) (by simp [results, Tryz.results42, asAddr]; exact hr2) rfl ?_
         rw [HE.out, hit.out]
         have s8 := HS.out
         have hb := takeBack (p2 := p2) (H2 := (.sn (kindA ag) on H.kb data [])) HT.out.1 hin.out
         have s9 := HT.out.2.1 _ _ _ hb.1 ((Sat.sub (s8) (by with_reducible repeat first | exact Fr1 | exact Fr2 | (apply Fr3; focus ((repeat (first | exact Tk1 | apply Tk2)); done)) | apply Fr4)) : Sat W0 ws (segH p k al ou kq kl cq c2 cl c3 mq ml mc :: bytes true kq H.kb :: bytes true c2 H.cb :: bytes true mq H.mb :: RW :: slotsA 0 ((T.set k none).set i (some (p2, (.sn (kindA ag) on H.kb data [])))) :: seg true v 0 (.bool true :: cellsT (T.set i (some (p2, (.sn (kindA ag) on H.kb data []))))) :: bytes md dp data :: bytes mm ep more :: L))
         rw [hb.2] at s9
         exact ansP_h (vShut (T.set i (some (p2, (.sn (kindA ag) on H.kb data [])))) (namesT_set _ _ _) (s9.pull 1 |>.sub (.cons .here (.cons .here .done))))
        ·have hit := Lib.hid hit'; clear hit'
         have s6b : Sat W0 w6 (seg true v 0 (.bool true :: cellsT T) :: slotsA 0 (T.set k none) :: bytes true kq H.kb :: bytes md dp data :: bytes true none [] :: bytes true c2 H.cb :: segH p k al ou kq kl cq c2 cl c3 mq ml mc :: bytes true mq H.mb :: RW :: seg true ga 0 ans0 :: seg true g 0 [.int .u8 (kd : Int), .int .i64 (k : Int), .int .u8 (ag : Int), .int .i64 ct, .int .i64 (on : Int), .slice dp dn dc, .slice ep en ec] :: bytes mm ep more :: L) := s6
         have hk6 := keepB ((Sat.sub (s6b) (by with_reducible repeat first | exact Fr1 | exact Fr2 | (apply Fr3; focus ((repeat (first | exact Tk1 | apply Tk2)); done)) | apply Fr4)) : Sat W0 w6 (segH p k al ou kq kl cq c2 cl c3 mq ml mc :: seg true g 0 [.int .u8 (kd : Int), .int .i64 (k : Int), .int .u8 (ag : Int), .int .i64 ct, .int .i64 (on : Int), .slice dp dn dc, .slice ep en ec] :: []))
         go_wp2_with fail
         refine hK.out _ _ hk6 ?_
         clear hK K s5 s5d hHeld
         have hHeld := hk6
         try simp only [pA1, pA2, pA3, pA4]
         refine anyE_last (i := 13) (x := ?_) ?_ (by kernel_rfl) (by kernel_rfl) (fun K hK => ?_)
         rotate_left
         ·(simp only [gE1, gE2, gE3]; rfl)
         rw [if_pos (by rfl)]
         refine op_store_agg 35 (.tmp 4) (.tmp 101) rfl (cs := [.int .i64 8, .int .i64 0, .bool false, .slice none 0 0]) ((Sat.sub (s6b) (by with_reducible repeat first | exact Fr1 | exact Fr2 | (apply Fr3; focus ((repeat (first | exact Tk1 | apply Tk2)); done)) | apply Fr4)) : Sat W0 w6 (seg true ga 0 ans0 :: seg true v 0 (.bool true :: cellsT T) :: segH p k al ou kq kl cq c2 cl c3 mq ml mc :: bytes true kq H.kb :: bytes true c2 H.cb :: bytes true mq H.mb :: RW :: slotsA 0 (T.set k none) :: bytes md dp data :: bytes mm ep more :: L)) 0 0 Tryz.size_ans rfl rfl rfl (Nat.le_refl 4) (ans_one _ _ _ _ _ _) ?_
         intro ws ss
         rw [setL_all _ _ (by rfl)] at ss
         clear s6
         refine hK.out _ _ ?_
         clear hK
         try simp only [pA1, pA2, pA3, pA4]
         refine anyE_done (by kernel_rfl) ?_ _
         have hr := run_loadVar_agg (P := Tryz.prog) (ty := 35) Tryz.underlying35 rfl Tryz.size_ans ss 0 0 rfl (Nat.le_refl 4)
         have hr2 : Sem.run Tryz.prog (loadVar 35 ⟨ga, 0, none⟩) ws = Result.ok (.agg #[.int .i64 8, .int .i64 0, .bool false, .slice none 0 0]) ws := hr
         have HS := Lib.hid ss.tail; clear ss hr
         go_wp2_with fail
         refine bodyPost_ret (v := .agg #[.int .i64 8, .int .i64 0, .bool false, .slice none 0 0]) (by simp [results, Tryz.results42, asAddr]; exact hr2) rfl ?_
         rw [HE.out, hit.out]
         exact HNO.out _ _ HS.out
    ·have k16 : ((kl : Int) != 16) = true := by rw [bne_iff_ne]; omega
     have k24 : ((kl : Int) != 24) = false := by rw [hk3]; rfl
     rw [if_neg (by omega), if_neg (by omega)] at e0
     have hgb : 1 ≤ ag ∧ ag < 4 := by omega
     clear hg
     clear hk3
     by_cases hd0 : 0 < dn
     ·have hdI : (0 : Int) < (dn : Int) := by omega
      rw [if_pos ⟨hd0, by omega⟩] at e0
      have HE := Lib.hid e0; clear e0
      go_wp2_with fail
      refine (hkm _).mono ?_
      rintro e w4 ⟨rfl, rfl⟩
      go_wp2_with fail
      refine (iNo 2 s5).mono ?_
      rintro e w4 ⟨rfl, s4⟩
      clear s5
      clear o0 o1 o2 o3 o4 o5 o6 zo cp0 cp1 cp2 cp3 cp4 cp5 zp
      have sr0 : Sat W0 _ (seg true ga 0 ans0 :: seg true v 0 (.bool true :: cellsT T) :: segH p k al ou kq kl cq c2 cl c3 mq ml mc :: bytes true kq H.kb :: bytes true c2 H.cb :: bytes true mq H.mb :: RW :: slotsA 0 (T.set k none) :: bytes md dp data :: bytes mm ep more :: L) := (Sat.sub (s4) (by with_reducible repeat first | exact Fr1 | exact Fr2 | (apply Fr3; focus ((repeat (first | exact Tk1 | apply Tk2)); done)) | apply Fr4))
      go_wp2_with (refine wpl_stAns rfl rfl (.tmp 4) (.tmp 71) rfl sr0 rfl rfl ?_; intro ws ss; clear sr0)
      have hr := ansLd ss
      have HS := Lib.hid ss.tail; clear ss
      refine bodyPost_ret (v := .agg #[.int .i64 2, .int .i64 0, .bool false, .slice none 0 0]) (by simp [results, Tryz.results42, asAddr]; exact hr) rfl ?_
      rw [HE.out]
      exact HNO.out _ _ HS.out
     ·have hdI : ¬ (0 : Int) < (dn : Int) := by omega
      have hdJ : ¬ (64 : Int) < (dn : Int) := by omega
      rw [if_neg (by omega), if_neg (by omega)] at e0
      by_cases ho1 : ot < 1
      ·rw [if_pos (.inl ho1)] at e0
       have HE := Lib.hid e0; clear e0
       go_wp2_with fail
       refine (hkm _).mono ?_
       rintro e w4 ⟨rfl, rfl⟩
       go_wp2_with fail
       refine (iNo 11 s5).mono ?_
       rintro e w4 ⟨rfl, s4⟩
       clear s5
       clear o0 o1 o2 o3 o4 o5 o6 zo cp0 cp1 cp2 cp3 cp4 cp5 zp
       have sr0 : Sat W0 _ (seg true ga 0 ans0 :: seg true v 0 (.bool true :: cellsT T) :: segH p k al ou kq kl cq c2 cl c3 mq ml mc :: bytes true kq H.kb :: bytes true c2 H.cb :: bytes true mq H.mb :: RW :: slotsA 0 (T.set k none) :: bytes md dp data :: bytes mm ep more :: L) := (Sat.sub (s4) (by with_reducible repeat first | exact Fr1 | exact Fr2 | (apply Fr3; focus ((repeat (first | exact Tk1 | apply Tk2)); done)) | apply Fr4))
       go_wp2_with (refine wpl_stAns rfl rfl (.tmp 4) (.tmp 88) rfl sr0 rfl rfl ?_; intro ws ss; clear sr0)
       have hr := ansLd ss
       have HS := Lib.hid ss.tail; clear ss
       refine bodyPost_ret (v := .agg #[.int .i64 11, .int .i64 0, .bool false, .slice none 0 0]) (by simp [results, Tryz.results42, asAddr]; exact hr) rfl ?_
       rw [HE.out]
       exact HNO.out _ _ HS.out
      ·by_cases ho2 : 16 < ot
       ·rw [if_pos (.inr ho2)] at e0
        have HE := Lib.hid e0; clear e0
        go_wp2_with fail
        refine (hkm _).mono ?_
        rintro e w4 ⟨rfl, rfl⟩
        go_wp2_with fail
        refine (iNo 11 s5).mono ?_
        rintro e w4 ⟨rfl, s4⟩
        clear s5
        clear o0 o1 o2 o3 o4 o5 o6 zo cp0 cp1 cp2 cp3 cp4 cp5 zp
        have sr0 : Sat W0 _ (seg true ga 0 ans0 :: seg true v 0 (.bool true :: cellsT T) :: segH p k al ou kq kl cq c2 cl c3 mq ml mc :: bytes true kq H.kb :: bytes true c2 H.cb :: bytes true mq H.mb :: RW :: slotsA 0 (T.set k none) :: bytes md dp data :: bytes mm ep more :: L) := (Sat.sub (s4) (by with_reducible repeat first | exact Fr1 | exact Fr2 | (apply Fr3; focus ((repeat (first | exact Tk1 | apply Tk2)); done)) | apply Fr4))
        go_wp2_with (refine wpl_stAns rfl rfl (.tmp 4) (.tmp 88) rfl sr0 rfl rfl ?_; intro ws ss; clear sr0)
        have hr := ansLd ss
        have HS := Lib.hid ss.tail; clear ss
        refine bodyPost_ret (v := .agg #[.int .i64 11, .int .i64 0, .bool false, .slice none 0 0]) (by simp [results, Tryz.results42, asAddr]; exact hr) rfl ?_
        rw [HE.out]
        exact HNO.out _ _ HS.out
       ·rw [if_neg (by rintro (h | h); exact ho1 h; exact ho2 h)] at e0
        obtain ⟨on, rfl⟩ : ∃ on : Nat, ot = (on : Int) := ⟨ot.toNat, by omega⟩
        rw [Int.toNat_natCast] at e0
        have htk2 := fun (w : World) (X : List Assn) (s : Sat W0 w (seg true v 0 (.bool true :: cellsT T) :: slotsA 0 (T.set k none) :: bytes true kq H.kb :: bytes md dp data :: bytes true none [] :: X)) => iTakeW (v := v) (ck := cq) (cc := dc) (cm := 0) T (T.set k none) (.sn (kindA ag) on H.kb data []) 0 HN.out.2.2 (setTT T k) HT.out.2.2.2.2.symm HD.out.1 rfl HKL.out HD.out.2 (Nat.zero_le _) s
        rw [show (Hold.sn (kindA ag) on H.kb data []).alg = ag from kindA_alg ag (by omega) (by omega)] at htk2
        have HTK := Lib.hid htk2; clear htk2
        have HE := Lib.hid e0; clear e0
        go_wp2_with fail
        refine (hkm _).mono ?_
        rintro e w4 ⟨rfl, rfl⟩
        go_wp2_with fail
        have s5d := s5.drew
        have hs5 := keepB ((Sat.sub (s5d) (by with_reducible repeat first | exact Fr1 | exact Fr2 | (apply Fr3; focus ((repeat (first | exact Tk1 | apply Tk2)); done)) | apply Fr4)) : Sat W0 w4.drew (segH p k al ou kq kl cq c2 cl c3 mq ml mc :: seg true g 0 [.int .u8 (kd : Int), .int .i64 (k : Int), .int .u8 (ag : Int), .int .i64 ct, .int .i64 (on : Int), .slice dp dn dc, .slice ep en ec] :: []))
        clear o0 o1 o2 o3 o4 o5 o6 zo cp0 cp1 cp2 cp3 cp4 cp5 zp
        refine region_E (fun w' => w'.cell? ⟨p, 3, none⟩ = some (.slice kq kl cq) ∧ p < w'.heap.size ∧ w'.cell? ⟨g, 2, none⟩ = some (.int .u8 (ag : Int)) ∧ w'.cell? ⟨g, 4, none⟩ = some (.int .i64 (on : Int)) ∧ w'.cell? ⟨g, 5, none⟩ = some (.slice dp dn dc) ∧ g < w'.heap.size) [2, 4, 8, 10] (by kernel_rfl) ?_
        have hHeld := hs5
        iterate 12
         first | refine autoT hHeld (by rfl) (by rfl) (x := ?_) (v := ?_) ?_ (by kernel_rfl) ?_ ?_ ?_ | refine autoP (by rfl) (x := ?_) (v := ?_) ?_ (by kernel_rfl) ?_ ?_ ?_
         rotate_left 2
         ·(simp only [gE1, gE2, gE3]; rfl)
         ·exact fun _ _ _ h => h
         ·refine Or.inl ⟨by rfl, fun w hSw => ?_⟩
          (try dsimp only at hSw)
          go_simp
          try (with_reducible rfl)
         try simp only [pA1, pA2, pA3, pA4]
        refine anyE_one (i := 12) (x := ?_) ?_ (by kernel_rfl) (fun K hK => ?_)
        rotate_left
        ·(simp only [gE1, gE2, gE3]; rfl)
        go_simp
        refine (HTK.out _ (bytes true c2 H.cb :: segH p k al ou kq kl cq c2 cl c3 mq ml mc :: bytes true mq H.mb :: RW :: seg true ga 0 ans0 :: seg true g 0 [.int .u8 (kd : Int), .int .i64 (k : Int), .int .u8 (ag : Int), .int .i64 ct, .int .i64 (on : Int), .slice dp dn dc, .slice ep en ec] :: bytes mm ep more :: L) (by have h1 := bytesNil true none s5d; exact (Sat.sub (h1) (by with_reducible repeat first | exact Fr1 | exact Fr2 | (apply Fr3; focus ((repeat (first | exact Tk1 | apply Tk2)); done)) | apply Fr4)))).mono ?_
        rintro e w6 (⟨i, p2, hin', hit', rfl, s6⟩ | ⟨hit', rfl, s6⟩)
        ·have hin := Lib.hid hin'; clear hin'
         have hit := Lib.hid hit'; clear hit'
         have s6b : Sat W0 w6 (seg true v 0 (.bool true :: cellsT (T.set i (some (p2, (.sn (kindA ag) on H.kb data []))))) :: slotsA 0 ((T.set k none).set i (some (p2, (.sn (kindA ag) on H.kb data [])))) :: bytes true kq H.kb :: bytes md dp data :: bytes true none [] :: bytes true c2 H.cb :: segH p k al ou kq kl cq c2 cl c3 mq ml mc :: bytes true mq H.mb :: RW :: seg true ga 0 ans0 :: seg true g 0 [.int .u8 (kd : Int), .int .i64 (k : Int), .int .u8 (ag : Int), .int .i64 ct, .int .i64 (on : Int), .slice dp dn dc, .slice ep en ec] :: bytes mm ep more :: L) := s6
         have hk6 := keepB ((Sat.sub (s6b) (by with_reducible repeat first | exact Fr1 | exact Fr2 | (apply Fr3; focus ((repeat (first | exact Tk1 | apply Tk2)); done)) | apply Fr4)) : Sat W0 w6 (segH p k al ou kq kl cq c2 cl c3 mq ml mc :: seg true g 0 [.int .u8 (kd : Int), .int .i64 (k : Int), .int .u8 (ag : Int), .int .i64 ct, .int .i64 (on : Int), .slice dp dn dc, .slice ep en ec] :: []))
         go_wp2_with fail
         refine hK.out _ _ hk6 ?_
         clear hK K s5 s5d hHeld
         have hHeld := hk6
         try simp only [pA1, pA2, pA3, pA4]
         refine anyE_last (i := 13) (x := ?_) ?_ (by kernel_rfl) (by kernel_rfl) (fun K hK => ?_)
         rotate_left
         ·(simp only [gE1, gE2, gE3]; rfl)
         rw [if_pos (by rfl)]
         refine op_store_agg 35 (.tmp 4) (.tmp 101) rfl (cs := [.int .i64 0, .int .i64 (i : Int), .bool false, .slice none 0 0]) ((Sat.sub (s6b) (by with_reducible repeat first | exact Fr1 | exact Fr2 | (apply Fr3; focus ((repeat (first | exact Tk1 | apply Tk2)); done)) | apply Fr4)) : Sat W0 w6 (seg true ga 0 ans0 :: seg true v 0 (.bool true :: cellsT (T.set i (some (p2, (.sn (kindA ag) on H.kb data []))))) :: segH p k al ou kq kl cq c2 cl c3 mq ml mc :: bytes true kq H.kb :: bytes true c2 H.cb :: bytes true mq H.mb :: RW :: slotsA 0 ((T.set k none).set i (some (p2, (.sn (kindA ag) on H.kb data [])))) :: bytes md dp data :: bytes mm ep more :: L)) 0 0 Tryz.size_ans rfl rfl rfl (Nat.le_refl 4) (ans_one _ _ _ _ _ _) ?_
         intro ws ss
         rw [setL_all _ _ (by rfl)] at ss
         clear s6
         refine hK.out _ _ ?_
         clear hK
         try simp only [pA1, pA2, pA3, pA4]
         refine anyE_done (by kernel_rfl) ?_ _
         have hr := run_loadVar_agg (P := Tryz.prog) (ty := 35) Tryz.underlying35 rfl Tryz.size_ans ss 0 0 rfl (Nat.le_refl 4)
         have hr2 : Sem.run Tryz.prog (loadVar 35 ⟨ga, 0, none⟩) ws = Result.ok (.agg #[.int .i64 0, .int .i64 (i : Int), .bool false, .slice none 0 0]) ws := hr
         have HS := Lib.hid ss.tail; clear ss hr
         go_wp2_with fail
         refine bodyPost_ret (v := .agg #[.int .i64 0, .int .i64 (i : Int), .bool false, .slice none 0 0]) (by simp [results, Tryz.results42, asAddr]; exact hr2) rfl ?_
         rw [HE.out, hit.out]
         have s8 := HS.out
         have hb := takeBack (p2 := p2) (H2 := (.sn (kindA ag) on H.kb data [])) HT.out.1 hin.out
         have s9 := HT.out.2.1 _ _ _ hb.1 ((Sat.sub (s8) (by with_reducible repeat first | exact Fr1 | exact Fr2 | (apply Fr3; focus ((repeat (first | exact Tk1 | apply Tk2)); done)) | apply Fr4)) : Sat W0 ws (segH p k al ou kq kl cq c2 cl c3 mq ml mc :: bytes true kq H.kb :: bytes true c2 H.cb :: bytes true mq H.mb :: RW :: slotsA 0 ((T.set k none).set i (some (p2, (.sn (kindA ag) on H.kb data [])))) :: seg true v 0 (.bool true :: cellsT (T.set i (some (p2, (.sn (kindA ag) on H.kb data []))))) :: bytes md dp data :: bytes mm ep more :: L))
         rw [hb.2] at s9
         exact ansP_h (vShut (T.set i (some (p2, (.sn (kindA ag) on H.kb data [])))) (namesT_set _ _ _) (s9.pull 1 |>.sub (.cons .here (.cons .here .done))))
        ·have hit := Lib.hid hit'; clear hit'
         have s6b : Sat W0 w6 (seg true v 0 (.bool true :: cellsT T) :: slotsA 0 (T.set k none) :: bytes true kq H.kb :: bytes md dp data :: bytes true none [] :: bytes true c2 H.cb :: segH p k al ou kq kl cq c2 cl c3 mq ml mc :: bytes true mq H.mb :: RW :: seg true ga 0 ans0 :: seg true g 0 [.int .u8 (kd : Int), .int .i64 (k : Int), .int .u8 (ag : Int), .int .i64 ct, .int .i64 (on : Int), .slice dp dn dc, .slice ep en ec] :: bytes mm ep more :: L) := s6
         have hk6 := keepB ((Sat.sub (s6b) (by with_reducible repeat first | exact Fr1 | exact Fr2 | (apply Fr3; focus ((repeat (first | exact Tk1 | apply Tk2)); done)) | apply Fr4)) : Sat W0 w6 (segH p k al ou kq kl cq c2 cl c3 mq ml mc :: seg true g 0 [.int .u8 (kd : Int), .int .i64 (k : Int), .int .u8 (ag : Int), .int .i64 ct, .int .i64 (on : Int), .slice dp dn dc, .slice ep en ec] :: []))
         go_wp2_with fail
         refine hK.out _ _ hk6 ?_
         clear hK K s5 s5d hHeld
         have hHeld := hk6
         try simp only [pA1, pA2, pA3, pA4]
         refine anyE_last (i := 13) (x := ?_) ?_ (by kernel_rfl) (by kernel_rfl) (fun K hK => ?_)
         rotate_left
         ·(simp only [gE1, gE2, gE3]; rfl)
         rw [if_pos (by rfl)]
         refine op_store_agg 35 (.tmp 4) (.tmp 101) rfl (cs := [.int .i64 8, .int .i64 0, .bool false, .slice none 0 0]) ((Sat.sub (s6b) (by with_reducible repeat first | exact Fr1 | exact Fr2 | (apply Fr3; focus ((repeat (first | exact Tk1 | apply Tk2)); done)) | apply Fr4)) : Sat W0 w6 (seg true ga 0 ans0 :: seg true v 0 (.bool true :: cellsT T) :: segH p k al ou kq kl cq c2 cl c3 mq ml mc :: bytes true kq H.kb :: bytes true c2 H.cb :: bytes true mq H.mb :: RW :: slotsA 0 (T.set k none) :: bytes md dp data :: bytes mm ep more :: L)) 0 0 Tryz.size_ans rfl rfl rfl (Nat.le_refl 4) (ans_one _ _ _ _ _ _) ?_
         intro ws ss
         rw [setL_all _ _ (by rfl)] at ss
         clear s6
         refine hK.out _ _ ?_
         clear hK
         try simp only [pA1, pA2, pA3, pA4]
         refine anyE_done (by kernel_rfl) ?_ _
         have hr := run_loadVar_agg (P := Tryz.prog) (ty := 35) Tryz.underlying35 rfl Tryz.size_ans ss 0 0 rfl (Nat.le_refl 4)
         have hr2 : Sem.run Tryz.prog (loadVar 35 ⟨ga, 0, none⟩) ws = Result.ok (.agg #[.int .i64 8, .int .i64 0, .bool false, .slice none 0 0]) ws := hr
         have HS := Lib.hid ss.tail; clear ss hr
         go_wp2_with fail
         refine bodyPost_ret (v := .agg #[.int .i64 8, .int .i64 0, .bool false, .slice none 0 0]) (by simp [results, Tryz.results42, asAddr]; exact hr2) rfl ?_
         rw [HE.out, hit.out]
         exact HNO.out _ _ HS.out
    ·have k16 : ((kl : Int) != 16) = true := by rw [bne_iff_ne]; omega
     have k24 : ((kl : Int) != 24) = true := by rw [bne_iff_ne]; omega
     have k32 : ((kl : Int) != 32) = false := by rw [hk3]; rfl
     rw [if_neg (by omega), if_neg (by omega)] at e0
     have hgb : 1 ≤ ag ∧ ag < 4 := by omega
     clear hg
     clear hk3
     by_cases hd0 : 0 < dn
     ·have hdI : (0 : Int) < (dn : Int) := by omega
      rw [if_pos ⟨hd0, by omega⟩] at e0
      have HE := Lib.hid e0; clear e0
      go_wp2_with fail
      refine (hkm _).mono ?_
      rintro e w4 ⟨rfl, rfl⟩
      go_wp2_with fail
      refine (iNo 2 s5).mono ?_
      rintro e w4 ⟨rfl, s4⟩
      clear s5
      clear o0 o1 o2 o3 o4 o5 o6 zo cp0 cp1 cp2 cp3 cp4 cp5 zp
      have sr0 : Sat W0 _ (seg true ga 0 ans0 :: seg true v 0 (.bool true :: cellsT T) :: segH p k al ou kq kl cq c2 cl c3 mq ml mc :: bytes true kq H.kb :: bytes true c2 H.cb :: bytes true mq H.mb :: RW :: slotsA 0 (T.set k none) :: bytes md dp data :: bytes mm ep more :: L) := (Sat.sub (s4) (by with_reducible repeat first | exact Fr1 | exact Fr2 | (apply Fr3; focus ((repeat (first | exact Tk1 | apply Tk2)); done)) | apply Fr4))
      go_wp2_with (refine wpl_stAns rfl rfl (.tmp 4) (.tmp 71) rfl sr0 rfl rfl ?_; intro ws ss; clear sr0)
      have hr := ansLd ss
      have HS := Lib.hid ss.tail; clear ss
      refine bodyPost_ret (v := .agg #[.int .i64 2, .int .i64 0, .bool false, .slice none 0 0]) (by simp [results, Tryz.results42, asAddr]; exact hr) rfl ?_
      rw [HE.out]
      exact HNO.out _ _ HS.out
     ·have hdI : ¬ (0 : Int) < (dn : Int) := by omega
      have hdJ : ¬ (64 : Int) < (dn : Int) := by omega
      rw [if_neg (by omega), if_neg (by omega)] at e0
      by_cases ho1 : ot < 1
      ·rw [if_pos (.inl ho1)] at e0
       have HE := Lib.hid e0; clear e0
       go_wp2_with fail
       refine (hkm _).mono ?_
       rintro e w4 ⟨rfl, rfl⟩
       go_wp2_with fail
       refine (iNo 11 s5).mono ?_
       rintro e w4 ⟨rfl, s4⟩
       clear s5
       clear o0 o1 o2 o3 o4 o5 o6 zo cp0 cp1 cp2 cp3 cp4 cp5 zp
       have sr0 : Sat W0 _ (seg true ga 0 ans0 :: seg true v 0 (.bool true :: cellsT T) :: segH p k al ou kq kl cq c2 cl c3 mq ml mc :: bytes true kq H.kb :: bytes true c2 H.cb :: bytes true mq H.mb :: RW :: slotsA 0 (T.set k none) :: bytes md dp data :: bytes mm ep more :: L) := (Sat.sub (s4) (by with_reducible repeat first | exact Fr1 | exact Fr2 | (apply Fr3; focus ((repeat (first | exact Tk1 | apply Tk2)); done)) | apply Fr4))
       go_wp2_with (refine wpl_stAns rfl rfl (.tmp 4) (.tmp 88) rfl sr0 rfl rfl ?_; intro ws ss; clear sr0)
       have hr := ansLd ss
       have HS := Lib.hid ss.tail; clear ss
       refine bodyPost_ret (v := .agg #[.int .i64 11, .int .i64 0, .bool false, .slice none 0 0]) (by simp [results, Tryz.results42, asAddr]; exact hr) rfl ?_
       rw [HE.out]
       exact HNO.out _ _ HS.out
      ·by_cases ho2 : 16 < ot
       ·rw [if_pos (.inr ho2)] at e0
        have HE := Lib.hid e0; clear e0
        go_wp2_with fail
        refine (hkm _).mono ?_
        rintro e w4 ⟨rfl, rfl⟩
        go_wp2_with fail
        refine (iNo 11 s5).mono ?_
        rintro e w4 ⟨rfl, s4⟩
        clear s5
        clear o0 o1 o2 o3 o4 o5 o6 zo cp0 cp1 cp2 cp3 cp4 cp5 zp
        have sr0 : Sat W0 _ (seg true ga 0 ans0 :: seg true v 0 (.bool true :: cellsT T) :: segH p k al ou kq kl cq c2 cl c3 mq ml mc :: bytes true kq H.kb :: bytes true c2 H.cb :: bytes true mq H.mb :: RW :: slotsA 0 (T.set k none) :: bytes md dp data :: bytes mm ep more :: L) := (Sat.sub (s4) (by with_reducible repeat first | exact Fr1 | exact Fr2 | (apply Fr3; focus ((repeat (first | exact Tk1 | apply Tk2)); done)) | apply Fr4))
        go_wp2_with (refine wpl_stAns rfl rfl (.tmp 4) (.tmp 88) rfl sr0 rfl rfl ?_; intro ws ss; clear sr0)
        have hr := ansLd ss
        have HS := Lib.hid ss.tail; clear ss
        refine bodyPost_ret (v := .agg #[.int .i64 11, .int .i64 0, .bool false, .slice none 0 0]) (by simp [results, Tryz.results42, asAddr]; exact hr) rfl ?_
        rw [HE.out]
        exact HNO.out _ _ HS.out
       ·rw [if_neg (by rintro (h | h); exact ho1 h; exact ho2 h)] at e0
        obtain ⟨on, rfl⟩ : ∃ on : Nat, ot = (on : Int) := ⟨ot.toNat, by omega⟩
        rw [Int.toNat_natCast] at e0
        have htk2 := fun (w : World) (X : List Assn) (s : Sat W0 w (seg true v 0 (.bool true :: cellsT T) :: slotsA 0 (T.set k none) :: bytes true kq H.kb :: bytes md dp data :: bytes true none [] :: X)) => iTakeW (v := v) (ck := cq) (cc := dc) (cm := 0) T (T.set k none) (.sn (kindA ag) on H.kb data []) 0 HN.out.2.2 (setTT T k) HT.out.2.2.2.2.symm HD.out.1 rfl HKL.out HD.out.2 (Nat.zero_le _) s
        rw [show (Hold.sn (kindA ag) on H.kb data []).alg = ag from kindA_alg ag (by omega) (by omega)] at htk2
        have HTK := Lib.hid htk2; clear htk2
        have HE := Lib.hid e0; clear e0
        go_wp2_with fail
        refine (hkm _).mono ?_
        rintro e w4 ⟨rfl, rfl⟩
        go_wp2_with fail
        have s5d := s5.drew
        have hs5 := keepB ((Sat.sub (s5d) (by with_reducible repeat first | exact Fr1 | exact Fr2 | (apply Fr3; focus ((repeat (first | exact Tk1 | apply Tk2)); done)) | apply Fr4)) : Sat W0 w4.drew (segH p k al ou kq kl cq c2 cl c3 mq ml mc :: seg true g 0 [.int .u8 (kd : Int), .int .i64 (k : Int), .int .u8 (ag : Int), .int .i64 ct, .int .i64 (on : Int), .slice dp dn dc, .slice ep en ec] :: []))
        clear o0 o1 o2 o3 o4 o5 o6 zo cp0 cp1 cp2 cp3 cp4 cp5 zp
        refine region_E (fun w' => w'.cell? ⟨p, 3, none⟩ = some (.slice kq kl cq) ∧ p < w'.heap.size ∧ w'.cell? ⟨g, 2, none⟩ = some (.int .u8 (ag : Int)) ∧ w'.cell? ⟨g, 4, none⟩ = some (.int .i64 (on : Int)) ∧ w'.cell? ⟨g, 5, none⟩ = some (.slice dp dn dc) ∧ g < w'.heap.size) [2, 4, 8, 10] (by kernel_rfl) ?_
        have hHeld := hs5
        iterate 12
         first | refine autoT hHeld (by rfl) (by rfl) (x := ?_) (v := ?_) ?_ (by kernel_rfl) ?_ ?_ ?_ | refine autoP (by rfl) (x := ?_) (v := ?_) ?_ (by kernel_rfl) ?_ ?_ ?_
         rotate_left 2
         ·(simp only [gE1, gE2, gE3]; rfl)
         ·exact fun _ _ _ h => h
         ·refine Or.inl ⟨by rfl, fun w hSw => ?_⟩
          (try dsimp only at hSw)
          go_simp
          try (with_reducible rfl)
         try simp only [pA1, pA2, pA3, pA4]
        refine anyE_one (i := 12) (x := ?_) ?_ (by kernel_rfl) (fun K hK => ?_)
        rotate_left
        ·(simp only [gE1, gE2, gE3]; rfl)
        go_simp
        refine (HTK.out _ (bytes true c2 H.cb :: segH p k al ou kq kl cq c2 cl c3 mq ml mc :: bytes true mq H.mb :: RW :: seg true ga 0 ans0 :: seg true g 0 [.int .u8 (kd : Int), .int .i64 (k : Int), .int .u8 (ag : Int), .int .i64 ct, .int .i64 (on : Int), .slice dp dn dc, .slice ep en ec] :: bytes mm ep more :: L) (by have h1 := bytesNil true none s5d; exact (Sat.sub (h1) (by with_reducible repeat first | exact Fr1 | exact Fr2 | (apply Fr3; focus ((repeat (first | exact Tk1 | apply Tk2)); done)) | apply Fr4)))).mono ?_
        rintro e w6 (⟨i, p2, hin', hit', rfl, s6⟩ | ⟨hit', rfl, s6⟩)
        ·have hin := Lib.hid hin'; clear hin'
         have hit := Lib.hid hit'; clear hit'
         have s6b : Sat W0 w6 (seg true v 0 (.bool true :: cellsT (T.set i (some (p2, (.sn (kindA ag) on H.kb data []))))) :: slotsA 0 ((T.set k none).set i (some (p2, (.sn (kindA ag) on H.kb data [])))) :: bytes true kq H.kb :: bytes md dp data :: bytes true none [] :: bytes true c2 H.cb :: segH p k al ou kq kl cq c2 cl c3 mq ml mc :: bytes true mq H.mb :: RW :: seg true ga 0 ans0 :: seg true g 0 [.int .u8 (kd : Int), .int .i64 (k : Int), .int .u8 (ag : Int), .int .i64 ct, .int .i64 (on : Int), .slice dp dn dc, .slice ep en ec] :: bytes mm ep more :: L) := s6
         have hk6 := keepB ((Sat.sub (s6b) (by with_reducible repeat first | exact Fr1 | exact Fr2 | (apply Fr3; focus ((repeat (first | exact Tk1 | apply Tk2)); done)) | apply Fr4)) : Sat W0 w6 (segH p k al ou kq kl cq c2 cl c3 mq ml mc :: seg true g 0 [.int .u8 (kd : Int), .int .i64 (k : Int), .int .u8 (ag : Int), .int .i64 ct, .int .i64 (on : Int), .slice dp dn dc, .slice ep en ec] :: []))
         go_wp2_with fail
         refine hK.out _ _ hk6 ?_
         clear hK K s5 s5d hHeld
         have hHeld := hk6
         try simp only [pA1, pA2, pA3, pA4]
         refine anyE_last (i := 13) (x := ?_) ?_ (by kernel_rfl) (by kernel_rfl) (fun K hK => ?_)
         rotate_left
         ·(simp only [gE1, gE2, gE3]; rfl)
         rw [if_pos (by rfl)]
         refine op_store_agg 35 (.tmp 4) (.tmp 101) rfl (cs := [.int .i64 0, .int .i64 (i : Int), .bool false, .slice none 0 0]) ((Sat.sub (s6b) (by with_reducible repeat first | exact Fr1 | exact Fr2 | (apply Fr3; focus ((repeat (first | exact Tk1 | apply Tk2)); done)) | apply Fr4)) : Sat W0 w6 (seg true ga 0 ans0 :: seg true v 0 (.bool true :: cellsT (T.set i (some (p2, (.sn (kindA ag) on H.kb data []))))) :: segH p k al ou kq kl cq c2 cl c3 mq ml mc :: bytes true kq H.kb :: bytes true c2 H.cb :: bytes true mq H.mb :: RW :: slotsA 0 ((T.set k none).set i (some (p2, (.sn (kindA ag) on H.kb data [])))) :: bytes md dp data :: bytes mm ep more :: L)) 0 0 Tryz.size_ans rfl rfl rfl (Nat.le_refl 4) (ans_one _ _ _ _ _ _) ?_
         intro ws ss
         rw [setL_all _ _ (by rfl)] at ss
         clear s6
         refine hK.out _ _ ?_
         clear hK
         try simp only [pA1, pA2, pA3, pA4]
         refine anyE_done (by kernel_rfl) ?_ _
         have hr := run_loadVar_agg (P := Tryz.prog) (ty := 35) Tryz.underlying35 rfl Tryz.size_ans ss 0 0 rfl (Nat.le_refl 4)
         have hr2 : Sem.run Tryz.prog (loadVar 35 ⟨ga, 0, none⟩) ws = Result.ok (.agg #[.int .i64 0, .int .i64 (i : Int), .bool false, .slice none 0 0]) ws := hr
         have HS := Lib.hid ss.tail; clear ss hr
         go_wp2_with fail
         refine bodyPost_ret (v := .agg #[.int .i64 0, .int .i64 (i : Int), .bool false, .slice none 0 0]) (by simp [results, Tryz.results42, asAddr]; exact hr2) rfl ?_
         rw [HE.out, hit.out]
         have s8 := HS.out
         have hb := takeBack (p2 := p2) (H2 := (.sn (kindA ag) on H.kb data [])) HT.out.1 hin.out
         have s9 := HT.out.2.1 _ _ _ hb.1 ((Sat.sub (s8) (by with_reducible repeat first | exact Fr1 | exact Fr2 | (apply Fr3; focus ((repeat (first | exact Tk1 | apply Tk2)); done)) | apply Fr4)) : Sat W0 ws (segH p k al ou kq kl cq c2 cl c3 mq ml mc :: bytes true kq H.kb :: bytes true c2 H.cb :: bytes true mq H.mb :: RW :: slotsA 0 ((T.set k none).set i (some (p2, (.sn (kindA ag) on H.kb data [])))) :: seg true v 0 (.bool true :: cellsT (T.set i (some (p2, (.sn (kindA ag) on H.kb data []))))) :: bytes md dp data :: bytes mm ep more :: L))
         rw [hb.2] at s9
         exact ansP_h (vShut (T.set i (some (p2, (.sn (kindA ag) on H.kb data [])))) (namesT_set _ _ _) (s9.pull 1 |>.sub (.cons .here (.cons .here .done))))
        ·have hit := Lib.hid hit'; clear hit'
         have s6b : Sat W0 w6 (seg true v 0 (.bool true :: cellsT T) :: slotsA 0 (T.set k none) :: bytes true kq H.kb :: bytes md dp data :: bytes true none [] :: bytes true c2 H.cb :: segH p k al ou kq kl cq c2 cl c3 mq ml mc :: bytes true mq H.mb :: RW :: seg true ga 0 ans0 :: seg true g 0 [.int .u8 (kd : Int), .int .i64 (k : Int), .int .u8 (ag : Int), .int .i64 ct, .int .i64 (on : Int), .slice dp dn dc, .slice ep en ec] :: bytes mm ep more :: L) := s6
         have hk6 := keepB ((Sat.sub (s6b) (by with_reducible repeat first | exact Fr1 | exact Fr2 | (apply Fr3; focus ((repeat (first | exact Tk1 | apply Tk2)); done)) | apply Fr4)) : Sat W0 w6 (segH p k al ou kq kl cq c2 cl c3 mq ml mc :: seg true g 0 [.int .u8 (kd : Int), .int .i64 (k : Int), .int .u8 (ag : Int), .int .i64 ct, .int .i64 (on : Int), .slice dp dn dc, .slice ep en ec] :: []))
         go_wp2_with fail
         refine hK.out _ _ hk6 ?_
         clear hK K s5 s5d hHeld
         have hHeld := hk6
         try simp only [pA1, pA2, pA3, pA4]
         refine anyE_last (i := 13) (x := ?_) ?_ (by kernel_rfl) (by kernel_rfl) (fun K hK => ?_)
         rotate_left
         ·(simp only [gE1, gE2, gE3]; rfl)
         rw [if_pos (by rfl)]
         refine op_store_agg 35 (.tmp 4) (.tmp 101) rfl (cs := [.int .i64 8, .int .i64 0, .bool false, .slice none 0 0]) ((Sat.sub (s6b) (by with_reducible repeat first | exact Fr1 | exact Fr2 | (apply Fr3; focus ((repeat (first | exact Tk1 | apply Tk2)); done)) | apply Fr4)) : Sat W0 w6 (seg true ga 0 ans0 :: seg true v 0 (.bool true :: cellsT T) :: segH p k al ou kq kl cq c2 cl c3 mq ml mc :: bytes true kq H.kb :: bytes true c2 H.cb :: bytes true mq H.mb :: RW :: slotsA 0 (T.set k none) :: bytes md dp data :: bytes mm ep more :: L)) 0 0 Tryz.size_ans rfl rfl rfl (Nat.le_refl 4) (ans_one _ _ _ _ _ _) ?_
         intro ws ss
         rw [setL_all _ _ (by rfl)] at ss
         clear s6
         refine hK.out _ _ ?_
         clear hK
         try simp only [pA1, pA2, pA3, pA4]
         refine anyE_done (by kernel_rfl) ?_ _
         have hr := run_loadVar_agg (P := Tryz.prog) (ty := 35) Tryz.underlying35 rfl Tryz.size_ans ss 0 0 rfl (Nat.le_refl 4)
         have hr2 : Sem.run Tryz.prog (loadVar 35 ⟨ga, 0, none⟩) ws = Result.ok (.agg #[.int .i64 8, .int .i64 0, .bool false, .slice none 0 0]) ws := hr
         have HS := Lib.hid ss.tail; clear ss hr
         go_wp2_with fail
         refine bodyPost_ret (v := .agg #[.int .i64 8, .int .i64 0, .bool false, .slice none 0 0]) (by simp [results, Tryz.results42, asAddr]; exact hr2) rfl ?_
         rw [HE.out, hit.out]
         exact HNO.out _ _ HS.out
   ·have k16 : ((kl : Int) != 16) = true := by rw [bne_iff_ne]; omega
    have k24 : ((kl : Int) != 24) = true := by rw [bne_iff_ne]; omega
    have k32 : ((kl : Int) != 32) = true := by rw [bne_iff_ne]; omega
    rw [if_pos ⟨hg, hk⟩] at e0
    clear hg
    have HE := Lib.hid e0; clear e0
    go_wp2_with fail
    refine (iNo 7 s5).mono ?_
    rintro e w4 ⟨rfl, s4⟩
    clear s5
    clear o0 o1 o2 o3 o4 o5 o6 zo cp0 cp1 cp2 cp3 cp4 cp5 zp
    have sr0 : Sat W0 _ (seg true ga 0 ans0 :: seg true v 0 (.bool true :: cellsT T) :: segH p k al ou kq kl cq c2 cl c3 mq ml mc :: bytes true kq H.kb :: bytes true c2 H.cb :: bytes true mq H.mb :: RW :: slotsA 0 (T.set k none) :: bytes md dp data :: bytes mm ep more :: L) := (Sat.sub (s4) (by with_reducible repeat first | exact Fr1 | exact Fr2 | (apply Fr3; focus ((repeat (first | exact Tk1 | apply Tk2)); done)) | apply Fr4))
    go_wp2_with (refine wpl_stAns rfl rfl (.tmp 4) (.tmp 44) rfl sr0 rfl rfl ?_; intro ws ss; clear sr0)
    have hr := ansLd ss
    have HS := Lib.hid ss.tail; clear ss
    refine bodyPost_ret (v := .agg #[.int .i64 7, .int .i64 0, .bool false, .slice none 0 0]) (by simp [results, Tryz.results42, asAddr]; exact hr) rfl ?_
    rw [HE.out]
    exact HNO.out _ _ HS.out
  ·have e1 : ((ag : Int) == 1) = false := by rw [beq_eq_false_iff_ne]; omega
   have e3 : ((ag : Int) == 3) = false := by rw [beq_eq_false_iff_ne]; omega
   have l1 : ¬ (ag : Int) < 1 := by omega
   have l7 : ¬ (7 : Int) < (ag : Int) := by omega
   have hkm0 := fun w => iKmacOf w (kindA ag)
   rw [kindA_alg ag (by omega) hg.2, show isKm ag = true from decide_eq_true hg.1] at hkm0
   obtain ⟨st, hst⟩ : ∃ st, st = stA ag := ⟨_, rfl⟩
   obtain ⟨xo, hxo⟩ : ∃ xo, xo = xoA ag := ⟨_, rfl⟩
   rw [← hst, ← hxo] at hkm0
   have hkm := hkm0
   clear hkm0 hst hxo
   have hmo : (mostA ag : Int) = 64 := by unfold mostA; split <;> (try split) <;> omega
   rw [hmo] at e0
   clear hmo
   rw [if_neg (by omega), if_neg (by omega)] at e0
   rw [if_neg (by omega)] at e0
   by_cases hd9 : 64 < dn
   ·have hdI : (0 : Int) < (dn : Int) := by omega
    have hdJ : (64 : Int) < (dn : Int) := by omega
    rw [if_pos hd9] at e0
    have HE := Lib.hid e0; clear e0
    go_wp2_with fail
    refine (hkm _).mono ?_
    rintro e w4 ⟨rfl, rfl⟩
    go_wp2_with fail
    refine (iNo 9 s5).mono ?_
    rintro e w4 ⟨rfl, s4⟩
    clear s5
    clear o0 o1 o2 o3 o4 o5 o6 zo cp0 cp1 cp2 cp3 cp4 cp5 zp
    have sr0 : Sat W0 _ (seg true ga 0 ans0 :: seg true v 0 (.bool true :: cellsT T) :: segH p k al ou kq kl cq c2 cl c3 mq ml mc :: bytes true kq H.kb :: bytes true c2 H.cb :: bytes true mq H.mb :: RW :: slotsA 0 (T.set k none) :: bytes md dp data :: bytes mm ep more :: L) := (Sat.sub (s4) (by with_reducible repeat first | exact Fr1 | exact Fr2 | (apply Fr3; focus ((repeat (first | exact Tk1 | apply Tk2)); done)) | apply Fr4))
    go_wp2_with (refine wpl_stAns rfl rfl (.tmp 4) (.tmp 77) rfl sr0 rfl rfl ?_; intro ws ss; clear sr0)
    have hr := ansLd ss
    have HS := Lib.hid ss.tail; clear ss
    refine bodyPost_ret (v := .agg #[.int .i64 9, .int .i64 0, .bool false, .slice none 0 0]) (by simp [results, Tryz.results42, asAddr]; exact hr) rfl ?_
    rw [HE.out]
    exact HNO.out _ _ HS.out
   ·have hdJ : ¬ (64 : Int) < (dn : Int) := by omega
    rw [if_neg hd9] at e0
    by_cases hd0 : 0 < dn
    ·have hdI : (0 : Int) < (dn : Int) := by omega
     by_cases ho1 : ot < 1
     ·rw [if_pos (.inl ho1)] at e0
      have HE := Lib.hid e0; clear e0
      go_wp2_with fail
      refine (hkm _).mono ?_
      rintro e w4 ⟨rfl, rfl⟩
      go_wp2_with fail
      refine (iNo 11 s5).mono ?_
      rintro e w4 ⟨rfl, s4⟩
      clear s5
      clear o0 o1 o2 o3 o4 o5 o6 zo cp0 cp1 cp2 cp3 cp4 cp5 zp
      have sr0 : Sat W0 _ (seg true ga 0 ans0 :: seg true v 0 (.bool true :: cellsT T) :: segH p k al ou kq kl cq c2 cl c3 mq ml mc :: bytes true kq H.kb :: bytes true c2 H.cb :: bytes true mq H.mb :: RW :: slotsA 0 (T.set k none) :: bytes md dp data :: bytes mm ep more :: L) := (Sat.sub (s4) (by with_reducible repeat first | exact Fr1 | exact Fr2 | (apply Fr3; focus ((repeat (first | exact Tk1 | apply Tk2)); done)) | apply Fr4))
      go_wp2_with (refine wpl_stAns rfl rfl (.tmp 4) (.tmp 88) rfl sr0 rfl rfl ?_; intro ws ss; clear sr0)
      have hr := ansLd ss
      have HS := Lib.hid ss.tail; clear ss
      refine bodyPost_ret (v := .agg #[.int .i64 11, .int .i64 0, .bool false, .slice none 0 0]) (by simp [results, Tryz.results42, asAddr]; exact hr) rfl ?_
      rw [HE.out]
      exact HNO.out _ _ HS.out
     ·by_cases ho2 : 64 < ot
      ·rw [if_pos (.inr ho2)] at e0
       have HE := Lib.hid e0; clear e0
       go_wp2_with fail
       refine (hkm _).mono ?_
       rintro e w4 ⟨rfl, rfl⟩
       go_wp2_with fail
       refine (iNo 11 s5).mono ?_
       rintro e w4 ⟨rfl, s4⟩
       clear s5
       clear o0 o1 o2 o3 o4 o5 o6 zo cp0 cp1 cp2 cp3 cp4 cp5 zp
       have sr0 : Sat W0 _ (seg true ga 0 ans0 :: seg true v 0 (.bool true :: cellsT T) :: segH p k al ou kq kl cq c2 cl c3 mq ml mc :: bytes true kq H.kb :: bytes true c2 H.cb :: bytes true mq H.mb :: RW :: slotsA 0 (T.set k none) :: bytes md dp data :: bytes mm ep more :: L) := (Sat.sub (s4) (by with_reducible repeat first | exact Fr1 | exact Fr2 | (apply Fr3; focus ((repeat (first | exact Tk1 | apply Tk2)); done)) | apply Fr4))
       go_wp2_with (refine wpl_stAns rfl rfl (.tmp 4) (.tmp 88) rfl sr0 rfl rfl ?_; intro ws ss; clear sr0)
       have hr := ansLd ss
       have HS := Lib.hid ss.tail; clear ss
       refine bodyPost_ret (v := .agg #[.int .i64 11, .int .i64 0, .bool false, .slice none 0 0]) (by simp [results, Tryz.results42, asAddr]; exact hr) rfl ?_
       rw [HE.out]
       exact HNO.out _ _ HS.out
      ·rw [if_neg (by rintro (h | h); exact ho1 h; exact ho2 h)] at e0
       obtain ⟨on, rfl⟩ : ∃ on : Nat, ot = (on : Int) := ⟨ot.toNat, by omega⟩
       rw [Int.toNat_natCast] at e0
       have htk2 := fun (w : World) (X : List Assn) (s : Sat W0 w (seg true v 0 (.bool true :: cellsT T) :: slotsA 0 (T.set k none) :: bytes true kq H.kb :: bytes md dp data :: bytes true none [] :: X)) => iTakeW (v := v) (ck := cq) (cc := dc) (cm := 0) T (T.set k none) (.sn (kindA ag) on H.kb data []) 0 HN.out.2.2 (setTT T k) HT.out.2.2.2.2.symm HD.out.1 rfl HKL.out HD.out.2 (Nat.zero_le _) s
       rw [show (Hold.sn (kindA ag) on H.kb data []).alg = ag from kindA_alg ag (by omega) (by omega)] at htk2
       have HTK := Lib.hid htk2; clear htk2
       have HE := Lib.hid e0; clear e0
       go_wp2_with fail
       refine (hkm _).mono ?_
       rintro e w4 ⟨rfl, rfl⟩
       go_wp2_with fail
       have s5d := s5.drew
       have hs5 := keepB ((Sat.sub (s5d) (by with_reducible repeat first | exact Fr1 | exact Fr2 | (apply Fr3; focus ((repeat (first | exact Tk1 | apply Tk2)); done)) | apply Fr4)) : Sat W0 w4.drew (segH p k al ou kq kl cq c2 cl c3 mq ml mc :: seg true g 0 [.int .u8 (kd : Int), .int .i64 (k : Int), .int .u8 (ag : Int), .int .i64 ct, .int .i64 (on : Int), .slice dp dn dc, .slice ep en ec] :: []))
       clear o0 o1 o2 o3 o4 o5 o6 zo cp0 cp1 cp2 cp3 cp4 cp5 zp
       refine region_E (fun w' => w'.cell? ⟨p, 3, none⟩ = some (.slice kq kl cq) ∧ p < w'.heap.size ∧ w'.cell? ⟨g, 2, none⟩ = some (.int .u8 (ag : Int)) ∧ w'.cell? ⟨g, 4, none⟩ = some (.int .i64 (on : Int)) ∧ w'.cell? ⟨g, 5, none⟩ = some (.slice dp dn dc) ∧ g < w'.heap.size) [2, 4, 8, 10] (by kernel_rfl) ?_
       have hHeld := hs5
       iterate 12
        first | refine autoT hHeld (by rfl) (by rfl) (x := ?_) (v := ?_) ?_ (by kernel_rfl) ?_ ?_ ?_ | refine autoP (by rfl) (x := ?_) (v := ?_) ?_ (by kernel_rfl) ?_ ?_ ?_
        rotate_left 2
        ·(simp only [gE1, gE2, gE3]; rfl)
        ·exact fun _ _ _ h => h
        ·refine Or.inl ⟨by rfl, fun w hSw => ?_⟩
         (try dsimp only at hSw)
         go_simp
         try (with_reducible rfl)
        try simp only [pA1, pA2, pA3, pA4]
       refine anyE_one (i := 12) (x := ?_) ?_ (by kernel_rfl) (fun K hK => ?_)
       rotate_left
       ·(simp only [gE1, gE2, gE3]; rfl)
       go_simp
       refine (HTK.out _ (bytes true c2 H.cb :: segH p k al ou kq kl cq c2 cl c3 mq ml mc :: bytes true mq H.mb :: RW :: seg true ga 0 ans0 :: seg true g 0 [.int .u8 (kd : Int), .int .i64 (k : Int), .int .u8 (ag : Int), .int .i64 ct, .int .i64 (on : Int), .slice dp dn dc, .slice ep en ec] :: bytes mm ep more :: L) (by have h1 := bytesNil true none s5d; exact (Sat.sub (h1) (by with_reducible repeat first | exact Fr1 | exact Fr2 | (apply Fr3; focus ((repeat (first | exact Tk1 | apply Tk2)); done)) | apply Fr4)))).mono ?_
       rintro e w6 (⟨i, p2, hin', hit', rfl, s6⟩ | ⟨hit', rfl, s6⟩)
       ·have hin := Lib.hid hin'; clear hin'
        have hit := Lib.hid hit'; clear hit'
        have s6b : Sat W0 w6 (seg true v 0 (.bool true :: cellsT (T.set i (some (p2, (.sn (kindA ag) on H.kb data []))))) :: slotsA 0 ((T.set k none).set i (some (p2, (.sn (kindA ag) on H.kb data [])))) :: bytes true kq H.kb :: bytes md dp data :: bytes true none [] :: bytes true c2 H.cb :: segH p k al ou kq kl cq c2 cl c3 mq ml mc :: bytes true mq H.mb :: RW :: seg true ga 0 ans0 :: seg true g 0 [.int .u8 (kd : Int), .int .i64 (k : Int), .int .u8 (ag : Int), .int .i64 ct, .int .i64 (on : Int), .slice dp dn dc, .slice ep en ec] :: bytes mm ep more :: L) := s6
        have hk6 := keepB ((Sat.sub (s6b) (by with_reducible repeat first | exact Fr1 | exact Fr2 | (apply Fr3; focus ((repeat (first | exact Tk1 | apply Tk2)); done)) | apply Fr4)) : Sat W0 w6 (segH p k al ou kq kl cq c2 cl c3 mq ml mc :: seg true g 0 [.int .u8 (kd : Int), .int .i64 (k : Int), .int .u8 (ag : Int), .int .i64 ct, .int .i64 (on : Int), .slice dp dn dc, .slice ep en ec] :: []))
        go_wp2_with fail
        refine hK.out _ _ hk6 ?_
        clear hK K s5 s5d hHeld
        have hHeld := hk6
        try simp only [pA1, pA2, pA3, pA4]
        refine anyE_last (i := 13) (x := ?_) ?_ (by kernel_rfl) (by kernel_rfl) (fun K hK => ?_)
        rotate_left
        ·(simp only [gE1, gE2, gE3]; rfl)
        rw [if_pos (by rfl)]
        refine op_store_agg 35 (.tmp 4) (.tmp 101) rfl (cs := [.int .i64 0, .int .i64 (i : Int), .bool false, .slice none 0 0]) ((Sat.sub (s6b) (by with_reducible repeat first | exact Fr1 | exact Fr2 | (apply Fr3; focus ((repeat (first | exact Tk1 | apply Tk2)); done)) | apply Fr4)) : Sat W0 w6 (seg true ga 0 ans0 :: seg true v 0 (.bool true :: cellsT (T.set i (some (p2, (.sn (kindA ag) on H.kb data []))))) :: segH p k al ou kq kl cq c2 cl c3 mq ml mc :: bytes true kq H.kb :: bytes true c2 H.cb :: bytes true mq H.mb :: RW :: slotsA 0 ((T.set k none).set i (some (p2, (.sn (kindA ag) on H.kb data [])))) :: bytes md dp data :: bytes mm ep more :: L)) 0 0 Tryz.size_ans rfl rfl rfl (Nat.le_refl 4) (ans_one _ _ _ _ _ _) ?_
        intro ws ss
        rw [setL_all _ _ (by rfl)] at ss
        clear s6
        refine hK.out _ _ ?_
        clear hK
        try simp only [pA1, pA2, pA3, pA4]
        refine anyE_done (by kernel_rfl) ?_ _
        have hr := run_loadVar_agg (P := Tryz.prog) (ty := 35) Tryz.underlying35 rfl Tryz.size_ans ss 0 0 rfl (Nat.le_refl 4)
        have hr2 : Sem.run Tryz.prog (loadVar 35 ⟨ga, 0, none⟩) ws = Result.ok (.agg #[.int .i64 0, .int .i64 (i : Int), .bool false, .slice none 0 0]) ws := hr
        have HS := Lib.hid ss.tail; clear ss hr
        go_wp2_with fail
        refine bodyPost_ret (v := .agg #[.int .i64 0, .int .i64 (i : Int), .bool false, .slice none 0 0]) (by simp [results, Tryz.results42, asAddr]; exact hr2) rfl ?_
        rw [HE.out, hit.out]
        have s8 := HS.out
        have hb := takeBack (p2 := p2) (H2 := (.sn (kindA ag) on H.kb data [])) HT.out.1 hin.out
        have s9 := HT.out.2.1 _ _ _ hb.1 ((Sat.sub (s8) (by with_reducible repeat first | exact Fr1 | exact Fr2 | (apply Fr3; focus ((repeat (first | exact Tk1 | apply Tk2)); done)) | apply Fr4)) : Sat W0 ws (segH p k al ou kq kl cq c2 cl c3 mq ml mc :: bytes true kq H.kb :: bytes true c2 H.cb :: bytes true mq H.mb :: RW :: slotsA 0 ((T.set k none).set i (some (p2, (.sn (kindA ag) on H.kb data [])))) :: seg true v 0 (.bool true :: cellsT (T.set i (some (p2, (.sn (kindA ag) on H.kb data []))))) :: bytes md dp data :: bytes mm ep more :: L))
        rw [hb.2] at s9
        exact ansP_h (vShut (T.set i (some (p2, (.sn (kindA ag) on H.kb data [])))) (namesT_set _ _ _) (s9.pull 1 |>.sub (.cons .here (.cons .here .done))))
       ·have hit := Lib.hid hit'; clear hit'
        have s6b : Sat W0 w6 (seg true v 0 (.bool true :: cellsT T) :: slotsA 0 (T.set k none) :: bytes true kq H.kb :: bytes md dp data :: bytes true none [] :: bytes true c2 H.cb :: segH p k al ou kq kl cq c2 cl c3 mq ml mc :: bytes true mq H.mb :: RW :: seg true ga 0 ans0 :: seg true g 0 [.int .u8 (kd : Int), .int .i64 (k : Int), .int .u8 (ag : Int), .int .i64 ct, .int .i64 (on : Int), .slice dp dn dc, .slice ep en ec] :: bytes mm ep more :: L) := s6
        have hk6 := keepB ((Sat.sub (s6b) (by with_reducible repeat first | exact Fr1 | exact Fr2 | (apply Fr3; focus ((repeat (first | exact Tk1 | apply Tk2)); done)) | apply Fr4)) : Sat W0 w6 (segH p k al ou kq kl cq c2 cl c3 mq ml mc :: seg true g 0 [.int .u8 (kd : Int), .int .i64 (k : Int), .int .u8 (ag : Int), .int .i64 ct, .int .i64 (on : Int), .slice dp dn dc, .slice ep en ec] :: []))
        go_wp2_with fail
        refine hK.out _ _ hk6 ?_
        clear hK K s5 s5d hHeld
        have hHeld := hk6
        try simp only [pA1, pA2, pA3, pA4]
        refine anyE_last (i := 13) (x := ?_) ?_ (by kernel_rfl) (by kernel_rfl) (fun K hK => ?_)
        rotate_left
        ·(simp only [gE1, gE2, gE3]; rfl)
        rw [if_pos (by rfl)]
        refine op_store_agg 35 (.tmp 4) (.tmp 101) rfl (cs := [.int .i64 8, .int .i64 0, .bool false, .slice none 0 0]) ((Sat.sub (s6b) (by with_reducible repeat first | exact Fr1 | exact Fr2 | (apply Fr3; focus ((repeat (first | exact Tk1 | apply Tk2)); done)) | apply Fr4)) : Sat W0 w6 (seg true ga 0 ans0 :: seg true v 0 (.bool true :: cellsT T) :: segH p k al ou kq kl cq c2 cl c3 mq ml mc :: bytes true kq H.kb :: bytes true c2 H.cb :: bytes true mq H.mb :: RW :: slotsA 0 (T.set k none) :: bytes md dp data :: bytes mm ep more :: L)) 0 0 Tryz.size_ans rfl rfl rfl (Nat.le_refl 4) (ans_one _ _ _ _ _ _) ?_
        intro ws ss
        rw [setL_all _ _ (by rfl)] at ss
        clear s6
        refine hK.out _ _ ?_
        clear hK
        try simp only [pA1, pA2, pA3, pA4]
        refine anyE_done (by kernel_rfl) ?_ _
        have hr := run_loadVar_agg (P := Tryz.prog) (ty := 35) Tryz.underlying35 rfl Tryz.size_ans ss 0 0 rfl (Nat.le_refl 4)
        have hr2 : Sem.run Tryz.prog (loadVar 35 ⟨ga, 0, none⟩) ws = Result.ok (.agg #[.int .i64 8, .int .i64 0, .bool false, .slice none 0 0]) ws := hr
        have HS := Lib.hid ss.tail; clear ss hr
        go_wp2_with fail
        refine bodyPost_ret (v := .agg #[.int .i64 8, .int .i64 0, .bool false, .slice none 0 0]) (by simp [results, Tryz.results42, asAddr]; exact hr2) rfl ?_
        rw [HE.out, hit.out]
        exact HNO.out _ _ HS.out
    ·have hdI : ¬ (0 : Int) < (dn : Int) := by omega
     by_cases ho1 : ot < 1
     ·rw [if_pos (.inl ho1)] at e0
      have HE := Lib.hid e0; clear e0
      go_wp2_with fail
      refine (hkm _).mono ?_
      rintro e w4 ⟨rfl, rfl⟩
      go_wp2_with fail
      refine (iNo 11 s5).mono ?_
      rintro e w4 ⟨rfl, s4⟩
      clear s5
      clear o0 o1 o2 o3 o4 o5 o6 zo cp0 cp1 cp2 cp3 cp4 cp5 zp
      have sr0 : Sat W0 _ (seg true ga 0 ans0 :: seg true v 0 (.bool true :: cellsT T) :: segH p k al ou kq kl cq c2 cl c3 mq ml mc :: bytes true kq H.kb :: bytes true c2 H.cb :: bytes true mq H.mb :: RW :: slotsA 0 (T.set k none) :: bytes md dp data :: bytes mm ep more :: L) := (Sat.sub (s4) (by with_reducible repeat first | exact Fr1 | exact Fr2 | (apply Fr3; focus ((repeat (first | exact Tk1 | apply Tk2)); done)) | apply Fr4))
      go_wp2_with (refine wpl_stAns rfl rfl (.tmp 4) (.tmp 88) rfl sr0 rfl rfl ?_; intro ws ss; clear sr0)
      have hr := ansLd ss
      have HS := Lib.hid ss.tail; clear ss
      refine bodyPost_ret (v := .agg #[.int .i64 11, .int .i64 0, .bool false, .slice none 0 0]) (by simp [results, Tryz.results42, asAddr]; exact hr) rfl ?_
      rw [HE.out]
      exact HNO.out _ _ HS.out
     ·by_cases ho2 : 64 < ot
      ·rw [if_pos (.inr ho2)] at e0
       have HE := Lib.hid e0; clear e0
       go_wp2_with fail
       refine (hkm _).mono ?_
       rintro e w4 ⟨rfl, rfl⟩
       go_wp2_with fail
       refine (iNo 11 s5).mono ?_
       rintro e w4 ⟨rfl, s4⟩
       clear s5
       clear o0 o1 o2 o3 o4 o5 o6 zo cp0 cp1 cp2 cp3 cp4 cp5 zp
       have sr0 : Sat W0 _ (seg true ga 0 ans0 :: seg true v 0 (.bool true :: cellsT T) :: segH p k al ou kq kl cq c2 cl c3 mq ml mc :: bytes true kq H.kb :: bytes true c2 H.cb :: bytes true mq H.mb :: RW :: slotsA 0 (T.set k none) :: bytes md dp data :: bytes mm ep more :: L) := (Sat.sub (s4) (by with_reducible repeat first | exact Fr1 | exact Fr2 | (apply Fr3; focus ((repeat (first | exact Tk1 | apply Tk2)); done)) | apply Fr4))
       go_wp2_with (refine wpl_stAns rfl rfl (.tmp 4) (.tmp 88) rfl sr0 rfl rfl ?_; intro ws ss; clear sr0)
       have hr := ansLd ss
       have HS := Lib.hid ss.tail; clear ss
       refine bodyPost_ret (v := .agg #[.int .i64 11, .int .i64 0, .bool false, .slice none 0 0]) (by simp [results, Tryz.results42, asAddr]; exact hr) rfl ?_
       rw [HE.out]
       exact HNO.out _ _ HS.out
      ·rw [if_neg (by rintro (h | h); exact ho1 h; exact ho2 h)] at e0
       obtain ⟨on, rfl⟩ : ∃ on : Nat, ot = (on : Int) := ⟨ot.toNat, by omega⟩
       rw [Int.toNat_natCast] at e0
       have htk2 := fun (w : World) (X : List Assn) (s : Sat W0 w (seg true v 0 (.bool true :: cellsT T) :: slotsA 0 (T.set k none) :: bytes true kq H.kb :: bytes md dp data :: bytes true none [] :: X)) => iTakeW (v := v) (ck := cq) (cc := dc) (cm := 0) T (T.set k none) (.sn (kindA ag) on H.kb data []) 0 HN.out.2.2 (setTT T k) HT.out.2.2.2.2.symm HD.out.1 rfl HKL.out HD.out.2 (Nat.zero_le _) s
       rw [show (Hold.sn (kindA ag) on H.kb data []).alg = ag from kindA_alg ag (by omega) (by omega)] at htk2
       have HTK := Lib.hid htk2; clear htk2
       have HE := Lib.hid e0; clear e0
       go_wp2_with fail
       refine (hkm _).mono ?_
       rintro e w4 ⟨rfl, rfl⟩
       go_wp2_with fail
       have s5d := s5.drew
       have hs5 := keepB ((Sat.sub (s5d) (by with_reducible repeat first | exact Fr1 | exact Fr2 | (apply Fr3; focus ((repeat (first | exact Tk1 | apply Tk2)); done)) | apply Fr4)) : Sat W0 w4.drew (segH p k al ou kq kl cq c2 cl c3 mq ml mc :: seg true g 0 [.int .u8 (kd : Int), .int .i64 (k : Int), .int .u8 (ag : Int), .int .i64 ct, .int .i64 (on : Int), .slice dp dn dc, .slice ep en ec] :: []))
       clear o0 o1 o2 o3 o4 o5 o6 zo cp0 cp1 cp2 cp3 cp4 cp5 zp
       refine region_E (fun w' => w'.cell? ⟨p, 3, none⟩ = some (.slice kq kl cq) ∧ p < w'.heap.size ∧ w'.cell? ⟨g, 2, none⟩ = some (.int .u8 (ag : Int)) ∧ w'.cell? ⟨g, 4, none⟩ = some (.int .i64 (on : Int)) ∧ w'.cell? ⟨g, 5, none⟩ = some (.slice dp dn dc) ∧ g < w'.heap.size) [2, 4, 8, 10] (by kernel_rfl) ?_
       have hHeld := hs5
       iterate 12
        first | refine autoT hHeld (by rfl) (by rfl) (x := ?_) (v := ?_) ?_ (by kernel_rfl) ?_ ?_ ?_ | refine autoP (by rfl) (x := ?_) (v := ?_) ?_ (by kernel_rfl) ?_ ?_ ?_
        rotate_left 2
        ·(simp only [gE1, gE2, gE3]; rfl)
        ·exact fun _ _ _ h => h
        ·refine Or.inl ⟨by rfl, fun w hSw => ?_⟩
         (try dsimp only at hSw)
         go_simp
         try (with_reducible rfl)
        try simp only [pA1, pA2, pA3, pA4]
       refine anyE_one (i := 12) (x := ?_) ?_ (by kernel_rfl) (fun K hK => ?_)
       rotate_left
       ·(simp only [gE1, gE2, gE3]; rfl)
       go_simp
       refine (HTK.out _ (bytes true c2 H.cb :: segH p k al ou kq kl cq c2 cl c3 mq ml mc :: bytes true mq H.mb :: RW :: seg true ga 0 ans0 :: seg true g 0 [.int .u8 (kd : Int), .int .i64 (k : Int), .int .u8 (ag : Int), .int .i64 ct, .int .i64 (on : Int), .slice dp dn dc, .slice ep en ec] :: bytes mm ep more :: L) (by have h1 := bytesNil true none s5d; exact (Sat.sub (h1) (by with_reducible repeat first | exact Fr1 | exact Fr2 | (apply Fr3; focus ((repeat (first | exact Tk1 | apply Tk2)); done)) | apply Fr4)))).mono ?_
       rintro e w6 (⟨i, p2, hin', hit', rfl, s6⟩ | ⟨hit', rfl, s6⟩)
       ·have hin := Lib.hid hin'; clear hin'
        have hit := Lib.hid hit'; clear hit'
        have s6b : Sat W0 w6 (seg true v 0 (.bool true :: cellsT (T.set i (some (p2, (.sn (kindA ag) on H.kb data []))))) :: slotsA 0 ((T.set k none).set i (some (p2, (.sn (kindA ag) on H.kb data [])))) :: bytes true kq H.kb :: bytes md dp data :: bytes true none [] :: bytes true c2 H.cb :: segH p k al ou kq kl cq c2 cl c3 mq ml mc :: bytes true mq H.mb :: RW :: seg true ga 0 ans0 :: seg true g 0 [.int .u8 (kd : Int), .int .i64 (k : Int), .int .u8 (ag : Int), .int .i64 ct, .int .i64 (on : Int), .slice dp dn dc, .slice ep en ec] :: bytes mm ep more :: L) := s6
        have hk6 := keepB ((Sat.sub (s6b) (by with_reducible repeat first | exact Fr1 | exact Fr2 | (apply Fr3; focus ((repeat (first | exact Tk1 | apply Tk2)); done)) | apply Fr4)) : Sat W0 w6 (segH p k al ou kq kl cq c2 cl c3 mq ml mc :: seg true g 0 [.int .u8 (kd : Int), .int .i64 (k : Int), .int .u8 (ag : Int), .int .i64 ct, .int .i64 (on : Int), .slice dp dn dc, .slice ep en ec] :: []))
        go_wp2_with fail
        refine hK.out _ _ hk6 ?_
        clear hK K s5 s5d hHeld
        have hHeld := hk6
        try simp only [pA1, pA2, pA3, pA4]
        refine anyE_last (i := 13) (x := ?_) ?_ (by kernel_rfl) (by kernel_rfl) (fun K hK => ?_)
        rotate_left
        ·(simp only [gE1, gE2, gE3]; rfl)
        rw [if_pos (by rfl)]
        refine op_store_agg 35 (.tmp 4) (.tmp 101) rfl (cs := [.int .i64 0, .int .i64 (i : Int), .bool false, .slice none 0 0]) ((Sat.sub (s6b) (by with_reducible repeat first | exact Fr1 | exact Fr2 | (apply Fr3; focus ((repeat (first | exact Tk1 | apply Tk2)); done)) | apply Fr4)) : Sat W0 w6 (seg true ga 0 ans0 :: seg true v 0 (.bool true :: cellsT (T.set i (some (p2, (.sn (kindA ag) on H.kb data []))))) :: segH p k al ou kq kl cq c2 cl c3 mq ml mc :: bytes true kq H.kb :: bytes true c2 H.cb :: bytes true mq H.mb :: RW :: slotsA 0 ((T.set k none).set i (some (p2, (.sn (kindA ag) on H.kb data [])))) :: bytes md dp data :: bytes mm ep more :: L)) 0 0 Tryz.size_ans rfl rfl rfl (Nat.le_refl 4) (ans_one _ _ _ _ _ _) ?_
        intro ws ss
        rw [setL_all _ _ (by rfl)] at ss
        clear s6
        refine hK.out _ _ ?_
        clear hK
        try simp only [pA1, pA2, pA3, pA4]
        refine anyE_done (by kernel_rfl) ?_ _
        have hr := run_loadVar_agg (P := Tryz.prog) (ty := 35) Tryz.underlying35 rfl Tryz.size_ans ss 0 0 rfl (Nat.le_refl 4)
        have hr2 : Sem.run Tryz.prog (loadVar 35 ⟨ga, 0, none⟩) ws = Result.ok (.agg #[.int .i64 0, .int .i64 (i : Int), .bool false, .slice none 0 0]) ws := hr
        have HS := Lib.hid ss.tail; clear ss hr
        go_wp2_with fail
        refine bodyPost_ret (v := .agg #[.int .i64 0, .int .i64 (i : Int), .bool false, .slice none 0 0]) (by simp [results, Tryz.results42, asAddr]; exact hr2) rfl ?_
        rw [HE.out, hit.out]
        have s8 := HS.out
        have hb := takeBack (p2 := p2) (H2 := (.sn (kindA ag) on H.kb data [])) HT.out.1 hin.out
        have s9 := HT.out.2.1 _ _ _ hb.1 ((Sat.sub (s8) (by with_reducible repeat first | exact Fr1 | exact Fr2 | (apply Fr3; focus ((repeat (first | exact Tk1 | apply Tk2)); done)) | apply Fr4)) : Sat W0 ws (segH p k al ou kq kl cq c2 cl c3 mq ml mc :: bytes true kq H.kb :: bytes true c2 H.cb :: bytes true mq H.mb :: RW :: slotsA 0 ((T.set k none).set i (some (p2, (.sn (kindA ag) on H.kb data [])))) :: seg true v 0 (.bool true :: cellsT (T.set i (some (p2, (.sn (kindA ag) on H.kb data []))))) :: bytes md dp data :: bytes mm ep more :: L))
        rw [hb.2] at s9
        exact ansP_h (vShut (T.set i (some (p2, (.sn (kindA ag) on H.kb data [])))) (namesT_set _ _ _) (s9.pull 1 |>.sub (.cons .here (.cons .here .done))))
       ·have hit := Lib.hid hit'; clear hit'
        have s6b : Sat W0 w6 (seg true v 0 (.bool true :: cellsT T) :: slotsA 0 (T.set k none) :: bytes true kq H.kb :: bytes md dp data :: bytes true none [] :: bytes true c2 H.cb :: segH p k al ou kq kl cq c2 cl c3 mq ml mc :: bytes true mq H.mb :: RW :: seg true ga 0 ans0 :: seg true g 0 [.int .u8 (kd : Int), .int .i64 (k : Int), .int .u8 (ag : Int), .int .i64 ct, .int .i64 (on : Int), .slice dp dn dc, .slice ep en ec] :: bytes mm ep more :: L) := s6
        have hk6 := keepB ((Sat.sub (s6b) (by with_reducible repeat first | exact Fr1 | exact Fr2 | (apply Fr3; focus ((repeat (first | exact Tk1 | apply Tk2)); done)) | apply Fr4)) : Sat W0 w6 (segH p k al ou kq kl cq c2 cl c3 mq ml mc :: seg true g 0 [.int .u8 (kd : Int), .int .i64 (k : Int), .int .u8 (ag : Int), .int .i64 ct, .int .i64 (on : Int), .slice dp dn dc, .slice ep en ec] :: []))
        go_wp2_with fail
        refine hK.out _ _ hk6 ?_
        clear hK K s5 s5d hHeld
        have hHeld := hk6
        try simp only [pA1, pA2, pA3, pA4]
        refine anyE_last (i := 13) (x := ?_) ?_ (by kernel_rfl) (by kernel_rfl) (fun K hK => ?_)
        rotate_left
        ·(simp only [gE1, gE2, gE3]; rfl)
        rw [if_pos (by rfl)]
        refine op_store_agg 35 (.tmp 4) (.tmp 101) rfl (cs := [.int .i64 8, .int .i64 0, .bool false, .slice none 0 0]) ((Sat.sub (s6b) (by with_reducible repeat first | exact Fr1 | exact Fr2 | (apply Fr3; focus ((repeat (first | exact Tk1 | apply Tk2)); done)) | apply Fr4)) : Sat W0 w6 (seg true ga 0 ans0 :: seg true v 0 (.bool true :: cellsT T) :: segH p k al ou kq kl cq c2 cl c3 mq ml mc :: bytes true kq H.kb :: bytes true c2 H.cb :: bytes true mq H.mb :: RW :: slotsA 0 (T.set k none) :: bytes md dp data :: bytes mm ep more :: L)) 0 0 Tryz.size_ans rfl rfl rfl (Nat.le_refl 4) (ans_one _ _ _ _ _ _) ?_
        intro ws ss
        rw [setL_all _ _ (by rfl)] at ss
        clear s6
        refine hK.out _ _ ?_
        clear hK
        try simp only [pA1, pA2, pA3, pA4]
        refine anyE_done (by kernel_rfl) ?_ _
        have hr := run_loadVar_agg (P := Tryz.prog) (ty := 35) Tryz.underlying35 rfl Tryz.size_ans ss 0 0 rfl (Nat.le_refl 4)
        have hr2 : Sem.run Tryz.prog (loadVar 35 ⟨ga, 0, none⟩) ws = Result.ok (.agg #[.int .i64 8, .int .i64 0, .bool false, .slice none 0 0]) ws := hr
        have HS := Lib.hid ss.tail; clear ss hr
        go_wp2_with fail
        refine bodyPost_ret (v := .agg #[.int .i64 8, .int .i64 0, .bool false, .slice none 0 0]) (by simp [results, Tryz.results42, asAddr]; exact hr2) rfl ?_
        rw [HE.out, hit.out]
        exact HNO.out _ _ HS.out
  ·have e1 : ((ag : Int) == 1) = false := by rw [beq_eq_false_iff_ne]; omega
   have e3 : ((ag : Int) == 3) = false := by rw [beq_eq_false_iff_ne]; omega
   have hkm := fun w => iKmacNo w ag (by omega)
   rw [if_neg (by omega), if_pos hg] at e0
   rcases hg with hg | hg
   ·have l1 : (ag : Int) < 1 := by omega
    have HE := Lib.hid e0; clear e0
    go_wp2_with fail
    refine (hkm _).mono ?_
    rintro e w4 ⟨rfl, rfl⟩
    go_wp2_with fail
    refine (iNo 4 s5).mono ?_
    rintro e w4 ⟨rfl, s4⟩
    clear s5
    clear o0 o1 o2 o3 o4 o5 o6 zo cp0 cp1 cp2 cp3 cp4 cp5 zp
    have sr0 : Sat W0 _ (seg true ga 0 ans0 :: seg true v 0 (.bool true :: cellsT T) :: segH p k al ou kq kl cq c2 cl c3 mq ml mc :: bytes true kq H.kb :: bytes true c2 H.cb :: bytes true mq H.mb :: RW :: slotsA 0 (T.set k none) :: bytes md dp data :: bytes mm ep more :: L) := (Sat.sub (s4) (by with_reducible repeat first | exact Fr1 | exact Fr2 | (apply Fr3; focus ((repeat (first | exact Tk1 | apply Tk2)); done)) | apply Fr4))
    go_wp2_with (refine wpl_stAns rfl rfl (.tmp 4) (.tmp 61) rfl sr0 rfl rfl ?_; intro ws ss; clear sr0)
    have hr := ansLd ss
    have HS := Lib.hid ss.tail; clear ss
    refine bodyPost_ret (v := .agg #[.int .i64 4, .int .i64 0, .bool false, .slice none 0 0]) (by simp [results, Tryz.results42, asAddr]; exact hr) rfl ?_
    rw [HE.out]
    exact HNO.out _ _ HS.out
   ·have l1 : ¬ (ag : Int) < 1 := by omega
    have l7 : (7 : Int) < (ag : Int) := by omega
    have HE := Lib.hid e0; clear e0
    go_wp2_with fail
    refine (hkm _).mono ?_
    rintro e w4 ⟨rfl, rfl⟩
    go_wp2_with fail
    refine (iNo 4 s5).mono ?_
    rintro e w4 ⟨rfl, s4⟩
    clear s5
    clear o0 o1 o2 o3 o4 o5 o6 zo cp0 cp1 cp2 cp3 cp4 cp5 zp
    have sr0 : Sat W0 _ (seg true ga 0 ans0 :: seg true v 0 (.bool true :: cellsT T) :: segH p k al ou kq kl cq c2 cl c3 mq ml mc :: bytes true kq H.kb :: bytes true c2 H.cb :: bytes true mq H.mb :: RW :: slotsA 0 (T.set k none) :: bytes md dp data :: bytes mm ep more :: L) := (Sat.sub (s4) (by with_reducible repeat first | exact Fr1 | exact Fr2 | (apply Fr3; focus ((repeat (first | exact Tk1 | apply Tk2)); done)) | apply Fr4))
    go_wp2_with (refine wpl_stAns rfl rfl (.tmp 4) (.tmp 61) rfl sr0 rfl rfl ?_; intro ws ss; clear sr0)
    have hr := ansLd ss
    have HS := Lib.hid ss.tail; clear ss
    refine bodyPost_ret (v := .agg #[.int .i64 4, .int .i64 0, .bool false, .slice none 0 0]) (by simp [results, Tryz.results42, asAddr]; exact hr) rfl ?_
    rw [HE.out]
    exact HNO.out _ _ HS.out
end Go.Proofs.YtpiiklfnakkdiaaGreat
