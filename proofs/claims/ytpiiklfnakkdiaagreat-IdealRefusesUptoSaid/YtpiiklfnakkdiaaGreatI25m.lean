
/- IdealRefuses: refused is nothing; one handle at a time; where the argument reads as operations of bulk at most 1048576. -/
import Derived.Test.YtpiiklfnakkdiaaGreatI25l
namespace Go.Proofs.YtpiiklfnakkdiaaGreat
open Go.RowKit Go.Sep Go.Bv Go.Kec Go.Aes Go.Sha
set_option linter.unusedVariables false
set_option linter.unusedSimpArgs false
set_option maxRecDepth 100000 in
set_option maxHeartbeats 32000000 in
theorem idealRefuses_any (W : World) (p : Option Addr) (n c : Nat) (xs : List OpX) (hx : IsOps W p xs) (hn : xs.length = n) (hnc : n ≤ c) (hcm : c ≤ maxLen) :
  Calls Tryz.prog 6 #[.slice p n c] W fun e W' => e = .returned (.bool true) ∧ Below W.heap.size W W' := by
 have s0 := Sat.nil W
 have HN := Lib.hid (And.intro hx (And.intro hn (And.intro hnc hcm))); clear hx hn hnc hcm
 go_enter Tryz.func6, Tryz.ntmps6
 go_wp2_with fail
 refine (awake25 s0).mono ?_
 rintro e w1 ⟨rfl, s1⟩
 clear s0
 go_wp2_with fail
 refine (heavyW xs HN.out.1 HN.out.2.1 HN.out.2.2.1 HN.out.2.2.2 s1).mono ?_
 rintro e w2 ⟨⟨b, rfl, s2⟩, hb⟩
 clear s1
 cases b with
 | true =>
  have HS := Lib.hid s2; clear s2 hb
  go_wp2_with fail
  go_ret
  exact ⟨rfl, HS.out.below⟩
 | false =>
  have h120 : n ≤ 120 := Nat.le_of_not_lt fun h => by cases hb h
  have hnb : n ≤ 9223372036854775807 := by omega
  have hcb : c ≤ 9223372036854775807 := HN.out.2.2.2
  have hncp : n ≤ c := HN.out.2.2.1
  clear hb
  go_wp2_with fail
  refine (iNew s2).mono ?_
  rintro e w3 ⟨v, rfl, s3⟩
  clear s2
  go_wp2_with fail
  refine (iHeld S0 (S0_ok 0) (by decide) s3).mono ?_
  rintro e w4 ⟨m0, q0, d0, hm0, rfl, s4⟩
  clear s3
  have HM0 := Lib.hid hm0; clear hm0
  go_wp2
  go_loopw [5, 6] (fun t5 t6 wr => ∃ (i m : Nat) (q : Option Addr) (d : Nat) (S : Slots), i ≤ n ∧ t6 = .int .i64 (i : Int) ∧ (heldL 0 S).length = m ∧ t5 = .slice q m d ∧ okS (65536 * i) S ∧ Sat W wr (heldsA q d (heldL 0 S) :: vaultA v S :: [])) (fun _ t6 _ => n - (intOf t6).toNat)
  case atStart => exact ⟨0, m0, q0, d0, S0, Nat.zero_le _, rfl, HM0.out.symm, rfl, S0_ok 0, s4⟩
  case round =>
   clear s4 HM0
   obtain ⟨i, m, q, d, S, hi, rfl, hm, rfl, hok, s⟩ := hrel
   by_cases hlt : i < n
   ·obtain ⟨x, hxi⟩ : ∃ x, xs[i]? = some x := ⟨xs[i]'(by rw [HN.out.2.1]; exact hlt), List.getElem?_eq_getElem _⟩
    obtain ⟨b, o, rfl, s1⟩ := opAt HN.out.1 hxi s
    obtain ⟨⟨kdz, hd, agz, ct, ot, dp, dn, dc, ep, en, ec⟩, data, more⟩ := x
    obtain ⟨⟨⟨hk0, _⟩, ⟨ha0, _⟩, hdat, hmor, _⟩, hblk, _⟩ := HN.out.1 i _ hxi
    simp only at hk0 ha0 hdat hmor hblk
    obtain ⟨kd, rfl⟩ : ∃ k : Nat, kdz = (k : Int) := ⟨kdz.toNat, by omega⟩
    obtain ⟨ag, rfl⟩ : ∃ k : Nat, agz = (k : Int) := ⟨agz.toNat, by omega⟩
    have s2 : Sat W wr (seg false b (o + i * 7) [.int .u8 (kd : Int), .int .i64 hd, .int .u8 (ag : Int), .int .i64 ct, .int .i64 ot, .slice dp dn dc, .slice ep en ec] :: heldsA q d (heldL 0 S) :: vaultA v S :: []) := s1
    have hcell : ∀ w' L', Sat W w' L' → w'.cell? ⟨b, o + i * 7, none⟩ = some (.int .u8 (kd : Int)) ∧ w'.cell? ⟨b, o + i * 7 + 1, none⟩ = some (.int .i64 hd) ∧ b < w'.heap.size := fun w' L' s' => by
     obtain ⟨b2, o2, e2, s3⟩ := opAt HN.out.1 hxi s'
     cases e2
     have s4 : Sat W w' (seg false b (o + i * 7) [.int .u8 (kd : Int), .int .i64 hd, .int .u8 (ag : Int), .int .i64 ct, .int .i64 ot, .slice dp dn dc, .slice ep en ec] :: L') := s3
     exact ⟨s4.cell (i := 0) rfl, s4.cell (i := 1) rfl, World.block_lt_of_cell? w' _ (s4.cell (i := 0) (v := .int .u8 (kd : Int)) rfl)⟩
    have zb := (hcell wr _ s).2.2
    have s3 : Sat W wr (vaultA v S :: bytes false dp data :: bytes false ep more :: heldsA q d (heldL 0 S) :: []) := by
     have t := hdat.satW (hmor.satW s)
     exact (Sat.sub (t) (by with_reducible repeat first | exact Fr1 | exact Fr2 | (apply Fr3; focus ((repeat (first | exact Tk1 | apply Tk2)); done)) | apply Fr4))
    obtain ⟨hdn, hdc, hdm, _⟩ := hdat
    obtain ⟨hen, hec, hem, _⟩ := hmor
    have hdo := iDoW (md := false) (mm := false) (dp := dp) (ep := ep) (dn := dn) (dc := dc) (en := en) (ec := ec) S kd hd ag ct ot data more hok (by omega) hdn hdc hdm (by omega) hen hec hem s3
    have hfine := fine_do S ⟨kd, hd, ag, ct, ot, data, more⟩
    have hok2 := iDo_ok (o := ⟨kd, hd, ag, ct, ot, data, more⟩) hok
    obtain ⟨r, hr⟩ : ∃ r, r = iDo S ⟨kd, hd, ag, ct, ot, data, more⟩ := ⟨_, rfl⟩
    rw [← hr] at hdo hfine hok2
    clear hr
    obtain ⟨S', ⟨code, hh, sm, bs⟩⟩ := r
    have HC := Lib.hid (And.intro hcell (And.intro hdo (And.intro hfine (And.intro hok2 hm)))); clear hcell hdo hfine hok2 hm s s1 s3 hxi hk0 ha0 hdn hdc hdm hen hec hem hblk hok
    have hin : (i : Int) < (n : Int) := by omega
    go_wp2_with (refine wpl_load_agg rfl 26 (.tmp 28) rfl Tryz.underlying26 rfl Tryz.size_op s2 0 (o + i * 7) rfl (by omega) (by simp) ?_; rw [List.drop_zero, List.take_of_length_le (by simp)]; clear s2)
    refine HC.out.2.1.mono ?_
    rintro e w5 ⟨qa, ca, rfl, _, _, s5'⟩
    obtain ⟨bn, hbn⟩ : ∃ k, k = bs.length := ⟨_, rfl⟩
    simp only at s5' ⊢
    rw [← hbn]
    have s5 : Sat W w5 (vaultA v S' :: heldsA q d (heldL 0 S) :: []) := (Sat.sub (s5') (by with_reducible repeat first | exact Fr1 | exact Fr2 | (apply Fr3; focus ((repeat (first | exact Tk1 | apply Tk2)); done)) | apply Fr4))
    have HBN := Lib.hid hbn; clear s5' hbn
    go_wp2_with (first | (refine wpl_alloc_agg rfl 35 rfl s5 _ (zero_ans _) ?_; intro w6 ga s6 _; clear s5) | (refine wpl_stAns rfl rfl (.tmp 7) (.tmp 30) rfl s6 rfl rfl ?_; intro w7 s7x; clear s6))
    have s7 : Sat W w7 (vaultA v S' :: heldsA q d (heldL 0 S) :: seg true ga 0 [.int .i64 code, .int .i64 (hh : Int), .bool sm, .slice qa bn ca] :: []) := (Sat.sub (s7x) (by with_reducible repeat first | exact Fr1 | exact Fr2 | (apply Fr3; focus ((repeat (first | exact Tk1 | apply Tk2)); done)) | apply Fr4))
    clear s7x
    refine (iHeld S' HC.out.2.2.2.1 (by omega) s7).mono ?_
    rintro e w8 ⟨m2, q2, d2, hm2, rfl, s8'⟩
    have s8 : Sat W w8 (heldsA q d (heldL 0 S) :: heldsA q2 d2 (heldL 0 S') :: seg true ga 0 [.int .i64 code, .int .i64 (hh : Int), .bool sm, .slice qa bn ca] :: vaultA v S' :: []) := (Sat.sub (s8') (by with_reducible repeat first | exact Fr1 | exact Fr2 | (apply Fr3; focus ((repeat (first | exact Tk1 | apply Tk2)); done)) | apply Fr4))
    have HM := Lib.hid hm2; clear s7 s8' hm2 zb
    obtain ⟨o0, o1, zb⟩ := HC.out.1 _ _ s8
    have sa : Sat W w8 (seg true ga 0 [.int .i64 code, .int .i64 (hh : Int), .bool sm, .slice qa bn ca] :: []) := (Sat.sub (s8) (by with_reducible repeat first | exact Fr1 | exact Fr2 | (apply Fr3; focus ((repeat (first | exact Tk1 | apply Tk2)); done)) | apply Fr4))
    have a0 := sa.at 0 rfl
    have a1 := sa.at 1 rfl
    have a2 := sa.at 2 rfl
    have a3 := sa.at 3 rfl
    have za := sa.lt (by simp)
    clear sa
    by_cases hc0 : code = 0
    ·have hcd : (code != 0) = false := by rw [hc0]; rfl
     have hce : (code == 0) = true := by rw [hc0]; rfl
     have HFI := Lib.hid (HC.out.2.2.1.2 hc0); clear hc0
     rcases (by omega : kd = 1 ∨ kd = 2 ∨ kd = 6 ∨ kd = 7 ∨ kd = 8 ∨ ¬ (kd = 1 ∨ kd = 2 ∨ kd = 6 ∨ kd = 7 ∨ kd = 8)) with hkd | hkd | hkd | hkd | hkd | hkd
     ·have e1 : ((kd : Int) == 1) = true := by rw [hkd]; rfl
      have hon : oneHnd kd hd hh = (hh : Int) := by unfold oneHnd; rw [if_pos (by omega)]
      have HON := Lib.hid hon; clear hon hkd
      go_wp2_with fail
      refine (stays25 (hh : Int) HC.out.2.2.2.2 HM.out.symm (fun h g1 g2 => lkc_eq (HFI.out h g1 (by show (h : Int) ≠ oneHnd kd hd hh; rw [HON.out]; exact g2)).symm) s8).mono ?_
      rintro e w9 ⟨rfl, s9⟩
      have s10 : Sat W w9 (heldsA q2 d2 (heldL 0 S') :: vaultA v S' :: []) := (Sat.sub (s9) (by with_reducible repeat first | exact Fr1 | exact Fr2 | (apply Fr3; focus ((repeat (first | exact Tk1 | apply Tk2)); done)) | apply Fr4))
      have HS := Lib.hid s10; clear s8 s9 s10 o0 o1 zb a0 a1 a2 a3 za
      go_wp2_with fail
      exact ⟨⟨i + 1, m2, q2, d2, S', by omega, by go_num, HM.out.symm, rfl, by rw [Nat.mul_succ]; exact HC.out.2.2.2.1, HS.out⟩, by simp [intOf]; omega⟩
     ·have e1 : ((kd : Int) == 1) = false := by rw [beq_eq_false_iff_ne]; omega
      have e2 : ((kd : Int) == 2) = true := by rw [hkd]; rfl
      have hon : oneHnd kd hd hh = (hh : Int) := by unfold oneHnd; rw [if_pos (by omega)]
      have HON := Lib.hid hon; clear hon hkd
      go_wp2_with fail
      refine (stays25 (hh : Int) HC.out.2.2.2.2 HM.out.symm (fun h g1 g2 => lkc_eq (HFI.out h g1 (by show (h : Int) ≠ oneHnd kd hd hh; rw [HON.out]; exact g2)).symm) s8).mono ?_
      rintro e w9 ⟨rfl, s9⟩
      have s10 : Sat W w9 (heldsA q2 d2 (heldL 0 S') :: vaultA v S' :: []) := (Sat.sub (s9) (by with_reducible repeat first | exact Fr1 | exact Fr2 | (apply Fr3; focus ((repeat (first | exact Tk1 | apply Tk2)); done)) | apply Fr4))
      have HS := Lib.hid s10; clear s8 s9 s10 o0 o1 zb a0 a1 a2 a3 za
      go_wp2_with fail
      exact ⟨⟨i + 1, m2, q2, d2, S', by omega, by go_num, HM.out.symm, rfl, by rw [Nat.mul_succ]; exact HC.out.2.2.2.1, HS.out⟩, by simp [intOf]; omega⟩
     ·have e1 : ((kd : Int) == 1) = false := by rw [beq_eq_false_iff_ne]; omega
      have e2 : ((kd : Int) == 2) = false := by rw [beq_eq_false_iff_ne]; omega
      have e6 : ((kd : Int) == 6) = true := by rw [hkd]; rfl
      have hon : oneHnd kd hd hh = (hh : Int) := by unfold oneHnd; rw [if_pos (by omega)]
      have HON := Lib.hid hon; clear hon hkd
      go_wp2_with fail
      refine (stays25 (hh : Int) HC.out.2.2.2.2 HM.out.symm (fun h g1 g2 => lkc_eq (HFI.out h g1 (by show (h : Int) ≠ oneHnd kd hd hh; rw [HON.out]; exact g2)).symm) s8).mono ?_
      rintro e w9 ⟨rfl, s9⟩
      have s10 : Sat W w9 (heldsA q2 d2 (heldL 0 S') :: vaultA v S' :: []) := (Sat.sub (s9) (by with_reducible repeat first | exact Fr1 | exact Fr2 | (apply Fr3; focus ((repeat (first | exact Tk1 | apply Tk2)); done)) | apply Fr4))
      have HS := Lib.hid s10; clear s8 s9 s10 o0 o1 zb a0 a1 a2 a3 za
      go_wp2_with fail
      exact ⟨⟨i + 1, m2, q2, d2, S', by omega, by go_num, HM.out.symm, rfl, by rw [Nat.mul_succ]; exact HC.out.2.2.2.1, HS.out⟩, by simp [intOf]; omega⟩
     ·have e1 : ((kd : Int) == 1) = false := by rw [beq_eq_false_iff_ne]; omega
      have e2 : ((kd : Int) == 2) = false := by rw [beq_eq_false_iff_ne]; omega
      have e6 : ((kd : Int) == 6) = false := by rw [beq_eq_false_iff_ne]; omega
      have e7 : ((kd : Int) == 7) = true := by rw [hkd]; rfl
      have hon : oneHnd kd hd hh = (hh : Int) := by unfold oneHnd; rw [if_pos (by omega)]
      have HON := Lib.hid hon; clear hon hkd
      go_wp2_with fail
      refine (stays25 (hh : Int) HC.out.2.2.2.2 HM.out.symm (fun h g1 g2 => lkc_eq (HFI.out h g1 (by show (h : Int) ≠ oneHnd kd hd hh; rw [HON.out]; exact g2)).symm) s8).mono ?_
      rintro e w9 ⟨rfl, s9⟩
      have s10 : Sat W w9 (heldsA q2 d2 (heldL 0 S') :: vaultA v S' :: []) := (Sat.sub (s9) (by with_reducible repeat first | exact Fr1 | exact Fr2 | (apply Fr3; focus ((repeat (first | exact Tk1 | apply Tk2)); done)) | apply Fr4))
      have HS := Lib.hid s10; clear s8 s9 s10 o0 o1 zb a0 a1 a2 a3 za
      go_wp2_with fail
      exact ⟨⟨i + 1, m2, q2, d2, S', by omega, by go_num, HM.out.symm, rfl, by rw [Nat.mul_succ]; exact HC.out.2.2.2.1, HS.out⟩, by simp [intOf]; omega⟩
     ·have e1 : ((kd : Int) == 1) = false := by rw [beq_eq_false_iff_ne]; omega
      have e2 : ((kd : Int) == 2) = false := by rw [beq_eq_false_iff_ne]; omega
      have e6 : ((kd : Int) == 6) = false := by rw [beq_eq_false_iff_ne]; omega
      have e7 : ((kd : Int) == 7) = false := by rw [beq_eq_false_iff_ne]; omega
      have e8 : ((kd : Int) == 8) = true := by rw [hkd]; rfl
      have hon : oneHnd kd hd hh = (hh : Int) := by unfold oneHnd; rw [if_pos (by omega)]
      have HON := Lib.hid hon; clear hon hkd
      go_wp2_with fail
      refine (stays25 (hh : Int) HC.out.2.2.2.2 HM.out.symm (fun h g1 g2 => lkc_eq (HFI.out h g1 (by show (h : Int) ≠ oneHnd kd hd hh; rw [HON.out]; exact g2)).symm) s8).mono ?_
      rintro e w9 ⟨rfl, s9⟩
      have s10 : Sat W w9 (heldsA q2 d2 (heldL 0 S') :: vaultA v S' :: []) := (Sat.sub (s9) (by with_reducible repeat first | exact Fr1 | exact Fr2 | (apply Fr3; focus ((repeat (first | exact Tk1 | apply Tk2)); done)) | apply Fr4))
      have HS := Lib.hid s10; clear s8 s9 s10 o0 o1 zb a0 a1 a2 a3 za
      go_wp2_with fail
      exact ⟨⟨i + 1, m2, q2, d2, S', by omega, by go_num, HM.out.symm, rfl, by rw [Nat.mul_succ]; exact HC.out.2.2.2.1, HS.out⟩, by simp [intOf]; omega⟩
     ·have e1 : ((kd : Int) == 1) = false := by rw [beq_eq_false_iff_ne]; omega
      have e2 : ((kd : Int) == 2) = false := by rw [beq_eq_false_iff_ne]; omega
      have e6 : ((kd : Int) == 6) = false := by rw [beq_eq_false_iff_ne]; omega
      have e7 : ((kd : Int) == 7) = false := by rw [beq_eq_false_iff_ne]; omega
      have e8 : ((kd : Int) == 8) = false := by rw [beq_eq_false_iff_ne]; omega
      have hon : oneHnd kd hd hh = hd := by unfold oneHnd; rw [if_neg hkd]
      have HON := Lib.hid hon; clear hon hkd
      go_wp2_with fail
      refine (stays25 hd HC.out.2.2.2.2 HM.out.symm (fun h g1 g2 => lkc_eq (HFI.out h g1 (by show (h : Int) ≠ oneHnd kd hd hh; rw [HON.out]; exact g2)).symm) s8).mono ?_
      rintro e w9 ⟨rfl, s9⟩
      have s10 : Sat W w9 (heldsA q2 d2 (heldL 0 S') :: vaultA v S' :: []) := (Sat.sub (s9) (by with_reducible repeat first | exact Fr1 | exact Fr2 | (apply Fr3; focus ((repeat (first | exact Tk1 | apply Tk2)); done)) | apply Fr4))
      have HS := Lib.hid s10; clear s8 s9 s10 o0 o1 zb a0 a1 a2 a3 za
      go_wp2_with fail
      exact ⟨⟨i + 1, m2, q2, d2, S', by omega, by go_num, HM.out.symm, rfl, by rw [Nat.mul_succ]; exact HC.out.2.2.2.1, HS.out⟩, by simp [intOf]; omega⟩
    ·obtain ⟨rfl, e2⟩ := Prod.mk.injEq .. ▸ HC.out.2.2.1.1 hc0
     have e3 : hh = 0 ∧ sm = false ∧ bs = [] := by
      simp only [noA, Ans.mk.injEq] at e2
      exact ⟨e2.2.1, e2.2.2.1, e2.2.2.2⟩
     obtain ⟨rfl, rfl, rfl⟩ := e3
     have hb0 : bn = 0 := HBN.out
     subst hb0
     have hcd : (code != 0) = true := by rw [bne_iff_ne]; exact hc0
     have hce : (code == 0) = false := by rw [beq_eq_false_iff_ne]; exact hc0
     have a1' : w8.cell? ⟨ga, 1, none⟩ = some (.int .i64 0) := a1
     clear hc0 a1 e2
     go_wp2_with fail
     refine (stays25 (-1) HC.out.2.2.2.2 HM.out.symm (fun h _ _ => rfl) s8).mono ?_
     rintro e w9 ⟨rfl, s9⟩
     clear s8 o0 o1 zb a0 a1' a2 a3 za
     obtain ⟨o0, o1, zb⟩ := HC.out.1 _ _ s9
     have sa : Sat W w9 (seg true ga 0 [.int .i64 code, .int .i64 ((0 : Nat) : Int), .bool false, .slice qa 0 ca] :: []) := (Sat.sub (s9) (by with_reducible repeat first | exact Fr1 | exact Fr2 | (apply Fr3; focus ((repeat (first | exact Tk1 | apply Tk2)); done)) | apply Fr4))
     have a0 := sa.at 0 rfl
     have a1 : w9.cell? ⟨ga, 1, none⟩ = some (.int .i64 0) := sa.at 1 rfl
     have za := sa.lt (by simp)
     clear sa
     have s10 : Sat W w9 (heldsA q2 d2 (heldL 0 S') :: vaultA v S' :: []) := (Sat.sub (s9) (by with_reducible repeat first | exact Fr1 | exact Fr2 | (apply Fr3; focus ((repeat (first | exact Tk1 | apply Tk2)); done)) | apply Fr4))
     have HS := Lib.hid s10; clear s9 s10
     rcases (by omega : kd = 1 ∨ kd = 2 ∨ kd = 6 ∨ kd = 7 ∨ kd = 8 ∨ ¬ (kd = 1 ∨ kd = 2 ∨ kd = 6 ∨ kd = 7 ∨ kd = 8)) with hkd | hkd | hkd | hkd | hkd | hkd
     ·have e1 : ((kd : Int) == 1) = true := by rw [hkd]; rfl
      clear hkd
      go_wp2_with fail
      exact ⟨⟨i + 1, m2, q2, d2, S', by omega, by go_num, HM.out.symm, rfl, by rw [Nat.mul_succ]; exact HC.out.2.2.2.1, HS.out⟩, by simp [intOf]; omega⟩
     ·have e1 : ((kd : Int) == 1) = false := by rw [beq_eq_false_iff_ne]; omega
      have e2 : ((kd : Int) == 2) = true := by rw [hkd]; rfl
      clear hkd
      go_wp2_with fail
      exact ⟨⟨i + 1, m2, q2, d2, S', by omega, by go_num, HM.out.symm, rfl, by rw [Nat.mul_succ]; exact HC.out.2.2.2.1, HS.out⟩, by simp [intOf]; omega⟩
     ·have e1 : ((kd : Int) == 1) = false := by rw [beq_eq_false_iff_ne]; omega
      have e2 : ((kd : Int) == 2) = false := by rw [beq_eq_false_iff_ne]; omega
      have e6 : ((kd : Int) == 6) = true := by rw [hkd]; rfl
      clear hkd
      go_wp2_with fail
      exact ⟨⟨i + 1, m2, q2, d2, S', by omega, by go_num, HM.out.symm, rfl, by rw [Nat.mul_succ]; exact HC.out.2.2.2.1, HS.out⟩, by simp [intOf]; omega⟩
     ·have e1 : ((kd : Int) == 1) = false := by rw [beq_eq_false_iff_ne]; omega
      have e2 : ((kd : Int) == 2) = false := by rw [beq_eq_false_iff_ne]; omega
      have e6 : ((kd : Int) == 6) = false := by rw [beq_eq_false_iff_ne]; omega
      have e7 : ((kd : Int) == 7) = true := by rw [hkd]; rfl
      clear hkd
      go_wp2_with fail
      exact ⟨⟨i + 1, m2, q2, d2, S', by omega, by go_num, HM.out.symm, rfl, by rw [Nat.mul_succ]; exact HC.out.2.2.2.1, HS.out⟩, by simp [intOf]; omega⟩
     ·have e1 : ((kd : Int) == 1) = false := by rw [beq_eq_false_iff_ne]; omega
      have e2 : ((kd : Int) == 2) = false := by rw [beq_eq_false_iff_ne]; omega
      have e6 : ((kd : Int) == 6) = false := by rw [beq_eq_false_iff_ne]; omega
      have e7 : ((kd : Int) == 7) = false := by rw [beq_eq_false_iff_ne]; omega
      have e8 : ((kd : Int) == 8) = true := by rw [hkd]; rfl
      clear hkd
      go_wp2_with fail
      exact ⟨⟨i + 1, m2, q2, d2, S', by omega, by go_num, HM.out.symm, rfl, by rw [Nat.mul_succ]; exact HC.out.2.2.2.1, HS.out⟩, by simp [intOf]; omega⟩
     ·have e1 : ((kd : Int) == 1) = false := by rw [beq_eq_false_iff_ne]; omega
      have e2 : ((kd : Int) == 2) = false := by rw [beq_eq_false_iff_ne]; omega
      have e6 : ((kd : Int) == 6) = false := by rw [beq_eq_false_iff_ne]; omega
      have e7 : ((kd : Int) == 7) = false := by rw [beq_eq_false_iff_ne]; omega
      have e8 : ((kd : Int) == 8) = false := by rw [beq_eq_false_iff_ne]; omega
      clear hkd
      go_wp2_with fail
      exact ⟨⟨i + 1, m2, q2, d2, S', by omega, by go_num, HM.out.symm, rfl, by rw [Nat.mul_succ]; exact HC.out.2.2.2.1, HS.out⟩, by simp [intOf]; omega⟩
   ·obtain rfl : i = n := by omega
    have HS := Lib.hid s; clear s
    go_wp2_with fail
    go_ret
    exact ⟨rfl, HS.out.below⟩
end Go.Proofs.YtpiiklfnakkdiaaGreat
