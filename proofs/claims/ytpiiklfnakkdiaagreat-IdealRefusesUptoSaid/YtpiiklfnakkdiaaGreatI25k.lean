
/- Layer 25's statements: is all but one handle as it was; under the conditions that each names. -/
import Derived.Test.YtpiiklfnakkdiaaGreatI25i
namespace Go.Proofs.YtpiiklfnakkdiaaGreat
open Go.RowKit Go.Sep Go.Bv Go.Kec Go.Aes Go.Sha
set_option linter.unusedVariables false
set_option linter.unusedSimpArgs false
/-- What a look at a row tells, with its bytes. -/
theorem findB {W0 w : World} {L : List Assn} {p : Option Addr} {c n : Nat} {l : List (Nat × Hold)} (h : Int) (hn : l.length = n) (hs : Sat W0 w (heldsA p c l :: L)) :
  Calls Tryz.prog 40 #[.slice p n c, .int .i64 h] w fun e w' => ∃ (b : Bool) (i al ou kl cl ml : Nat) (kq c2 mq : Option Addr) (cq c3 mc : Nat) (K C M : List Byte) (R : Assn), e = .returned (.tuple #[.agg #[.int .i64 (i : Int), .int .u8 (al : Int), .int .i64 (ou : Int), .slice kq kl cq, .slice c2 cl c3, .slice mq ml mc], .bool b]) ∧ lkc l h = (b, al, ou, K, C, M) ∧ K.length = kl ∧ C.length = cl ∧ M.length = ml ∧ kl ≤ maxLen ∧ cl ≤ maxLen ∧ ml ≤ maxLen ∧
   Sat W0 w' (bytes true kq K :: bytes true c2 C :: bytes true mq M :: R :: L) ∧ ∀ w'' L', Sat W0 w'' (bytes true kq K :: bytes true c2 C :: bytes true mq M :: R :: L') → Sat W0 w'' (heldsA p c l :: L') := by
 obtain ⟨X, hX, hok, s1⟩ := heldsOpen hs
 have hXl : X.length = n := by rw [← hn, ← hX, List.length_map]
 have hfm : ∀ o, X.find? (fun x => (x.1 : Int) == h) = o → l.find? (fun x => (x.1 : Int) == h) = o.map nmH := by
  intro o ho
  rw [← hX, List.find?_map, ← ho]
  rfl
 rw [hXl] at s1
 refine (find25 X h hXl s1).mono ?_
 rintro e w' ⟨⟨j, ⟨xi, xH, xq⟩, hj, hf, rfl⟩ | ⟨hf, rfl⟩, s2⟩
 ·have hf2 := hfm _ hf
  rw [← hXl] at s2
  obtain ⟨R, q1, q2, q3, s3, back⟩ := heldAtX X hX hok hj s2
  refine ⟨true, xi, xH.alg, xH.out, xH.kb.length, xH.cb.length, xH.mb.length, xq.kp, xq.cp, xq.mp, xq.kc, xq.cc, xq.mc, xH.kb, xH.cb, xH.mb, R, rfl, ?_, rfl, rfl, rfl, Nat.le_trans q1.1 q1.2.1, Nat.le_trans q1.2.2.1 q1.2.2.2, Nat.le_trans q2 q3, s3, back⟩
  unfold lkc
  rw [hf2]
  rfl
 ·have hf2 := hfm _ hf
  refine ⟨false, 0, 0, 0, 0, 0, 0, none, none, none, 0, 0, 0, [], [], [], heldsA p c l, rfl, ?_, rfl, rfl, rfl, Nat.zero_le _, Nat.zero_le _, Nat.zero_le _, ?_, fun w'' L' s' => ?_⟩
  ·unfold lkc
   rw [hf2]
   rfl
  ·rw [← hXl] at s2
   exact bytesNil true none (bytesNil true none (bytesNil true none (heldsShut X hX hok s2)))
  ·exact s'.tail.tail.tail
theorem hold_one (a : Int) (b : Int) (o : Int) (p1 : Option Addr) (n1 c1 : Nat) (p2 : Option Addr) (n2 c2 : Nat) (p3 : Option Addr) (n3 c3 : Nat) : ∀ v ∈ [Value.int .i64 a, .int .u8 b, .int .i64 o, .slice p1 n1 c1, .slice p2 n2 c2, .slice p3 n3 c3], v.oneCell' = true := by
 intro v hv; simp only [List.mem_cons, List.not_mem_nil, or_false] at hv; rcases hv with rfl | rfl | rfl | rfl | rfl | rfl <;> rfl
set_option maxRecDepth 100000 in
set_option maxHeartbeats 32000000 in
theorem stays25 {W0 w : World} {L : List Assn} {pa pb : Option Addr} {ca cb na nb : Nat} {la lb : List (Nat × Hold)} (but : Int) (hna : la.length = na) (hnb : lb.length = nb) (hsame : ∀ h : Nat, h < 64 → (h : Int) ≠ but → lkc la h = lkc lb h)
  (hs : Sat W0 w (heldsA pa ca la :: heldsA pb cb lb :: L)) :
  Calls Tryz.prog 21 #[.slice pa na ca, .slice pb nb cb, .int .i64 but] w fun e w' => e = .returned (.bool true) ∧ Sat W0 w' (heldsA pa ca la :: heldsA pb cb lb :: L) := by
 have HN := Lib.hid (And.intro hna (And.intro hnb hsame)); clear hna hnb hsame
 go_enter Tryz.func21, Tryz.ntmps21
 go_wp2
 go_loopw [7] (fun t7 wr => ∃ i : Nat, i ≤ 64 ∧ t7 = .int .i64 (i : Int) ∧ Sat W0 wr (heldsA pa ca la :: heldsA pb cb lb :: L)) (fun t7 _ => 64 - (intOf t7).toNat)
 case atStart => exact ⟨0, Nat.zero_le _, rfl, hs⟩
 case round =>
  clear hs
  obtain ⟨i, hi, rfl, s⟩ := hrel
  by_cases hlt : i < 64
  ·have hltI : (i : Int) < 64 := by omega
   go_wp2_with fail
   refine (findB (i : Int) HN.out.1 s).mono ?_
   rintro e w1 ⟨b1, i1, al1, ou1, kl1, cl1, ml1, kq1, c21, mq1, cq1, c31, mc1, K1, C1, M1, R1, rfl, hl1, hk1, hc1, hm1, hkm1, hcm1, hmm1, s1, back1⟩
   have H1 := Lib.hid (And.intro hl1 (And.intro hk1 (And.intro hc1 (And.intro hm1 (And.intro hkm1 (And.intro hcm1 (And.intro hmm1 back1))))))); clear s hl1 hk1 hc1 hm1 hkm1 hcm1 hmm1 back1
   go_wp2_with (first | (refine wpl_alloc_agg rfl 49 rfl s1 hold0 (zero_hold _) ?_; intro w2 g1 s2 _; clear s1) | (refine wpl_store_agg rfl rfl 49 (.tmp 8) (.tmp 21) rfl (cs := [.int .i64 (i1 : Int), .int .u8 (al1 : Int), .int .i64 (ou1 : Int), .slice kq1 kl1 cq1, .slice c21 cl1 c31, .slice mq1 ml1 mc1]) s2 0 0 Tryz.size_hold rfl rfl rfl (Nat.le_refl 6) (hold_one _ _ _ _ _ _ _ _ _ _ _ _) ?_; intro w3 s3; rw [setL_all _ _ (by rfl)] at s3; clear s2))
   have s4 : Sat W0 w3 (heldsA pb cb lb :: seg true g1 0 [.int .i64 (i1 : Int), .int .u8 (al1 : Int), .int .i64 (ou1 : Int), .slice kq1 kl1 cq1, .slice c21 cl1 c31, .slice mq1 ml1 mc1] :: bytes true kq1 K1 :: bytes true c21 C1 :: bytes true mq1 M1 :: R1 :: L) := (Sat.sub (s3) (by with_reducible repeat first | exact Fr1 | exact Fr2 | (apply Fr3; focus ((repeat (first | exact Tk1 | apply Tk2)); done)) | apply Fr4))
   clear s3
   refine (findB (i : Int) HN.out.2.1 s4).mono ?_
   rintro e w5 ⟨b2, i2, al2, ou2, kl2, cl2, ml2, kq2, c22, mq2, cq2, c32, mc2, K2, C2, M2, R2, rfl, hl2, hk2, hc2, hm2, hkm2, hcm2, hmm2, s5, back2⟩
   have H2 := Lib.hid (And.intro hl2 (And.intro hk2 (And.intro hc2 (And.intro hm2 (And.intro hkm2 (And.intro hcm2 (And.intro hmm2 back2))))))); clear s4 hl2 hk2 hc2 hm2 hkm2 hcm2 hmm2 back2
   have hkeep : ∀ w', Sat W0 w' (seg true g1 0 [.int .i64 (i1 : Int), .int .u8 (al1 : Int), .int .i64 (ou1 : Int), .slice kq1 kl1 cq1, .slice c21 cl1 c31, .slice mq1 ml1 mc1] :: []) → w'.cell? ⟨g1, 1, none⟩ = some (.int .u8 (al1 : Int)) ∧ w'.cell? ⟨g1, 2, none⟩ = some (.int .i64 (ou1 : Int)) ∧ w'.cell? ⟨g1, 3, none⟩ = some (.slice kq1 kl1 cq1) ∧ w'.cell? ⟨g1, 4, none⟩ = some (.slice c21 cl1 c31) ∧ w'.cell? ⟨g1, 5, none⟩ = some (.slice mq1 ml1 mc1) ∧ g1 < w'.heap.size := fun w' s => ⟨s.at 1 rfl, s.at 2 rfl, s.at 3 rfl, s.at 4 rfl, s.at 5 rfl, s.lt (by simp)⟩
   have HK1 := Lib.hid hkeep; clear hkeep
   by_cases hbut : (i : Int) = but
   ·have hbt : ((i : Int) != but) = false := by rw [hbut]; simp
    clear hbut
    obtain ⟨x1, hx1⟩ : ∃ b : Bool, (b1 == b2) = b := ⟨_, rfl⟩
    cases x1 with
    | false =>
     go_wp2_with (first | (refine wpl_alloc_agg rfl 49 rfl s5 hold0 (zero_hold _) ?_; intro w6 g2 s6 _; clear s5) | (refine wpl_store_agg rfl rfl 49 (.tmp 10) (.tmp 27) rfl (cs := [.int .i64 (i2 : Int), .int .u8 (al2 : Int), .int .i64 (ou2 : Int), .slice kq2 kl2 cq2, .slice c22 cl2 c32, .slice mq2 ml2 mc2]) s6 0 0 Tryz.size_hold rfl rfl rfl (Nat.le_refl 6) (hold_one _ _ _ _ _ _ _ _ _ _ _ _) ?_; intro w7 s7x; rw [setL_all _ _ (by rfl)] at s7x; clear s6; have s7 : Sat W0 w7 (seg true g1 0 [.int .i64 (i1 : Int), .int .u8 (al1 : Int), .int .i64 (ou1 : Int), .slice kq1 kl1 cq1, .slice c21 cl1 c31, .slice mq1 ml1 mc1] :: seg true g2 0 [.int .i64 (i2 : Int), .int .u8 (al2 : Int), .int .i64 (ou2 : Int), .slice kq2 kl2 cq2, .slice c22 cl2 c32, .slice mq2 ml2 mc2] :: bytes true kq1 K1 :: bytes true c21 C1 :: bytes true mq1 M1 :: R1 :: bytes true kq2 K2 :: bytes true c22 C2 :: bytes true mq2 M2 :: R2 :: L) := (Sat.sub (s7x) (by with_reducible repeat first | exact Fr1 | exact Fr2 | (apply Fr3; focus ((repeat (first | exact Tk1 | apply Tk2)); done)) | apply Fr4)); clear s7x; obtain ⟨u1, u2, u3, u4, u5, uz⟩ := HK1.out _ ((Sat.sub (s7) (by with_reducible repeat first | exact Fr1 | exact Fr2 | (apply Fr3; focus ((repeat (first | exact Tk1 | apply Tk2)); done)) | apply Fr4)) : Sat W0 w7 (seg true g1 0 [.int .i64 (i1 : Int), .int .u8 (al1 : Int), .int .i64 (ou1 : Int), .slice kq1 kl1 cq1, .slice c21 cl1 c31, .slice mq1 ml1 mc1] :: [])); have s7b : Sat W0 w7 (seg true g2 0 [.int .i64 (i2 : Int), .int .u8 (al2 : Int), .int .i64 (ou2 : Int), .slice kq2 kl2 cq2, .slice c22 cl2 c32, .slice mq2 ml2 mc2] :: []) := (Sat.sub (s7) (by with_reducible repeat first | exact Fr1 | exact Fr2 | (apply Fr3; focus ((repeat (first | exact Tk1 | apply Tk2)); done)) | apply Fr4)); have v1 := s7b.at 1 rfl; have v2 := s7b.at 2 rfl; have v3 := s7b.at 3 rfl; have v4 := s7b.at 4 rfl; have v5 := s7b.at 5 rfl; have vz := s7b.lt (by simp); clear s7b))
     have t1 := H2.out.2.2.2.2.2.2.2 _ _ ((Sat.sub (s7) (by with_reducible repeat first | exact Fr1 | exact Fr2 | (apply Fr3; focus ((repeat (first | exact Tk1 | apply Tk2)); done)) | apply Fr4)) : Sat W0 _ (bytes true kq2 K2 :: bytes true c22 C2 :: bytes true mq2 M2 :: R2 :: bytes true kq1 K1 :: bytes true c21 C1 :: bytes true mq1 M1 :: R1 :: L))
     have t2 := H1.out.2.2.2.2.2.2.2 _ _ ((Sat.sub (t1) (by with_reducible repeat first | exact Fr1 | exact Fr2 | (apply Fr3; focus ((repeat (first | exact Tk1 | apply Tk2)); done)) | apply Fr4)) : Sat W0 _ (bytes true kq1 K1 :: bytes true c21 C1 :: bytes true mq1 M1 :: R1 :: heldsA pb cb lb :: L))
     have HS := Lib.hid t2; clear s7 t1 t2
     clear u1 u2 u3 u4 u5 uz v1 v2 v3 v4 v5 vz
     go_wp2_with fail
     exact ⟨⟨i + 1, by omega, by go_num, HS.out⟩, by simp [intOf]; omega⟩
    | true =>
     obtain ⟨x2, hx2⟩ : ∃ b : Bool, ((al1 : Int) == (al2 : Int)) = b := ⟨_, rfl⟩
     cases x2 with
     | false =>
      go_wp2_with (first | (refine wpl_alloc_agg rfl 49 rfl s5 hold0 (zero_hold _) ?_; intro w6 g2 s6 _; clear s5) | (refine wpl_store_agg rfl rfl 49 (.tmp 10) (.tmp 27) rfl (cs := [.int .i64 (i2 : Int), .int .u8 (al2 : Int), .int .i64 (ou2 : Int), .slice kq2 kl2 cq2, .slice c22 cl2 c32, .slice mq2 ml2 mc2]) s6 0 0 Tryz.size_hold rfl rfl rfl (Nat.le_refl 6) (hold_one _ _ _ _ _ _ _ _ _ _ _ _) ?_; intro w7 s7x; rw [setL_all _ _ (by rfl)] at s7x; clear s6; have s7 : Sat W0 w7 (seg true g1 0 [.int .i64 (i1 : Int), .int .u8 (al1 : Int), .int .i64 (ou1 : Int), .slice kq1 kl1 cq1, .slice c21 cl1 c31, .slice mq1 ml1 mc1] :: seg true g2 0 [.int .i64 (i2 : Int), .int .u8 (al2 : Int), .int .i64 (ou2 : Int), .slice kq2 kl2 cq2, .slice c22 cl2 c32, .slice mq2 ml2 mc2] :: bytes true kq1 K1 :: bytes true c21 C1 :: bytes true mq1 M1 :: R1 :: bytes true kq2 K2 :: bytes true c22 C2 :: bytes true mq2 M2 :: R2 :: L) := (Sat.sub (s7x) (by with_reducible repeat first | exact Fr1 | exact Fr2 | (apply Fr3; focus ((repeat (first | exact Tk1 | apply Tk2)); done)) | apply Fr4)); clear s7x; obtain ⟨u1, u2, u3, u4, u5, uz⟩ := HK1.out _ ((Sat.sub (s7) (by with_reducible repeat first | exact Fr1 | exact Fr2 | (apply Fr3; focus ((repeat (first | exact Tk1 | apply Tk2)); done)) | apply Fr4)) : Sat W0 w7 (seg true g1 0 [.int .i64 (i1 : Int), .int .u8 (al1 : Int), .int .i64 (ou1 : Int), .slice kq1 kl1 cq1, .slice c21 cl1 c31, .slice mq1 ml1 mc1] :: [])); have s7b : Sat W0 w7 (seg true g2 0 [.int .i64 (i2 : Int), .int .u8 (al2 : Int), .int .i64 (ou2 : Int), .slice kq2 kl2 cq2, .slice c22 cl2 c32, .slice mq2 ml2 mc2] :: []) := (Sat.sub (s7) (by with_reducible repeat first | exact Fr1 | exact Fr2 | (apply Fr3; focus ((repeat (first | exact Tk1 | apply Tk2)); done)) | apply Fr4)); have v1 := s7b.at 1 rfl; have v2 := s7b.at 2 rfl; have v3 := s7b.at 3 rfl; have v4 := s7b.at 4 rfl; have v5 := s7b.at 5 rfl; have vz := s7b.lt (by simp); clear s7b))
      have t1 := H2.out.2.2.2.2.2.2.2 _ _ ((Sat.sub (s7) (by with_reducible repeat first | exact Fr1 | exact Fr2 | (apply Fr3; focus ((repeat (first | exact Tk1 | apply Tk2)); done)) | apply Fr4)) : Sat W0 _ (bytes true kq2 K2 :: bytes true c22 C2 :: bytes true mq2 M2 :: R2 :: bytes true kq1 K1 :: bytes true c21 C1 :: bytes true mq1 M1 :: R1 :: L))
      have t2 := H1.out.2.2.2.2.2.2.2 _ _ ((Sat.sub (t1) (by with_reducible repeat first | exact Fr1 | exact Fr2 | (apply Fr3; focus ((repeat (first | exact Tk1 | apply Tk2)); done)) | apply Fr4)) : Sat W0 _ (bytes true kq1 K1 :: bytes true c21 C1 :: bytes true mq1 M1 :: R1 :: heldsA pb cb lb :: L))
      have HS := Lib.hid t2; clear s7 t1 t2
      clear u1 u2 u3 u4 u5 uz v1 v2 v3 v4 v5 vz
      go_wp2_with fail
      exact ⟨⟨i + 1, by omega, by go_num, HS.out⟩, by simp [intOf]; omega⟩
     | true =>
      obtain ⟨x3, hx3⟩ : ∃ b : Bool, ((ou1 : Int) == (ou2 : Int)) = b := ⟨_, rfl⟩
      cases x3 with
      | false =>
       go_wp2_with (first | (refine wpl_alloc_agg rfl 49 rfl s5 hold0 (zero_hold _) ?_; intro w6 g2 s6 _; clear s5) | (refine wpl_store_agg rfl rfl 49 (.tmp 10) (.tmp 27) rfl (cs := [.int .i64 (i2 : Int), .int .u8 (al2 : Int), .int .i64 (ou2 : Int), .slice kq2 kl2 cq2, .slice c22 cl2 c32, .slice mq2 ml2 mc2]) s6 0 0 Tryz.size_hold rfl rfl rfl (Nat.le_refl 6) (hold_one _ _ _ _ _ _ _ _ _ _ _ _) ?_; intro w7 s7x; rw [setL_all _ _ (by rfl)] at s7x; clear s6; have s7 : Sat W0 w7 (seg true g1 0 [.int .i64 (i1 : Int), .int .u8 (al1 : Int), .int .i64 (ou1 : Int), .slice kq1 kl1 cq1, .slice c21 cl1 c31, .slice mq1 ml1 mc1] :: seg true g2 0 [.int .i64 (i2 : Int), .int .u8 (al2 : Int), .int .i64 (ou2 : Int), .slice kq2 kl2 cq2, .slice c22 cl2 c32, .slice mq2 ml2 mc2] :: bytes true kq1 K1 :: bytes true c21 C1 :: bytes true mq1 M1 :: R1 :: bytes true kq2 K2 :: bytes true c22 C2 :: bytes true mq2 M2 :: R2 :: L) := (Sat.sub (s7x) (by with_reducible repeat first | exact Fr1 | exact Fr2 | (apply Fr3; focus ((repeat (first | exact Tk1 | apply Tk2)); done)) | apply Fr4)); clear s7x; obtain ⟨u1, u2, u3, u4, u5, uz⟩ := HK1.out _ ((Sat.sub (s7) (by with_reducible repeat first | exact Fr1 | exact Fr2 | (apply Fr3; focus ((repeat (first | exact Tk1 | apply Tk2)); done)) | apply Fr4)) : Sat W0 w7 (seg true g1 0 [.int .i64 (i1 : Int), .int .u8 (al1 : Int), .int .i64 (ou1 : Int), .slice kq1 kl1 cq1, .slice c21 cl1 c31, .slice mq1 ml1 mc1] :: [])); have s7b : Sat W0 w7 (seg true g2 0 [.int .i64 (i2 : Int), .int .u8 (al2 : Int), .int .i64 (ou2 : Int), .slice kq2 kl2 cq2, .slice c22 cl2 c32, .slice mq2 ml2 mc2] :: []) := (Sat.sub (s7) (by with_reducible repeat first | exact Fr1 | exact Fr2 | (apply Fr3; focus ((repeat (first | exact Tk1 | apply Tk2)); done)) | apply Fr4)); have v1 := s7b.at 1 rfl; have v2 := s7b.at 2 rfl; have v3 := s7b.at 3 rfl; have v4 := s7b.at 4 rfl; have v5 := s7b.at 5 rfl; have vz := s7b.lt (by simp); clear s7b))
       have t1 := H2.out.2.2.2.2.2.2.2 _ _ ((Sat.sub (s7) (by with_reducible repeat first | exact Fr1 | exact Fr2 | (apply Fr3; focus ((repeat (first | exact Tk1 | apply Tk2)); done)) | apply Fr4)) : Sat W0 _ (bytes true kq2 K2 :: bytes true c22 C2 :: bytes true mq2 M2 :: R2 :: bytes true kq1 K1 :: bytes true c21 C1 :: bytes true mq1 M1 :: R1 :: L))
       have t2 := H1.out.2.2.2.2.2.2.2 _ _ ((Sat.sub (t1) (by with_reducible repeat first | exact Fr1 | exact Fr2 | (apply Fr3; focus ((repeat (first | exact Tk1 | apply Tk2)); done)) | apply Fr4)) : Sat W0 _ (bytes true kq1 K1 :: bytes true c21 C1 :: bytes true mq1 M1 :: R1 :: heldsA pb cb lb :: L))
       have HS := Lib.hid t2; clear s7 t1 t2
       clear u1 u2 u3 u4 u5 uz v1 v2 v3 v4 v5 vz
       go_wp2_with fail
       exact ⟨⟨i + 1, by omega, by go_num, HS.out⟩, by simp [intOf]; omega⟩
      | true =>
       go_wp2_with (first | (refine wpl_alloc_agg rfl 49 rfl s5 hold0 (zero_hold _) ?_; intro w6 g2 s6 _; clear s5) | (refine wpl_store_agg rfl rfl 49 (.tmp 10) (.tmp 27) rfl (cs := [.int .i64 (i2 : Int), .int .u8 (al2 : Int), .int .i64 (ou2 : Int), .slice kq2 kl2 cq2, .slice c22 cl2 c32, .slice mq2 ml2 mc2]) s6 0 0 Tryz.size_hold rfl rfl rfl (Nat.le_refl 6) (hold_one _ _ _ _ _ _ _ _ _ _ _ _) ?_; intro w7 s7x; rw [setL_all _ _ (by rfl)] at s7x; clear s6; have s7 : Sat W0 w7 (seg true g1 0 [.int .i64 (i1 : Int), .int .u8 (al1 : Int), .int .i64 (ou1 : Int), .slice kq1 kl1 cq1, .slice c21 cl1 c31, .slice mq1 ml1 mc1] :: seg true g2 0 [.int .i64 (i2 : Int), .int .u8 (al2 : Int), .int .i64 (ou2 : Int), .slice kq2 kl2 cq2, .slice c22 cl2 c32, .slice mq2 ml2 mc2] :: bytes true kq1 K1 :: bytes true c21 C1 :: bytes true mq1 M1 :: R1 :: bytes true kq2 K2 :: bytes true c22 C2 :: bytes true mq2 M2 :: R2 :: L) := (Sat.sub (s7x) (by with_reducible repeat first | exact Fr1 | exact Fr2 | (apply Fr3; focus ((repeat (first | exact Tk1 | apply Tk2)); done)) | apply Fr4)); clear s7x; obtain ⟨u1, u2, u3, u4, u5, uz⟩ := HK1.out _ ((Sat.sub (s7) (by with_reducible repeat first | exact Fr1 | exact Fr2 | (apply Fr3; focus ((repeat (first | exact Tk1 | apply Tk2)); done)) | apply Fr4)) : Sat W0 w7 (seg true g1 0 [.int .i64 (i1 : Int), .int .u8 (al1 : Int), .int .i64 (ou1 : Int), .slice kq1 kl1 cq1, .slice c21 cl1 c31, .slice mq1 ml1 mc1] :: [])); have s7b : Sat W0 w7 (seg true g2 0 [.int .i64 (i2 : Int), .int .u8 (al2 : Int), .int .i64 (ou2 : Int), .slice kq2 kl2 cq2, .slice c22 cl2 c32, .slice mq2 ml2 mc2] :: []) := (Sat.sub (s7) (by with_reducible repeat first | exact Fr1 | exact Fr2 | (apply Fr3; focus ((repeat (first | exact Tk1 | apply Tk2)); done)) | apply Fr4)); have v1 := s7b.at 1 rfl; have v2 := s7b.at 2 rfl; have v3 := s7b.at 3 rfl; have v4 := s7b.at 4 rfl; have v5 := s7b.at 5 rfl; have vz := s7b.lt (by simp); clear s7b))
       refine (sameS (ca := cq1) (cb := cq2) K1 K2 H1.out.2.1 H2.out.2.1 H1.out.2.2.2.2.1 H2.out.2.2.2.2.1 ((Sat.sub (s7) (by with_reducible repeat first | exact Fr1 | exact Fr2 | (apply Fr3; focus ((repeat (first | exact Tk1 | apply Tk2)); done)) | apply Fr4)) : Sat W0 _ (bytes true kq1 K1 :: bytes true kq2 K2 :: seg true g1 0 [.int .i64 (i1 : Int), .int .u8 (al1 : Int), .int .i64 (ou1 : Int), .slice kq1 kl1 cq1, .slice c21 cl1 c31, .slice mq1 ml1 mc1] :: seg true g2 0 [.int .i64 (i2 : Int), .int .u8 (al2 : Int), .int .i64 (ou2 : Int), .slice kq2 kl2 cq2, .slice c22 cl2 c32, .slice mq2 ml2 mc2] :: bytes true c21 C1 :: bytes true mq1 M1 :: R1 :: bytes true c22 C2 :: bytes true mq2 M2 :: R2 :: L))).mono ?_
       rintro e w8 ⟨rfl, s8'⟩
       have s8 : Sat W0 w8 (seg true g1 0 [.int .i64 (i1 : Int), .int .u8 (al1 : Int), .int .i64 (ou1 : Int), .slice kq1 kl1 cq1, .slice c21 cl1 c31, .slice mq1 ml1 mc1] :: seg true g2 0 [.int .i64 (i2 : Int), .int .u8 (al2 : Int), .int .i64 (ou2 : Int), .slice kq2 kl2 cq2, .slice c22 cl2 c32, .slice mq2 ml2 mc2] :: bytes true kq1 K1 :: bytes true c21 C1 :: bytes true mq1 M1 :: R1 :: bytes true kq2 K2 :: bytes true c22 C2 :: bytes true mq2 M2 :: R2 :: L) := (Sat.sub (s8') (by with_reducible repeat first | exact Fr1 | exact Fr2 | (apply Fr3; focus ((repeat (first | exact Tk1 | apply Tk2)); done)) | apply Fr4))
       clear s7 s8' u1 u2 u3 u4 u5 uz v1 v2 v3 v4 v5 vz
       obtain ⟨u1, u2, u3, u4, u5, uz⟩ := HK1.out _ ((Sat.sub (s8) (by with_reducible repeat first | exact Fr1 | exact Fr2 | (apply Fr3; focus ((repeat (first | exact Tk1 | apply Tk2)); done)) | apply Fr4)) : Sat W0 w8 (seg true g1 0 [.int .i64 (i1 : Int), .int .u8 (al1 : Int), .int .i64 (ou1 : Int), .slice kq1 kl1 cq1, .slice c21 cl1 c31, .slice mq1 ml1 mc1] :: []))
       have sx : Sat W0 w8 (seg true g2 0 [.int .i64 (i2 : Int), .int .u8 (al2 : Int), .int .i64 (ou2 : Int), .slice kq2 kl2 cq2, .slice c22 cl2 c32, .slice mq2 ml2 mc2] :: []) := (Sat.sub (s8) (by with_reducible repeat first | exact Fr1 | exact Fr2 | (apply Fr3; focus ((repeat (first | exact Tk1 | apply Tk2)); done)) | apply Fr4))
       have v1 := sx.at 1 rfl
       have v2 := sx.at 2 rfl
       have v3 := sx.at 3 rfl
       have v4 := sx.at 4 rfl
       have v5 := sx.at 5 rfl
       have vz := sx.lt (by simp)
       clear sx
       obtain ⟨r1, hr1⟩ : ∃ b : Bool, b = sameB K1 K2 := ⟨_, rfl⟩
       rw [← hr1]
       clear hr1
       cases r1 with
       | false =>
        have t1 := H2.out.2.2.2.2.2.2.2 _ _ ((Sat.sub (s8) (by with_reducible repeat first | exact Fr1 | exact Fr2 | (apply Fr3; focus ((repeat (first | exact Tk1 | apply Tk2)); done)) | apply Fr4)) : Sat W0 _ (bytes true kq2 K2 :: bytes true c22 C2 :: bytes true mq2 M2 :: R2 :: bytes true kq1 K1 :: bytes true c21 C1 :: bytes true mq1 M1 :: R1 :: L))
        have t2 := H1.out.2.2.2.2.2.2.2 _ _ ((Sat.sub (t1) (by with_reducible repeat first | exact Fr1 | exact Fr2 | (apply Fr3; focus ((repeat (first | exact Tk1 | apply Tk2)); done)) | apply Fr4)) : Sat W0 _ (bytes true kq1 K1 :: bytes true c21 C1 :: bytes true mq1 M1 :: R1 :: heldsA pb cb lb :: L))
        have HS := Lib.hid t2; clear s8 t1 t2
        clear u1 u2 u3 u4 u5 uz v1 v2 v3 v4 v5 vz
        go_wp2_with fail
        exact ⟨⟨i + 1, by omega, by go_num, HS.out⟩, by simp [intOf]; omega⟩
       | true =>
        go_wp2_with fail
        refine (sameS (ca := c31) (cb := c32) C1 C2 H1.out.2.2.1 H2.out.2.2.1 H1.out.2.2.2.2.2.1 H2.out.2.2.2.2.2.1 ((Sat.sub (s8) (by with_reducible repeat first | exact Fr1 | exact Fr2 | (apply Fr3; focus ((repeat (first | exact Tk1 | apply Tk2)); done)) | apply Fr4)) : Sat W0 _ (bytes true c21 C1 :: bytes true c22 C2 :: seg true g1 0 [.int .i64 (i1 : Int), .int .u8 (al1 : Int), .int .i64 (ou1 : Int), .slice kq1 kl1 cq1, .slice c21 cl1 c31, .slice mq1 ml1 mc1] :: seg true g2 0 [.int .i64 (i2 : Int), .int .u8 (al2 : Int), .int .i64 (ou2 : Int), .slice kq2 kl2 cq2, .slice c22 cl2 c32, .slice mq2 ml2 mc2] :: bytes true kq1 K1 :: bytes true mq1 M1 :: R1 :: bytes true kq2 K2 :: bytes true mq2 M2 :: R2 :: L))).mono ?_
        rintro e w9 ⟨rfl, s9'⟩
        have s9 : Sat W0 w9 (seg true g1 0 [.int .i64 (i1 : Int), .int .u8 (al1 : Int), .int .i64 (ou1 : Int), .slice kq1 kl1 cq1, .slice c21 cl1 c31, .slice mq1 ml1 mc1] :: seg true g2 0 [.int .i64 (i2 : Int), .int .u8 (al2 : Int), .int .i64 (ou2 : Int), .slice kq2 kl2 cq2, .slice c22 cl2 c32, .slice mq2 ml2 mc2] :: bytes true kq1 K1 :: bytes true c21 C1 :: bytes true mq1 M1 :: R1 :: bytes true kq2 K2 :: bytes true c22 C2 :: bytes true mq2 M2 :: R2 :: L) := (Sat.sub (s9') (by with_reducible repeat first | exact Fr1 | exact Fr2 | (apply Fr3; focus ((repeat (first | exact Tk1 | apply Tk2)); done)) | apply Fr4))
        clear s8 s9' u1 u2 u3 u4 u5 uz v1 v2 v3 v4 v5 vz
        obtain ⟨u1, u2, u3, u4, u5, uz⟩ := HK1.out _ ((Sat.sub (s9) (by with_reducible repeat first | exact Fr1 | exact Fr2 | (apply Fr3; focus ((repeat (first | exact Tk1 | apply Tk2)); done)) | apply Fr4)) : Sat W0 w9 (seg true g1 0 [.int .i64 (i1 : Int), .int .u8 (al1 : Int), .int .i64 (ou1 : Int), .slice kq1 kl1 cq1, .slice c21 cl1 c31, .slice mq1 ml1 mc1] :: []))
        have sx : Sat W0 w9 (seg true g2 0 [.int .i64 (i2 : Int), .int .u8 (al2 : Int), .int .i64 (ou2 : Int), .slice kq2 kl2 cq2, .slice c22 cl2 c32, .slice mq2 ml2 mc2] :: []) := (Sat.sub (s9) (by with_reducible repeat first | exact Fr1 | exact Fr2 | (apply Fr3; focus ((repeat (first | exact Tk1 | apply Tk2)); done)) | apply Fr4))
        have v1 := sx.at 1 rfl
        have v2 := sx.at 2 rfl
        have v3 := sx.at 3 rfl
        have v4 := sx.at 4 rfl
        have v5 := sx.at 5 rfl
        have vz := sx.lt (by simp)
        clear sx
        obtain ⟨r2, hr2⟩ : ∃ b : Bool, b = sameB C1 C2 := ⟨_, rfl⟩
        rw [← hr2]
        clear hr2
        cases r2 with
        | false =>
         have t1 := H2.out.2.2.2.2.2.2.2 _ _ ((Sat.sub (s9) (by with_reducible repeat first | exact Fr1 | exact Fr2 | (apply Fr3; focus ((repeat (first | exact Tk1 | apply Tk2)); done)) | apply Fr4)) : Sat W0 _ (bytes true kq2 K2 :: bytes true c22 C2 :: bytes true mq2 M2 :: R2 :: bytes true kq1 K1 :: bytes true c21 C1 :: bytes true mq1 M1 :: R1 :: L))
         have t2 := H1.out.2.2.2.2.2.2.2 _ _ ((Sat.sub (t1) (by with_reducible repeat first | exact Fr1 | exact Fr2 | (apply Fr3; focus ((repeat (first | exact Tk1 | apply Tk2)); done)) | apply Fr4)) : Sat W0 _ (bytes true kq1 K1 :: bytes true c21 C1 :: bytes true mq1 M1 :: R1 :: heldsA pb cb lb :: L))
         have HS := Lib.hid t2; clear s9 t1 t2
         clear u1 u2 u3 u4 u5 uz v1 v2 v3 v4 v5 vz
         go_wp2_with fail
         exact ⟨⟨i + 1, by omega, by go_num, HS.out⟩, by simp [intOf]; omega⟩
        | true =>
         go_wp2_with fail
         refine (sameS (ca := mc1) (cb := mc2) M1 M2 H1.out.2.2.2.1 H2.out.2.2.2.1 H1.out.2.2.2.2.2.2.1 H2.out.2.2.2.2.2.2.1 ((Sat.sub (s9) (by with_reducible repeat first | exact Fr1 | exact Fr2 | (apply Fr3; focus ((repeat (first | exact Tk1 | apply Tk2)); done)) | apply Fr4)) : Sat W0 _ (bytes true mq1 M1 :: bytes true mq2 M2 :: seg true g1 0 [.int .i64 (i1 : Int), .int .u8 (al1 : Int), .int .i64 (ou1 : Int), .slice kq1 kl1 cq1, .slice c21 cl1 c31, .slice mq1 ml1 mc1] :: seg true g2 0 [.int .i64 (i2 : Int), .int .u8 (al2 : Int), .int .i64 (ou2 : Int), .slice kq2 kl2 cq2, .slice c22 cl2 c32, .slice mq2 ml2 mc2] :: bytes true kq1 K1 :: bytes true c21 C1 :: R1 :: bytes true kq2 K2 :: bytes true c22 C2 :: R2 :: L))).mono ?_
         rintro e w10 ⟨rfl, s10'⟩
         have s10 : Sat W0 w10 (seg true g1 0 [.int .i64 (i1 : Int), .int .u8 (al1 : Int), .int .i64 (ou1 : Int), .slice kq1 kl1 cq1, .slice c21 cl1 c31, .slice mq1 ml1 mc1] :: seg true g2 0 [.int .i64 (i2 : Int), .int .u8 (al2 : Int), .int .i64 (ou2 : Int), .slice kq2 kl2 cq2, .slice c22 cl2 c32, .slice mq2 ml2 mc2] :: bytes true kq1 K1 :: bytes true c21 C1 :: bytes true mq1 M1 :: R1 :: bytes true kq2 K2 :: bytes true c22 C2 :: bytes true mq2 M2 :: R2 :: L) := (Sat.sub (s10') (by with_reducible repeat first | exact Fr1 | exact Fr2 | (apply Fr3; focus ((repeat (first | exact Tk1 | apply Tk2)); done)) | apply Fr4))
         clear s9 s10' u1 u2 u3 u4 u5 uz v1 v2 v3 v4 v5 vz
         obtain ⟨u1, u2, u3, u4, u5, uz⟩ := HK1.out _ ((Sat.sub (s10) (by with_reducible repeat first | exact Fr1 | exact Fr2 | (apply Fr3; focus ((repeat (first | exact Tk1 | apply Tk2)); done)) | apply Fr4)) : Sat W0 w10 (seg true g1 0 [.int .i64 (i1 : Int), .int .u8 (al1 : Int), .int .i64 (ou1 : Int), .slice kq1 kl1 cq1, .slice c21 cl1 c31, .slice mq1 ml1 mc1] :: []))
         have sx : Sat W0 w10 (seg true g2 0 [.int .i64 (i2 : Int), .int .u8 (al2 : Int), .int .i64 (ou2 : Int), .slice kq2 kl2 cq2, .slice c22 cl2 c32, .slice mq2 ml2 mc2] :: []) := (Sat.sub (s10) (by with_reducible repeat first | exact Fr1 | exact Fr2 | (apply Fr3; focus ((repeat (first | exact Tk1 | apply Tk2)); done)) | apply Fr4))
         have v1 := sx.at 1 rfl
         have v2 := sx.at 2 rfl
         have v3 := sx.at 3 rfl
         have v4 := sx.at 4 rfl
         have v5 := sx.at 5 rfl
         have vz := sx.lt (by simp)
         clear sx
         obtain ⟨r3, hr3⟩ : ∃ b : Bool, b = sameB M1 M2 := ⟨_, rfl⟩
         rw [← hr3]
         clear hr3
         cases r3 with
         | false =>
          have t1 := H2.out.2.2.2.2.2.2.2 _ _ ((Sat.sub (s10) (by with_reducible repeat first | exact Fr1 | exact Fr2 | (apply Fr3; focus ((repeat (first | exact Tk1 | apply Tk2)); done)) | apply Fr4)) : Sat W0 _ (bytes true kq2 K2 :: bytes true c22 C2 :: bytes true mq2 M2 :: R2 :: bytes true kq1 K1 :: bytes true c21 C1 :: bytes true mq1 M1 :: R1 :: L))
          have t2 := H1.out.2.2.2.2.2.2.2 _ _ ((Sat.sub (t1) (by with_reducible repeat first | exact Fr1 | exact Fr2 | (apply Fr3; focus ((repeat (first | exact Tk1 | apply Tk2)); done)) | apply Fr4)) : Sat W0 _ (bytes true kq1 K1 :: bytes true c21 C1 :: bytes true mq1 M1 :: R1 :: heldsA pb cb lb :: L))
          have HS := Lib.hid t2; clear s10 t1 t2
          clear u1 u2 u3 u4 u5 uz v1 v2 v3 v4 v5 vz
          go_wp2_with fail
          exact ⟨⟨i + 1, by omega, by go_num, HS.out⟩, by simp [intOf]; omega⟩
         | true =>
          have t1 := H2.out.2.2.2.2.2.2.2 _ _ ((Sat.sub (s10) (by with_reducible repeat first | exact Fr1 | exact Fr2 | (apply Fr3; focus ((repeat (first | exact Tk1 | apply Tk2)); done)) | apply Fr4)) : Sat W0 _ (bytes true kq2 K2 :: bytes true c22 C2 :: bytes true mq2 M2 :: R2 :: bytes true kq1 K1 :: bytes true c21 C1 :: bytes true mq1 M1 :: R1 :: L))
          have t2 := H1.out.2.2.2.2.2.2.2 _ _ ((Sat.sub (t1) (by with_reducible repeat first | exact Fr1 | exact Fr2 | (apply Fr3; focus ((repeat (first | exact Tk1 | apply Tk2)); done)) | apply Fr4)) : Sat W0 _ (bytes true kq1 K1 :: bytes true c21 C1 :: bytes true mq1 M1 :: R1 :: heldsA pb cb lb :: L))
          have HS := Lib.hid t2; clear s10 t1 t2
          clear u1 u2 u3 u4 u5 uz v1 v2 v3 v4 v5 vz
          go_wp2_with fail
          exact ⟨⟨i + 1, by omega, by go_num, HS.out⟩, by simp [intOf]; omega⟩
   ·have hbt : ((i : Int) != but) = true := by rw [bne_iff_ne]; exact hbut
    have hsm := HN.out.2.2 i hlt hbut
    rw [H1.out.1, H2.out.1] at hsm
    simp only [Prod.mk.injEq] at hsm
    obtain ⟨rfl, rfl, rfl, rfl, rfl, rfl⟩ := hsm
    clear hbut
    go_wp2_with (first | (refine wpl_alloc_agg rfl 49 rfl s5 hold0 (zero_hold _) ?_; intro w6 g2 s6 _; clear s5) | (refine wpl_store_agg rfl rfl 49 (.tmp 10) (.tmp 27) rfl (cs := [.int .i64 (i2 : Int), .int .u8 (al1 : Int), .int .i64 (ou1 : Int), .slice kq2 kl2 cq2, .slice c22 cl2 c32, .slice mq2 ml2 mc2]) s6 0 0 Tryz.size_hold rfl rfl rfl (Nat.le_refl 6) (hold_one _ _ _ _ _ _ _ _ _ _ _ _) ?_; intro w7 s7x; rw [setL_all _ _ (by rfl)] at s7x; clear s6; have s7 : Sat W0 w7 (seg true g1 0 [.int .i64 (i1 : Int), .int .u8 (al1 : Int), .int .i64 (ou1 : Int), .slice kq1 kl1 cq1, .slice c21 cl1 c31, .slice mq1 ml1 mc1] :: seg true g2 0 [.int .i64 (i2 : Int), .int .u8 (al1 : Int), .int .i64 (ou1 : Int), .slice kq2 kl2 cq2, .slice c22 cl2 c32, .slice mq2 ml2 mc2] :: bytes true kq1 K1 :: bytes true c21 C1 :: bytes true mq1 M1 :: R1 :: bytes true kq2 K1 :: bytes true c22 C1 :: bytes true mq2 M1 :: R2 :: L) := (Sat.sub (s7x) (by with_reducible repeat first | exact Fr1 | exact Fr2 | (apply Fr3; focus ((repeat (first | exact Tk1 | apply Tk2)); done)) | apply Fr4)); clear s7x; obtain ⟨u1, u2, u3, u4, u5, uz⟩ := HK1.out _ ((Sat.sub (s7) (by with_reducible repeat first | exact Fr1 | exact Fr2 | (apply Fr3; focus ((repeat (first | exact Tk1 | apply Tk2)); done)) | apply Fr4)) : Sat W0 w7 (seg true g1 0 [.int .i64 (i1 : Int), .int .u8 (al1 : Int), .int .i64 (ou1 : Int), .slice kq1 kl1 cq1, .slice c21 cl1 c31, .slice mq1 ml1 mc1] :: [])); have s7b : Sat W0 w7 (seg true g2 0 [.int .i64 (i2 : Int), .int .u8 (al1 : Int), .int .i64 (ou1 : Int), .slice kq2 kl2 cq2, .slice c22 cl2 c32, .slice mq2 ml2 mc2] :: []) := (Sat.sub (s7) (by with_reducible repeat first | exact Fr1 | exact Fr2 | (apply Fr3; focus ((repeat (first | exact Tk1 | apply Tk2)); done)) | apply Fr4)); have v1 := s7b.at 1 rfl; have v2 := s7b.at 2 rfl; have v3 := s7b.at 3 rfl; have v4 := s7b.at 4 rfl; have v5 := s7b.at 5 rfl; have vz := s7b.lt (by simp); clear s7b))
    refine (sameS (ca := cq1) (cb := cq2) K1 K1 H1.out.2.1 H2.out.2.1 H1.out.2.2.2.2.1 H2.out.2.2.2.2.1 ((Sat.sub (s7) (by with_reducible repeat first | exact Fr1 | exact Fr2 | (apply Fr3; focus ((repeat (first | exact Tk1 | apply Tk2)); done)) | apply Fr4)) : Sat W0 _ (bytes true kq1 K1 :: bytes true kq2 K1 :: seg true g1 0 [.int .i64 (i1 : Int), .int .u8 (al1 : Int), .int .i64 (ou1 : Int), .slice kq1 kl1 cq1, .slice c21 cl1 c31, .slice mq1 ml1 mc1] :: seg true g2 0 [.int .i64 (i2 : Int), .int .u8 (al1 : Int), .int .i64 (ou1 : Int), .slice kq2 kl2 cq2, .slice c22 cl2 c32, .slice mq2 ml2 mc2] :: bytes true c21 C1 :: bytes true mq1 M1 :: R1 :: bytes true c22 C1 :: bytes true mq2 M1 :: R2 :: L))).mono ?_
    rintro e w8 ⟨rfl, s8'⟩
    rw [sameB_eq rfl]
    have s8 : Sat W0 w8 (seg true g1 0 [.int .i64 (i1 : Int), .int .u8 (al1 : Int), .int .i64 (ou1 : Int), .slice kq1 kl1 cq1, .slice c21 cl1 c31, .slice mq1 ml1 mc1] :: seg true g2 0 [.int .i64 (i2 : Int), .int .u8 (al1 : Int), .int .i64 (ou1 : Int), .slice kq2 kl2 cq2, .slice c22 cl2 c32, .slice mq2 ml2 mc2] :: bytes true kq1 K1 :: bytes true c21 C1 :: bytes true mq1 M1 :: R1 :: bytes true kq2 K1 :: bytes true c22 C1 :: bytes true mq2 M1 :: R2 :: L) := (Sat.sub (s8') (by with_reducible repeat first | exact Fr1 | exact Fr2 | (apply Fr3; focus ((repeat (first | exact Tk1 | apply Tk2)); done)) | apply Fr4))
    clear s7 s8' u1 u2 u3 u4 u5 uz v1 v2 v3 v4 v5 vz
    obtain ⟨u1, u2, u3, u4, u5, uz⟩ := HK1.out _ ((Sat.sub (s8) (by with_reducible repeat first | exact Fr1 | exact Fr2 | (apply Fr3; focus ((repeat (first | exact Tk1 | apply Tk2)); done)) | apply Fr4)) : Sat W0 w8 (seg true g1 0 [.int .i64 (i1 : Int), .int .u8 (al1 : Int), .int .i64 (ou1 : Int), .slice kq1 kl1 cq1, .slice c21 cl1 c31, .slice mq1 ml1 mc1] :: []))
    have sx : Sat W0 w8 (seg true g2 0 [.int .i64 (i2 : Int), .int .u8 (al1 : Int), .int .i64 (ou1 : Int), .slice kq2 kl2 cq2, .slice c22 cl2 c32, .slice mq2 ml2 mc2] :: []) := (Sat.sub (s8) (by with_reducible repeat first | exact Fr1 | exact Fr2 | (apply Fr3; focus ((repeat (first | exact Tk1 | apply Tk2)); done)) | apply Fr4))
    have v1 := sx.at 1 rfl
    have v2 := sx.at 2 rfl
    have v3 := sx.at 3 rfl
    have v4 := sx.at 4 rfl
    have v5 := sx.at 5 rfl
    have vz := sx.lt (by simp)
    clear sx
    go_wp2_with fail
    refine (sameS (ca := c31) (cb := c32) C1 C1 H1.out.2.2.1 H2.out.2.2.1 H1.out.2.2.2.2.2.1 H2.out.2.2.2.2.2.1 ((Sat.sub (s8) (by with_reducible repeat first | exact Fr1 | exact Fr2 | (apply Fr3; focus ((repeat (first | exact Tk1 | apply Tk2)); done)) | apply Fr4)) : Sat W0 _ (bytes true c21 C1 :: bytes true c22 C1 :: seg true g1 0 [.int .i64 (i1 : Int), .int .u8 (al1 : Int), .int .i64 (ou1 : Int), .slice kq1 kl1 cq1, .slice c21 cl1 c31, .slice mq1 ml1 mc1] :: seg true g2 0 [.int .i64 (i2 : Int), .int .u8 (al1 : Int), .int .i64 (ou1 : Int), .slice kq2 kl2 cq2, .slice c22 cl2 c32, .slice mq2 ml2 mc2] :: bytes true kq1 K1 :: bytes true mq1 M1 :: R1 :: bytes true kq2 K1 :: bytes true mq2 M1 :: R2 :: L))).mono ?_
    rintro e w9 ⟨rfl, s9'⟩
    rw [sameB_eq rfl]
    have s9 : Sat W0 w9 (seg true g1 0 [.int .i64 (i1 : Int), .int .u8 (al1 : Int), .int .i64 (ou1 : Int), .slice kq1 kl1 cq1, .slice c21 cl1 c31, .slice mq1 ml1 mc1] :: seg true g2 0 [.int .i64 (i2 : Int), .int .u8 (al1 : Int), .int .i64 (ou1 : Int), .slice kq2 kl2 cq2, .slice c22 cl2 c32, .slice mq2 ml2 mc2] :: bytes true kq1 K1 :: bytes true c21 C1 :: bytes true mq1 M1 :: R1 :: bytes true kq2 K1 :: bytes true c22 C1 :: bytes true mq2 M1 :: R2 :: L) := (Sat.sub (s9') (by with_reducible repeat first | exact Fr1 | exact Fr2 | (apply Fr3; focus ((repeat (first | exact Tk1 | apply Tk2)); done)) | apply Fr4))
    clear s8 s9' u1 u2 u3 u4 u5 uz v1 v2 v3 v4 v5 vz
    obtain ⟨u1, u2, u3, u4, u5, uz⟩ := HK1.out _ ((Sat.sub (s9) (by with_reducible repeat first | exact Fr1 | exact Fr2 | (apply Fr3; focus ((repeat (first | exact Tk1 | apply Tk2)); done)) | apply Fr4)) : Sat W0 w9 (seg true g1 0 [.int .i64 (i1 : Int), .int .u8 (al1 : Int), .int .i64 (ou1 : Int), .slice kq1 kl1 cq1, .slice c21 cl1 c31, .slice mq1 ml1 mc1] :: []))
    have sx : Sat W0 w9 (seg true g2 0 [.int .i64 (i2 : Int), .int .u8 (al1 : Int), .int .i64 (ou1 : Int), .slice kq2 kl2 cq2, .slice c22 cl2 c32, .slice mq2 ml2 mc2] :: []) := (Sat.sub (s9) (by with_reducible repeat first | exact Fr1 | exact Fr2 | (apply Fr3; focus ((repeat (first | exact Tk1 | apply Tk2)); done)) | apply Fr4))
    have v1 := sx.at 1 rfl
    have v2 := sx.at 2 rfl
    have v3 := sx.at 3 rfl
    have v4 := sx.at 4 rfl
    have v5 := sx.at 5 rfl
    have vz := sx.lt (by simp)
    clear sx
    go_wp2_with fail
    refine (sameS (ca := mc1) (cb := mc2) M1 M1 H1.out.2.2.2.1 H2.out.2.2.2.1 H1.out.2.2.2.2.2.2.1 H2.out.2.2.2.2.2.2.1 ((Sat.sub (s9) (by with_reducible repeat first | exact Fr1 | exact Fr2 | (apply Fr3; focus ((repeat (first | exact Tk1 | apply Tk2)); done)) | apply Fr4)) : Sat W0 _ (bytes true mq1 M1 :: bytes true mq2 M1 :: seg true g1 0 [.int .i64 (i1 : Int), .int .u8 (al1 : Int), .int .i64 (ou1 : Int), .slice kq1 kl1 cq1, .slice c21 cl1 c31, .slice mq1 ml1 mc1] :: seg true g2 0 [.int .i64 (i2 : Int), .int .u8 (al1 : Int), .int .i64 (ou1 : Int), .slice kq2 kl2 cq2, .slice c22 cl2 c32, .slice mq2 ml2 mc2] :: bytes true kq1 K1 :: bytes true c21 C1 :: R1 :: bytes true kq2 K1 :: bytes true c22 C1 :: R2 :: L))).mono ?_
    rintro e w10 ⟨rfl, s10'⟩
    rw [sameB_eq rfl]
    have s10 : Sat W0 w10 (seg true g1 0 [.int .i64 (i1 : Int), .int .u8 (al1 : Int), .int .i64 (ou1 : Int), .slice kq1 kl1 cq1, .slice c21 cl1 c31, .slice mq1 ml1 mc1] :: seg true g2 0 [.int .i64 (i2 : Int), .int .u8 (al1 : Int), .int .i64 (ou1 : Int), .slice kq2 kl2 cq2, .slice c22 cl2 c32, .slice mq2 ml2 mc2] :: bytes true kq1 K1 :: bytes true c21 C1 :: bytes true mq1 M1 :: R1 :: bytes true kq2 K1 :: bytes true c22 C1 :: bytes true mq2 M1 :: R2 :: L) := (Sat.sub (s10') (by with_reducible repeat first | exact Fr1 | exact Fr2 | (apply Fr3; focus ((repeat (first | exact Tk1 | apply Tk2)); done)) | apply Fr4))
    clear s9 s10' u1 u2 u3 u4 u5 uz v1 v2 v3 v4 v5 vz
    obtain ⟨u1, u2, u3, u4, u5, uz⟩ := HK1.out _ ((Sat.sub (s10) (by with_reducible repeat first | exact Fr1 | exact Fr2 | (apply Fr3; focus ((repeat (first | exact Tk1 | apply Tk2)); done)) | apply Fr4)) : Sat W0 w10 (seg true g1 0 [.int .i64 (i1 : Int), .int .u8 (al1 : Int), .int .i64 (ou1 : Int), .slice kq1 kl1 cq1, .slice c21 cl1 c31, .slice mq1 ml1 mc1] :: []))
    have sx : Sat W0 w10 (seg true g2 0 [.int .i64 (i2 : Int), .int .u8 (al1 : Int), .int .i64 (ou1 : Int), .slice kq2 kl2 cq2, .slice c22 cl2 c32, .slice mq2 ml2 mc2] :: []) := (Sat.sub (s10) (by with_reducible repeat first | exact Fr1 | exact Fr2 | (apply Fr3; focus ((repeat (first | exact Tk1 | apply Tk2)); done)) | apply Fr4))
    have v1 := sx.at 1 rfl
    have v2 := sx.at 2 rfl
    have v3 := sx.at 3 rfl
    have v4 := sx.at 4 rfl
    have v5 := sx.at 5 rfl
    have vz := sx.lt (by simp)
    clear sx
    have t1 := H2.out.2.2.2.2.2.2.2 _ _ ((Sat.sub (s10) (by with_reducible repeat first | exact Fr1 | exact Fr2 | (apply Fr3; focus ((repeat (first | exact Tk1 | apply Tk2)); done)) | apply Fr4)) : Sat W0 _ (bytes true kq2 K1 :: bytes true c22 C1 :: bytes true mq2 M1 :: R2 :: bytes true kq1 K1 :: bytes true c21 C1 :: bytes true mq1 M1 :: R1 :: L))
    have t2 := H1.out.2.2.2.2.2.2.2 _ _ ((Sat.sub (t1) (by with_reducible repeat first | exact Fr1 | exact Fr2 | (apply Fr3; focus ((repeat (first | exact Tk1 | apply Tk2)); done)) | apply Fr4)) : Sat W0 _ (bytes true kq1 K1 :: bytes true c21 C1 :: bytes true mq1 M1 :: R1 :: heldsA pb cb lb :: L))
    have HS := Lib.hid t2; clear s10 t1 t2
    clear u1 u2 u3 u4 u5 uz v1 v2 v3 v4 v5 vz
    go_wp2_with fail
    exact ⟨⟨i + 1, by omega, by go_num, HS.out⟩, by simp [intOf]; omega⟩
  ·obtain rfl : i = 64 := by omega
   have HS := Lib.hid s; clear s
   go_wp2_with fail
   go_ret
   exact ⟨rfl, HS.out⟩
end Go.Proofs.YtpiiklfnakkdiaaGreat
