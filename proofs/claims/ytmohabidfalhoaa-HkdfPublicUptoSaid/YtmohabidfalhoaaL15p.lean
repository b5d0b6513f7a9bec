/- HkdfPublic: keys, salts and informations of the same lengths have the same ledger; noughts as a salt are no salt; where the arguments read as bytes, of bulk at most 1048576. -/
import Derived.Test.YtmohabidfalhoaaL15
import Derived.Test.YtmohabidfalhoaaArg
namespace Go.Proofs.Ytmohabidfalhoaa
open Go.RowKit Go.Sep Go.Bv Go.Sha
set_option linter.unusedVariables false
set_option linter.unusedSimpArgs false
theorem keyN_ge2 (wide : Bool) (n : Nat) : 2 ≤ keyN wide n := by
  unfold keyN
  split <;> omega
theorem u8_byte15 (z : Int) (hw : (Lit.int .u8 z).wf = true) : ∃ b : Byte, z = v8 b := by
  simp only [Lit.wf, Bool.and_eq_true, decide_eq_true_eq] at hw
  have h1 : IntKind.u8.min = 0 := rfl
  have h2 : IntKind.u8.max = 255 := rfl
  rw [h1, h2] at hw
  exact ⟨BitVec.ofInt 8 z, by rw [v8_ofInt z (by omega) (by omega)]⟩
set_option maxRecDepth 100000 in
set_option maxHeartbeats 2000000 in
theorem hkpublic_any (W : World) (wide : Bool) (a1 a2 a3 : Option Addr × Nat × Nat × List Byte) (b : Byte) (i5 i6 : Int) (h1 : IsBytes W a1.1 a1.2.1 a1.2.2.1 a1.2.2.2) (h2 : IsBytes W a2.1 a2.2.1 a2.2.2.1 a2.2.2.2) (h3 : IsBytes W a3.1 a3.2.1 a3.2.2.1 a3.2.2.2) (hb1 : a1.2.2.1 ≤ 1048576) (hb2 : a2.2.2.1 ≤ 1048576) (hb3 : a3.2.2.1 ≤ 1048576) :
    Calls Try.prog 14 #[.bool wide, .slice a1.1 a1.2.1 a1.2.2.1, .slice a2.1 a2.2.1 a2.2.2.1, .slice a3.1 a3.2.1 a3.2.2.1, .int .u8 (v8 b), .int .i64 i5, .int .i64 i6] W fun e W' => e = .returned (.bool true) ∧ Below W.heap.size W W' := by
  obtain ⟨p1, n1, c1, K⟩ := a1
  obtain ⟨p2, n2, c2, S⟩ := a2
  obtain ⟨p3, n3, c3, F⟩ := a3
  simp only at h1 h2 h3 hb1 hb2 hb3 ⊢
  obtain ⟨i3, hi3, hz3, hs3, hb3'⟩ := info_parts Try.info_u8
  have s0 : Sat W W (bytes false p1 K :: bytes false p2 S :: bytes false p3 F :: []) := h1.sat (h2.sat (h3.sat (Sat.nil W)))
  obtain ⟨hK, hK1, hK2, -⟩ := h1
  obtain ⟨hS, hS1, hS2, -⟩ := h2
  obtain ⟨hF, hF1, hF2, -⟩ := h3
  have HA := Lib.hid (And.intro hK (And.intro hS (And.intro hF (And.intro hK2 (And.intro hS2 hF2))))); clear hK hS hF hK2 hS2 hF2
  have hH : hsz wide ≤ 64 := by cases wide <;> decide
  have hH0 : 32 ≤ hsz wide := by cases wide <;> decide
  have hHb : 2 * hsz wide = bsz wide := by cases wide <;> rfl
  go_enter Try.func14, Try.ntmps14
  go_wp2_with fail
  refine (alg15 _ wide).mono ?_
  rintro e w' ⟨rfl, rfl⟩
  go_wp2_with fail
  refine (pickG (6 * hsz wide) (by simp) (by omega) (by omega)).mono ?_
  rintro e w' ⟨n, hn, rfl, rfl⟩
  go_wp2_with fail
  refine (ledNewF s0).mono ?_
  rintro e w1 ⟨l, rfl, s1⟩
  clear s0
  go_wp2_with fail
  refine (ledNewF s1).mono ?_
  rintro e w2 ⟨m, rfl, s2⟩
  clear s1
  go_wp2_with fail
  refine (hkKeyF wide (some l) [] K S F n (by simp) rfl rfl HA.out.1 hK1 HA.out.2.2.2.1 HA.out.2.1 hS1 HA.out.2.2.2.2.1 HA.out.2.2.1 hF1 HA.out.2.2.2.2.2 (by omega) (by simp only [tot]; omega) (by decide) (by (repeat (first | with_reducible apply Sat.sub (s2) | with_reducible apply Sat.alloc' | with_reducible apply Sat.drew | with_reducible apply Sat.drewN)); (repeat (first | with_reducible exact Fr.done | with_reducible exact Fr.nil | (with_reducible apply Fr.cons; (focus ((repeat (first | with_reducible exact Take.here | with_reducible apply Take.there)); done))) | with_reducible apply Fr.skip)); done)).mono ?_
  rintro e w3 ⟨q1, d1, rfl, -, -, s3⟩
  clear s2
  go_wp2_with fail
  refine (fillF b n1 (by rfl) (by rfl) (by omega) s3).mono ?_
  rintro e w4 ⟨q4, d4, rfl, x4, y4, s4⟩
  clear s3
  go_wp2_with fail
  refine (fillF b n2 (by rfl) (by rfl) (by omega) s4).mono ?_
  rintro e w5 ⟨q5, d5, rfl, x5, y5, s5⟩
  clear s4
  go_wp2_with fail
  refine (fillF b n3 (by rfl) (by rfl) (by omega) s5).mono ?_
  rintro e w6 ⟨q6, d6, rfl, x6, y6, s6⟩
  clear s5
  have HD := Lib.hid (And.intro y4 (And.intro y5 y6)); clear y4 y5 y6
  go_wp2_with fail
  refine (hkKeyF wide (some m) [] (List.replicate n1 b) (List.replicate n2 b) (List.replicate n3 b) n (by simp) rfl rfl (by simp) x4 HD.out.1 (by simp) x5 HD.out.2.1 (by simp) x6 HD.out.2.2 (by omega) (by simp only [tot]; omega) (by decide) (by (repeat (first | with_reducible apply Sat.sub (s6) | with_reducible apply Sat.alloc' | with_reducible apply Sat.drew | with_reducible apply Sat.drewN)); (repeat (first | with_reducible exact Fr.done | with_reducible exact Fr.nil | (with_reducible apply Fr.cons; (focus ((repeat (first | with_reducible exact Take.here | with_reducible apply Take.there)); done))) | with_reducible apply Fr.skip)); done)).mono ?_
  rintro e w7 ⟨q7, d7, rfl, -, -, s7⟩
  clear s6
  obtain ⟨R, hR⟩ : ∃ R, R = noteN [] (evK wide) (evS wide) (hkKeyN wide n2 n1 n3 n) := ⟨_, rfl⟩
  rw [← hR] at s7
  have hT : 2 ≤ tot R := by
    rw [hR, tot_noteN]
    have := keyN_ge2 wide n2
    unfold hkKeyN
    generalize n1 / bsz wide = q
    simp only [tot]; omega
  have hRl : R.length ≤ 1 := by rw [hR]; exact noteN_len _ _ _ _
  clear hR
  have s8 : Sat W w7 (ledO (some l) R :: ledO (some m) R :: bytes false p1 K :: []) := (by (repeat (first | with_reducible apply Sat.sub (s7) | with_reducible apply Sat.alloc' | with_reducible apply Sat.drew | with_reducible apply Sat.drewN)); (repeat (first | with_reducible exact Fr.done | with_reducible exact Fr.nil | (with_reducible apply Fr.cons; (focus ((repeat (first | with_reducible exact Take.here | with_reducible apply Take.there)); done))) | with_reducible apply Fr.skip)); done)
  clear s7
  go_wp2_with fail
  refine (hkExtract wide none [] [] K rfl HA.out.1 rfl rfl (Nat.le_refl 0) (by decide) hK1 HA.out.2.2.2.1 (by simp only [tot, List.length_nil]; omega) (by decide) (by (repeat (first | with_reducible apply Sat.sub (ledNone (bytesNil false none s8)) | with_reducible apply Sat.alloc' | with_reducible apply Sat.drew | with_reducible apply Sat.drewN)); (repeat (first | with_reducible exact Fr.done | with_reducible exact Fr.nil | (with_reducible apply Fr.cons; (focus ((repeat (first | with_reducible exact Take.here | with_reducible apply Take.there)); done))) | with_reducible apply Fr.skip)); done)).mono ?_
  rintro e w9 ⟨q9, d9, rfl, x9, y9, s9⟩
  clear s8
  go_wp2_with fail
  refine (pickG (2 * hsz wide + 1) (by simp) (by omega) (by omega)).mono ?_
  rintro e w' ⟨k, hk, rfl, rfl⟩
  go_wp2_with (refine wpl_make rfl 39 5 (.tmp 79) (.tmp 79) rfl Try.underlying39 hi3 hz3 hs3 hb3' rfl k rfl rfl (by omega) (by omega) s9 ?_; intro w10 g s10 _; rw [u8s_zero] at s10; clear s9)
  refine (hkExtract wide none [] (List.replicate k 0) K (by simp) HA.out.1 rfl rfl (Nat.le_refl k) (by unfold maxLen; omega) hK1 HA.out.2.2.2.1 (by simp only [tot]; omega) (by decide) (by (repeat (first | with_reducible apply Sat.sub (ledNone (bytesOf s10)) | with_reducible apply Sat.alloc' | with_reducible apply Sat.drew | with_reducible apply Sat.drewN)); (repeat (first | with_reducible exact Fr.done | with_reducible exact Fr.nil | (with_reducible apply Fr.cons; (focus ((repeat (first | with_reducible exact Take.here | with_reducible apply Take.there)); done))) | with_reducible apply Fr.skip)); done)).mono ?_
  rintro e w11 ⟨q11, d11, rfl, x11, y11, s11⟩
  clear s10
  rw [hmac_noughts wide k (by omega)] at s11
  obtain ⟨T, hT2⟩ : ∃ T, T = hmac wide [] K := ⟨_, rfl⟩
  have hTl : T.length = hsz wide := by rw [hT2]; exact hmac_len _ _ _
  rw [← hT2] at s11
  have HT := Lib.hid (And.intro hTl (And.intro y9 y11)); clear hT2 hTl y9 y11
  go_wp2_with fail
  refine (awake15 s11).mono ?_
  rintro e w12 ⟨rfl, s12⟩
  clear s11
  go_wp2_with fail
  refine (sameT T T HT.out.1 HT.out.1 (by omega) rfl (by (repeat (first | with_reducible apply Sat.sub (s12) | with_reducible apply Sat.alloc' | with_reducible apply Sat.drew | with_reducible apply Sat.drewN)); (repeat (first | with_reducible exact Fr.done | with_reducible exact Fr.nil | (with_reducible apply Fr.cons; (focus ((repeat (first | with_reducible exact Take.here | with_reducible apply Take.there)); done))) | with_reducible apply Fr.skip)); done)).mono ?_
  rintro e w13 ⟨rfl, s13⟩
  clear s12
  go_wp2_with fail
  refine (ledRunsF (l := l) (rs := R) (by omega) (by (repeat (first | with_reducible apply Sat.sub (s13) | with_reducible apply Sat.alloc' | with_reducible apply Sat.drew | with_reducible apply Sat.drewN)); (repeat (first | with_reducible exact Fr.done | with_reducible exact Fr.nil | (with_reducible apply Fr.cons; (focus ((repeat (first | with_reducible exact Take.here | with_reducible apply Take.there)); done))) | with_reducible apply Fr.skip)); done)).mono ?_
  rintro e w14 ⟨q14, d14, rfl, s14⟩
  clear s13
  go_wp2_with fail
  refine (ledRunsF (l := m) (rs := R) (by omega) (by (repeat (first | with_reducible apply Sat.sub (s14) | with_reducible apply Sat.alloc' | with_reducible apply Sat.drew | with_reducible apply Sat.drewN)); (repeat (first | with_reducible exact Fr.done | with_reducible exact Fr.nil | (with_reducible apply Fr.cons; (focus ((repeat (first | with_reducible exact Take.here | with_reducible apply Take.there)); done))) | with_reducible apply Fr.skip)); done)).mono ?_
  rintro e w15 ⟨q15, d15, rfl, s15⟩
  clear s14
  go_wp2_with fail
  refine (sameRuns R rfl rfl (by omega) (by (repeat (first | with_reducible apply Sat.sub (s15) | with_reducible apply Sat.alloc' | with_reducible apply Sat.drew | with_reducible apply Sat.drewN)); (repeat (first | with_reducible exact Fr.done | with_reducible exact Fr.nil | (with_reducible apply Fr.cons; (focus ((repeat (first | with_reducible exact Take.here | with_reducible apply Take.there)); done))) | with_reducible apply Fr.skip)); done)).mono ?_
  rintro e w16 ⟨rfl, s16⟩
  clear s15
  go_wp2_with fail
  refine (ledLenF (l := l) (rs := R) (by (repeat (first | with_reducible apply Sat.sub (s16) | with_reducible apply Sat.alloc' | with_reducible apply Sat.drew | with_reducible apply Sat.drewN)); (repeat (first | with_reducible exact Fr.done | with_reducible exact Fr.nil | (with_reducible apply Fr.cons; (focus ((repeat (first | with_reducible exact Take.here | with_reducible apply Take.there)); done))) | with_reducible apply Fr.skip)); done)).mono ?_
  rintro e w' ⟨rfl, rfl⟩
  have hd : decide (0 < tot R) = true := by simp; omega
  go_wp2
  go_ret
  exact ⟨by simp, s16.below⟩
theorem hkpublic_u8 (W : World) (wide : Bool) (a1 a2 a3 : Option Addr × Nat × Nat × List Byte) (z i5 i6 : Int) (h1 : IsBytes W a1.1 a1.2.1 a1.2.2.1 a1.2.2.2) (h2 : IsBytes W a2.1 a2.2.1 a2.2.2.1 a2.2.2.2) (h3 : IsBytes W a3.1 a3.2.1 a3.2.2.1 a3.2.2.2) (hz : (Lit.int .u8 z).wf = true) (hb1 : a1.2.2.1 ≤ 1048576) (hb2 : a2.2.2.1 ≤ 1048576) (hb3 : a3.2.2.1 ≤ 1048576) :
    Calls Try.prog 14 #[.bool wide, .slice a1.1 a1.2.1 a1.2.2.1, .slice a2.1 a2.2.1 a2.2.2.1, .slice a3.1 a3.2.1 a3.2.2.1, .int .u8 z, .int .i64 i5, .int .i64 i6] W fun e W' => e = .returned (.bool true) ∧ Below W.heap.size W W' := by
  obtain ⟨b, rfl⟩ := u8_byte15 z hz
  exact hkpublic_any W wide a1 a2 a3 b i5 i6 h1 h2 h3 hb1 hb2 hb3
end Go.Proofs.Ytmohabidfalhoaa
