/- HkdfNames: a closed statement of layer 15; no condition. -/
import Derived.Test.YtmohabidfalhoaaL15
namespace Go.Proofs.Ytmohabidfalhoaa
open Go.RowKit Go.Sep Go.Bv Go.Sha
set_option linter.unusedVariables false
set_option linter.unusedSimpArgs false
theorem hkN1 : noteN [] (evK false) (evS false) (keyN false 13 + 22 / bsz false + endN false 22) = [(1, 64, 4)] := by decide
theorem hkN2 : noteN [(1, 64, 4)] (evK false) (evS false) (hkKeyN false 13 22 10 42) = [(1, 64, 14)] := by decide +kernel
theorem hkN3 : noteN [(1, 64, 14)] (evK false) (evS false) (hkKeyN false 13 22 10 0) = [(1, 64, 20)] := by decide +kernel
theorem hkN4 : noteN [(1, 64, 20)] (evK false) (evS false) (expN false 0 0 8160) = [(1, 64, 532)] := by decide +kernel
set_option maxRecDepth 100000 in
set_option maxHeartbeats 4000000 in
theorem hknames_any (W : World) : Calls Try.prog 16 #[] W fun e W' => e = .returned (.bool true) ∧ Below W.heap.size W W' := by
  go_enter Try.func16, Try.ntmps16
  go_wp2_with fail
  refine (ledNewF (Sat.nil W)).mono ?_
  rintro e w1 ⟨l, rfl, s1⟩
  go_wp2_with fail
  refine (rowsF 0 13 (by rfl) (by rfl) (by decide) s1).mono ?_
  rintro e w2 ⟨p1, c1, rfl, a1, b1, s2⟩
  clear s1
  go_wp2_with fail
  refine (fillF 11 22 (by rfl) (by rfl) (by decide) s2).mono ?_
  rintro e w3 ⟨p2, c2, rfl, a2, b2, s3⟩
  clear s2
  go_wp2_with fail
  refine (hkExtract false (some l) [] (risen 0 13) (List.replicate 22 11) (risen_len _ _) (by simp) rfl rfl a1 b1 a2 b2 (by decide) (by decide) (by (repeat (first | with_reducible apply Sat.sub (s3) | with_reducible apply Sat.alloc' | with_reducible apply Sat.drew | with_reducible apply Sat.drewN)); (repeat (first | with_reducible exact Fr.done | with_reducible exact Fr.nil | (with_reducible apply Fr.cons; (focus ((repeat (first | with_reducible exact Take.here | with_reducible apply Take.there)); done))) | with_reducible apply Fr.skip)); done)).mono ?_
  rintro e w4 ⟨p3, c3, rfl, -, -, s4⟩
  clear s3 a1 b1 a2 b2
  rw [hkN1] at s4
  have t4 : Sat W w4 (ledO (some l) [(1, 64, 4)] :: []) := (Sat.sub (s4) (by (repeat (first | with_reducible exact Fr.done | with_reducible exact Fr.nil | (with_reducible apply Fr.cons; (focus ((repeat (first | with_reducible exact Take.here | with_reducible apply Take.there)); done))) | with_reducible apply Fr.skip))))
  clear s4
  go_wp2_with fail
  refine (ledCountF (l := l) (rs := [(1, 64, 4)]) 1 (by decide) (by decide) t4).mono ?_
  rintro e w5 ⟨rfl, s5⟩
  clear t4
  rw [show ((cntK 1 [((1 : Int), (64 : Int), 4)] : Nat) : Int) = 4 from rfl]
  go_wp2_with fail
  refine (fillF 11 22 (by rfl) (by rfl) (by decide) s5).mono ?_
  rintro e w6 ⟨p4, c4, rfl, a4, b4, s6⟩
  clear s5
  go_wp2_with fail
  refine (rowsF 0 13 (by rfl) (by rfl) (by decide) s6).mono ?_
  rintro e w7 ⟨p5, c5, rfl, a5, b5, s7⟩
  clear s6
  go_wp2_with fail
  refine (rowsF 240 10 (by rfl) (by rfl) (by decide) s7).mono ?_
  rintro e w8 ⟨p6, c6, rfl, a6, b6, s8⟩
  clear s7
  go_wp2_with fail
  refine (hkKeyF false (some l) [(1, 64, 4)] (List.replicate 22 11) (risen 0 13) (risen 240 10) 42 rfl rfl (by rfl) (by simp) a4 b4 (risen_len _ _) a5 b5 (risen_len _ _) a6 b6 (by decide) (by decide) (by decide) (by (repeat (first | with_reducible apply Sat.sub (s8) | with_reducible apply Sat.alloc' | with_reducible apply Sat.drew | with_reducible apply Sat.drewN)); (repeat (first | with_reducible exact Fr.done | with_reducible exact Fr.nil | (with_reducible apply Fr.cons; (focus ((repeat (first | with_reducible exact Take.here | with_reducible apply Take.there)); done))) | with_reducible apply Fr.skip)); done)).mono ?_
  rintro e w9 ⟨p7, c7, rfl, -, -, s9⟩
  clear s8 a4 b4 a5 b5 a6 b6
  rw [hkN2] at s9
  have t9 : Sat W w9 (ledO (some l) [(1, 64, 14)] :: []) := (Sat.sub (s9) (by (repeat (first | with_reducible exact Fr.done | with_reducible exact Fr.nil | (with_reducible apply Fr.cons; (focus ((repeat (first | with_reducible exact Take.here | with_reducible apply Take.there)); done))) | with_reducible apply Fr.skip))))
  clear s9
  go_wp2_with fail
  refine (ledCountF (l := l) (rs := [(1, 64, 14)]) 1 (by decide) (by decide) t9).mono ?_
  rintro e w10 ⟨rfl, s10⟩
  clear t9
  rw [show ((cntK 1 [((1 : Int), (64 : Int), 14)] : Nat) : Int) = 14 from rfl]
  go_wp2_with fail
  refine (fillF 11 22 (by rfl) (by rfl) (by decide) s10).mono ?_
  rintro e w11 ⟨p8, c8, rfl, a8, b8, s11⟩
  clear s10
  go_wp2_with fail
  refine (rowsF 0 13 (by rfl) (by rfl) (by decide) s11).mono ?_
  rintro e w12 ⟨p9, c9, rfl, a9, b9, s12⟩
  clear s11
  go_wp2_with fail
  refine (rowsF 240 10 (by rfl) (by rfl) (by decide) s12).mono ?_
  rintro e w13 ⟨pa, ca, rfl, aa, ba, s13⟩
  clear s12
  go_wp2_with fail
  refine (hkKeyF false (some l) [(1, 64, 14)] (List.replicate 22 11) (risen 0 13) (risen 240 10) 0 rfl rfl (by rfl) (by simp) a8 b8 (risen_len _ _) a9 b9 (risen_len _ _) aa ba (by decide) (by decide) (by decide) (by (repeat (first | with_reducible apply Sat.sub (s13) | with_reducible apply Sat.alloc' | with_reducible apply Sat.drew | with_reducible apply Sat.drewN)); (repeat (first | with_reducible exact Fr.done | with_reducible exact Fr.nil | (with_reducible apply Fr.cons; (focus ((repeat (first | with_reducible exact Take.here | with_reducible apply Take.there)); done))) | with_reducible apply Fr.skip)); done)).mono ?_
  rintro e w14 ⟨pb, cb, rfl, -, -, s14⟩
  clear s13 a8 b8 a9 b9 aa ba
  rw [hkN3] at s14
  have t14 : Sat W w14 (ledO (some l) [(1, 64, 20)] :: []) := (Sat.sub (s14) (by (repeat (first | with_reducible exact Fr.done | with_reducible exact Fr.nil | (with_reducible apply Fr.cons; (focus ((repeat (first | with_reducible exact Take.here | with_reducible apply Take.there)); done))) | with_reducible apply Fr.skip))))
  clear s14
  go_wp2_with fail
  refine (ledCountF (l := l) (rs := [(1, 64, 20)]) 1 (by decide) (by decide) t14).mono ?_
  rintro e w15 ⟨rfl, s15⟩
  clear t14
  rw [show ((cntK 1 [((1 : Int), (64 : Int), 20)] : Nat) : Int) = 20 from rfl]
  go_wp2_with fail
  refine (hkExpandF false (some l) [(1, 64, 20)] [] [] 8160 rfl rfl (by rfl) rfl (Nat.le_refl 0) (by decide) rfl (Nat.le_refl 0) (by decide) (by decide) (by decide) (by decide) (by (repeat (first | with_reducible apply Sat.sub (bytesNil false none (bytesNil false none s15)) | with_reducible apply Sat.alloc' | with_reducible apply Sat.drew | with_reducible apply Sat.drewN)); (repeat (first | with_reducible exact Fr.done | with_reducible exact Fr.nil | (with_reducible apply Fr.cons; (focus ((repeat (first | with_reducible exact Take.here | with_reducible apply Take.there)); done))) | with_reducible apply Fr.skip)); done)).mono ?_
  rintro e w16 ⟨pc, cc, rfl, -, -, s16⟩
  clear s15
  rw [show expN false ([] : List Byte).length ([] : List Byte).length 8160 = expN false 0 0 8160 from rfl, hkN4] at s16
  have t16 : Sat W w16 (ledO (some l) [(1, 64, 532)] :: []) := (Sat.sub (s16) (by (repeat (first | with_reducible exact Fr.done | with_reducible exact Fr.nil | (with_reducible apply Fr.cons; (focus ((repeat (first | with_reducible exact Take.here | with_reducible apply Take.there)); done))) | with_reducible apply Fr.skip))))
  clear s16
  go_wp2_with fail
  refine (hkExpandBad false 8161 9 (by rfl) (by decide) _ _ _ t16).mono ?_
  rintro e w17 ⟨rfl, s17⟩
  clear t16
  go_wp2_with fail
  refine (hkExpandBad false (-1) 2 (by rfl) (by decide) _ _ _ s17).mono ?_
  rintro e w18 ⟨rfl, s18⟩
  clear s17
  go_wp2_with fail
  refine (hkExtractNone 3 (by decide) (by decide) _ _ _ s18).mono ?_
  rintro e w19 ⟨rfl, s19⟩
  clear s18
  go_wp2_with fail
  refine (hkKeyNone 0 (by decide) (by decide) _ _ _ _ _ s19).mono ?_
  rintro e w20 ⟨rfl, s20⟩
  clear s19
  go_wp2_with fail
  refine (awake15 s20).mono ?_
  rintro e w21 ⟨rfl, s21⟩
  clear s20
  go_wp2_with fail
  refine (ledCountF (l := l) (rs := [(1, 64, 532)]) 1 (by decide) (by decide) s21).mono ?_
  rintro e w22 ⟨rfl, s22⟩
  clear s21
  rw [show ((cntK 1 [((1 : Int), (64 : Int), 532)] : Nat) : Int) = 532 from rfl]
  go_wp2
  go_ret
  exact ⟨rfl, s22.below⟩
end Go.Proofs.Ytmohabidfalhoaa
