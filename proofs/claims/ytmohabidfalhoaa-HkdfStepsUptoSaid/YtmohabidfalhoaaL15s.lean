/- HkdfSteps: Extract, Expand and Key out of layer 12's tags; where the arguments read as bytes, of bulk at most 1048576. -/
import Derived.Test.YtmohabidfalhoaaL15
import Derived.Test.YtmohabidfalhoaaArg
import Derived.Test.YtmohabidfalhoaaRo
import Derived.Test.YtmohabidfalhoaaCut
namespace Go.Proofs.Ytmohabidfalhoaa
open Go.RowKit Go.Sep Go.Bv Go.Sha
set_option linter.unusedVariables false
set_option linter.unusedSimpArgs false
theorem bytesFrom {W0 w : World} {L : List Assn} {m : Bool} {p : Option Addr} {bs : List Byte} (j : Nat) (h : Sat W0 w (bytes m p bs :: L)) : Sat W0 w (bytes m (p.map fun a => ⟨a.block, a.off + j, a.spot⟩) (bs.drop j) :: L) := by
  by_cases h0 : bs = []
  · subst h0
    rw [List.drop_nil]
    exact bytesNil m _ h.tail
  · obtain ⟨b, o, rfl, h1⟩ := bytesCell h h0
    exact bytesDropAny j _ (fun _ => rfl) (bytesOf h1)
/-- Two lists of the same bytes, held against each other: draws alone. -/
theorem sameQ {W0 w : World} {L : List Assn} {ca cb n k : Nat} {m1 m2 : Bool} {pa pb : Option Addr} (xs ys : List Byte) (hx : xs.length = n) (hy : ys.length = k) (hn : n ≤ 1000000000000) (he : xs = ys) (hs : Sat W0 w (bytes m1 pa xs :: bytes m2 pb ys :: L)) :
    Calls Try.prog 28 #[.slice pa n ca, .slice pb k cb] w fun e w' => e = .returned (.bool true) ∧ ∃ j, w' = w.drewN j := by
  subst hx hy
  have h := sameBytes (ca := ca) (cb := cb) xs ys (by unfold maxLen; omega) (by rw [← he]; unfold maxLen; omega) hs
  rwa [sameB_eq he] at h
/-- A byte in a block of its own, behind what one holds. -/
theorem byteNew {W0 w : World} {L : List Assn} {A : Assn} {z : Int} {b : Byte} {T : TypeId} (hz : z = v8 b) (h : Sat W0 w (A :: L)) : Sat W0 (w.alloc (.cells #[.int .u8 z] T)) (A :: bytes true (some ⟨w.heap.size, 0, none⟩) [b] :: L) := by
  subst hz
  exact (bytesOf (bs := [b]) (h.alloc #[.int .u8 (v8 b)] T)).pull 1
set_option maxRecDepth 100000 in
set_option maxHeartbeats 4000000 in
theorem hksteps_any (W : World) (wide : Bool) (a1 a2 a3 : Option Addr × Nat × Nat × List Byte) (i4 i5 : Int) (h1 : IsBytes W a1.1 a1.2.1 a1.2.2.1 a1.2.2.2) (h2 : IsBytes W a2.1 a2.2.1 a2.2.2.1 a2.2.2.2) (h3 : IsBytes W a3.1 a3.2.1 a3.2.2.1 a3.2.2.2) (hb1 : a1.2.2.1 ≤ 1048576) (hb2 : a2.2.2.1 ≤ 1048576) (hb3 : a3.2.2.1 ≤ 1048576) :
    Calls Try.prog 11 #[.bool wide, .slice a1.1 a1.2.1 a1.2.2.1, .slice a2.1 a2.2.1 a2.2.2.1, .slice a3.1 a3.2.1 a3.2.2.1, .int .i64 i4, .int .i64 i5] W fun e W' => e = .returned (.bool true) ∧ Below W.heap.size W W' := by
  obtain ⟨p1, n1, c1, K⟩ := a1
  obtain ⟨p2, n2, c2, S⟩ := a2
  obtain ⟨p3, n3, c3, F⟩ := a3
  simp only at h1 h2 h3 hb1 hb2 hb3 ⊢
  obtain ⟨i3, hi3, hz3, hs3, hb3'⟩ := info_parts Try.info_u8
  have s0 : Sat W W (bytes false p1 K :: bytes false p2 S :: bytes false p3 F :: []) := h1.sat (h2.sat (h3.sat (Sat.nil W)))
  obtain ⟨hK, hK1, hK2, -⟩ := h1
  obtain ⟨hS, hS1, hS2, -⟩ := h2
  obtain ⟨hF, hF1, hF2, -⟩ := h3
  have HA := Lib.hid (And.intro hK (And.intro hS (And.intro hF (And.intro hK2 (And.intro hS2 hF2))))); clear hK hS hF hK2 hS2 hF2
  have hH : hsz wide ≤ 64 := by cases wide <;> decide
  have hH0 : 32 ≤ hsz wide := by cases wide <;> decide
  have hHb : hsz wide ≤ bsz wide := hsz_le wide
  go_enter Try.func11, Try.ntmps11
  go_wp2_with fail
  refine (alg15 _ wide).mono ?_
  rintro e w' ⟨rfl, rfl⟩
  go_wp2_with fail
  refine (pickG (255 * hsz wide + 1) (by simp) (by omega) (by omega)).mono ?_
  rintro e w' ⟨n, hn, rfl, rfl⟩
  go_wp2_with fail
  refine (pickG (n + 1) (by simp) (by omega) (by omega)).mono ?_
  rintro e w' ⟨k, hk, rfl, rfl⟩
  by_cases h0 : n2 = 0
  · subst h0
    have hSe : S = [] := List.eq_nil_of_length_eq_zero HA.out.2.1
    go_wp2_with (refine wpl_make rfl 39 5 (.tmp 49) (.tmp 49) rfl Try.underlying39 hi3 hz3 hs3 hb3' rfl (hsz wide) rfl rfl (by omega) (by omega) s0 ?_; intro w1 g s1' _; rw [u8s_zero] at s1')
    obtain ⟨U, m4, p4, n4, c4, hp4, hU, hUK, hU1, hU2, s1⟩ : ∃ (U : List Byte) (m4 : Bool) (p4 : Option Addr) (n4 c4 : Nat), Value.slice (some ⟨g, 0, none⟩) (hsz wide) (hsz wide) = .slice p4 n4 c4 ∧ U.length = n4 ∧ hmac wide U K = hmac wide S K ∧ n4 ≤ c4 ∧ c4 ≤ 1048576 ∧ Sat W w1 (bytes m4 p4 U :: bytes false p1 K :: bytes false p2 S :: bytes false p3 F :: []) :=
      ⟨_, true, _, _, _, rfl, by simp, by rw [hSe]; exact hmac_noughts wide _ hHb K, Nat.le_refl _, by omega, bytesOf s1'⟩
    rw [hp4]
    clear s1' hp4 s0 hSe
    have HU := Lib.hid (And.intro hU (And.intro hUK hU2)); clear hU hUK hU2
    refine (hkExtract wide none [] S K HA.out.2.1 HA.out.1 rfl rfl hS1 HA.out.2.2.2.2.1 hK1 HA.out.2.2.2.1 (by simp only [tot]; omega) (by decide) (by (repeat (first | with_reducible apply Sat.sub (ledNone s1) | with_reducible apply Sat.alloc' | with_reducible apply Sat.drew | with_reducible apply Sat.drewN)); (repeat (first | with_reducible exact Fr.done | with_reducible exact Fr.nil | (with_reducible apply Fr.cons; (focus ((repeat (first | with_reducible exact Take.here | with_reducible apply Take.there)); done))) | with_reducible apply Fr.skip)); done)).mono ?_
    rintro e w3 ⟨q3, d3, rfl, x3, y3, s3⟩
    clear s1
    obtain ⟨T, hT⟩ : ∃ T, T = hmac wide S K := ⟨_, rfl⟩
    have hTl : T.length = hsz wide := by rw [hT]; exact hmac_len _ _ _
    rw [← hT] at s3
    have HT := Lib.hid (And.intro hT (And.intro hTl y3)); clear hT hTl y3
    go_wp2_with fail
    refine (hmacTagF wide none [] U K HU.out.1 HA.out.1 rfl rfl hU1 (by have := HU.out.2.2; unfold maxLen; omega) hK1 HA.out.2.2.2.1 (by have := HU.out.2.2; simp only [tot]; omega) (by decide) (by (repeat (first | with_reducible apply Sat.sub (ledNone s3) | with_reducible apply Sat.alloc' | with_reducible apply Sat.drew | with_reducible apply Sat.drewN)); (repeat (first | with_reducible exact Fr.done | with_reducible exact Fr.nil | (with_reducible apply Fr.cons; (focus ((repeat (first | with_reducible exact Take.here | with_reducible apply Take.there)); done))) | with_reducible apply Fr.skip)); done)).mono ?_
    rintro e w4 ⟨q4, d4, rfl, -, -, s4⟩
    clear s3
    rw [HU.out.2.1, ← HT.out.1] at s4
    go_wp2_with fail
    refine (awake15 s4).mono ?_
    rintro e w5 ⟨rfl, s5⟩
    clear s4
    go_wp2_with fail
    refine (sameT T T HT.out.2.1 HT.out.2.1 (by omega) rfl (by (repeat (first | with_reducible apply Sat.sub (s5) | with_reducible apply Sat.alloc' | with_reducible apply Sat.drew | with_reducible apply Sat.drewN)); (repeat (first | with_reducible exact Fr.done | with_reducible exact Fr.nil | (with_reducible apply Fr.cons; (focus ((repeat (first | with_reducible exact Take.here | with_reducible apply Take.there)); done))) | with_reducible apply Fr.skip)); done)).mono ?_
    rintro e w6 ⟨rfl, s6⟩
    clear s5
    go_wp2_with fail
    refine (hkExpandF wide none [] T F n rfl rfl (by rfl) HT.out.2.1 x3 HT.out.2.2 HA.out.2.2.1 hF1 HA.out.2.2.2.2.2 (by omega) (by simp only [tot]; omega) (by decide) (by (repeat (first | with_reducible apply Sat.sub (ledNone s6) | with_reducible apply Sat.alloc' | with_reducible apply Sat.drew | with_reducible apply Sat.drewN)); (repeat (first | with_reducible exact Fr.done | with_reducible exact Fr.nil | (with_reducible apply Fr.cons; (focus ((repeat (first | with_reducible exact Take.here | with_reducible apply Take.there)); done))) | with_reducible apply Fr.skip)); done)).mono ?_
    rintro e w7 ⟨q5, d5, rfl, x5, y5, s7⟩
    clear s6
    go_wp2_with fail
    refine (hkKeyF wide none [] K S F n rfl rfl (by rfl) HA.out.1 hK1 HA.out.2.2.2.1 HA.out.2.1 hS1 HA.out.2.2.2.2.1 HA.out.2.2.1 hF1 HA.out.2.2.2.2.2 (by omega) (by simp only [tot]; omega) (by decide) (by (repeat (first | with_reducible apply Sat.sub (ledNone s7) | with_reducible apply Sat.alloc' | with_reducible apply Sat.drew | with_reducible apply Sat.drewN)); (repeat (first | with_reducible exact Fr.done | with_reducible exact Fr.nil | (with_reducible apply Fr.cons; (focus ((repeat (first | with_reducible exact Take.here | with_reducible apply Take.there)); done))) | with_reducible apply Fr.skip)); done)).mono ?_
    rintro e w8 ⟨q6, d6, rfl, -, -, s8⟩
    clear s7
    rw [← HT.out.1] at s8
    go_wp2_with fail
    refine (hkExpandF wide none [] T F k rfl rfl (by rfl) HT.out.2.1 x3 HT.out.2.2 HA.out.2.2.1 hF1 HA.out.2.2.2.2.2 (by omega) (by simp only [tot]; omega) (by decide) (by (repeat (first | with_reducible apply Sat.sub (ledNone s8) | with_reducible apply Sat.alloc' | with_reducible apply Sat.drew | with_reducible apply Sat.drewN)); (repeat (first | with_reducible exact Fr.done | with_reducible exact Fr.nil | (with_reducible apply Fr.cons; (focus ((repeat (first | with_reducible exact Take.here | with_reducible apply Take.there)); done))) | with_reducible apply Fr.skip)); done)).mono ?_
    rintro e w9 ⟨q7, d7, rfl, -, -, s9⟩
    clear s8
    obtain ⟨E, hE⟩ : ∃ E, E = hkdf wide T F n := ⟨_, rfl⟩
    have hEl : E.length = n := by rw [hE]; exact hkdf_len _ _ _ _
    have hEk : E.take k = hkdf wide T F k := by rw [hE]; exact hkdf_take wide T F (by omega)
    rw [← hE, ← hEk] at s9
    have HE := Lib.hid (And.intro hE (And.intro hEl y5)); clear hE hEl hEk y5
    go_wp2_with fail
    refine (sameT E E HE.out.2.1 HE.out.2.1 (by omega) rfl (by (repeat (first | with_reducible apply Sat.sub (s9) | with_reducible apply Sat.alloc' | with_reducible apply Sat.drew | with_reducible apply Sat.drewN)); (repeat (first | with_reducible exact Fr.done | with_reducible exact Fr.nil | (with_reducible apply Fr.cons; (focus ((repeat (first | with_reducible exact Take.here | with_reducible apply Take.there)); done))) | with_reducible apply Fr.skip)); done)).mono ?_
    rintro e w10 ⟨rfl, s10⟩
    clear s9
    have s11 : Sat W w10 (bytes false q5 E :: bytes false q5 E :: bytes true q7 (E.take k) :: bytes true q3 T :: bytes false p1 K :: bytes false p2 S :: bytes false p3 F :: []) := bytesDup (bytesRo ((Sat.sub (s10) (by (repeat (first | with_reducible exact Fr.done | with_reducible exact Fr.nil | (with_reducible apply Fr.cons; (focus ((repeat (first | with_reducible exact Take.here | with_reducible apply Take.there)); done))) | with_reducible apply Fr.skip)))) : Sat W w10 (bytes true q5 E :: bytes true q7 (E.take k) :: bytes true q3 T :: bytes false p1 K :: bytes false p2 S :: bytes false p3 F :: [])))
    clear s10
    have s12 := bytesTake k s11
    clear s11
    have hkc : k ≤ d5 := by omega
    go_wp2_with fail
    refine (sameT (E.take k) (E.take k) (by rw [List.length_take, HE.out.2.1]; omega) (by rw [List.length_take, HE.out.2.1]; omega) (by omega) rfl (by (repeat (first | with_reducible apply Sat.sub (s12) | with_reducible apply Sat.alloc' | with_reducible apply Sat.drew | with_reducible apply Sat.drewN)); (repeat (first | with_reducible exact Fr.done | with_reducible exact Fr.nil | (with_reducible apply Fr.cons; (focus ((repeat (first | with_reducible exact Take.here | with_reducible apply Take.there)); done))) | with_reducible apply Fr.skip)); done)).mono ?_
    rintro e w11 ⟨rfl, s13'⟩
    have s13 : Sat W w11 (bytes false q5 E :: bytes true q3 T :: bytes false p3 F :: []) := (Sat.sub (s13') (by (repeat (first | with_reducible exact Fr.done | with_reducible exact Fr.nil | (with_reducible apply Fr.cons; (focus ((repeat (first | with_reducible exact Take.here | with_reducible apply Take.there)); done))) | with_reducible apply Fr.skip))))
    clear s13' s12
    have hH : 32 ≤ hsz wide := hH0
    go_wp2
    cases wide
    · skip
      rw [show ((hsz false : Nat) : Int) = 32 from rfl]
      simp only [hsz] at hn hH x3 x5 ⊢
      simp only [Int.reduceMul, Int.reduceAdd]
      go_loopw [24, 25] (fun t24 t25 wr => ∃ (i : Nat) (pl : Option Addr) (nl cl : Nat), i * 32 < n + 32 ∧ t25 = .int .i64 ((i : Int) + 1) ∧ t24 = .slice pl nl cl ∧ (hkT false T F i).length = nl ∧ nl ≤ cl ∧ cl ≤ maxLen ∧ Sat W wr (bytes false pl (hkT false T F i) :: bytes false q5 E :: bytes true q3 T :: bytes false p3 F :: [])) (fun _ t25 _ => n + 2 - (intOf t25).toNat)
      case atStart => exact ⟨0, none, 0, 0, by omega, rfl, rfl, rfl, Nat.le_refl _, Nat.zero_le _, bytesNil false none s13⟩
      case round =>
        clear s13
        obtain ⟨i, pl, nl, cl, hi, rfl, rfl, hnl, hcl, hcm, s⟩ := hrel
        by_cases hlt : i * 32 < n
        · have hi2 : i < 255 := by omega
          have hn64 : nl ≤ 32 := by rw [← hnl, hkT_len]; split <;> simp [hsz]
          have HL := Lib.hid (And.intro hnl hcm); clear hnl hcm
          go_wp2_with (first | (at_builtin; refine wpl_app8 (xs := []) rfl (.tmp 144) (.tmp 145) rfl rfl rfl (s.rowNil 1) HL.out.1 (by omega) ?_; intro pa ca wa sa; rw [Nat.zero_add, List.nil_append] at sa) | (at_builtin; refine wpl_app8 rfl (.tmp 147) (.tmp 148) rfl rfl rfl (show Sat W wa (row pa ca 1 nl (u8s (hkT false T F i)) :: bytes false p3 F :: bytes false pl (hkT false T F i) :: bytes false q5 E :: bytes true q3 T :: []) from sa.pick [0, 4]) HA.out.2.2.1 (by omega) ?_; intro pb cb wb sb) | (at_builtin; refine wpl_app8 rfl (.tmp 150) (.tmp 153) rfl rfl rfl (byteNew (b := BitVec.ofNat 8 (i + 1)) (by unfold v8; rw [BitVec.toNat_ofNat, Nat.mod_eq_of_lt (by omega)]; simp) sb) rfl (by omega) ?_; intro pc cc wc sc))
          obtain ⟨hM, hM1, hM2, sd⟩ := rowBytes sc
          refine (hmacTagF false none [] T _ HT.out.2.1 hM rfl rfl x3 HT.out.2.2 hM1 hM2 (by simp only [tot]; omega) (by decide) (by (repeat (first | with_reducible apply Sat.sub (ledNone sd) | with_reducible apply Sat.alloc' | with_reducible apply Sat.drew | with_reducible apply Sat.drewN)); (repeat (first | with_reducible exact Fr.done | with_reducible exact Fr.nil | (with_reducible apply Fr.cons; (focus ((repeat (first | with_reducible exact Take.here | with_reducible apply Take.there)); done))) | with_reducible apply Fr.skip)); done)).mono ?_
          rintro e we ⟨qe, ce, rfl, ye1, ye2, se⟩
          clear sa sb sc sd s
          rw [show hmac false T (hkT false T F i ++ F ++ [BitVec.ofNat 8 (i + 1)]) = hkT false T F (i + 1) from rfl] at se
          have sf : Sat W we (bytes true qe (hkT false T F (i + 1)) :: bytes false q5 E :: bytes true q3 T :: bytes false p3 F :: []) := (Sat.sub (se) (by (repeat (first | with_reducible exact Fr.done | with_reducible exact Fr.nil | (with_reducible apply Fr.cons; (focus ((repeat (first | with_reducible exact Take.here | with_reducible apply Take.there)); done))) | with_reducible apply Fr.skip))))
          clear se
          simp only [hsz] at ye1 ⊢
          have HM := Lib.hid (And.intro hM (And.intro hM2 ye2)); clear hM hM1 hM2 ye2
          have hE0 : E ≠ [] := by intro h; have := HE.out.2.1; rw [h] at this; simp at this; omega
          obtain ⟨b5, o5, rfl, sg⟩ := bytesCell ((Sat.sub (sf) (by (repeat (first | with_reducible exact Fr.done | with_reducible exact Fr.nil | (with_reducible apply Fr.cons; (focus ((repeat (first | with_reducible exact Take.here | with_reducible apply Take.there)); done))) | with_reducible apply Fr.skip)))) : Sat W we (bytes false q5 E :: bytes true qe (hkT false T F (i + 1)) :: bytes true q3 T :: bytes false p3 F :: [])) hE0
          clear sf hE0
          obtain ⟨D, hD1, hD2, hD3, hD4⟩ : ∃ D, i * 32 + D ≤ n ∧ D ≤ 32 ∧ ((i + 1) * 32 ≤ n → D = 32) ∧ (n < (i + 1) * 32 → i * 32 + D = n) := by
            by_cases h : (i + 1) * 32 ≤ n
            · exact ⟨32, by omega, by omega, fun _ => rfl, by omega⟩
            · exact ⟨n - i * 32, by omega, by omega, by omega, by omega⟩
          obtain ⟨J, hJ⟩ : ∃ J, J = i * 32 := ⟨_, rfl⟩
          have hp := hkdf_part false T F i n D hD1 hD2
          simp only [hsz] at hp
          rw [← HE.out.1, ← hJ] at hp
          have HD := Lib.hid (And.intro (show ((hkT false T F (i + 1)).take D).length = D by rw [List.length_take, hkT_len, if_neg (by omega)]; simp only [hsz]; omega) (And.intro (show ((E.drop J).take D).length = D by rw [List.length_take, List.length_drop, HE.out.2.1]; omega) hp)); clear hp
          have sx : Sat W we (bytes false qe ((hkT false T F (i + 1)).take D) :: bytes false qe (hkT false T F (i + 1)) :: bytes false (some ⟨b5, o5 + J, none⟩) ((E.drop J).take D) :: bytes false (some ⟨b5, o5, none⟩) E :: bytes true q3 T :: bytes false p3 F :: []) :=
            bytesTake D (bytesDup (bytesRo (Sat.pull (L := bytes false (some ⟨b5, o5 + J, none⟩) ((E.drop J).take D) :: bytes false (some ⟨b5, o5, none⟩) E :: bytes true qe (hkT false T F (i + 1)) :: bytes true q3 T :: bytes false p3 F :: []) (bytesTake D (bytesDropAny J (some ⟨b5, o5 + J, none⟩) (fun _ => rfl) (bytesDup (bytesOf sg)))) 2)))
          clear sg
          have k1 : ce ≤ 9223372036854775807 := HM.out.2.2
          have k2 : d5 ≤ 9223372036854775807 := HE.out.2.2
          have k3 : (D : Int) ≤ (ce : Int) := by omega
          have k4 : (0 : Int) ≤ (D : Int) := by omega
          have k5 : (n : Int) ≤ (d5 : Int) := by omega
          obtain ⟨J2, hJ2⟩ : ∃ J2, J2 = (i + 1) * 32 := ⟨_, rfl⟩
          have e1 : (i : Int) * 32 = (J : Int) := by omega
          have e2 : ((i : Int) + 1) * 32 = (J2 : Int) := by omega
          have hJd : ¬ d5 = J := by omega
          have k6 : (J : Int) ≤ (n : Int) := by omega
          by_cases hto : (i + 1) * 32 ≤ n
          · obtain rfl : D = 32 := hD3 hto
            have g1 : (J2 : Int) ≤ (n : Int) := by omega
            have g2 : (J2 : Int) ≤ (d5 : Int) := by omega
            have g3 : (J : Int) ≤ (J2 : Int) := by omega
            have g4 : IntKind.i64.wrap ((J2 : Int) - (J : Int)) = 32 := by rw [IntKind.wrap_i64]; omega
            have g5 : J2 - J = 32 := by omega
            have g6 : (32 : Int) ≤ (ce : Int) := by omega
            have hJJ := Lib.hid (And.intro hJ hJ2); clear hJ hJ2 hto hD3 hD4
            go_wp2_with fail
            go_quiet ((go_at_call 28; exact Calls.quiet_of (sameQ ((hkT false T F (i + 1)).take 32) ((E.drop J).take 32) HD.out.1 HD.out.2.1 (by omega) HD.out.2.2.symm (L := bytes false qe (hkT false T F (i + 1)) :: bytes false (some ⟨b5, o5, none⟩) E :: bytes true q3 T :: bytes false p3 F :: []) ((sx.pick [0, 2]).drewN _))))
            go_wp2
            go_roundw
            case rel => exact ⟨i + 1, qe, 32, ce, by omega, by go_num, rfl, by rw [hkT_len, if_neg (by omega)]; rfl, ye1, k1, (by (repeat (first | with_reducible apply Sat.sub (sx) | with_reducible apply Sat.alloc' | with_reducible apply Sat.drew | with_reducible apply Sat.drewN)); (repeat (first | with_reducible exact Fr.done | with_reducible exact Fr.nil | (with_reducible apply Fr.cons; (focus ((repeat (first | with_reducible exact Take.here | with_reducible apply Take.there)); done))) | with_reducible apply Fr.skip)); done)⟩
            case measure => simp [intOf]; omega
          · have g1 : ¬ (J2 : Int) ≤ (n : Int) := by omega
            have g4 : IntKind.i64.wrap ((n : Int) - (J : Int)) = (D : Int) := by rw [IntKind.wrap_i64]; omega
            have g5 : n - J = D := by omega
            have hJJ := Lib.hid (And.intro hJ hJ2); clear hJ hJ2 hto hD3 hD4
            go_wp2_with fail
            go_quiet ((go_at_call 28; exact Calls.quiet_of (sameQ ((hkT false T F (i + 1)).take D) ((E.drop J).take D) HD.out.1 HD.out.2.1 (by omega) HD.out.2.2.symm (L := bytes false qe (hkT false T F (i + 1)) :: bytes false (some ⟨b5, o5, none⟩) E :: bytes true q3 T :: bytes false p3 F :: []) ((sx.pick [0, 2]).drewN _))))
            go_wp2
            go_roundw
            case rel => exact ⟨i + 1, qe, 32, ce, by omega, by go_num, rfl, by rw [hkT_len, if_neg (by omega)]; rfl, ye1, k1, (by (repeat (first | with_reducible apply Sat.sub (sx) | with_reducible apply Sat.alloc' | with_reducible apply Sat.drew | with_reducible apply Sat.drewN)); (repeat (first | with_reducible exact Fr.done | with_reducible exact Fr.nil | (with_reducible apply Fr.cons; (focus ((repeat (first | with_reducible exact Take.here | with_reducible apply Take.there)); done))) | with_reducible apply Fr.skip)); done)⟩
            case measure => simp [intOf]; omega
        · clear hnl
          go_wp2
          go_ret
          exact ⟨rfl, s.below⟩
    · skip
      rw [show ((hsz true : Nat) : Int) = 64 from rfl]
      simp only [hsz] at hn hH x3 x5 ⊢
      simp only [Int.reduceMul, Int.reduceAdd]
      go_loopw [24, 25] (fun t24 t25 wr => ∃ (i : Nat) (pl : Option Addr) (nl cl : Nat), i * 64 < n + 64 ∧ t25 = .int .i64 ((i : Int) + 1) ∧ t24 = .slice pl nl cl ∧ (hkT true T F i).length = nl ∧ nl ≤ cl ∧ cl ≤ maxLen ∧ Sat W wr (bytes false pl (hkT true T F i) :: bytes false q5 E :: bytes true q3 T :: bytes false p3 F :: [])) (fun _ t25 _ => n + 2 - (intOf t25).toNat)
      case atStart => exact ⟨0, none, 0, 0, by omega, rfl, rfl, rfl, Nat.le_refl _, Nat.zero_le _, bytesNil false none s13⟩
      case round =>
        clear s13
        obtain ⟨i, pl, nl, cl, hi, rfl, rfl, hnl, hcl, hcm, s⟩ := hrel
        by_cases hlt : i * 64 < n
        · have hi2 : i < 255 := by omega
          have hn64 : nl ≤ 64 := by rw [← hnl, hkT_len]; split <;> simp [hsz]
          have HL := Lib.hid (And.intro hnl hcm); clear hnl hcm
          go_wp2_with (first | (at_builtin; refine wpl_app8 (xs := []) rfl (.tmp 144) (.tmp 145) rfl rfl rfl (s.rowNil 1) HL.out.1 (by omega) ?_; intro pa ca wa sa; rw [Nat.zero_add, List.nil_append] at sa) | (at_builtin; refine wpl_app8 rfl (.tmp 147) (.tmp 148) rfl rfl rfl (show Sat W wa (row pa ca 1 nl (u8s (hkT true T F i)) :: bytes false p3 F :: bytes false pl (hkT true T F i) :: bytes false q5 E :: bytes true q3 T :: []) from sa.pick [0, 4]) HA.out.2.2.1 (by omega) ?_; intro pb cb wb sb) | (at_builtin; refine wpl_app8 rfl (.tmp 150) (.tmp 153) rfl rfl rfl (byteNew (b := BitVec.ofNat 8 (i + 1)) (by unfold v8; rw [BitVec.toNat_ofNat, Nat.mod_eq_of_lt (by omega)]; simp) sb) rfl (by omega) ?_; intro pc cc wc sc))
          obtain ⟨hM, hM1, hM2, sd⟩ := rowBytes sc
          refine (hmacTagF true none [] T _ HT.out.2.1 hM rfl rfl x3 HT.out.2.2 hM1 hM2 (by simp only [tot]; omega) (by decide) (by (repeat (first | with_reducible apply Sat.sub (ledNone sd) | with_reducible apply Sat.alloc' | with_reducible apply Sat.drew | with_reducible apply Sat.drewN)); (repeat (first | with_reducible exact Fr.done | with_reducible exact Fr.nil | (with_reducible apply Fr.cons; (focus ((repeat (first | with_reducible exact Take.here | with_reducible apply Take.there)); done))) | with_reducible apply Fr.skip)); done)).mono ?_
          rintro e we ⟨qe, ce, rfl, ye1, ye2, se⟩
          clear sa sb sc sd s
          rw [show hmac true T (hkT true T F i ++ F ++ [BitVec.ofNat 8 (i + 1)]) = hkT true T F (i + 1) from rfl] at se
          have sf : Sat W we (bytes true qe (hkT true T F (i + 1)) :: bytes false q5 E :: bytes true q3 T :: bytes false p3 F :: []) := (Sat.sub (se) (by (repeat (first | with_reducible exact Fr.done | with_reducible exact Fr.nil | (with_reducible apply Fr.cons; (focus ((repeat (first | with_reducible exact Take.here | with_reducible apply Take.there)); done))) | with_reducible apply Fr.skip))))
          clear se
          simp only [hsz] at ye1 ⊢
          have HM := Lib.hid (And.intro hM (And.intro hM2 ye2)); clear hM hM1 hM2 ye2
          have hE0 : E ≠ [] := by intro h; have := HE.out.2.1; rw [h] at this; simp at this; omega
          obtain ⟨b5, o5, rfl, sg⟩ := bytesCell ((Sat.sub (sf) (by (repeat (first | with_reducible exact Fr.done | with_reducible exact Fr.nil | (with_reducible apply Fr.cons; (focus ((repeat (first | with_reducible exact Take.here | with_reducible apply Take.there)); done))) | with_reducible apply Fr.skip)))) : Sat W we (bytes false q5 E :: bytes true qe (hkT true T F (i + 1)) :: bytes true q3 T :: bytes false p3 F :: [])) hE0
          clear sf hE0
          obtain ⟨D, hD1, hD2, hD3, hD4⟩ : ∃ D, i * 64 + D ≤ n ∧ D ≤ 64 ∧ ((i + 1) * 64 ≤ n → D = 64) ∧ (n < (i + 1) * 64 → i * 64 + D = n) := by
            by_cases h : (i + 1) * 64 ≤ n
            · exact ⟨64, by omega, by omega, fun _ => rfl, by omega⟩
            · exact ⟨n - i * 64, by omega, by omega, by omega, by omega⟩
          obtain ⟨J, hJ⟩ : ∃ J, J = i * 64 := ⟨_, rfl⟩
          have hp := hkdf_part true T F i n D hD1 hD2
          simp only [hsz] at hp
          rw [← HE.out.1, ← hJ] at hp
          have HD := Lib.hid (And.intro (show ((hkT true T F (i + 1)).take D).length = D by rw [List.length_take, hkT_len, if_neg (by omega)]; simp only [hsz]; omega) (And.intro (show ((E.drop J).take D).length = D by rw [List.length_take, List.length_drop, HE.out.2.1]; omega) hp)); clear hp
          have sx : Sat W we (bytes false qe ((hkT true T F (i + 1)).take D) :: bytes false qe (hkT true T F (i + 1)) :: bytes false (some ⟨b5, o5 + J, none⟩) ((E.drop J).take D) :: bytes false (some ⟨b5, o5, none⟩) E :: bytes true q3 T :: bytes false p3 F :: []) :=
            bytesTake D (bytesDup (bytesRo (Sat.pull (L := bytes false (some ⟨b5, o5 + J, none⟩) ((E.drop J).take D) :: bytes false (some ⟨b5, o5, none⟩) E :: bytes true qe (hkT true T F (i + 1)) :: bytes true q3 T :: bytes false p3 F :: []) (bytesTake D (bytesDropAny J (some ⟨b5, o5 + J, none⟩) (fun _ => rfl) (bytesDup (bytesOf sg)))) 2)))
          clear sg
          have k1 : ce ≤ 9223372036854775807 := HM.out.2.2
          have k2 : d5 ≤ 9223372036854775807 := HE.out.2.2
          have k3 : (D : Int) ≤ (ce : Int) := by omega
          have k4 : (0 : Int) ≤ (D : Int) := by omega
          have k5 : (n : Int) ≤ (d5 : Int) := by omega
          obtain ⟨J2, hJ2⟩ : ∃ J2, J2 = (i + 1) * 64 := ⟨_, rfl⟩
          have e1 : (i : Int) * 64 = (J : Int) := by omega
          have e2 : ((i : Int) + 1) * 64 = (J2 : Int) := by omega
          have hJd : ¬ d5 = J := by omega
          have k6 : (J : Int) ≤ (n : Int) := by omega
          by_cases hto : (i + 1) * 64 ≤ n
          · obtain rfl : D = 64 := hD3 hto
            have g1 : (J2 : Int) ≤ (n : Int) := by omega
            have g2 : (J2 : Int) ≤ (d5 : Int) := by omega
            have g3 : (J : Int) ≤ (J2 : Int) := by omega
            have g4 : IntKind.i64.wrap ((J2 : Int) - (J : Int)) = 64 := by rw [IntKind.wrap_i64]; omega
            have g5 : J2 - J = 64 := by omega
            have g6 : (64 : Int) ≤ (ce : Int) := by omega
            have hJJ := Lib.hid (And.intro hJ hJ2); clear hJ hJ2 hto hD3 hD4
            go_wp2_with fail
            go_quiet ((go_at_call 28; exact Calls.quiet_of (sameQ ((hkT true T F (i + 1)).take 64) ((E.drop J).take 64) HD.out.1 HD.out.2.1 (by omega) HD.out.2.2.symm (L := bytes false qe (hkT true T F (i + 1)) :: bytes false (some ⟨b5, o5, none⟩) E :: bytes true q3 T :: bytes false p3 F :: []) ((sx.pick [0, 2]).drewN _))))
            go_wp2
            go_roundw
            case rel => exact ⟨i + 1, qe, 64, ce, by omega, by go_num, rfl, by rw [hkT_len, if_neg (by omega)]; rfl, ye1, k1, (by (repeat (first | with_reducible apply Sat.sub (sx) | with_reducible apply Sat.alloc' | with_reducible apply Sat.drew | with_reducible apply Sat.drewN)); (repeat (first | with_reducible exact Fr.done | with_reducible exact Fr.nil | (with_reducible apply Fr.cons; (focus ((repeat (first | with_reducible exact Take.here | with_reducible apply Take.there)); done))) | with_reducible apply Fr.skip)); done)⟩
            case measure => simp [intOf]; omega
          · have g1 : ¬ (J2 : Int) ≤ (n : Int) := by omega
            have g4 : IntKind.i64.wrap ((n : Int) - (J : Int)) = (D : Int) := by rw [IntKind.wrap_i64]; omega
            have g5 : n - J = D := by omega
            have hJJ := Lib.hid (And.intro hJ hJ2); clear hJ hJ2 hto hD3 hD4
            go_wp2_with fail
            go_quiet ((go_at_call 28; exact Calls.quiet_of (sameQ ((hkT true T F (i + 1)).take D) ((E.drop J).take D) HD.out.1 HD.out.2.1 (by omega) HD.out.2.2.symm (L := bytes false qe (hkT true T F (i + 1)) :: bytes false (some ⟨b5, o5, none⟩) E :: bytes true q3 T :: bytes false p3 F :: []) ((sx.pick [0, 2]).drewN _))))
            go_wp2
            go_roundw
            case rel => exact ⟨i + 1, qe, 64, ce, by omega, by go_num, rfl, by rw [hkT_len, if_neg (by omega)]; rfl, ye1, k1, (by (repeat (first | with_reducible apply Sat.sub (sx) | with_reducible apply Sat.alloc' | with_reducible apply Sat.drew | with_reducible apply Sat.drewN)); (repeat (first | with_reducible exact Fr.done | with_reducible exact Fr.nil | (with_reducible apply Fr.cons; (focus ((repeat (first | with_reducible exact Take.here | with_reducible apply Take.there)); done))) | with_reducible apply Fr.skip)); done)⟩
            case measure => simp [intOf]; omega
        · clear hnl
          go_wp2
          go_ret
          exact ⟨rfl, s.below⟩
  · have hne : ((n2 : Nat) : Int) ≠ 0 := by omega
    have hne2 : ¬ ((n2 : Nat) : Int) = 0 := hne
    have sd : Sat W W (bytes false p2 S :: bytes false p2 S :: bytes false p1 K :: bytes false p3 F :: []) := bytesDup (s0.pull 1)
    obtain ⟨U, hUe⟩ : ∃ U, U = S := ⟨_, rfl⟩
    have hU : U.length = n2 := by rw [hUe]; exact HA.out.2.1
    have hUK : hmac wide U K = hmac wide S K := by rw [hUe]
    have hU1 : n2 ≤ c2 := hS1
    have hU2 : c2 ≤ 1048576 := hb2
    have s1 : Sat W W (bytes false p2 U :: bytes false p1 K :: bytes false p2 S :: bytes false p3 F :: []) := by rw [hUe]; exact sd.pick [0, 2]
    clear hUe
    go_wp2_with fail
    clear s0 sd hne hne2
    have HU := Lib.hid (And.intro hU (And.intro hUK hU2)); clear hU hUK hU2
    refine (hkExtract wide none [] S K HA.out.2.1 HA.out.1 rfl rfl hS1 HA.out.2.2.2.2.1 hK1 HA.out.2.2.2.1 (by simp only [tot]; omega) (by decide) (by (repeat (first | with_reducible apply Sat.sub (ledNone s1) | with_reducible apply Sat.alloc' | with_reducible apply Sat.drew | with_reducible apply Sat.drewN)); (repeat (first | with_reducible exact Fr.done | with_reducible exact Fr.nil | (with_reducible apply Fr.cons; (focus ((repeat (first | with_reducible exact Take.here | with_reducible apply Take.there)); done))) | with_reducible apply Fr.skip)); done)).mono ?_
    rintro e w3 ⟨q3, d3, rfl, x3, y3, s3⟩
    clear s1
    obtain ⟨T, hT⟩ : ∃ T, T = hmac wide S K := ⟨_, rfl⟩
    have hTl : T.length = hsz wide := by rw [hT]; exact hmac_len _ _ _
    rw [← hT] at s3
    have HT := Lib.hid (And.intro hT (And.intro hTl y3)); clear hT hTl y3
    go_wp2_with fail
    refine (hmacTagF wide none [] U K HU.out.1 HA.out.1 rfl rfl hU1 (by have := HU.out.2.2; unfold maxLen; omega) hK1 HA.out.2.2.2.1 (by have := HU.out.2.2; simp only [tot]; omega) (by decide) (by (repeat (first | with_reducible apply Sat.sub (ledNone s3) | with_reducible apply Sat.alloc' | with_reducible apply Sat.drew | with_reducible apply Sat.drewN)); (repeat (first | with_reducible exact Fr.done | with_reducible exact Fr.nil | (with_reducible apply Fr.cons; (focus ((repeat (first | with_reducible exact Take.here | with_reducible apply Take.there)); done))) | with_reducible apply Fr.skip)); done)).mono ?_
    rintro e w4 ⟨q4, d4, rfl, -, -, s4⟩
    clear s3
    rw [HU.out.2.1, ← HT.out.1] at s4
    go_wp2_with fail
    refine (awake15 s4).mono ?_
    rintro e w5 ⟨rfl, s5⟩
    clear s4
    go_wp2_with fail
    refine (sameT T T HT.out.2.1 HT.out.2.1 (by omega) rfl (by (repeat (first | with_reducible apply Sat.sub (s5) | with_reducible apply Sat.alloc' | with_reducible apply Sat.drew | with_reducible apply Sat.drewN)); (repeat (first | with_reducible exact Fr.done | with_reducible exact Fr.nil | (with_reducible apply Fr.cons; (focus ((repeat (first | with_reducible exact Take.here | with_reducible apply Take.there)); done))) | with_reducible apply Fr.skip)); done)).mono ?_
    rintro e w6 ⟨rfl, s6⟩
    clear s5
    go_wp2_with fail
    refine (hkExpandF wide none [] T F n rfl rfl (by rfl) HT.out.2.1 x3 HT.out.2.2 HA.out.2.2.1 hF1 HA.out.2.2.2.2.2 (by omega) (by simp only [tot]; omega) (by decide) (by (repeat (first | with_reducible apply Sat.sub (ledNone s6) | with_reducible apply Sat.alloc' | with_reducible apply Sat.drew | with_reducible apply Sat.drewN)); (repeat (first | with_reducible exact Fr.done | with_reducible exact Fr.nil | (with_reducible apply Fr.cons; (focus ((repeat (first | with_reducible exact Take.here | with_reducible apply Take.there)); done))) | with_reducible apply Fr.skip)); done)).mono ?_
    rintro e w7 ⟨q5, d5, rfl, x5, y5, s7⟩
    clear s6
    go_wp2_with fail
    refine (hkKeyF wide none [] K S F n rfl rfl (by rfl) HA.out.1 hK1 HA.out.2.2.2.1 HA.out.2.1 hS1 HA.out.2.2.2.2.1 HA.out.2.2.1 hF1 HA.out.2.2.2.2.2 (by omega) (by simp only [tot]; omega) (by decide) (by (repeat (first | with_reducible apply Sat.sub (ledNone s7) | with_reducible apply Sat.alloc' | with_reducible apply Sat.drew | with_reducible apply Sat.drewN)); (repeat (first | with_reducible exact Fr.done | with_reducible exact Fr.nil | (with_reducible apply Fr.cons; (focus ((repeat (first | with_reducible exact Take.here | with_reducible apply Take.there)); done))) | with_reducible apply Fr.skip)); done)).mono ?_
    rintro e w8 ⟨q6, d6, rfl, -, -, s8⟩
    clear s7
    rw [← HT.out.1] at s8
    go_wp2_with fail
    refine (hkExpandF wide none [] T F k rfl rfl (by rfl) HT.out.2.1 x3 HT.out.2.2 HA.out.2.2.1 hF1 HA.out.2.2.2.2.2 (by omega) (by simp only [tot]; omega) (by decide) (by (repeat (first | with_reducible apply Sat.sub (ledNone s8) | with_reducible apply Sat.alloc' | with_reducible apply Sat.drew | with_reducible apply Sat.drewN)); (repeat (first | with_reducible exact Fr.done | with_reducible exact Fr.nil | (with_reducible apply Fr.cons; (focus ((repeat (first | with_reducible exact Take.here | with_reducible apply Take.there)); done))) | with_reducible apply Fr.skip)); done)).mono ?_
    rintro e w9 ⟨q7, d7, rfl, -, -, s9⟩
    clear s8
    obtain ⟨E, hE⟩ : ∃ E, E = hkdf wide T F n := ⟨_, rfl⟩
    have hEl : E.length = n := by rw [hE]; exact hkdf_len _ _ _ _
    have hEk : E.take k = hkdf wide T F k := by rw [hE]; exact hkdf_take wide T F (by omega)
    rw [← hE, ← hEk] at s9
    have HE := Lib.hid (And.intro hE (And.intro hEl y5)); clear hE hEl hEk y5
    go_wp2_with fail
    refine (sameT E E HE.out.2.1 HE.out.2.1 (by omega) rfl (by (repeat (first | with_reducible apply Sat.sub (s9) | with_reducible apply Sat.alloc' | with_reducible apply Sat.drew | with_reducible apply Sat.drewN)); (repeat (first | with_reducible exact Fr.done | with_reducible exact Fr.nil | (with_reducible apply Fr.cons; (focus ((repeat (first | with_reducible exact Take.here | with_reducible apply Take.there)); done))) | with_reducible apply Fr.skip)); done)).mono ?_
    rintro e w10 ⟨rfl, s10⟩
    clear s9
    have s11 : Sat W w10 (bytes false q5 E :: bytes false q5 E :: bytes true q7 (E.take k) :: bytes true q3 T :: bytes false p1 K :: bytes false p2 S :: bytes false p3 F :: []) := bytesDup (bytesRo ((Sat.sub (s10) (by (repeat (first | with_reducible exact Fr.done | with_reducible exact Fr.nil | (with_reducible apply Fr.cons; (focus ((repeat (first | with_reducible exact Take.here | with_reducible apply Take.there)); done))) | with_reducible apply Fr.skip)))) : Sat W w10 (bytes true q5 E :: bytes true q7 (E.take k) :: bytes true q3 T :: bytes false p1 K :: bytes false p2 S :: bytes false p3 F :: [])))
    clear s10
    have s12 := bytesTake k s11
    clear s11
    have hkc : k ≤ d5 := by omega
    go_wp2_with fail
    refine (sameT (E.take k) (E.take k) (by rw [List.length_take, HE.out.2.1]; omega) (by rw [List.length_take, HE.out.2.1]; omega) (by omega) rfl (by (repeat (first | with_reducible apply Sat.sub (s12) | with_reducible apply Sat.alloc' | with_reducible apply Sat.drew | with_reducible apply Sat.drewN)); (repeat (first | with_reducible exact Fr.done | with_reducible exact Fr.nil | (with_reducible apply Fr.cons; (focus ((repeat (first | with_reducible exact Take.here | with_reducible apply Take.there)); done))) | with_reducible apply Fr.skip)); done)).mono ?_
    rintro e w11 ⟨rfl, s13'⟩
    have s13 : Sat W w11 (bytes false q5 E :: bytes true q3 T :: bytes false p3 F :: []) := (Sat.sub (s13') (by (repeat (first | with_reducible exact Fr.done | with_reducible exact Fr.nil | (with_reducible apply Fr.cons; (focus ((repeat (first | with_reducible exact Take.here | with_reducible apply Take.there)); done))) | with_reducible apply Fr.skip))))
    clear s13' s12
    have hH : 32 ≤ hsz wide := hH0
    go_wp2
    cases wide
    · skip
      rw [show ((hsz false : Nat) : Int) = 32 from rfl]
      simp only [hsz] at hn hH x3 x5 ⊢
      simp only [Int.reduceMul, Int.reduceAdd]
      go_loopw [24, 25] (fun t24 t25 wr => ∃ (i : Nat) (pl : Option Addr) (nl cl : Nat), i * 32 < n + 32 ∧ t25 = .int .i64 ((i : Int) + 1) ∧ t24 = .slice pl nl cl ∧ (hkT false T F i).length = nl ∧ nl ≤ cl ∧ cl ≤ maxLen ∧ Sat W wr (bytes false pl (hkT false T F i) :: bytes false q5 E :: bytes true q3 T :: bytes false p3 F :: [])) (fun _ t25 _ => n + 2 - (intOf t25).toNat)
      case atStart => exact ⟨0, none, 0, 0, by omega, rfl, rfl, rfl, Nat.le_refl _, Nat.zero_le _, bytesNil false none s13⟩
      case round =>
        clear s13
        obtain ⟨i, pl, nl, cl, hi, rfl, rfl, hnl, hcl, hcm, s⟩ := hrel
        by_cases hlt : i * 32 < n
        · have hi2 : i < 255 := by omega
          have hn64 : nl ≤ 32 := by rw [← hnl, hkT_len]; split <;> simp [hsz]
          have HL := Lib.hid (And.intro hnl hcm); clear hnl hcm
          go_wp2_with (first | (at_builtin; refine wpl_app8 (xs := []) rfl (.tmp 144) (.tmp 145) rfl rfl rfl (s.rowNil 1) HL.out.1 (by omega) ?_; intro pa ca wa sa; rw [Nat.zero_add, List.nil_append] at sa) | (at_builtin; refine wpl_app8 rfl (.tmp 147) (.tmp 148) rfl rfl rfl (show Sat W wa (row pa ca 1 nl (u8s (hkT false T F i)) :: bytes false p3 F :: bytes false pl (hkT false T F i) :: bytes false q5 E :: bytes true q3 T :: []) from sa.pick [0, 4]) HA.out.2.2.1 (by omega) ?_; intro pb cb wb sb) | (at_builtin; refine wpl_app8 rfl (.tmp 150) (.tmp 153) rfl rfl rfl (byteNew (b := BitVec.ofNat 8 (i + 1)) (by unfold v8; rw [BitVec.toNat_ofNat, Nat.mod_eq_of_lt (by omega)]; simp) sb) rfl (by omega) ?_; intro pc cc wc sc))
          obtain ⟨hM, hM1, hM2, sd⟩ := rowBytes sc
          refine (hmacTagF false none [] T _ HT.out.2.1 hM rfl rfl x3 HT.out.2.2 hM1 hM2 (by simp only [tot]; omega) (by decide) (by (repeat (first | with_reducible apply Sat.sub (ledNone sd) | with_reducible apply Sat.alloc' | with_reducible apply Sat.drew | with_reducible apply Sat.drewN)); (repeat (first | with_reducible exact Fr.done | with_reducible exact Fr.nil | (with_reducible apply Fr.cons; (focus ((repeat (first | with_reducible exact Take.here | with_reducible apply Take.there)); done))) | with_reducible apply Fr.skip)); done)).mono ?_
          rintro e we ⟨qe, ce, rfl, ye1, ye2, se⟩
          clear sa sb sc sd s
          rw [show hmac false T (hkT false T F i ++ F ++ [BitVec.ofNat 8 (i + 1)]) = hkT false T F (i + 1) from rfl] at se
          have sf : Sat W we (bytes true qe (hkT false T F (i + 1)) :: bytes false q5 E :: bytes true q3 T :: bytes false p3 F :: []) := (Sat.sub (se) (by (repeat (first | with_reducible exact Fr.done | with_reducible exact Fr.nil | (with_reducible apply Fr.cons; (focus ((repeat (first | with_reducible exact Take.here | with_reducible apply Take.there)); done))) | with_reducible apply Fr.skip))))
          clear se
          simp only [hsz] at ye1 ⊢
          have HM := Lib.hid (And.intro hM (And.intro hM2 ye2)); clear hM hM1 hM2 ye2
          have hE0 : E ≠ [] := by intro h; have := HE.out.2.1; rw [h] at this; simp at this; omega
          obtain ⟨b5, o5, rfl, sg⟩ := bytesCell ((Sat.sub (sf) (by (repeat (first | with_reducible exact Fr.done | with_reducible exact Fr.nil | (with_reducible apply Fr.cons; (focus ((repeat (first | with_reducible exact Take.here | with_reducible apply Take.there)); done))) | with_reducible apply Fr.skip)))) : Sat W we (bytes false q5 E :: bytes true qe (hkT false T F (i + 1)) :: bytes true q3 T :: bytes false p3 F :: [])) hE0
          clear sf hE0
          obtain ⟨D, hD1, hD2, hD3, hD4⟩ : ∃ D, i * 32 + D ≤ n ∧ D ≤ 32 ∧ ((i + 1) * 32 ≤ n → D = 32) ∧ (n < (i + 1) * 32 → i * 32 + D = n) := by
            by_cases h : (i + 1) * 32 ≤ n
            · exact ⟨32, by omega, by omega, fun _ => rfl, by omega⟩
            · exact ⟨n - i * 32, by omega, by omega, by omega, by omega⟩
          obtain ⟨J, hJ⟩ : ∃ J, J = i * 32 := ⟨_, rfl⟩
          have hp := hkdf_part false T F i n D hD1 hD2
          simp only [hsz] at hp
          rw [← HE.out.1, ← hJ] at hp
          have HD := Lib.hid (And.intro (show ((hkT false T F (i + 1)).take D).length = D by rw [List.length_take, hkT_len, if_neg (by omega)]; simp only [hsz]; omega) (And.intro (show ((E.drop J).take D).length = D by rw [List.length_take, List.length_drop, HE.out.2.1]; omega) hp)); clear hp
          have sx : Sat W we (bytes false qe ((hkT false T F (i + 1)).take D) :: bytes false qe (hkT false T F (i + 1)) :: bytes false (some ⟨b5, o5 + J, none⟩) ((E.drop J).take D) :: bytes false (some ⟨b5, o5, none⟩) E :: bytes true q3 T :: bytes false p3 F :: []) :=
            bytesTake D (bytesDup (bytesRo (Sat.pull (L := bytes false (some ⟨b5, o5 + J, none⟩) ((E.drop J).take D) :: bytes false (some ⟨b5, o5, none⟩) E :: bytes true qe (hkT false T F (i + 1)) :: bytes true q3 T :: bytes false p3 F :: []) (bytesTake D (bytesDropAny J (some ⟨b5, o5 + J, none⟩) (fun _ => rfl) (bytesDup (bytesOf sg)))) 2)))
          clear sg
          have k1 : ce ≤ 9223372036854775807 := HM.out.2.2
          have k2 : d5 ≤ 9223372036854775807 := HE.out.2.2
          have k3 : (D : Int) ≤ (ce : Int) := by omega
          have k4 : (0 : Int) ≤ (D : Int) := by omega
          have k5 : (n : Int) ≤ (d5 : Int) := by omega
          obtain ⟨J2, hJ2⟩ : ∃ J2, J2 = (i + 1) * 32 := ⟨_, rfl⟩
          have e1 : (i : Int) * 32 = (J : Int) := by omega
          have e2 : ((i : Int) + 1) * 32 = (J2 : Int) := by omega
          have hJd : ¬ d5 = J := by omega
          have k6 : (J : Int) ≤ (n : Int) := by omega
          by_cases hto : (i + 1) * 32 ≤ n
          · obtain rfl : D = 32 := hD3 hto
            have g1 : (J2 : Int) ≤ (n : Int) := by omega
            have g2 : (J2 : Int) ≤ (d5 : Int) := by omega
            have g3 : (J : Int) ≤ (J2 : Int) := by omega
            have g4 : IntKind.i64.wrap ((J2 : Int) - (J : Int)) = 32 := by rw [IntKind.wrap_i64]; omega
            have g5 : J2 - J = 32 := by omega
            have g6 : (32 : Int) ≤ (ce : Int) := by omega
            have hJJ := Lib.hid (And.intro hJ hJ2); clear hJ hJ2 hto hD3 hD4
            go_wp2_with fail
            go_quiet ((go_at_call 28; exact Calls.quiet_of (sameQ ((hkT false T F (i + 1)).take 32) ((E.drop J).take 32) HD.out.1 HD.out.2.1 (by omega) HD.out.2.2.symm (L := bytes false qe (hkT false T F (i + 1)) :: bytes false (some ⟨b5, o5, none⟩) E :: bytes true q3 T :: bytes false p3 F :: []) ((sx.pick [0, 2]).drewN _))))
            go_wp2
            go_roundw
            case rel => exact ⟨i + 1, qe, 32, ce, by omega, by go_num, rfl, by rw [hkT_len, if_neg (by omega)]; rfl, ye1, k1, (by (repeat (first | with_reducible apply Sat.sub (sx) | with_reducible apply Sat.alloc' | with_reducible apply Sat.drew | with_reducible apply Sat.drewN)); (repeat (first | with_reducible exact Fr.done | with_reducible exact Fr.nil | (with_reducible apply Fr.cons; (focus ((repeat (first | with_reducible exact Take.here | with_reducible apply Take.there)); done))) | with_reducible apply Fr.skip)); done)⟩
            case measure => simp [intOf]; omega
          · have g1 : ¬ (J2 : Int) ≤ (n : Int) := by omega
            have g4 : IntKind.i64.wrap ((n : Int) - (J : Int)) = (D : Int) := by rw [IntKind.wrap_i64]; omega
            have g5 : n - J = D := by omega
            have hJJ := Lib.hid (And.intro hJ hJ2); clear hJ hJ2 hto hD3 hD4
            go_wp2_with fail
            go_quiet ((go_at_call 28; exact Calls.quiet_of (sameQ ((hkT false T F (i + 1)).take D) ((E.drop J).take D) HD.out.1 HD.out.2.1 (by omega) HD.out.2.2.symm (L := bytes false qe (hkT false T F (i + 1)) :: bytes false (some ⟨b5, o5, none⟩) E :: bytes true q3 T :: bytes false p3 F :: []) ((sx.pick [0, 2]).drewN _))))
            go_wp2
            go_roundw
            case rel => exact ⟨i + 1, qe, 32, ce, by omega, by go_num, rfl, by rw [hkT_len, if_neg (by omega)]; rfl, ye1, k1, (by (repeat (first | with_reducible apply Sat.sub (sx) | with_reducible apply Sat.alloc' | with_reducible apply Sat.drew | with_reducible apply Sat.drewN)); (repeat (first | with_reducible exact Fr.done | with_reducible exact Fr.nil | (with_reducible apply Fr.cons; (focus ((repeat (first | with_reducible exact Take.here | with_reducible apply Take.there)); done))) | with_reducible apply Fr.skip)); done)⟩
            case measure => simp [intOf]; omega
        · clear hnl
          go_wp2
          go_ret
          exact ⟨rfl, s.below⟩
    · skip
      rw [show ((hsz true : Nat) : Int) = 64 from rfl]
      simp only [hsz] at hn hH x3 x5 ⊢
      simp only [Int.reduceMul, Int.reduceAdd]
      go_loopw [24, 25] (fun t24 t25 wr => ∃ (i : Nat) (pl : Option Addr) (nl cl : Nat), i * 64 < n + 64 ∧ t25 = .int .i64 ((i : Int) + 1) ∧ t24 = .slice pl nl cl ∧ (hkT true T F i).length = nl ∧ nl ≤ cl ∧ cl ≤ maxLen ∧ Sat W wr (bytes false pl (hkT true T F i) :: bytes false q5 E :: bytes true q3 T :: bytes false p3 F :: [])) (fun _ t25 _ => n + 2 - (intOf t25).toNat)
      case atStart => exact ⟨0, none, 0, 0, by omega, rfl, rfl, rfl, Nat.le_refl _, Nat.zero_le _, bytesNil false none s13⟩
      case round =>
        clear s13
        obtain ⟨i, pl, nl, cl, hi, rfl, rfl, hnl, hcl, hcm, s⟩ := hrel
        by_cases hlt : i * 64 < n
        · have hi2 : i < 255 := by omega
          have hn64 : nl ≤ 64 := by rw [← hnl, hkT_len]; split <;> simp [hsz]
          have HL := Lib.hid (And.intro hnl hcm); clear hnl hcm
          go_wp2_with (first | (at_builtin; refine wpl_app8 (xs := []) rfl (.tmp 144) (.tmp 145) rfl rfl rfl (s.rowNil 1) HL.out.1 (by omega) ?_; intro pa ca wa sa; rw [Nat.zero_add, List.nil_append] at sa) | (at_builtin; refine wpl_app8 rfl (.tmp 147) (.tmp 148) rfl rfl rfl (show Sat W wa (row pa ca 1 nl (u8s (hkT true T F i)) :: bytes false p3 F :: bytes false pl (hkT true T F i) :: bytes false q5 E :: bytes true q3 T :: []) from sa.pick [0, 4]) HA.out.2.2.1 (by omega) ?_; intro pb cb wb sb) | (at_builtin; refine wpl_app8 rfl (.tmp 150) (.tmp 153) rfl rfl rfl (byteNew (b := BitVec.ofNat 8 (i + 1)) (by unfold v8; rw [BitVec.toNat_ofNat, Nat.mod_eq_of_lt (by omega)]; simp) sb) rfl (by omega) ?_; intro pc cc wc sc))
          obtain ⟨hM, hM1, hM2, sd⟩ := rowBytes sc
          refine (hmacTagF true none [] T _ HT.out.2.1 hM rfl rfl x3 HT.out.2.2 hM1 hM2 (by simp only [tot]; omega) (by decide) (by (repeat (first | with_reducible apply Sat.sub (ledNone sd) | with_reducible apply Sat.alloc' | with_reducible apply Sat.drew | with_reducible apply Sat.drewN)); (repeat (first | with_reducible exact Fr.done | with_reducible exact Fr.nil | (with_reducible apply Fr.cons; (focus ((repeat (first | with_reducible exact Take.here | with_reducible apply Take.there)); done))) | with_reducible apply Fr.skip)); done)).mono ?_
          rintro e we ⟨qe, ce, rfl, ye1, ye2, se⟩
          clear sa sb sc sd s
          rw [show hmac true T (hkT true T F i ++ F ++ [BitVec.ofNat 8 (i + 1)]) = hkT true T F (i + 1) from rfl] at se
          have sf : Sat W we (bytes true qe (hkT true T F (i + 1)) :: bytes false q5 E :: bytes true q3 T :: bytes false p3 F :: []) := (Sat.sub (se) (by (repeat (first | with_reducible exact Fr.done | with_reducible exact Fr.nil | (with_reducible apply Fr.cons; (focus ((repeat (first | with_reducible exact Take.here | with_reducible apply Take.there)); done))) | with_reducible apply Fr.skip))))
          clear se
          simp only [hsz] at ye1 ⊢
          have HM := Lib.hid (And.intro hM (And.intro hM2 ye2)); clear hM hM1 hM2 ye2
          have hE0 : E ≠ [] := by intro h; have := HE.out.2.1; rw [h] at this; simp at this; omega
          obtain ⟨b5, o5, rfl, sg⟩ := bytesCell ((Sat.sub (sf) (by (repeat (first | with_reducible exact Fr.done | with_reducible exact Fr.nil | (with_reducible apply Fr.cons; (focus ((repeat (first | with_reducible exact Take.here | with_reducible apply Take.there)); done))) | with_reducible apply Fr.skip)))) : Sat W we (bytes false q5 E :: bytes true qe (hkT true T F (i + 1)) :: bytes true q3 T :: bytes false p3 F :: [])) hE0
          clear sf hE0
          obtain ⟨D, hD1, hD2, hD3, hD4⟩ : ∃ D, i * 64 + D ≤ n ∧ D ≤ 64 ∧ ((i + 1) * 64 ≤ n → D = 64) ∧ (n < (i + 1) * 64 → i * 64 + D = n) := by
            by_cases h : (i + 1) * 64 ≤ n
            · exact ⟨64, by omega, by omega, fun _ => rfl, by omega⟩
            · exact ⟨n - i * 64, by omega, by omega, by omega, by omega⟩
          obtain ⟨J, hJ⟩ : ∃ J, J = i * 64 := ⟨_, rfl⟩
          have hp := hkdf_part true T F i n D hD1 hD2
          simp only [hsz] at hp
          rw [← HE.out.1, ← hJ] at hp
          have HD := Lib.hid (And.intro (show ((hkT true T F (i + 1)).take D).length = D by rw [List.length_take, hkT_len, if_neg (by omega)]; simp only [hsz]; omega) (And.intro (show ((E.drop J).take D).length = D by rw [List.length_take, List.length_drop, HE.out.2.1]; omega) hp)); clear hp
          have sx : Sat W we (bytes false qe ((hkT true T F (i + 1)).take D) :: bytes false qe (hkT true T F (i + 1)) :: bytes false (some ⟨b5, o5 + J, none⟩) ((E.drop J).take D) :: bytes false (some ⟨b5, o5, none⟩) E :: bytes true q3 T :: bytes false p3 F :: []) :=
            bytesTake D (bytesDup (bytesRo (Sat.pull (L := bytes false (some ⟨b5, o5 + J, none⟩) ((E.drop J).take D) :: bytes false (some ⟨b5, o5, none⟩) E :: bytes true qe (hkT true T F (i + 1)) :: bytes true q3 T :: bytes false p3 F :: []) (bytesTake D (bytesDropAny J (some ⟨b5, o5 + J, none⟩) (fun _ => rfl) (bytesDup (bytesOf sg)))) 2)))
          clear sg
          have k1 : ce ≤ 9223372036854775807 := HM.out.2.2
          have k2 : d5 ≤ 9223372036854775807 := HE.out.2.2
          have k3 : (D : Int) ≤ (ce : Int) := by omega
          have k4 : (0 : Int) ≤ (D : Int) := by omega
          have k5 : (n : Int) ≤ (d5 : Int) := by omega
          obtain ⟨J2, hJ2⟩ : ∃ J2, J2 = (i + 1) * 64 := ⟨_, rfl⟩
          have e1 : (i : Int) * 64 = (J : Int) := by omega
          have e2 : ((i : Int) + 1) * 64 = (J2 : Int) := by omega
          have hJd : ¬ d5 = J := by omega
          have k6 : (J : Int) ≤ (n : Int) := by omega
          by_cases hto : (i + 1) * 64 ≤ n
          · obtain rfl : D = 64 := hD3 hto
            have g1 : (J2 : Int) ≤ (n : Int) := by omega
            have g2 : (J2 : Int) ≤ (d5 : Int) := by omega
            have g3 : (J : Int) ≤ (J2 : Int) := by omega
            have g4 : IntKind.i64.wrap ((J2 : Int) - (J : Int)) = 64 := by rw [IntKind.wrap_i64]; omega
            have g5 : J2 - J = 64 := by omega
            have g6 : (64 : Int) ≤ (ce : Int) := by omega
            have hJJ := Lib.hid (And.intro hJ hJ2); clear hJ hJ2 hto hD3 hD4
            go_wp2_with fail
            go_quiet ((go_at_call 28; exact Calls.quiet_of (sameQ ((hkT true T F (i + 1)).take 64) ((E.drop J).take 64) HD.out.1 HD.out.2.1 (by omega) HD.out.2.2.symm (L := bytes false qe (hkT true T F (i + 1)) :: bytes false (some ⟨b5, o5, none⟩) E :: bytes true q3 T :: bytes false p3 F :: []) ((sx.pick [0, 2]).drewN _))))
            go_wp2
            go_roundw
            case rel => exact ⟨i + 1, qe, 64, ce, by omega, by go_num, rfl, by rw [hkT_len, if_neg (by omega)]; rfl, ye1, k1, (by (repeat (first | with_reducible apply Sat.sub (sx) | with_reducible apply Sat.alloc' | with_reducible apply Sat.drew | with_reducible apply Sat.drewN)); (repeat (first | with_reducible exact Fr.done | with_reducible exact Fr.nil | (with_reducible apply Fr.cons; (focus ((repeat (first | with_reducible exact Take.here | with_reducible apply Take.there)); done))) | with_reducible apply Fr.skip)); done)⟩
            case measure => simp [intOf]; omega
          · have g1 : ¬ (J2 : Int) ≤ (n : Int) := by omega
            have g4 : IntKind.i64.wrap ((n : Int) - (J : Int)) = (D : Int) := by rw [IntKind.wrap_i64]; omega
            have g5 : n - J = D := by omega
            have hJJ := Lib.hid (And.intro hJ hJ2); clear hJ hJ2 hto hD3 hD4
            go_wp2_with fail
            go_quiet ((go_at_call 28; exact Calls.quiet_of (sameQ ((hkT true T F (i + 1)).take D) ((E.drop J).take D) HD.out.1 HD.out.2.1 (by omega) HD.out.2.2.symm (L := bytes false qe (hkT true T F (i + 1)) :: bytes false (some ⟨b5, o5, none⟩) E :: bytes true q3 T :: bytes false p3 F :: []) ((sx.pick [0, 2]).drewN _))))
            go_wp2
            go_roundw
            case rel => exact ⟨i + 1, qe, 64, ce, by omega, by go_num, rfl, by rw [hkT_len, if_neg (by omega)]; rfl, ye1, k1, (by (repeat (first | with_reducible apply Sat.sub (sx) | with_reducible apply Sat.alloc' | with_reducible apply Sat.drew | with_reducible apply Sat.drewN)); (repeat (first | with_reducible exact Fr.done | with_reducible exact Fr.nil | (with_reducible apply Fr.cons; (focus ((repeat (first | with_reducible exact Take.here | with_reducible apply Take.there)); done))) | with_reducible apply Fr.skip)); done)⟩
            case measure => simp [intOf]; omega
        · clear hnl
          go_wp2
          go_ret
          exact ⟨rfl, s.below⟩
end Go.Proofs.Ytmohabidfalhoaa
