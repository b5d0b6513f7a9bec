/- awake of layer 15's statements; the contracts of layer 15 in forms that fit; how many events have a kind; under the conditions that each names. -/
import Derived.Test.YtmohabidfalhoaaL15m
import Derived.Test.YtmohabidfalhoaaPick
import Derived.Test.YtmohabidfalhoaaLed2
import Derived.Test.YtmohabidfalhoaaApp
namespace Go.Proofs.Ytmohabidfalhoaa
open Go.RowKit Go.Sep Go.Bv Go.Sha
set_option linter.unusedVariables false
set_option linter.unusedSimpArgs false
/-- How many events of a kind. -/
def cntK (k : Int) : List Run3 → Nat
  | [] => 0
  | r :: rs => (if r.1 = k then r.2.2 else 0) + cntK k rs
theorem cntK_append (k : Int) (a b : List Run3) : cntK k (a ++ b) = cntK k a + cntK k b := by
  induction a with
  | nil => simp [cntK]
  | cons r a ih => simp only [List.cons_append, cntK, ih]; omega
theorem cntK_take (k : Int) (rs : List Run3) (i : Nat) (h : i < rs.length) : cntK k (rs.take (i + 1)) = cntK k (rs.take i) + if rs[i].1 = k then rs[i].2.2 else 0 := by
  rw [List.take_succ_eq_append_getElem h, cntK_append]
  simp [cntK]
theorem cntK_le (k : Int) (rs : List Run3) (i : Nat) : cntK k (rs.take i) ≤ tot rs := by
  have h : ∀ rs : List Run3, cntK k rs ≤ tot rs := by
    intro rs
    induction rs with
    | nil => simp [cntK]
    | cons r rs ih => simp only [cntK, tot]; split <;> omega
  have h2 : tot rs = tot (rs.take i) + tot (rs.drop i) := by rw [← tot_append, List.take_append_drop]
  have := h (rs.take i)
  omega
set_option maxRecDepth 100000 in
set_option maxHeartbeats 2000000 in
theorem ledCountF {W0 w : World} {L : List Assn} {l : Nat} {rs : List Run3} (k : Int) (hl : rs.length ≤ 1000000000) (hb : tot rs ≤ 4611686018427387904) (hs : Sat W0 w (ledO (some l) rs :: L)) :
    Calls Try.prog 63 #[.pointer (some ⟨l, 0, none⟩), .int .u8 k] w fun e w' => e = .returned (.int .i64 (cntK k rs : Int)) ∧ Sat W0 w' (ledO (some l) rs :: L) := by
  go_enter Try.func63, Try.ntmps63
  go_wp2_with fail
  refine (ledRunsF (l := l) (rs := rs) hl hs).mono ?_
  rintro e w1 ⟨q, c, rfl, s1⟩
  clear hs
  obtain ⟨n, hn⟩ : ∃ n, n = rs.length := ⟨_, rfl⟩
  rw [← hn] at hl ⊢
  have HB := Lib.hid (And.intro hn hb); clear hn hb
  go_wp2
  go_loopw [5, 11] (fun t5 t11 wr => ∃ i : Nat, i ≤ n ∧ t11 = .int .i64 (i : Int) ∧ t5 = .int .i64 (cntK k (rs.take i) : Int) ∧ Sat W0 wr (runsA true q rs :: ledO (some l) rs :: L)) (fun _ t11 _ => n - (intOf t11).toNat)
  case atStart => exact ⟨0, Nat.zero_le _, rfl, rfl, s1⟩
  case round =>
    clear s1
    obtain ⟨i, hi, rfl, rfl, s⟩ := hrel
    by_cases hlt : i < n
    · have hix : i < rs.length := by rw [← HB.out.1]; exact hlt
      obtain ⟨bq, oq, rfl, s2⟩ := runsCell s (by rintro rfl; simp at hix)
      have g : ∀ j, j < 3 → (rs.flatMap enc3)[i * 3 + j]? = (enc3 rs[i])[j]? := fun j hj => fm_get len3 rs i j hix hj
      have hck := cntK_take k rs i hix
      have hle := cntK_le k rs (i + 1)
      obtain ⟨⟨x0, x1, x2⟩, hxx⟩ : ∃ x, x = rs[i] := ⟨_, rfl⟩
      rw [← hxx] at g hck
      have a0 := s2.cell (g 0 (by omega))
      have a1 := s2.cell (g 1 (by omega))
      have a2 := s2.cell (g 2 (by omega))
      simp only [Nat.add_zero, ← Nat.add_assoc] at a0 a1 a2
      simp only at hck
      have hb2 := HB.out.2
      obtain ⟨C, hC⟩ : ∃ C, C = cntK k (rs.take i) := ⟨_, rfl⟩
      rw [← hC] at hck ⊢
      have HK := Lib.hid hck
      clear hxx hix g hC
      have s3 : Sat W0 wr (runsA true (some ⟨bq, oq, none⟩) rs :: ledO (some l) rs :: L) := runsOf s2
      clear s2 s
      by_cases hk : x0 = k
      · subst hk
        rw [if_pos rfl] at hck
        have hsm : C + x2 ≤ 4611686018427387904 := by omega
        clear hck hle hb2
        go_wp2
        go_roundw
        case rel => exact ⟨i + 1, by omega, by go_num, by have := HK.out; rw [if_pos rfl] at this; rw [this]; go_num, (by (repeat (first | with_reducible apply Sat.sub (s3) | with_reducible apply Sat.alloc' | with_reducible apply Sat.drew | with_reducible apply Sat.drewN)); (repeat (first | with_reducible exact Fr.done | with_reducible exact Fr.nil | (with_reducible apply Fr.cons; (focus ((repeat (first | with_reducible exact Take.here | with_reducible apply Take.there)); done))) | with_reducible apply Fr.skip)); done)⟩
        case measure => simp [intOf]; omega
      · clear hck hle hb2
        go_wp2
        go_roundw
        case rel => exact ⟨i + 1, by omega, by go_num, by have := HK.out; rw [if_neg hk] at this; rw [this]; rfl, (by (repeat (first | with_reducible apply Sat.sub (s3) | with_reducible apply Sat.alloc' | with_reducible apply Sat.drew | with_reducible apply Sat.drewN)); (repeat (first | with_reducible exact Fr.done | with_reducible exact Fr.nil | (with_reducible apply Fr.cons; (focus ((repeat (first | with_reducible exact Take.here | with_reducible apply Take.there)); done))) | with_reducible apply Fr.skip)); done)⟩
        case measure => simp [intOf]; omega
    · obtain rfl : i = n := by omega
      have e1 : rs.take i = rs := by rw [HB.out.1]; exact List.take_length
      rw [e1]
      go_wp2
      go_ret
      exact ⟨rfl, (by (repeat (first | with_reducible apply Sat.sub (s) | with_reducible apply Sat.alloc' | with_reducible apply Sat.drew | with_reducible apply Sat.drewN)); (repeat (first | with_reducible exact Fr.done | with_reducible exact Fr.nil | (with_reducible apply Fr.cons; (focus ((repeat (first | with_reducible exact Take.here | with_reducible apply Take.there)); done))) | with_reducible apply Fr.skip)); done)⟩
theorem rowsF {W0 w : World} {L : List Assn} {z nv : Int} (b : Byte) (n : Nat) (hz : z = v8 b) (hv : nv = (n : Int)) (hn : n ≤ 100000000000000) (hs : Sat W0 w L) :
    Calls Try.prog 62 #[.int .u8 z, .int .i64 nv] w fun e w' => ∃ p c, e = .returned (.slice p n c) ∧ n ≤ c ∧ c ≤ maxLen ∧ Sat W0 w' (bytes true p (risen b n) :: L) := by
  subst hz hv
  exact rows15 b n hn hs
theorem fillF {W0 w : World} {L : List Assn} {z nv : Int} (b : Byte) (n : Nat) (hz : z = v8 b) (hv : nv = (n : Int)) (hn : n ≤ 100000000000000) (hs : Sat W0 w L) :
    Calls Try.prog 61 #[.int .i64 nv, .int .u8 z] w fun e w' => ∃ p c, e = .returned (.slice p n c) ∧ n ≤ c ∧ c ≤ maxLen ∧ Sat W0 w' (bytes true p (List.replicate n b) :: L) := by
  subst hz hv
  exact fill15 b n hn hs
/-- Key, where the number is any spelling. -/
theorem hkKeyF {W0 w : World} {L : List Assn} (wide : Bool) (p : Option Nat) (rs : List Run3) (key salt info : List Byte) (n : Nat) {mk ms mi : Bool} {kp sp ip : Option Addr} {kn kc sn sc ni ic : Nat} {pv av : Value} {nv : Int} (hp : pv = ptrO p) (ha : av = .int .u8 (algN wide)) (hv : nv = (n : Int)) (hkn : key.length = kn) (hkc : kn ≤ kc) (hkm : kc ≤ maxLen) (hsn : salt.length = sn) (hsc : sn ≤ sc) (hsm : sc ≤ maxLen) (hni : info.length = ni) (hic : ni ≤ ic) (hicm : ic ≤ maxLen) (hn : n ≤ 255 * hsz wide)
    (hb : tot rs + 4 * kn + 4 * sn + 1000 * ni + 3000000 ≤ 2305843009213693952) (hl : rs.length + 32 ≤ 1048576) (hs : Sat W0 w (ledO p rs :: bytes mk kp key :: bytes ms sp salt :: bytes mi ip info :: L)) :
    Calls Try.prog 56 #[pv, av, .slice kp kn kc, .slice sp sn sc, .slice ip ni ic, .int .i64 nv] w fun e w' => ∃ q c, e = .returned (.tuple #[.slice q n c, .int .i64 0]) ∧ n ≤ c ∧ c ≤ maxLen ∧ Sat W0 w' (bytes true q (hkdf wide (hmac wide salt key) info n) :: ledO p (noteN rs (evK wide) (evS wide) (hkKeyN wide sn kn ni n)) :: bytes mk kp key :: bytes ms sp salt :: bytes mi ip info :: L) := by
  subst hv
  exact hkKey wide p rs key salt info hp ha hkn hkc hkm hsn hsc hsm hni hic hicm hn hb hl hs
theorem hkExpandF {W0 w : World} {L : List Assn} (wide : Bool) (p : Option Nat) (rs : List Run3) (prk info : List Byte) (n : Nat) {mk mi : Bool} {kp ip : Option Addr} {kn kc ni ic : Nat} {pv av : Value} {nv : Int} (hp : pv = ptrO p) (ha : av = .int .u8 (algN wide)) (hv : nv = (n : Int)) (hkn : prk.length = kn) (hkc : kn ≤ kc) (hkm : kc ≤ maxLen) (hni : info.length = ni) (hic : ni ≤ ic) (hicm : ic ≤ maxLen) (hn : n ≤ 255 * hsz wide)
    (hb : tot rs + 2 * kn + 1000 * ni + 2000000 ≤ 2305843009213693952) (hl : rs.length + 16 ≤ 1048576) (hs : Sat W0 w (ledO p rs :: bytes mk kp prk :: bytes mi ip info :: L)) :
    Calls Try.prog 55 #[pv, av, .slice kp kn kc, .slice ip ni ic, .int .i64 nv] w fun e w' => ∃ q c, e = .returned (.tuple #[.slice q n c, .int .i64 0]) ∧ n ≤ c ∧ c ≤ maxLen ∧ Sat W0 w' (bytes true q (hkdf wide prk info n) :: ledO p (noteN rs (evK wide) (evS wide) (expN wide kn ni n)) :: bytes mk kp prk :: bytes mi ip info :: L) := by
  subst hv ha
  exact hkExpand wide p rs prk info hp hkn hkc hkm hni hic hicm hn hb hl hs
set_option maxRecDepth 100000 in
set_option maxHeartbeats 2000000 in
theorem awake15 {W0 w : World} {L : List Assn} (hs : Sat W0 w L) : Calls Try.prog 54 #[] w fun e w' => e = .returned (.bool true) ∧ Sat W0 w' L := by
  obtain ⟨A1, hA1⟩ : ∃ A1, A1 = unhexL hex15a := ⟨_, rfl⟩
  obtain ⟨A2, hA2⟩ : ∃ A2, A2 = unhexL hex15b := ⟨_, rfl⟩
  have HA := Lib.hid (And.intro hA1 hA2); clear hA1 hA2
  go_enter Try.func54, Try.ntmps54
  go_wp2_with fail
  refine (rowsF 0 13 (by rfl) (by rfl) (by decide) hs).mono ?_
  rintro e w1 ⟨p1, c1, rfl, a1, b1, s1⟩
  clear hs
  go_wp2_with fail
  refine (fillF 11 22 (by rfl) (by rfl) (by decide) s1).mono ?_
  rintro e w2 ⟨p2, c2, rfl, a2, b2, s2⟩
  clear s1
  go_wp2_with fail
  refine (hkExtract false none [] (risen 0 13) (List.replicate 22 11) (risen_len _ _) (by simp) rfl rfl a1 b1 a2 b2 (by decide) (by decide) (by (repeat (first | with_reducible apply Sat.sub (ledNone s2) | with_reducible apply Sat.alloc' | with_reducible apply Sat.drew | with_reducible apply Sat.drewN)); (repeat (first | with_reducible exact Fr.done | with_reducible exact Fr.nil | (with_reducible apply Fr.cons; (focus ((repeat (first | with_reducible exact Take.here | with_reducible apply Take.there)); done))) | with_reducible apply Fr.skip)); done)).mono ?_
  rintro e w3 ⟨p3, c3, rfl, a3, b3, s3⟩
  clear s2
  rw [ex15a, ← HA.out.1] at s3
  simp only [hsz] at a3 ⊢
  have t3 : Sat W0 w3 (bytes true p3 A1 :: L) := (by (repeat (first | with_reducible apply Sat.sub (s3) | with_reducible apply Sat.alloc' | with_reducible apply Sat.drew | with_reducible apply Sat.drewN)); (repeat (first | with_reducible exact Fr.done | with_reducible exact Fr.nil | (with_reducible apply Fr.cons; (focus ((repeat (first | with_reducible exact Take.here | with_reducible apply Take.there)); done))) | with_reducible apply Fr.skip)); done)
  clear s3 a1 b1 a2 b2
  go_wp2_with fail
  refine (fillF 11 22 (by rfl) (by rfl) (by decide) t3).mono ?_
  rintro e w4 ⟨p4, c4, rfl, a4, b4, s4⟩
  clear t3
  go_wp2_with fail
  refine (rowsF 0 13 (by rfl) (by rfl) (by decide) s4).mono ?_
  rintro e w5 ⟨p5, c5, rfl, a5, b5, s5⟩
  clear s4
  go_wp2_with fail
  refine (rowsF 240 10 (by rfl) (by rfl) (by decide) s5).mono ?_
  rintro e w6 ⟨p6, c6, rfl, a6, b6, s6⟩
  clear s5
  go_wp2_with fail
  refine (hkKeyF false none [] (List.replicate 22 11) (risen 0 13) (risen 240 10) 42 rfl rfl (by rfl) (by simp) a4 b4 (risen_len _ _) a5 b5 (risen_len _ _) a6 b6 (by decide) (by decide) (by decide) (by (repeat (first | with_reducible apply Sat.sub (ledNone s6) | with_reducible apply Sat.alloc' | with_reducible apply Sat.drew | with_reducible apply Sat.drewN)); (repeat (first | with_reducible exact Fr.done | with_reducible exact Fr.nil | (with_reducible apply Fr.cons; (focus ((repeat (first | with_reducible exact Take.here | with_reducible apply Take.there)); done))) | with_reducible apply Fr.skip)); done)).mono ?_
  rintro e w7 ⟨p7, c7, rfl, a7, b7, s7⟩
  clear s6
  rw [ex15k, ← HA.out.2] at s7
  have t7 : Sat W0 w7 (bytes true p7 A2 :: bytes true p3 A1 :: L) := (by (repeat (first | with_reducible apply Sat.sub (s7) | with_reducible apply Sat.alloc' | with_reducible apply Sat.drew | with_reducible apply Sat.drewN)); (repeat (first | with_reducible exact Fr.done | with_reducible exact Fr.nil | (with_reducible apply Fr.cons; (focus ((repeat (first | with_reducible exact Take.here | with_reducible apply Take.there)); done))) | with_reducible apply Fr.skip)); done)
  clear s7 a4 b4 a5 b5 a6 b6
  have hl1 : A1.length = 32 := by rw [HA.out.1]; decide +kernel
  have hl2 : A2.length = 42 := by rw [HA.out.2]; decide +kernel
  have HL := Lib.hid (And.intro hl1 hl2); clear hl1 hl2
  go_wp2_with fail
  refine (unhexT hex15a A1 32 (by decide) (by decide) HA.out.1.symm t7).mono ?_
  rintro e w8 ⟨p8, c8, rfl, -, s8⟩
  clear t7
  go_wp2_with fail
  refine (sameT A1 A1 HL.out.1 HL.out.1 (by decide) rfl (by (repeat (first | with_reducible apply Sat.sub (s8) | with_reducible apply Sat.alloc' | with_reducible apply Sat.drew | with_reducible apply Sat.drewN)); (repeat (first | with_reducible exact Fr.done | with_reducible exact Fr.nil | (with_reducible apply Fr.cons; (focus ((repeat (first | with_reducible exact Take.here | with_reducible apply Take.there)); done))) | with_reducible apply Fr.skip)); done)).mono ?_
  rintro e w9 ⟨rfl, s9⟩
  clear s8
  go_wp2_with fail
  refine (unhexT hex15b A2 42 (by decide) (by decide) HA.out.2.symm s9).mono ?_
  rintro e w10 ⟨p10, c10, rfl, -, s10⟩
  clear s9
  go_wp2_with fail
  refine (sameT A2 A2 HL.out.2 HL.out.2 (by decide) rfl (by (repeat (first | with_reducible apply Sat.sub (s10) | with_reducible apply Sat.alloc' | with_reducible apply Sat.drew | with_reducible apply Sat.drewN)); (repeat (first | with_reducible exact Fr.done | with_reducible exact Fr.nil | (with_reducible apply Fr.cons; (focus ((repeat (first | with_reducible exact Take.here | with_reducible apply Take.there)); done))) | with_reducible apply Fr.skip)); done)).mono ?_
  rintro e w11 ⟨rfl, s11⟩
  clear s10
  go_wp2
  go_ret
  exact ⟨rfl, (by (repeat (first | with_reducible apply Sat.sub (s11) | with_reducible apply Sat.alloc' | with_reducible apply Sat.drew | with_reducible apply Sat.drewN)); (repeat (first | with_reducible exact Fr.done | with_reducible exact Fr.nil | (with_reducible apply Fr.cons; (focus ((repeat (first | with_reducible exact Take.here | with_reducible apply Take.there)); done))) | with_reducible apply Fr.skip)); done)⟩
end Go.Proofs.Ytmohabidfalhoaa
