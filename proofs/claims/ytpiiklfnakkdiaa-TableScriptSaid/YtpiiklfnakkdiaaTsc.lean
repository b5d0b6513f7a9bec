
/- TableScript: two tables of unlike types in turns, iterators kept; under the conditions that each names. -/
import Derived.Test.YtpiiklfnakkdiaaTga
import Derived.Test.YtpiiklfnakkdiaaTac
import Derived.Test.YtpiiklfnakkdiaaTpk
namespace Go.Proofs.Ytpiiklfnakkdiaa
open Go.RowKit Go.Sep
set_option linter.unusedVariables false
set_option linter.unusedSimpArgs false
theorem actInts_any {W0 w : World} {L : List Assn} {k b hb vb rb rhb rvb n : Nat} {A : List KI} {B : List KP} {held : List Bool} {tv : List Int} {rv : List Int} (hag : agG 0 id n held tv rv) (h0 : 0 < n) (hsm : n ≤ 64) (hA : A.length ≤ 100000) (on kd h v : Int) (hs : Sat W0 w (keptA k A B :: tI b hb vb rb rhb rvb n held tv rv L)) :
    Calls Try.prog 8 #[.pointer (some ⟨k,0,none⟩), .pointer (some ⟨b,0,none⟩), .pointer (some ⟨rb,0,none⟩), .agg #[.int .i64 on, .int .i64 kd, .int .i64 h, .int .i64 v]] w (postI W0 L k b hb vb rb rhb rvb n A B) := by
  by_cases e0 : kd = 0
  · subst e0; exact ai_add hag h0 hsm hA on h v hs
  by_cases e1 : kd = 1
  · subst e1; exact ai_get hag h0 hsm hA on h v hs
  by_cases e2 : kd = 2
  · subst e2; exact ai_set hag h0 hsm hA on h v hs
  by_cases e3 : kd = 3
  · subst e3; exact ai_drop hag h0 hsm hA on h v hs
  by_cases e4 : kd = 4
  · subst e4; exact ai_len hag h0 hsm hA on h v hs
  by_cases e5 : kd = 5
  · subst e5; exact ai_all hag h0 hsm hA on h v hs
  exact ai_other hag h0 hsm hA on h v kd e0 e1 e2 e3 e4 e5 hs
theorem actPairs_any {W0 w : World} {L : List Assn} {k b hb vb rb rhb rvb n : Nat} {A : List KI} {B : List KP} {held : List Bool} {tv : List A2} {rv : List Int} (hag : agG (0, 0) prT n held tv rv) (h0 : 0 < n) (hsm : n ≤ 64) (hA : B.length ≤ 100000) (on kd h v : Int) (hs : Sat W0 w (keptA k A B :: tP b hb vb rb rhb rvb n held tv rv L)) :
    Calls Try.prog 9 #[.pointer (some ⟨k,0,none⟩), .pointer (some ⟨b,0,none⟩), .pointer (some ⟨rb,0,none⟩), .agg #[.int .i64 on, .int .i64 kd, .int .i64 h, .int .i64 v]] w (postP W0 L k b hb vb rb rhb rvb n A B) := by
  by_cases e0 : kd = 0
  · subst e0; exact ap_add hag h0 hsm hA on h v hs
  by_cases e1 : kd = 1
  · subst e1; exact ap_get hag h0 hsm hA on h v hs
  by_cases e2 : kd = 2
  · subst e2; exact ap_set hag h0 hsm hA on h v hs
  by_cases e3 : kd = 3
  · subst e3; exact ap_drop hag h0 hsm hA on h v hs
  by_cases e4 : kd = 4
  · subst e4; exact ap_len hag h0 hsm hA on h v hs
  by_cases e5 : kd = 5
  · subst e5; exact ap_all hag h0 hsm hA on h v hs
  exact ap_other hag h0 hsm hA on h v kd e0 e1 e2 e3 e4 e5 hs

theorem keptNew {W0 w : World} {L : List Assn} {k : Nat} (h : Sat W0 w (seg true k 0 [.slice none 0 0, .slice none 0 0, .slice none 0 0, .slice none 0 0, .slice none 0 0, .slice none 0 0] :: L)) : Sat W0 w (keptA k [] [] :: L) := by
  have h1 := ((((((((h.rowNil 1).rowNil 1).rowNil 1).rowNil 1).rowNil 1).rowNil 1).addEmp).addEmp)
  exact keptShut (A := []) (B := []) (nA := 0) (nB := 0) (a1 := none) (a2 := none) (a3 := none) (a4 := none) (a5 := none) (a6 := none) (c1 := 0) (c2 := 0) (c3 := 0) (c4 := 0) (c5 := 0) (c6 := 0) rfl rfl (h1.pick [8, 2, 3, 4, 5, 6, 7, 0, 1])
set_option maxRecDepth 100000 in
set_option maxHeartbeats 8000000 in
theorem script_yy (W0 : World) (most other : Int) (hm1 : 1 ≤ most) (hm2 : most ≤ 64) (ho1 : 1 ≤ other) (ho2 : other ≤ 64) (sa : Option Addr) (len cap : Nat) (acts : List A4) (ha : IsActs W0 sa len acts) (hlen : len ≤ 1000) :
    Calls Try.prog 3 #[.int .i64 most, .int .i64 other, .slice sa len cap] W0 fun e w' => e = .returned (.bool true) ∧ Below W0.heap.size W0 w' := by
  obtain ⟨ha1, -, ha2⟩ := ha
  have HA := Lib.hid (And.intro ha1 ha2); clear ha1 ha2
  have hle : ((1000 : Int) < (len : Int)) = False := by simp; omega
  go_enter Try.func3, Try.ntmps3
  go_wp2_with fail
  refine (new_int most hm1 hm2 (Sat.nil W0)).mono ?_
  rintro e w1 ⟨b, hb, vb, rfl, s1⟩
  go_wp2_with fail
  refine (new_pr other ho1 ho2 s1).mono ?_
  rintro e w2 ⟨c, hc, vc, rfl, s2⟩
  go_wp2_with fail
  refine (new_ref most hm1 hm2 s2).mono ?_
  rintro e w3 ⟨rb, rhb, rvb, rfl, s3⟩
  go_wp2_with fail
  refine (new_ref other ho1 ho2 s3).mono ?_
  rintro e w4 ⟨sb, shb, svb, rfl, s4⟩
  have s4' := s4
  clear s1 s2 s3 s4
  go_wp2_with (refine wpl_box rfl 41 (.tmp 65) rfl [.slice none 0 0, .slice none 0 0, .slice none 0 0, .slice none 0 0, .slice none 0 0, .slice none 0 0] rfl s4' ?_; intro w5 k s5' _; clear s4'; have HS5 := Lib.hid (keptNew s5'); clear s5')
  obtain ⟨n, hn⟩ : ∃ n, n = most.toNat := ⟨_, rfl⟩
  have n0 : 0 < n := by omega
  have nsm : n ≤ 64 := by omega
  obtain ⟨N, hN⟩ : ∃ n, n = other.toNat := ⟨_, rfl⟩
  have N0 : 0 < N := by omega
  have Nsm : N ≤ 64 := by omega
  have s5 := HS5.out
  rw [← hn] at s5
  rw [← hN] at s5
  have s6 : Sat W0 w5 (keptA k [] [] :: (tI b hb vb rb rhb rvb n (List.replicate n false) (List.replicate n 0) (List.replicate n 0) (tP c hc vc sb shb svb N (List.replicate N false) (List.replicate N (0, 0)) (List.replicate N 0) []))) := (Sat.sub (s5) (by with_reducible repeat first | exact Fr1 | exact Fr2 | (apply Fr3; focus ((repeat (first | exact Tk1 | apply Tk2)); done)) | apply Fr4))
  have HS6 := Lib.hid s6
  clear s5 s6 HS5
  clear hn hm1 hm2 hN ho1 ho2
  go_loopw [16] (fun t16 wr => ∃ (i : Nat) (A : List KI) (B : List KP) (hI : List Bool) (tvI rvI : List Int) (hP : List Bool) (tvP : List A2) (rvP : List Int), i ≤ len ∧ t16 = .int .i64 (i : Int) ∧ A.length ≤ i ∧ B.length ≤ i ∧ agG 0 id n hI tvI rvI ∧ agG (0, 0) prT N hP tvP rvP ∧ Sat W0 wr (keptA k A B :: (tI b hb vb rb rhb rvb n hI tvI rvI (tP c hc vc sb shb svb N hP tvP rvP [])))) (fun t16 _ => len - (intOf t16).toNat)
  case atStart => exact ⟨0, [], [], List.replicate n false, List.replicate n 0, List.replicate n 0, List.replicate N false, List.replicate N (0, 0), List.replicate N 0, Nat.zero_le _, rfl, Nat.le_refl _, Nat.le_refl _, agG.init 0 id n, agG.init (0, 0) prT N, HS6.out⟩
  case round =>
    clear HS6
    obtain ⟨i, A, B, hI, tvI, rvI, hP, tvP, rvP, hi, rfl, hA, hB, agI, agP, s⟩ := hrel
    by_cases hlt : i < len
    · obtain ⟨x, hx⟩ : ∃ x, acts[i]? = some x := ⟨_, List.getElem?_eq_getElem (by rw [HA.out.1]; exact hlt)⟩
      obtain ⟨ab, ao, rfl, c0, c1, c2, c3, -, -⟩ := HA.out.2 i x hx
      replace c0 := s.old c0
      replace c1 := s.old c1
      replace c2 := s.old c2
      replace c3 := s.old c3
      have za := World.block_lt_of_cell? wr _ c0
      obtain ⟨x0, x1, x2, x3⟩ := x
      dsimp only at c0 c1 c2 c3 za
      clear hx
      have hlt' : (i : Int) < (len : Int) := by omega
      go_wp2_with fail
      refine (pickG 2 rfl (by omega) (by omega)).mono ?_
      rintro e w9 ⟨kk, hkk, rfl, rfl⟩
      obtain rfl | rfl : kk = 0 ∨ kk = 1 := by omega
      · skip
        go_wp2_with fail
        refine (actInts_any agI n0 nsm (by omega) _ _ _ _ ((Sat.sub (s) (by with_reducible repeat first | exact Fr1 | exact Fr2 | (apply Fr3; focus ((repeat (first | exact Tk1 | apply Tk2)); done)) | apply Fr4)) : Sat W0 _ (keptA k A B :: tI b hb vb rb rhb rvb n hI tvI rvI (tP c hc vc sb shb svb N hP tvP rvP [])))).mono ?_
        rintro e w2 ⟨rfl, A', hI', tvI', rvI', hA', agI', s2⟩
        clear s
        have HS := Lib.hid ((Sat.sub (s2) (by with_reducible repeat first | exact Fr1 | exact Fr2 | (apply Fr3; focus ((repeat (first | exact Tk1 | apply Tk2)); done)) | apply Fr4)) : Sat W0 _ (keptA k A' B :: (tI b hb vb rb rhb rvb n hI' tvI' rvI' (tP c hc vc sb shb svb N hP tvP rvP [])))); clear s2
        go_wp2_with fail
        exact ⟨⟨i + 1, A', B, hI', tvI', rvI', hP, tvP, rvP, by omega, by go_num, by omega, by omega, agI', agP, HS.out⟩, by simp [intOf]; omega⟩
      · skip
        go_wp2_with fail
        refine (actPairs_any agP N0 Nsm (by omega) _ _ _ _ ((Sat.sub (s) (by with_reducible repeat first | exact Fr1 | exact Fr2 | (apply Fr3; focus ((repeat (first | exact Tk1 | apply Tk2)); done)) | apply Fr4)) : Sat W0 _ (keptA k A B :: tP c hc vc sb shb svb N hP tvP rvP (tI b hb vb rb rhb rvb n hI tvI rvI [])))).mono ?_
        rintro e w3 ⟨rfl, B', hP', tvP', rvP', hB', agP', s3⟩
        clear s
        have HS := Lib.hid ((Sat.sub (s3) (by with_reducible repeat first | exact Fr1 | exact Fr2 | (apply Fr3; focus ((repeat (first | exact Tk1 | apply Tk2)); done)) | apply Fr4)) : Sat W0 _ (keptA k A B' :: (tI b hb vb rb rhb rvb n hI tvI rvI (tP c hc vc sb shb svb N hP' tvP' rvP' [])))); clear s3
        go_wp2_with fail
        exact ⟨⟨i + 1, A, B', hI, tvI, rvI, hP', tvP', rvP', by omega, by go_num, by omega, by omega, agI, agP', HS.out⟩, by simp [intOf]; omega⟩
    · obtain rfl : i = len := by omega
      have HS7 := Lib.hid s; clear s
      go_wp2_with fail
      go_loopw [18] (fun t18 wr => ∃ (i : Nat) (A : List KI) (B : List KP) (hI : List Bool) (tvI rvI : List Int) (hP : List Bool) (tvP : List A2) (rvP : List Int), i ≤ 66 ∧ t18 = .int .i64 ((i : Int) - 1) ∧ A.length ≤ (1000 + i) ∧ B.length ≤ (1000 + i) ∧ agG 0 id n hI tvI rvI ∧ agG (0, 0) prT N hP tvP rvP ∧ Sat W0 wr (keptA k A B :: (tI b hb vb rb rhb rvb n hI tvI rvI (tP c hc vc sb shb svb N hP tvP rvP [])))) (fun t18 _ => 66 - (intOf t18 + 1).toNat)
      case atStart => exact ⟨0, A, B, hI, tvI, rvI, hP, tvP, rvP, Nat.zero_le _, rfl, by omega, by omega, agI, agP, HS7.out⟩
      case round =>
        clear HS7 hA hB hi hlt agI agP
        obtain ⟨i, A, B, hI, tvI, rvI, hP, tvP, rvP, hi, rfl, hA, hB, agI, agP, s⟩ := hrel
        by_cases hlt : i < 66
        · have hlt' : ((i : Int) - 1 ≤ 64) = True := by simp; omega
          go_wp2_with fail
          refine (actInts_any agI n0 nsm (by omega) _ _ _ _ ((Sat.sub (s) (by with_reducible repeat first | exact Fr1 | exact Fr2 | (apply Fr3; focus ((repeat (first | exact Tk1 | apply Tk2)); done)) | apply Fr4)) : Sat W0 _ (keptA k A B :: tI b hb vb rb rhb rvb n hI tvI rvI (tP c hc vc sb shb svb N hP tvP rvP [])))).mono ?_
          rintro e w2 ⟨rfl, A', hI', tvI', rvI', hA', agI', s2⟩
          clear s
          go_wp2_with fail
          refine (actPairs_any agP N0 Nsm (by omega) _ _ _ _ ((Sat.sub (s2) (by with_reducible repeat first | exact Fr1 | exact Fr2 | (apply Fr3; focus ((repeat (first | exact Tk1 | apply Tk2)); done)) | apply Fr4)) : Sat W0 _ (keptA k A' B :: tP c hc vc sb shb svb N hP tvP rvP (tI b hb vb rb rhb rvb n hI' tvI' rvI' [])))).mono ?_
          rintro e w3 ⟨rfl, B', hP', tvP', rvP', hB', agP', s3⟩
          clear s2
          have HS := Lib.hid ((Sat.sub (s3) (by with_reducible repeat first | exact Fr1 | exact Fr2 | (apply Fr3; focus ((repeat (first | exact Tk1 | apply Tk2)); done)) | apply Fr4)) : Sat W0 _ (keptA k A' B' :: (tI b hb vb rb rhb rvb n hI' tvI' rvI' (tP c hc vc sb shb svb N hP' tvP' rvP' [])))); clear s3
          go_wp2_with fail
          exact ⟨⟨i + 1, A', B', hI', tvI', rvI', hP', tvP', rvP', by omega, by go_num, by omega, by omega, agI', agP', HS.out⟩, by simp [intOf]; omega⟩
        · obtain rfl : i = 66 := by omega
          rw [show (((66 : Nat) : Int) - 1) = 65 by decide]
          have HS8 := Lib.hid s; clear s
          go_wp2_with fail
          go_loopw [19] (fun t19 wr => ∃ (i : Nat) (A : List KI) (B : List KP) (hI : List Bool) (tvI rvI : List Int) (hP : List Bool) (tvP : List A2) (rvP : List Int), i ≤ 2 ∧ t19 = .int .i64 ((i : Int) + 4) ∧ A.length ≤ (1066 + i) ∧ B.length ≤ (1066 + i) ∧ agG 0 id n hI tvI rvI ∧ agG (0, 0) prT N hP tvP rvP ∧ Sat W0 wr (keptA k A B :: (tI b hb vb rb rhb rvb n hI tvI rvI (tP c hc vc sb shb svb N hP tvP rvP [])))) (fun t19 _ => 6 - (intOf t19).toNat)
          case atStart => exact ⟨0, A, B, hI, tvI, rvI, hP, tvP, rvP, Nat.zero_le _, rfl, by omega, by omega, agI, agP, HS8.out⟩
          case round =>
            clear HS8 hA hB hi hlt agI agP
            obtain ⟨i, A, B, hI, tvI, rvI, hP, tvP, rvP, hi, rfl, hA, hB, agI, agP, s⟩ := hrel
            by_cases hlt : i < 2
            · have hlt' : ((i : Int) + 4 ≤ 5) = True := by simp; omega
              go_wp2_with fail
              refine (actInts_any agI n0 nsm (by omega) _ _ _ _ ((Sat.sub (s) (by with_reducible repeat first | exact Fr1 | exact Fr2 | (apply Fr3; focus ((repeat (first | exact Tk1 | apply Tk2)); done)) | apply Fr4)) : Sat W0 _ (keptA k A B :: tI b hb vb rb rhb rvb n hI tvI rvI (tP c hc vc sb shb svb N hP tvP rvP [])))).mono ?_
              rintro e w2 ⟨rfl, A', hI', tvI', rvI', hA', agI', s2⟩
              clear s
              go_wp2_with fail
              refine (actPairs_any agP N0 Nsm (by omega) _ _ _ _ ((Sat.sub (s2) (by with_reducible repeat first | exact Fr1 | exact Fr2 | (apply Fr3; focus ((repeat (first | exact Tk1 | apply Tk2)); done)) | apply Fr4)) : Sat W0 _ (keptA k A' B :: tP c hc vc sb shb svb N hP tvP rvP (tI b hb vb rb rhb rvb n hI' tvI' rvI' [])))).mono ?_
              rintro e w3 ⟨rfl, B', hP', tvP', rvP', hB', agP', s3⟩
              clear s2
              have HS := Lib.hid ((Sat.sub (s3) (by with_reducible repeat first | exact Fr1 | exact Fr2 | (apply Fr3; focus ((repeat (first | exact Tk1 | apply Tk2)); done)) | apply Fr4)) : Sat W0 _ (keptA k A' B' :: (tI b hb vb rb rhb rvb n hI' tvI' rvI' (tP c hc vc sb shb svb N hP' tvP' rvP' [])))); clear s3
              go_wp2_with fail
              exact ⟨⟨i + 1, A', B', hI', tvI', rvI', hP', tvP', rvP', by omega, by go_num, by omega, by omega, agI', agP', HS.out⟩, by simp [intOf]; omega⟩
            · obtain rfl : i = 2 := by omega
              go_wp2_with fail
              refine (again_any (by omega) (by omega) s).mono ?_
              rintro e w9 ⟨rfl, s9⟩
              clear s
              have HS := Lib.hid s9; clear s9
              go_wp2_with fail
              go_ret
              exact ⟨rfl, HS.out.below⟩
set_option maxRecDepth 100000 in
set_option maxHeartbeats 8000000 in
theorem script_yn (W0 : World) (most other : Int) (hm1 : 1 ≤ most) (hm2 : most ≤ 64) (ho : other < 1 ∨ 64 < other) (sa : Option Addr) (len cap : Nat) (acts : List A4) (ha : IsActs W0 sa len acts) (hlen : len ≤ 1000) :
    Calls Try.prog 3 #[.int .i64 most, .int .i64 other, .slice sa len cap] W0 fun e w' => e = .returned (.bool true) ∧ Below W0.heap.size W0 w' := by
  obtain ⟨ha1, -, ha2⟩ := ha
  have HA := Lib.hid (And.intro ha1 ha2); clear ha1 ha2
  have hle : ((1000 : Int) < (len : Int)) = False := by simp; omega
  go_enter Try.func3, Try.ntmps3
  go_wp2_with fail
  refine (new_int most hm1 hm2 (Sat.nil W0)).mono ?_
  rintro e w1 ⟨b, hb, vb, rfl, s1⟩
  go_wp2_with fail
  refine (new_no_pr other ho).mono ?_
  rintro e w2 ⟨rfl, rfl⟩
  have s2 := s1
  go_wp2_with fail
  refine (new_ref most hm1 hm2 s2).mono ?_
  rintro e w3 ⟨rb, rhb, rvb, rfl, s3⟩
  go_wp2_with fail
  refine (new_no_ref other ho).mono ?_
  rintro e w4 ⟨rfl, rfl⟩
  have s4 := s3
  have s4' := s4
  clear s1 s2 s3 s4
  go_wp2_with (refine wpl_box rfl 41 (.tmp 65) rfl [.slice none 0 0, .slice none 0 0, .slice none 0 0, .slice none 0 0, .slice none 0 0, .slice none 0 0] rfl s4' ?_; intro w5 k s5' _; clear s4'; have HS5 := Lib.hid (keptNew s5'); clear s5')
  obtain ⟨n, hn⟩ : ∃ n, n = most.toNat := ⟨_, rfl⟩
  have n0 : 0 < n := by omega
  have nsm : n ≤ 64 := by omega
  have s5 := HS5.out
  rw [← hn] at s5
  have s6 : Sat W0 w5 (keptA k [] [] :: (tI b hb vb rb rhb rvb n (List.replicate n false) (List.replicate n 0) (List.replicate n 0) [])) := (Sat.sub (s5) (by with_reducible repeat first | exact Fr1 | exact Fr2 | (apply Fr3; focus ((repeat (first | exact Tk1 | apply Tk2)); done)) | apply Fr4))
  have HS6 := Lib.hid s6
  clear s5 s6 HS5
  clear hn hm1 hm2 ho
  go_loopw [16] (fun t16 wr => ∃ (i : Nat) (A : List KI) (B : List KP) (hI : List Bool) (tvI rvI : List Int), i ≤ len ∧ t16 = .int .i64 (i : Int) ∧ A.length ≤ i ∧ B.length ≤ i ∧ agG 0 id n hI tvI rvI ∧ Sat W0 wr (keptA k A B :: (tI b hb vb rb rhb rvb n hI tvI rvI []))) (fun t16 _ => len - (intOf t16).toNat)
  case atStart => exact ⟨0, [], [], List.replicate n false, List.replicate n 0, List.replicate n 0, Nat.zero_le _, rfl, Nat.le_refl _, Nat.le_refl _, agG.init 0 id n, HS6.out⟩
  case round =>
    clear HS6
    obtain ⟨i, A, B, hI, tvI, rvI, hi, rfl, hA, hB, agI, s⟩ := hrel
    by_cases hlt : i < len
    · obtain ⟨x, hx⟩ : ∃ x, acts[i]? = some x := ⟨_, List.getElem?_eq_getElem (by rw [HA.out.1]; exact hlt)⟩
      obtain ⟨ab, ao, rfl, c0, c1, c2, c3, -, -⟩ := HA.out.2 i x hx
      replace c0 := s.old c0
      replace c1 := s.old c1
      replace c2 := s.old c2
      replace c3 := s.old c3
      have za := World.block_lt_of_cell? wr _ c0
      obtain ⟨x0, x1, x2, x3⟩ := x
      dsimp only at c0 c1 c2 c3 za
      clear hx
      have hlt' : (i : Int) < (len : Int) := by omega
      go_wp2_with fail
      refine (pickG 2 rfl (by omega) (by omega)).mono ?_
      rintro e w9 ⟨kk, hkk, rfl, rfl⟩
      obtain rfl | rfl : kk = 0 ∨ kk = 1 := by omega
      · skip
        go_wp2_with fail
        refine (actInts_any agI n0 nsm (by omega) _ _ _ _ ((Sat.sub (s) (by with_reducible repeat first | exact Fr1 | exact Fr2 | (apply Fr3; focus ((repeat (first | exact Tk1 | apply Tk2)); done)) | apply Fr4)) : Sat W0 _ (keptA k A B :: (tI b hb vb rb rhb rvb n hI tvI rvI [])))).mono ?_
        rintro e w2 ⟨rfl, A', hI', tvI', rvI', hA', agI', s2⟩
        clear s
        have HS := Lib.hid ((Sat.sub (s2) (by with_reducible repeat first | exact Fr1 | exact Fr2 | (apply Fr3; focus ((repeat (first | exact Tk1 | apply Tk2)); done)) | apply Fr4)) : Sat W0 _ (keptA k A' B :: (tI b hb vb rb rhb rvb n hI' tvI' rvI' []))); clear s2
        go_wp2_with fail
        exact ⟨⟨i + 1, A', B, hI', tvI', rvI', by omega, by go_num, by omega, by omega, agI', HS.out⟩, by simp [intOf]; omega⟩
      · skip
        have HS := Lib.hid ((Sat.sub (s) (by with_reducible repeat first | exact Fr1 | exact Fr2 | (apply Fr3; focus ((repeat (first | exact Tk1 | apply Tk2)); done)) | apply Fr4)) : Sat W0 _ (keptA k A B :: (tI b hb vb rb rhb rvb n hI tvI rvI []))); clear s
        go_wp2_with fail
        exact ⟨⟨i + 1, A, B, hI, tvI, rvI, by omega, by go_num, by omega, by omega, agI, HS.out⟩, by simp [intOf]; omega⟩
    · obtain rfl : i = len := by omega
      have HS7 := Lib.hid s; clear s
      go_wp2_with fail
      go_loopw [18] (fun t18 wr => ∃ (i : Nat) (A : List KI) (B : List KP) (hI : List Bool) (tvI rvI : List Int), i ≤ 66 ∧ t18 = .int .i64 ((i : Int) - 1) ∧ A.length ≤ (1000 + i) ∧ B.length ≤ (1000 + i) ∧ agG 0 id n hI tvI rvI ∧ Sat W0 wr (keptA k A B :: (tI b hb vb rb rhb rvb n hI tvI rvI []))) (fun t18 _ => 66 - (intOf t18 + 1).toNat)
      case atStart => exact ⟨0, A, B, hI, tvI, rvI, Nat.zero_le _, rfl, by omega, by omega, agI, HS7.out⟩
      case round =>
        clear HS7 hA hB hi hlt agI
        obtain ⟨i, A, B, hI, tvI, rvI, hi, rfl, hA, hB, agI, s⟩ := hrel
        by_cases hlt : i < 66
        · have hlt' : ((i : Int) - 1 ≤ 64) = True := by simp; omega
          go_wp2_with fail
          refine (actInts_any agI n0 nsm (by omega) _ _ _ _ ((Sat.sub (s) (by with_reducible repeat first | exact Fr1 | exact Fr2 | (apply Fr3; focus ((repeat (first | exact Tk1 | apply Tk2)); done)) | apply Fr4)) : Sat W0 _ (keptA k A B :: (tI b hb vb rb rhb rvb n hI tvI rvI [])))).mono ?_
          rintro e w2 ⟨rfl, A', hI', tvI', rvI', hA', agI', s2⟩
          clear s
          have HS := Lib.hid ((Sat.sub (s2) (by with_reducible repeat first | exact Fr1 | exact Fr2 | (apply Fr3; focus ((repeat (first | exact Tk1 | apply Tk2)); done)) | apply Fr4)) : Sat W0 _ (keptA k A' B :: (tI b hb vb rb rhb rvb n hI' tvI' rvI' []))); clear s2
          go_wp2_with fail
          exact ⟨⟨i + 1, A', B, hI', tvI', rvI', by omega, by go_num, by omega, by omega, agI', HS.out⟩, by simp [intOf]; omega⟩
        · obtain rfl : i = 66 := by omega
          rw [show (((66 : Nat) : Int) - 1) = 65 by decide]
          have HS8 := Lib.hid s; clear s
          go_wp2_with fail
          go_loopw [19] (fun t19 wr => ∃ (i : Nat) (A : List KI) (B : List KP) (hI : List Bool) (tvI rvI : List Int), i ≤ 2 ∧ t19 = .int .i64 ((i : Int) + 4) ∧ A.length ≤ (1066 + i) ∧ B.length ≤ (1066 + i) ∧ agG 0 id n hI tvI rvI ∧ Sat W0 wr (keptA k A B :: (tI b hb vb rb rhb rvb n hI tvI rvI []))) (fun t19 _ => 6 - (intOf t19).toNat)
          case atStart => exact ⟨0, A, B, hI, tvI, rvI, Nat.zero_le _, rfl, by omega, by omega, agI, HS8.out⟩
          case round =>
            clear HS8 hA hB hi hlt agI
            obtain ⟨i, A, B, hI, tvI, rvI, hi, rfl, hA, hB, agI, s⟩ := hrel
            by_cases hlt : i < 2
            · have hlt' : ((i : Int) + 4 ≤ 5) = True := by simp; omega
              go_wp2_with fail
              refine (actInts_any agI n0 nsm (by omega) _ _ _ _ ((Sat.sub (s) (by with_reducible repeat first | exact Fr1 | exact Fr2 | (apply Fr3; focus ((repeat (first | exact Tk1 | apply Tk2)); done)) | apply Fr4)) : Sat W0 _ (keptA k A B :: (tI b hb vb rb rhb rvb n hI tvI rvI [])))).mono ?_
              rintro e w2 ⟨rfl, A', hI', tvI', rvI', hA', agI', s2⟩
              clear s
              have HS := Lib.hid ((Sat.sub (s2) (by with_reducible repeat first | exact Fr1 | exact Fr2 | (apply Fr3; focus ((repeat (first | exact Tk1 | apply Tk2)); done)) | apply Fr4)) : Sat W0 _ (keptA k A' B :: (tI b hb vb rb rhb rvb n hI' tvI' rvI' []))); clear s2
              go_wp2_with fail
              exact ⟨⟨i + 1, A', B, hI', tvI', rvI', by omega, by go_num, by omega, by omega, agI', HS.out⟩, by simp [intOf]; omega⟩
            · obtain rfl : i = 2 := by omega
              go_wp2_with fail
              refine (again_any (by omega) (by omega) s).mono ?_
              rintro e w9 ⟨rfl, s9⟩
              clear s
              have HS := Lib.hid s9; clear s9
              go_wp2_with fail
              go_ret
              exact ⟨rfl, HS.out.below⟩
set_option maxRecDepth 100000 in
set_option maxHeartbeats 8000000 in
theorem script_ny (W0 : World) (most other : Int) (hm : most < 1 ∨ 64 < most) (ho1 : 1 ≤ other) (ho2 : other ≤ 64) (sa : Option Addr) (len cap : Nat) (acts : List A4) (ha : IsActs W0 sa len acts) (hlen : len ≤ 1000) :
    Calls Try.prog 3 #[.int .i64 most, .int .i64 other, .slice sa len cap] W0 fun e w' => e = .returned (.bool true) ∧ Below W0.heap.size W0 w' := by
  obtain ⟨ha1, -, ha2⟩ := ha
  have HA := Lib.hid (And.intro ha1 ha2); clear ha1 ha2
  have hle : ((1000 : Int) < (len : Int)) = False := by simp; omega
  go_enter Try.func3, Try.ntmps3
  go_wp2_with fail
  refine (new_no_int most hm).mono ?_
  rintro e w1 ⟨rfl, rfl⟩
  have s1 := Sat.nil W0
  go_wp2_with fail
  refine (new_pr other ho1 ho2 s1).mono ?_
  rintro e w2 ⟨c, hc, vc, rfl, s2⟩
  go_wp2_with fail
  refine (new_no_ref most hm).mono ?_
  rintro e w3 ⟨rfl, rfl⟩
  have s3 := s2
  go_wp2_with fail
  refine (new_ref other ho1 ho2 s3).mono ?_
  rintro e w4 ⟨sb, shb, svb, rfl, s4⟩
  have s4' := s4
  clear s1 s2 s3 s4
  go_wp2_with (refine wpl_box rfl 41 (.tmp 65) rfl [.slice none 0 0, .slice none 0 0, .slice none 0 0, .slice none 0 0, .slice none 0 0, .slice none 0 0] rfl s4' ?_; intro w5 k s5' _; clear s4'; have HS5 := Lib.hid (keptNew s5'); clear s5')
  obtain ⟨N, hN⟩ : ∃ n, n = other.toNat := ⟨_, rfl⟩
  have N0 : 0 < N := by omega
  have Nsm : N ≤ 64 := by omega
  have s5 := HS5.out
  rw [← hN] at s5
  have s6 : Sat W0 w5 (keptA k [] [] :: (tP c hc vc sb shb svb N (List.replicate N false) (List.replicate N (0, 0)) (List.replicate N 0) [])) := (Sat.sub (s5) (by with_reducible repeat first | exact Fr1 | exact Fr2 | (apply Fr3; focus ((repeat (first | exact Tk1 | apply Tk2)); done)) | apply Fr4))
  have HS6 := Lib.hid s6
  clear s5 s6 HS5
  clear hm hN ho1 ho2
  go_loopw [16] (fun t16 wr => ∃ (i : Nat) (A : List KI) (B : List KP) (hP : List Bool) (tvP : List A2) (rvP : List Int), i ≤ len ∧ t16 = .int .i64 (i : Int) ∧ A.length ≤ i ∧ B.length ≤ i ∧ agG (0, 0) prT N hP tvP rvP ∧ Sat W0 wr (keptA k A B :: (tP c hc vc sb shb svb N hP tvP rvP []))) (fun t16 _ => len - (intOf t16).toNat)
  case atStart => exact ⟨0, [], [], List.replicate N false, List.replicate N (0, 0), List.replicate N 0, Nat.zero_le _, rfl, Nat.le_refl _, Nat.le_refl _, agG.init (0, 0) prT N, HS6.out⟩
  case round =>
    clear HS6
    obtain ⟨i, A, B, hP, tvP, rvP, hi, rfl, hA, hB, agP, s⟩ := hrel
    by_cases hlt : i < len
    · obtain ⟨x, hx⟩ : ∃ x, acts[i]? = some x := ⟨_, List.getElem?_eq_getElem (by rw [HA.out.1]; exact hlt)⟩
      obtain ⟨ab, ao, rfl, c0, c1, c2, c3, -, -⟩ := HA.out.2 i x hx
      replace c0 := s.old c0
      replace c1 := s.old c1
      replace c2 := s.old c2
      replace c3 := s.old c3
      have za := World.block_lt_of_cell? wr _ c0
      obtain ⟨x0, x1, x2, x3⟩ := x
      dsimp only at c0 c1 c2 c3 za
      clear hx
      have hlt' : (i : Int) < (len : Int) := by omega
      go_wp2_with fail
      refine (pickG 2 rfl (by omega) (by omega)).mono ?_
      rintro e w9 ⟨kk, hkk, rfl, rfl⟩
      obtain rfl | rfl : kk = 0 ∨ kk = 1 := by omega
      · skip
        have HS := Lib.hid ((Sat.sub (s) (by with_reducible repeat first | exact Fr1 | exact Fr2 | (apply Fr3; focus ((repeat (first | exact Tk1 | apply Tk2)); done)) | apply Fr4)) : Sat W0 _ (keptA k A B :: (tP c hc vc sb shb svb N hP tvP rvP []))); clear s
        go_wp2_with fail
        exact ⟨⟨i + 1, A, B, hP, tvP, rvP, by omega, by go_num, by omega, by omega, agP, HS.out⟩, by simp [intOf]; omega⟩
      · skip
        go_wp2_with fail
        refine (actPairs_any agP N0 Nsm (by omega) _ _ _ _ ((Sat.sub (s) (by with_reducible repeat first | exact Fr1 | exact Fr2 | (apply Fr3; focus ((repeat (first | exact Tk1 | apply Tk2)); done)) | apply Fr4)) : Sat W0 _ (keptA k A B :: (tP c hc vc sb shb svb N hP tvP rvP [])))).mono ?_
        rintro e w3 ⟨rfl, B', hP', tvP', rvP', hB', agP', s3⟩
        clear s
        have HS := Lib.hid ((Sat.sub (s3) (by with_reducible repeat first | exact Fr1 | exact Fr2 | (apply Fr3; focus ((repeat (first | exact Tk1 | apply Tk2)); done)) | apply Fr4)) : Sat W0 _ (keptA k A B' :: (tP c hc vc sb shb svb N hP' tvP' rvP' []))); clear s3
        go_wp2_with fail
        exact ⟨⟨i + 1, A, B', hP', tvP', rvP', by omega, by go_num, by omega, by omega, agP', HS.out⟩, by simp [intOf]; omega⟩
    · obtain rfl : i = len := by omega
      have HS7 := Lib.hid s; clear s
      go_wp2_with fail
      go_loopw [18] (fun t18 wr => ∃ (i : Nat) (A : List KI) (B : List KP) (hP : List Bool) (tvP : List A2) (rvP : List Int), i ≤ 66 ∧ t18 = .int .i64 ((i : Int) - 1) ∧ A.length ≤ (1000 + i) ∧ B.length ≤ (1000 + i) ∧ agG (0, 0) prT N hP tvP rvP ∧ Sat W0 wr (keptA k A B :: (tP c hc vc sb shb svb N hP tvP rvP []))) (fun t18 _ => 66 - (intOf t18 + 1).toNat)
      case atStart => exact ⟨0, A, B, hP, tvP, rvP, Nat.zero_le _, rfl, by omega, by omega, agP, HS7.out⟩
      case round =>
        clear HS7 hA hB hi hlt agP
        obtain ⟨i, A, B, hP, tvP, rvP, hi, rfl, hA, hB, agP, s⟩ := hrel
        by_cases hlt : i < 66
        · have hlt' : ((i : Int) - 1 ≤ 64) = True := by simp; omega
          go_wp2_with fail
          refine (actPairs_any agP N0 Nsm (by omega) _ _ _ _ ((Sat.sub (s) (by with_reducible repeat first | exact Fr1 | exact Fr2 | (apply Fr3; focus ((repeat (first | exact Tk1 | apply Tk2)); done)) | apply Fr4)) : Sat W0 _ (keptA k A B :: (tP c hc vc sb shb svb N hP tvP rvP [])))).mono ?_
          rintro e w3 ⟨rfl, B', hP', tvP', rvP', hB', agP', s3⟩
          clear s
          have HS := Lib.hid ((Sat.sub (s3) (by with_reducible repeat first | exact Fr1 | exact Fr2 | (apply Fr3; focus ((repeat (first | exact Tk1 | apply Tk2)); done)) | apply Fr4)) : Sat W0 _ (keptA k A B' :: (tP c hc vc sb shb svb N hP' tvP' rvP' []))); clear s3
          go_wp2_with fail
          exact ⟨⟨i + 1, A, B', hP', tvP', rvP', by omega, by go_num, by omega, by omega, agP', HS.out⟩, by simp [intOf]; omega⟩
        · obtain rfl : i = 66 := by omega
          rw [show (((66 : Nat) : Int) - 1) = 65 by decide]
          have HS8 := Lib.hid s; clear s
          go_wp2_with fail
          go_loopw [19] (fun t19 wr => ∃ (i : Nat) (A : List KI) (B : List KP) (hP : List Bool) (tvP : List A2) (rvP : List Int), i ≤ 2 ∧ t19 = .int .i64 ((i : Int) + 4) ∧ A.length ≤ (1066 + i) ∧ B.length ≤ (1066 + i) ∧ agG (0, 0) prT N hP tvP rvP ∧ Sat W0 wr (keptA k A B :: (tP c hc vc sb shb svb N hP tvP rvP []))) (fun t19 _ => 6 - (intOf t19).toNat)
          case atStart => exact ⟨0, A, B, hP, tvP, rvP, Nat.zero_le _, rfl, by omega, by omega, agP, HS8.out⟩
          case round =>
            clear HS8 hA hB hi hlt agP
            obtain ⟨i, A, B, hP, tvP, rvP, hi, rfl, hA, hB, agP, s⟩ := hrel
            by_cases hlt : i < 2
            · have hlt' : ((i : Int) + 4 ≤ 5) = True := by simp; omega
              go_wp2_with fail
              refine (actPairs_any agP N0 Nsm (by omega) _ _ _ _ ((Sat.sub (s) (by with_reducible repeat first | exact Fr1 | exact Fr2 | (apply Fr3; focus ((repeat (first | exact Tk1 | apply Tk2)); done)) | apply Fr4)) : Sat W0 _ (keptA k A B :: (tP c hc vc sb shb svb N hP tvP rvP [])))).mono ?_
              rintro e w3 ⟨rfl, B', hP', tvP', rvP', hB', agP', s3⟩
              clear s
              have HS := Lib.hid ((Sat.sub (s3) (by with_reducible repeat first | exact Fr1 | exact Fr2 | (apply Fr3; focus ((repeat (first | exact Tk1 | apply Tk2)); done)) | apply Fr4)) : Sat W0 _ (keptA k A B' :: (tP c hc vc sb shb svb N hP' tvP' rvP' []))); clear s3
              go_wp2_with fail
              exact ⟨⟨i + 1, A, B', hP', tvP', rvP', by omega, by go_num, by omega, by omega, agP', HS.out⟩, by simp [intOf]; omega⟩
            · obtain rfl : i = 2 := by omega
              go_wp2_with fail
              refine (again_any (by omega) (by omega) s).mono ?_
              rintro e w9 ⟨rfl, s9⟩
              clear s
              have HS := Lib.hid s9; clear s9
              go_wp2_with fail
              go_ret
              exact ⟨rfl, HS.out.below⟩
set_option maxRecDepth 100000 in
set_option maxHeartbeats 8000000 in
theorem script_nn (W0 : World) (most other : Int) (hm : most < 1 ∨ 64 < most) (ho : other < 1 ∨ 64 < other) (sa : Option Addr) (len cap : Nat) (acts : List A4) (ha : IsActs W0 sa len acts) (hlen : len ≤ 1000) :
    Calls Try.prog 3 #[.int .i64 most, .int .i64 other, .slice sa len cap] W0 fun e w' => e = .returned (.bool true) ∧ Below W0.heap.size W0 w' := by
  obtain ⟨ha1, -, ha2⟩ := ha
  have HA := Lib.hid (And.intro ha1 ha2); clear ha1 ha2
  have hle : ((1000 : Int) < (len : Int)) = False := by simp; omega
  go_enter Try.func3, Try.ntmps3
  go_wp2_with fail
  refine (new_no_int most hm).mono ?_
  rintro e w1 ⟨rfl, rfl⟩
  have s1 := Sat.nil W0
  go_wp2_with fail
  refine (new_no_pr other ho).mono ?_
  rintro e w2 ⟨rfl, rfl⟩
  have s2 := s1
  go_wp2_with fail
  refine (new_no_ref most hm).mono ?_
  rintro e w3 ⟨rfl, rfl⟩
  have s3 := s2
  go_wp2_with fail
  refine (new_no_ref other ho).mono ?_
  rintro e w4 ⟨rfl, rfl⟩
  have s4 := s3
  have s4' := s4
  clear s1 s2 s3 s4
  go_wp2_with (refine wpl_box rfl 41 (.tmp 65) rfl [.slice none 0 0, .slice none 0 0, .slice none 0 0, .slice none 0 0, .slice none 0 0, .slice none 0 0] rfl s4' ?_; intro w5 k s5' _; clear s4'; have HS5 := Lib.hid (keptNew s5'); clear s5')

  have s5 := HS5.out
  have s6 : Sat W0 w5 (keptA k [] [] :: []) := (Sat.sub (s5) (by with_reducible repeat first | exact Fr1 | exact Fr2 | (apply Fr3; focus ((repeat (first | exact Tk1 | apply Tk2)); done)) | apply Fr4))
  have HS6 := Lib.hid s6
  clear s5 s6 HS5
  clear hm ho
  go_loopw [16] (fun t16 wr => ∃ (i : Nat) (A : List KI) (B : List KP), i ≤ len ∧ t16 = .int .i64 (i : Int) ∧ A.length ≤ i ∧ B.length ≤ i ∧ Sat W0 wr (keptA k A B :: [])) (fun t16 _ => len - (intOf t16).toNat)
  case atStart => exact ⟨0, [], [], Nat.zero_le _, rfl, Nat.le_refl _, Nat.le_refl _, HS6.out⟩
  case round =>
    clear HS6
    obtain ⟨i, A, B, hi, rfl, hA, hB, s⟩ := hrel
    by_cases hlt : i < len
    · obtain ⟨x, hx⟩ : ∃ x, acts[i]? = some x := ⟨_, List.getElem?_eq_getElem (by rw [HA.out.1]; exact hlt)⟩
      obtain ⟨ab, ao, rfl, c0, c1, c2, c3, -, -⟩ := HA.out.2 i x hx
      replace c0 := s.old c0
      replace c1 := s.old c1
      replace c2 := s.old c2
      replace c3 := s.old c3
      have za := World.block_lt_of_cell? wr _ c0
      obtain ⟨x0, x1, x2, x3⟩ := x
      dsimp only at c0 c1 c2 c3 za
      clear hx
      have hlt' : (i : Int) < (len : Int) := by omega
      go_wp2_with fail
      refine (pickG 2 rfl (by omega) (by omega)).mono ?_
      rintro e w9 ⟨kk, hkk, rfl, rfl⟩
      obtain rfl | rfl : kk = 0 ∨ kk = 1 := by omega
      · skip
        have HS := Lib.hid ((Sat.sub (s) (by with_reducible repeat first | exact Fr1 | exact Fr2 | (apply Fr3; focus ((repeat (first | exact Tk1 | apply Tk2)); done)) | apply Fr4)) : Sat W0 _ (keptA k A B :: [])); clear s
        go_wp2_with fail
        exact ⟨⟨i + 1, A, B, by omega, by go_num, by omega, by omega, HS.out⟩, by simp [intOf]; omega⟩
      · skip
        have HS := Lib.hid ((Sat.sub (s) (by with_reducible repeat first | exact Fr1 | exact Fr2 | (apply Fr3; focus ((repeat (first | exact Tk1 | apply Tk2)); done)) | apply Fr4)) : Sat W0 _ (keptA k A B :: [])); clear s
        go_wp2_with fail
        exact ⟨⟨i + 1, A, B, by omega, by go_num, by omega, by omega, HS.out⟩, by simp [intOf]; omega⟩
    · obtain rfl : i = len := by omega
      have HS7 := Lib.hid s; clear s
      go_wp2_with fail
      go_loopw [18] (fun t18 wr => ∃ (i : Nat) (A : List KI) (B : List KP), i ≤ 66 ∧ t18 = .int .i64 ((i : Int) - 1) ∧ A.length ≤ (1000 + i) ∧ B.length ≤ (1000 + i) ∧ Sat W0 wr (keptA k A B :: [])) (fun t18 _ => 66 - (intOf t18 + 1).toNat)
      case atStart => exact ⟨0, A, B, Nat.zero_le _, rfl, by omega, by omega, HS7.out⟩
      case round =>
        clear HS7 hA hB hi hlt
        obtain ⟨i, A, B, hi, rfl, hA, hB, s⟩ := hrel
        by_cases hlt : i < 66
        · have hlt' : ((i : Int) - 1 ≤ 64) = True := by simp; omega
          have HS := Lib.hid ((Sat.sub (s) (by with_reducible repeat first | exact Fr1 | exact Fr2 | (apply Fr3; focus ((repeat (first | exact Tk1 | apply Tk2)); done)) | apply Fr4)) : Sat W0 _ (keptA k A B :: [])); clear s
          go_wp2_with fail
          exact ⟨⟨i + 1, A, B, by omega, by go_num, by omega, by omega, HS.out⟩, by simp [intOf]; omega⟩
        · obtain rfl : i = 66 := by omega
          rw [show (((66 : Nat) : Int) - 1) = 65 by decide]
          have HS8 := Lib.hid s; clear s
          go_wp2_with fail
          go_loopw [19] (fun t19 wr => ∃ (i : Nat) (A : List KI) (B : List KP), i ≤ 2 ∧ t19 = .int .i64 ((i : Int) + 4) ∧ A.length ≤ (1066 + i) ∧ B.length ≤ (1066 + i) ∧ Sat W0 wr (keptA k A B :: [])) (fun t19 _ => 6 - (intOf t19).toNat)
          case atStart => exact ⟨0, A, B, Nat.zero_le _, rfl, by omega, by omega, HS8.out⟩
          case round =>
            clear HS8 hA hB hi hlt
            obtain ⟨i, A, B, hi, rfl, hA, hB, s⟩ := hrel
            by_cases hlt : i < 2
            · have hlt' : ((i : Int) + 4 ≤ 5) = True := by simp; omega
              have HS := Lib.hid ((Sat.sub (s) (by with_reducible repeat first | exact Fr1 | exact Fr2 | (apply Fr3; focus ((repeat (first | exact Tk1 | apply Tk2)); done)) | apply Fr4)) : Sat W0 _ (keptA k A B :: [])); clear s
              go_wp2_with fail
              exact ⟨⟨i + 1, A, B, by omega, by go_num, by omega, by omega, HS.out⟩, by simp [intOf]; omega⟩
            · obtain rfl : i = 2 := by omega
              go_wp2_with fail
              refine (again_any (by omega) (by omega) s).mono ?_
              rintro e w9 ⟨rfl, s9⟩
              clear s
              have HS := Lib.hid s9; clear s9
              go_wp2_with fail
              go_ret
              exact ⟨rfl, HS.out.below⟩
set_option maxRecDepth 100000 in
theorem script_any (W0 : World) (most other : Int) (q : Option Addr × Nat × Nat × List A4) (ha : IsActs W0 q.1 q.2.1 q.2.2.2) :
    Calls Try.prog 3 #[.int .i64 most, .int .i64 other, .slice q.1 q.2.1 q.2.2.1] W0 fun e w' => e = .returned (.bool true) ∧ Below W0.heap.size W0 w' := by
  by_cases hlen : q.2.1 ≤ 1000
  · by_cases h1 : most < 1 ∨ 64 < most
    · by_cases h2 : other < 1 ∨ 64 < other
      · exact script_nn W0 most other h1 h2 _ _ _ _ ha hlen
      · exact script_ny W0 most other h1 (by omega) (by omega) _ _ _ _ ha hlen
    · by_cases h2 : other < 1 ∨ 64 < other
      · exact script_yn W0 most other (by omega) (by omega) h2 _ _ _ _ ha hlen
      · exact script_yy W0 most other (by omega) (by omega) (by omega) (by omega) _ _ _ _ ha hlen
  · obtain ⟨sa, len, cap, acts⟩ := q
    dsimp only at hlen ⊢
    clear ha
    have hle : ((1000 : Int) < (len : Int)) = True := by simp; omega
    go_enter Try.func3, Try.ntmps3
    go_wp2_with fail
    go_ret
    exact ⟨rfl, Below.refl _ _⟩
end Go.Proofs.Ytpiiklfnakkdiaa
