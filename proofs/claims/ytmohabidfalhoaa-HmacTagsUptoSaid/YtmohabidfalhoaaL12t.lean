/- HmacTags: the tag of any algorithm, key and message is the document's, with a ledger and without one; where the arguments read as bytes, of bulk at most 1048576. -/
import Derived.Test.YtmohabidfalhoaaR12b
import Derived.Test.YtmohabidfalhoaaHm4
import Derived.Test.YtmohabidfalhoaaArg
namespace Go.Proofs.Ytmohabidfalhoaa
open Go.RowKit Go.Sep Go.Bv Go.Sha
set_option linter.unusedVariables false
set_option linter.unusedSimpArgs false
set_option maxRecDepth 100000 in
set_option maxHeartbeats 2000000 in
theorem htags_alg (W : World) (wide : Bool) (p1 p2 : Option Addr) (n1 c1 n2 c2 : Nat) (K P : List Byte) (hK : K.length = n1) (hK1 : n1 ≤ c1) (hK2 : c1 ≤ maxLen) (hK3 : n1 ≤ 1048576) (hP : P.length = n2) (hP1 : n2 ≤ c2) (hP2 : c2 ≤ maxLen) (hP3 : n2 ≤ 1048576) (s0 : Sat W W (bytes false p1 K :: bytes false p2 P :: [])) :
    Calls Try.prog 6 #[.int .u8 (algN wide), .slice p1 n1 c1, .slice p2 n2 c2] W fun e W' => e = .returned (.bool true) ∧ Below W.heap.size W W' := by
  have hkn : keyN wide n1 ≤ n1 + 4 := by
    unfold keyN
    split
    · cases wide <;> simp only [padN, bsz, roomN] <;> omega
    · omega
  have hen : endN wide n2 ≤ 3 ∧ 0 < endN wide n2 := by cases wide <;> simp only [endN, padN, roomN, bsz] <;> omega
  have hdn : n2 / bsz wide ≤ n2 := Nat.div_le_self _ _
  obtain ⟨N, hN⟩ : ∃ N, N = keyN wide n1 + n2 / bsz wide + endN wide n2 := ⟨_, rfl⟩
  have hN0 : 0 < N := by rw [hN]; exact Nat.lt_of_lt_of_le hen.2 (Nat.le_add_left _ _)
  have hNR : noteN [] (evK wide) (evS wide) N = [(evK wide, evS wide, N)] := by unfold noteN; rw [if_neg (by omega)]; rfl
  have hTl : (hmac wide K P).length = hsz wide := hash_len _ _
  obtain ⟨T, hT⟩ : ∃ T, T = hmac wide K P := ⟨_, rfl⟩
  obtain ⟨H, hH⟩ : ∃ H, H = hsz wide := ⟨_, rfl⟩
  have hH1 : H ≤ 64 := by rw [hH]; cases wide <;> decide
  rw [← hT, ← hH] at hTl
  have ht := fun (w : World) (L : List Assn) (p : Option Nat) (pv : Value) (hp : pv = ptrO p) (s : Sat W w (ledO p [] :: bytes false p1 K :: bytes false p2 P :: L)) => hmacTagF wide p [] K P hK hP hp (rfl : Value.int .u8 (algN wide) = _) hK1 hK2 hP1 hP2 (by simp only [tot]; omega) (by decide) s
  have hr := fun (w : World) (L : List Assn) (k : Nat) (s : Sat W w (rledO (some k) [] :: bytes false p1 K :: bytes false p2 P :: L)) => rtag12 (cap := c1) (cap2 := c2) wide (some k) [] K P rfl rfl hK (by omega) hP (by omega) (by simp only [tot]; omega) (by decide) s
  rw [← hN, ← hT, ← hH, hNR] at ht hr
  have HN := Lib.hid (And.intro ht (And.intro hr (And.intro hTl hH1))); clear ht hr hTl hH1 hN hT hH hNR hkn hen hdn hK hP hN0
  go_enter Try.func6, Try.ntmps6
  go_wp2_with fail
  refine (ledNewF s0).mono ?_
  rintro e w1 ⟨l, rfl, s1⟩
  clear s0
  go_wp2_with fail
  refine (rledNew s1).mono ?_
  rintro e w2 ⟨k, rfl, s2⟩
  clear s1
  go_wp2_with fail
  refine (HN.out.1 _ _ (some l) _ rfl (by (repeat (first | with_reducible apply Sat.sub (s2) | with_reducible apply Sat.alloc' | with_reducible apply Sat.drew | with_reducible apply Sat.drewN)); (repeat (first | with_reducible exact Fr.done | with_reducible exact Fr.nil | (with_reducible apply Fr.cons; (focus ((repeat (first | with_reducible exact Take.here | with_reducible apply Take.there)); done))) | with_reducible apply Fr.skip)); done)).mono ?_
  rintro e w3 ⟨qb, cb, rfl, -, -, s3⟩
  clear s2
  go_wp2_with fail
  refine (HN.out.1 _ _ none _ rfl (by (repeat (first | with_reducible apply Sat.sub (ledNone s3) | with_reducible apply Sat.alloc' | with_reducible apply Sat.drew | with_reducible apply Sat.drewN)); (repeat (first | with_reducible exact Fr.done | with_reducible exact Fr.nil | (with_reducible apply Fr.cons; (focus ((repeat (first | with_reducible exact Take.here | with_reducible apply Take.there)); done))) | with_reducible apply Fr.skip)); done)).mono ?_
  rintro e w4 ⟨qc, cc, rfl, -, -, s4⟩
  clear s3
  have s5 : Sat W w4 (rledO (some k) [] :: bytes false p1 K :: bytes false p2 P :: bytes true qc T :: bytes true qb T :: ledO (some l) [(evK wide, evS wide, N)] :: []) := (show Sat W w4 (rled k [] :: bytes false p1 K :: bytes false p2 P :: bytes true qc T :: bytes true qb T :: ledO (some l) [(evK wide, evS wide, N)] :: []) from (by (repeat (first | with_reducible apply Sat.sub (s4) | with_reducible apply Sat.alloc' | with_reducible apply Sat.drew | with_reducible apply Sat.drewN)); (repeat (first | with_reducible exact Fr.done | with_reducible exact Fr.nil | (with_reducible apply Fr.cons; (focus ((repeat (first | with_reducible exact Take.here | with_reducible apply Take.there)); done))) | with_reducible apply Fr.skip)); done))
  clear s4
  go_wp2_with fail
  refine (HN.out.2.1 _ _ k s5).mono ?_
  rintro e w6 ⟨qw, cw, rfl, s6⟩
  clear s5
  have s7 : Sat W w6 (bytes true qw T :: rled k [(evK wide, evS wide, N)] :: bytes false p1 K :: bytes false p2 P :: bytes true qc T :: bytes true qb T :: ledO (some l) [(evK wide, evS wide, N)] :: []) := s6
  clear s6
  go_wp2_with fail
  refine (sameT T T HN.out.2.2.1 HN.out.2.2.1 (by have := HN.out.2.2.2; omega) rfl (show Sat W w6 (bytes true qb T :: bytes true qw T :: rled k [(evK wide, evS wide, N)] :: bytes true qc T :: ledO (some l) [(evK wide, evS wide, N)] :: []) from (by (repeat (first | with_reducible apply Sat.sub (s7) | with_reducible apply Sat.alloc' | with_reducible apply Sat.drew | with_reducible apply Sat.drewN)); (repeat (first | with_reducible exact Fr.done | with_reducible exact Fr.nil | (with_reducible apply Fr.cons; (focus ((repeat (first | with_reducible exact Take.here | with_reducible apply Take.there)); done))) | with_reducible apply Fr.skip)); done))).mono ?_
  rintro e w8 ⟨rfl, s8⟩
  clear s7
  go_wp2_with fail
  refine (sameT T T HN.out.2.2.1 HN.out.2.2.1 (by have := HN.out.2.2.2; omega) rfl (show Sat W w8 (bytes true qc T :: bytes true qw T :: rled k [(evK wide, evS wide, N)] :: ledO (some l) [(evK wide, evS wide, N)] :: []) from (by (repeat (first | with_reducible apply Sat.sub (s8) | with_reducible apply Sat.alloc' | with_reducible apply Sat.drew | with_reducible apply Sat.drewN)); (repeat (first | with_reducible exact Fr.done | with_reducible exact Fr.nil | (with_reducible apply Fr.cons; (focus ((repeat (first | with_reducible exact Take.here | with_reducible apply Take.there)); done))) | with_reducible apply Fr.skip)); done))).mono ?_
  rintro e w9 ⟨rfl, s9⟩
  clear s8
  go_wp2_with fail
  refine (ledRunsF (l := l) (rs := [(evK wide, evS wide, N)]) (by simp) (by (repeat (first | with_reducible apply Sat.sub (s9) | with_reducible apply Sat.alloc' | with_reducible apply Sat.drew | with_reducible apply Sat.drewN)); (repeat (first | with_reducible exact Fr.done | with_reducible exact Fr.nil | (with_reducible apply Fr.cons; (focus ((repeat (first | with_reducible exact Take.here | with_reducible apply Take.there)); done))) | with_reducible apply Fr.skip)); done)).mono ?_
  rintro e w10 ⟨q5, c5, rfl, s10⟩
  clear s9
  go_wp2_with fail
  refine (rledRuns (l := k) (rs := [(evK wide, evS wide, N)]) (by simp) (by (repeat (first | with_reducible apply Sat.sub (s10) | with_reducible apply Sat.alloc' | with_reducible apply Sat.drew | with_reducible apply Sat.drewN)); (repeat (first | with_reducible exact Fr.done | with_reducible exact Fr.nil | (with_reducible apply Fr.cons; (focus ((repeat (first | with_reducible exact Take.here | with_reducible apply Take.there)); done))) | with_reducible apply Fr.skip)); done)).mono ?_
  rintro e w11 ⟨q6, c6, rfl, s11⟩
  clear s10
  go_wp2_with fail
  refine (sameRuns [(evK wide, evS wide, N)] (by rfl) (by rfl) (by simp) (by (repeat (first | with_reducible apply Sat.sub (s11) | with_reducible apply Sat.alloc' | with_reducible apply Sat.drew | with_reducible apply Sat.drewN)); (repeat (first | with_reducible exact Fr.done | with_reducible exact Fr.nil | (with_reducible apply Fr.cons; (focus ((repeat (first | with_reducible exact Take.here | with_reducible apply Take.there)); done))) | with_reducible apply Fr.skip)); done)).mono ?_
  rintro e w12 ⟨rfl, s12⟩
  go_wp2
  go_ret
  exact ⟨rfl, s12.below⟩
set_option maxHeartbeats 1000000 in
theorem htags_none (W : World) (a : Int) (a1 : ¬ a = 1) (a2 : ¬ a = 2) (v u : Value) (s0 : Sat W W []) :
    Calls Try.prog 6 #[.int .u8 a, v, u] W fun e W' => e = .returned (.bool true) ∧ Below W.heap.size W W' := by
  go_enter Try.func6, Try.ntmps6
  go_wp2_with fail
  refine (ledNewF s0).mono ?_
  rintro e w1 ⟨l, rfl, s1⟩
  clear s0
  go_wp2_with fail
  refine (rledNew s1).mono ?_
  rintro e w2 ⟨k, rfl, s2⟩
  clear s1
  go_wp2_with fail
  refine (hmacTagNone a a1 a2 _ _ _ s2).mono ?_
  rintro e w3 ⟨rfl, s3⟩
  clear s2
  go_wp2_with fail
  refine (hmacTagNone a a1 a2 _ _ _ s3).mono ?_
  rintro e w4 ⟨rfl, s4⟩
  clear s3
  go_wp2_with fail
  refine (rtag12None a a1 a2 _ _ _ s4).mono ?_
  rintro e w5 ⟨rfl, s5⟩
  clear s4
  go_wp2_with fail
  refine (sameT (n := 0) (k := 0) [] [] rfl rfl (by decide) rfl (bytesNil true none (bytesNil true none s5))).mono ?_
  rintro e w6 ⟨rfl, s6⟩
  clear s5
  go_wp2_with fail
  refine (sameT (n := 0) (k := 0) [] [] rfl rfl (by decide) rfl s6).mono ?_
  rintro e w7 ⟨rfl, s7⟩
  clear s6
  go_wp2_with fail
  refine (ledRunsF (l := l) (rs := []) (by simp) (by (repeat (first | with_reducible apply Sat.sub (s7) | with_reducible apply Sat.alloc' | with_reducible apply Sat.drew | with_reducible apply Sat.drewN)); (repeat (first | with_reducible exact Fr.done | with_reducible exact Fr.nil | (with_reducible apply Fr.cons; (focus ((repeat (first | with_reducible exact Take.here | with_reducible apply Take.there)); done))) | with_reducible apply Fr.skip)); done)).mono ?_
  rintro e w8 ⟨q5, c5, rfl, s8⟩
  clear s7
  go_wp2_with fail
  refine (rledRuns (l := k) (rs := []) (by simp) (by (repeat (first | with_reducible apply Sat.sub (s8) | with_reducible apply Sat.alloc' | with_reducible apply Sat.drew | with_reducible apply Sat.drewN)); (repeat (first | with_reducible exact Fr.done | with_reducible exact Fr.nil | (with_reducible apply Fr.cons; (focus ((repeat (first | with_reducible exact Take.here | with_reducible apply Take.there)); done))) | with_reducible apply Fr.skip)); done)).mono ?_
  rintro e w9 ⟨q6, c6, rfl, s9⟩
  clear s8
  go_wp2_with fail
  refine (sameRuns [] (by rfl) (by rfl) (by simp) (by (repeat (first | with_reducible apply Sat.sub (s9) | with_reducible apply Sat.alloc' | with_reducible apply Sat.drew | with_reducible apply Sat.drewN)); (repeat (first | with_reducible exact Fr.done | with_reducible exact Fr.nil | (with_reducible apply Fr.cons; (focus ((repeat (first | with_reducible exact Take.here | with_reducible apply Take.there)); done))) | with_reducible apply Fr.skip)); done)).mono ?_
  rintro e w10 ⟨rfl, s10⟩
  go_wp2
  go_ret
  exact ⟨rfl, s10.below⟩
theorem htags_any (W : World) (a : Int) (x y : Option Addr × Nat × Nat × List Byte) (h : IsBytes W x.1 x.2.1 x.2.2.1 x.2.2.2) (h2 : IsBytes W y.1 y.2.1 y.2.2.1 y.2.2.2) (hb : x.2.2.1 ≤ 1048576) (hb2 : y.2.2.1 ≤ 1048576) :
    Calls Try.prog 6 #[.int .u8 a, .slice x.1 x.2.1 x.2.2.1, .slice y.1 y.2.1 y.2.2.1] W fun e W' => e = .returned (.bool true) ∧ Below W.heap.size W W' := by
  obtain ⟨p1, n1, c1, K⟩ := x
  obtain ⟨p2, n2, c2, P⟩ := y
  simp only at h h2 hb hb2 ⊢
  have s0 : Sat W W (bytes false p1 K :: bytes false p2 P :: []) := h.sat (h2.sat (Sat.nil W))
  obtain ⟨hK, hK1, hK2, -⟩ := h
  obtain ⟨hP, hP1, hP2, -⟩ := h2
  by_cases a1 : a = 1
  · subst a1
    exact htags_alg W false p1 p2 n1 c1 n2 c2 K P hK hK1 hK2 (by omega) hP hP1 hP2 (by omega) s0
  · by_cases a2 : a = 2
    · subst a2
      exact htags_alg W true p1 p2 n1 c1 n2 c2 K P hK hK1 hK2 (by omega) hP hP1 hP2 (by omega) s0
    · exact htags_none W a a1 a2 _ _ (Sat.nil W)
end Go.Proofs.Ytmohabidfalhoaa
