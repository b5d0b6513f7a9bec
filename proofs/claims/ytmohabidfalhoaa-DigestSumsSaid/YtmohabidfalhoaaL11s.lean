/- DigestSums: the digest of any bytes by any algorithm is the document's, so is what is recorded, and each answer is memory of its own; where the argument reads as bytes. -/
import Derived.Test.YtmohabidfalhoaaL11p
import Derived.Test.YtmohabidfalhoaaR11
import Derived.Test.YtmohabidfalhoaaKit4
namespace Go.Proofs.Ytmohabidfalhoaa
open Go.RowKit Go.Sep Go.Bv Go.Sha
set_option linter.unusedVariables false
set_option linter.unusedSimpArgs false
theorem digSumF {W0 w : World} {L : List Assn} {cap n : Nat} {m : Bool} {sp : Option Addr} {pv av : Value} (wide : Bool) (p : Option Nat) (rs : List Run3) (bs : List Byte) (hn : bs.length = n) (hp : pv = ptrO p) (ha : av = .int .u8 (algN wide)) (hcap : n ≤ cap) (hcm : cap ≤ maxLen) (hb : tot rs + 2 * n + 400 ≤ 2305843009213693952) (hl : rs.length + 1 ≤ 1048576)
    (hs : Sat W0 w (ledO p rs :: bytes m sp bs :: L)) :
    Calls Try.prog 22 #[pv, av, .slice sp n cap] w fun e w' => ∃ q c, e = .returned (.tuple #[.slice q (hsz wide) c, .int .i64 0]) ∧ Sat W0 w' (row q c 1 (hsz wide) (u8s (hash wide bs)) :: ledO p (noteN rs (evK wide) (evS wide) (padN wide n)) :: bytes m sp bs :: L) := by
  subst hn hp ha
  exact digSum wide p rs bs hcap hcm hb hl hs
theorem dWholeR {W0 w : World} {L : List Assn} {cap n : Nat} {m : Bool} {sp : Option Addr} {pv : Value} (wide : Bool) (p : Option Nat) (rs : List Run3) (bs : List Byte) (hn : bs.length = n) (hp : pv = ptrO p) (hs : Sat W0 w (ledO p rs :: bytes m sp bs :: L)) (hcap : n ≤ cap) (hcm : cap ≤ maxLen) (hb : tot rs + 2 * n + 400 ≤ 2305843009213693952) (hl : rs.length + 1 ≤ 1048576) :
    Calls Try.prog (fWhole wide) #[pv, .slice sp n cap] w fun e w' => ∃ q c, e = .returned (.slice q (hsz wide) c) ∧ Sat W0 w' (row q c 1 (hsz wide) (u8s (hash wide bs)) :: ledO p (noteN rs (evK wide) (evS wide) (padN wide n)) :: bytes m sp bs :: L) := by
  subst hn hp
  exact dWhole wide p rs bs hcap hcm hb hl hs
/-- Two rows of the same bytes are told the same. -/
theorem sameRows {W0 w : World} {L : List Assn} {ca cb da db n k : Nat} {pa pb : Option Addr} (xs ys : List Byte) (hn : n ≤ 1000000000000) (he : xs = ys) (hs : Sat W0 w (row pa da 1 n (u8s xs) :: row pb db 1 k (u8s ys) :: L)) :
    Calls Try.prog 28 #[.slice pa n ca, .slice pb k cb] w fun e w' => e = .returned (.bool true) ∧ Sat W0 w' (row pa da 1 n (u8s xs) :: row pb db 1 k (u8s ys) :: L) := by
  obtain ⟨h1, -, -, s1⟩ := rowBytes hs
  obtain ⟨h2, -, -, s2⟩ := rowBytes (s1.pull 1)
  have h := sameTrue (ca := ca) (cb := cb) xs ys he (by rw [h1]; unfold maxLen; omega) (s2.pull 1)
  rw [h1, h2] at h
  refine h.mono ?_
  rintro e w' ⟨rfl, m, rfl⟩
  exact ⟨rfl, hs.drewN m⟩
theorem ownTwo {W0 w : World} {L : List Assn} {pa pb : Option Addr} {ca cb n k : Nat} {xs ys : List Byte} (hx : xs.length = n) (hy : ys.length = k) (hs : Sat W0 w (row pa ca 1 n (u8s xs) :: row pb cb 1 k (u8s ys) :: L)) : Sat W0 w (ownRows [(pa, ca, xs), (pb, cb, ys)] :: L) := by
  subst hx hy
  have h1 : Sat W0 w (emp :: row pb cb 1 ys.length (u8s ys) :: row pa ca 1 xs.length (u8s xs) :: L) := (hs.pull 1).emp
  have h2 : Sat W0 w (ownRows [(pb, cb, ys)] :: row pa ca 1 xs.length (u8s xs) :: L) := Sat.sepShut (h1.pull 1)
  exact Sat.sepShut (h2.pull 1)
set_option maxRecDepth 100000 in
set_option maxHeartbeats 2000000 in
theorem dsums_alg (W : World) (wide : Bool) (p1 : Option Addr) (n1 c1 : Nat) (P : List Byte) (g1 : n1 ≤ 8192) (hP : P.length = n1) (hP1 : n1 ≤ c1) (hP2 : c1 ≤ maxLen) (s0 : Sat W W (bytes false p1 P :: [])) :
    Calls Try.prog 4 #[.int .u8 (algN wide), .slice p1 n1 c1] W fun e W' => e = .returned (.bool true) ∧ Below W.heap.size W W' := by
  have HA := Lib.hid (And.intro hP (And.intro hP1 hP2)); clear hP hP1 hP2
  have g2 : ¬ 8192 < n1 := by omega
  cases wide
  · skip
    go_enter Try.func4, Try.ntmps4
    go_wp2_with fail
    refine (lives11 s0).mono ?_
    rintro e w1 ⟨rfl, s1⟩
    clear s0
    go_wp2_with fail
    refine (lentF P HA.out.1 (by omega) s1).mono ?_
    rintro e w2 ⟨q0, c0, rfl, h01, h02, s2⟩
    clear s1
    have s3 : Sat W w2 (bytes false q0 (lentB P) :: bytes false q0 P :: bytes false p1 P :: []) := by
      have t := bytesTake P.length (bytesDup (bytesRo s2))
      rw [lentB_take] at t
      exact t.pull 1
    have HC := Lib.hid h02; clear s2 h02
    go_wp2_with fail
    refine (ledNewF s3).mono ?_
    rintro e w3 ⟨l, rfl, s4⟩
    clear s3
    go_wp2_with fail
    refine (rledNew s4).mono ?_
    rintro e w4 ⟨k, rfl, s5⟩
    clear s4
    go_wp2_with fail
    refine (digSumF false (some l) [] P HA.out.1 rfl rfl (by omega) HC.out (by simp only [tot]; omega) (by decide) (by (repeat (first | with_reducible apply Sat.sub (s5) | with_reducible apply Sat.alloc' | with_reducible apply Sat.drew | with_reducible apply Sat.drewN)); (repeat (first | with_reducible exact Fr.done | with_reducible exact Fr.nil | (with_reducible apply Fr.cons; (focus ((repeat (first | with_reducible exact Take.here | with_reducible apply Take.there)); done))) | with_reducible apply Fr.skip)); done)).mono ?_
    rintro e w5 ⟨qb, cb, rfl, s6⟩
    clear s5
    go_wp2_with fail
    refine (rsum11 false [] P HA.out.1 (by omega) (by simp only [tot]; omega) (by decide) (by (repeat (first | with_reducible apply Sat.sub (s6) | with_reducible apply Sat.alloc' | with_reducible apply Sat.drew | with_reducible apply Sat.drewN)); (repeat (first | with_reducible exact Fr.done | with_reducible exact Fr.nil | (with_reducible apply Fr.cons; (focus ((repeat (first | with_reducible exact Take.here | with_reducible apply Take.there)); done))) | with_reducible apply Fr.skip)); done)).mono ?_
    rintro e w6 ⟨qw, cw, rfl, s7⟩
    clear s6
    obtain ⟨pd, hpd⟩ : ∃ pd, pd = padN false n1 := ⟨_, rfl⟩
    have hpd0 : 0 < pd := by rw [hpd]; exact (padN_ge false n1).2
    rw [← hpd, noteN_one _ _ _ hpd0] at s7
    obtain ⟨T, hT⟩ : ∃ T, T = hash false P := ⟨_, rfl⟩
    have hTl : T.length = hsz false := by rw [hT]; exact hash_len _ _
    rw [← hT] at s7
    have s8 : Sat W w6 (row qb cb 1 (hsz false) (u8s T) :: row qw cw 1 (hsz false) (u8s T) :: ledO (some l) [(evK false, evS false, pd)] :: rled k [(evK false, evS false, pd)] :: bytes false q0 (lentB P) :: bytes false q0 P :: bytes false p1 P :: []) := (by (repeat (first | with_reducible apply Sat.sub (s7) | with_reducible apply Sat.alloc' | with_reducible apply Sat.drew | with_reducible apply Sat.drewN)); (repeat (first | with_reducible exact Fr.done | with_reducible exact Fr.nil | (with_reducible apply Fr.cons; (focus ((repeat (first | with_reducible exact Take.here | with_reducible apply Take.there)); done))) | with_reducible apply Fr.skip)); done)
    have HT := Lib.hid (And.intro hT (And.intro hTl (And.intro hpd hpd0))); clear hT hTl hpd hpd0 s7
    simp only [hsz] at s8 ⊢
    go_wp2_with fail
    refine (sameRows T T (by omega) rfl (by (repeat (first | with_reducible apply Sat.sub (s8) | with_reducible apply Sat.alloc' | with_reducible apply Sat.drew | with_reducible apply Sat.drewN)); (repeat (first | with_reducible exact Fr.done | with_reducible exact Fr.nil | (with_reducible apply Fr.cons; (focus ((repeat (first | with_reducible exact Take.here | with_reducible apply Take.there)); done))) | with_reducible apply Fr.skip)); done)).mono ?_
    rintro e w7 ⟨rfl, s9⟩
    clear s8
    go_wp2_with fail
    refine (ledRunsF (l := l) (rs := [(evK false, evS false, pd)]) (by simp) (by (repeat (first | with_reducible apply Sat.sub (s9) | with_reducible apply Sat.alloc' | with_reducible apply Sat.drew | with_reducible apply Sat.drewN)); (repeat (first | with_reducible exact Fr.done | with_reducible exact Fr.nil | (with_reducible apply Fr.cons; (focus ((repeat (first | with_reducible exact Take.here | with_reducible apply Take.there)); done))) | with_reducible apply Fr.skip)); done)).mono ?_
    rintro e w8 ⟨q5, c5, rfl, s10⟩
    clear s9
    go_wp2_with fail
    refine (rledRuns (l := k) (rs := [(evK false, evS false, pd)]) (by simp) (by (repeat (first | with_reducible apply Sat.sub (s10) | with_reducible apply Sat.alloc' | with_reducible apply Sat.drew | with_reducible apply Sat.drewN)); (repeat (first | with_reducible exact Fr.done | with_reducible exact Fr.nil | (with_reducible apply Fr.cons; (focus ((repeat (first | with_reducible exact Take.here | with_reducible apply Take.there)); done))) | with_reducible apply Fr.skip)); done)).mono ?_
    rintro e w9 ⟨q6, c6, rfl, s11⟩
    clear s10
    go_wp2_with fail
    refine (sameRuns [(evK false, evS false, pd)] (by rfl) (by rfl) (by simp) (by (repeat (first | with_reducible apply Sat.sub (s11) | with_reducible apply Sat.alloc' | with_reducible apply Sat.drew | with_reducible apply Sat.drewN)); (repeat (first | with_reducible exact Fr.done | with_reducible exact Fr.nil | (with_reducible apply Fr.cons; (focus ((repeat (first | with_reducible exact Take.here | with_reducible apply Take.there)); done))) | with_reducible apply Fr.skip)); done)).mono ?_
    rintro e w10 ⟨rfl, s12⟩
    clear s11
    go_wp2_with fail
    refine (keptF P HA.out.1 rfl (by omega) (by (repeat (first | with_reducible apply Sat.sub (s12) | with_reducible apply Sat.alloc' | with_reducible apply Sat.drew | with_reducible apply Sat.drewN)); (repeat (first | with_reducible exact Fr.done | with_reducible exact Fr.nil | (with_reducible apply Fr.cons; (focus ((repeat (first | with_reducible exact Take.here | with_reducible apply Take.there)); done))) | with_reducible apply Fr.skip)); done)).mono ?_
    rintro e w11 ⟨rfl, s13⟩
    clear s12
    have s14 : Sat W w11 (row qb cb 1 32 (u8s T) :: row qw cw 1 32 (u8s T) :: rled k [(evK false, evS false, pd)] :: bytes false q0 (lentB P) :: bytes false q0 P :: bytes false p1 P :: []) := (by (repeat (first | with_reducible apply Sat.sub (s13) | with_reducible apply Sat.alloc' | with_reducible apply Sat.drew | with_reducible apply Sat.drewN)); (repeat (first | with_reducible exact Fr.done | with_reducible exact Fr.nil | (with_reducible apply Fr.cons; (focus ((repeat (first | with_reducible exact Take.here | with_reducible apply Take.there)); done))) | with_reducible apply Fr.skip)); done)
    clear s13
    go_wp2_with fail
    refine (dOf false s14).mono ?_
    rintro e w12 ⟨rfl, s15⟩
    clear s14
    obtain ⟨bx, hbx⟩ : ∃ bx, bx = w12.heap.size := ⟨_, rfl⟩
    have s16 : Sat W _ (seg true bx 0 (hcells false) :: row qb cb 1 32 (u8s T) :: row qw cw 1 32 (u8s T) :: rled k [(evK false, evS false, pd)] :: bytes false q0 (lentB P) :: bytes false q0 P :: bytes false p1 P :: []) := s15.allocAt (hcells false).toArray 29 (q := bx) hbx
    simp only [hcells] at s16 ⊢
    have hn := ledNewF s16
    go_wp2_with fail
    refine hn.mono ?_
    rintro e w13 ⟨l2, rfl, s17'⟩
    have s17 : Sat W w13 (ledO (some l2) [] :: seg true bx 0 (hcells false) :: row qb cb 1 32 (u8s T) :: row qw cw 1 32 (u8s T) :: rled k [(evK false, evS false, pd)] :: bytes false q0 (lentB P) :: bytes false q0 P :: bytes false p1 P :: []) := s17'
    rw [← hbx]
    clear s17' hn s16 s15 hbx
    obtain ⟨z, y0, y1, y2, y3, y4, y5, y6⟩ := hc_false ((by (repeat (first | with_reducible apply Sat.sub (s17) | with_reducible apply Sat.alloc' | with_reducible apply Sat.drew | with_reducible apply Sat.drewN)); (repeat (first | with_reducible exact Fr.done | with_reducible exact Fr.nil | (with_reducible apply Fr.cons; (focus ((repeat (first | with_reducible exact Take.here | with_reducible apply Take.there)); done))) | with_reducible apply Fr.skip)); done) : Sat W w13 (seg true bx 0 (hcells false) :: []))
    go_wp2_with fail
    refine wp_region_quiet_tail_lit 7 (by kernel_rfl) (by kernel_rfl) ?_
    simp only [List.take_succ_cons, List.take_zero, List.drop_succ_cons, List.drop_zero]
    repeat (go_big_quiet_step (fail))
    refine wpQuiet_nil ?_
    rintro _ ⟨nq, rfl⟩
    go_wp2_with fail
    refine (dWholeR false (some l2) [] P HA.out.1 rfl (by (repeat (first | with_reducible apply Sat.sub (s17) | with_reducible apply Sat.alloc' | with_reducible apply Sat.drew | with_reducible apply Sat.drewN)); (repeat (first | with_reducible exact Fr.done | with_reducible exact Fr.nil | (with_reducible apply Fr.cons; (focus ((repeat (first | with_reducible exact Take.here | with_reducible apply Take.there)); done))) | with_reducible apply Fr.skip)); done) (by omega) HC.out (by simp only [tot]; omega) (by decide)).mono ?_
    rintro e w14 ⟨qc, cc, rfl, s18⟩
    clear s17 z y0 y1 y2 y3 y4 y5 y6
    rw [← HT.out.2.2.1, noteN_one _ _ _ HT.out.2.2.2, ← HT.out.1] at s18
    simp only [hsz] at s18 ⊢
    go_wp2_with fail
    refine (sameRows T T (by omega) rfl (by (repeat (first | with_reducible apply Sat.sub (s18) | with_reducible apply Sat.alloc' | with_reducible apply Sat.drew | with_reducible apply Sat.drewN)); (repeat (first | with_reducible exact Fr.done | with_reducible exact Fr.nil | (with_reducible apply Fr.cons; (focus ((repeat (first | with_reducible exact Take.here | with_reducible apply Take.there)); done))) | with_reducible apply Fr.skip)); done)).mono ?_
    rintro e w15 ⟨rfl, s19⟩
    clear s18
    go_wp2_with fail
    refine (ledRunsF (l := l2) (rs := [(evK false, evS false, pd)]) (by simp) (by (repeat (first | with_reducible apply Sat.sub (s19) | with_reducible apply Sat.alloc' | with_reducible apply Sat.drew | with_reducible apply Sat.drewN)); (repeat (first | with_reducible exact Fr.done | with_reducible exact Fr.nil | (with_reducible apply Fr.cons; (focus ((repeat (first | with_reducible exact Take.here | with_reducible apply Take.there)); done))) | with_reducible apply Fr.skip)); done)).mono ?_
    rintro e w16 ⟨q7, c7, rfl, s20⟩
    clear s19
    go_wp2_with fail
    refine (rledRuns (l := k) (rs := [(evK false, evS false, pd)]) (by simp) (by (repeat (first | with_reducible apply Sat.sub (s20) | with_reducible apply Sat.alloc' | with_reducible apply Sat.drew | with_reducible apply Sat.drewN)); (repeat (first | with_reducible exact Fr.done | with_reducible exact Fr.nil | (with_reducible apply Fr.cons; (focus ((repeat (first | with_reducible exact Take.here | with_reducible apply Take.there)); done))) | with_reducible apply Fr.skip)); done)).mono ?_
    rintro e w17 ⟨q8, c8, rfl, s21⟩
    clear s20
    go_wp2_with fail
    refine (sameRuns [(evK false, evS false, pd)] (by rfl) (by rfl) (by simp) (by (repeat (first | with_reducible apply Sat.sub (s21) | with_reducible apply Sat.alloc' | with_reducible apply Sat.drew | with_reducible apply Sat.drewN)); (repeat (first | with_reducible exact Fr.done | with_reducible exact Fr.nil | (with_reducible apply Fr.cons; (focus ((repeat (first | with_reducible exact Take.here | with_reducible apply Take.there)); done))) | with_reducible apply Fr.skip)); done)).mono ?_
    rintro e w18 ⟨rfl, s22⟩
    clear s21
    go_wp2_with fail
    refine (keptF P HA.out.1 rfl (by omega) (by (repeat (first | with_reducible apply Sat.sub (s22) | with_reducible apply Sat.alloc' | with_reducible apply Sat.drew | with_reducible apply Sat.drewN)); (repeat (first | with_reducible exact Fr.done | with_reducible exact Fr.nil | (with_reducible apply Fr.cons; (focus ((repeat (first | with_reducible exact Take.here | with_reducible apply Take.there)); done))) | with_reducible apply Fr.skip)); done)).mono ?_
    rintro e w19 ⟨rfl, s23⟩
    clear s22
    have s24 : Sat W w19 (row qb cb 1 32 (u8s T) :: row qc cc 1 32 (u8s T) :: []) := (by (repeat (first | with_reducible apply Sat.sub (s23) | with_reducible apply Sat.alloc' | with_reducible apply Sat.drew | with_reducible apply Sat.drewN)); (repeat (first | with_reducible exact Fr.done | with_reducible exact Fr.nil | (with_reducible apply Fr.cons; (focus ((repeat (first | with_reducible exact Take.here | with_reducible apply Take.there)); done))) | with_reducible apply Fr.skip)); done)
    clear s23
    have s25 := ownTwo HT.out.2.1 HT.out.2.1 s24
    have s26 := s25.alloc #[.slice qb 32 cb, .slice qc 32 cc] 39
    have hv : [Value.slice qb 32 cb, Value.slice qc 32 cc] = [(qb, cb, T), (qc, cc, T)].map pieceV := by
      have := HT.out.2.1
      simp only [hsz] at this
      simp [pieceV, this]
    have s28 : Sat W (w19.alloc (.cells #[.slice qb 32 cb, .slice qc 32 cc] 39)) (seg true w19.heap.size 0 ([(qb, cb, T), (qc, cc, T)].map pieceV) :: ownRows [(qb, cb, T), (qc, cc, T)] :: []) := by rw [← hv]; exact s26
    have HV := Lib.hid (And.intro hv s28); clear hv s28 s26 s25 s24
    go_wp2_with fail
    refine (apart [(qb, cb, T), (qc, cc, T)] rfl (by simp) (by have := HT.out.2.1; simp only [hsz] at this; intro t ht; simp at ht; rcases ht with rfl | rfl <;> simp [this]) HV.out.2).mono ?_
    rintro e w20 ⟨rfl, s27⟩
    go_wp2
    go_ret
    exact ⟨rfl, s27.below⟩
  · skip
    go_enter Try.func4, Try.ntmps4
    go_wp2_with fail
    refine (lives11 s0).mono ?_
    rintro e w1 ⟨rfl, s1⟩
    clear s0
    go_wp2_with fail
    refine (lentF P HA.out.1 (by omega) s1).mono ?_
    rintro e w2 ⟨q0, c0, rfl, h01, h02, s2⟩
    clear s1
    have s3 : Sat W w2 (bytes false q0 (lentB P) :: bytes false q0 P :: bytes false p1 P :: []) := by
      have t := bytesTake P.length (bytesDup (bytesRo s2))
      rw [lentB_take] at t
      exact t.pull 1
    have HC := Lib.hid h02; clear s2 h02
    go_wp2_with fail
    refine (ledNewF s3).mono ?_
    rintro e w3 ⟨l, rfl, s4⟩
    clear s3
    go_wp2_with fail
    refine (rledNew s4).mono ?_
    rintro e w4 ⟨k, rfl, s5⟩
    clear s4
    go_wp2_with fail
    refine (digSumF true (some l) [] P HA.out.1 rfl rfl (by omega) HC.out (by simp only [tot]; omega) (by decide) (by (repeat (first | with_reducible apply Sat.sub (s5) | with_reducible apply Sat.alloc' | with_reducible apply Sat.drew | with_reducible apply Sat.drewN)); (repeat (first | with_reducible exact Fr.done | with_reducible exact Fr.nil | (with_reducible apply Fr.cons; (focus ((repeat (first | with_reducible exact Take.here | with_reducible apply Take.there)); done))) | with_reducible apply Fr.skip)); done)).mono ?_
    rintro e w5 ⟨qb, cb, rfl, s6⟩
    clear s5
    go_wp2_with fail
    refine (rsum11 true [] P HA.out.1 (by omega) (by simp only [tot]; omega) (by decide) (by (repeat (first | with_reducible apply Sat.sub (s6) | with_reducible apply Sat.alloc' | with_reducible apply Sat.drew | with_reducible apply Sat.drewN)); (repeat (first | with_reducible exact Fr.done | with_reducible exact Fr.nil | (with_reducible apply Fr.cons; (focus ((repeat (first | with_reducible exact Take.here | with_reducible apply Take.there)); done))) | with_reducible apply Fr.skip)); done)).mono ?_
    rintro e w6 ⟨qw, cw, rfl, s7⟩
    clear s6
    obtain ⟨pd, hpd⟩ : ∃ pd, pd = padN true n1 := ⟨_, rfl⟩
    have hpd0 : 0 < pd := by rw [hpd]; exact (padN_ge true n1).2
    rw [← hpd, noteN_one _ _ _ hpd0] at s7
    obtain ⟨T, hT⟩ : ∃ T, T = hash true P := ⟨_, rfl⟩
    have hTl : T.length = hsz true := by rw [hT]; exact hash_len _ _
    rw [← hT] at s7
    have s8 : Sat W w6 (row qb cb 1 (hsz true) (u8s T) :: row qw cw 1 (hsz true) (u8s T) :: ledO (some l) [(evK true, evS true, pd)] :: rled k [(evK true, evS true, pd)] :: bytes false q0 (lentB P) :: bytes false q0 P :: bytes false p1 P :: []) := (by (repeat (first | with_reducible apply Sat.sub (s7) | with_reducible apply Sat.alloc' | with_reducible apply Sat.drew | with_reducible apply Sat.drewN)); (repeat (first | with_reducible exact Fr.done | with_reducible exact Fr.nil | (with_reducible apply Fr.cons; (focus ((repeat (first | with_reducible exact Take.here | with_reducible apply Take.there)); done))) | with_reducible apply Fr.skip)); done)
    have HT := Lib.hid (And.intro hT (And.intro hTl (And.intro hpd hpd0))); clear hT hTl hpd hpd0 s7
    simp only [hsz] at s8 ⊢
    go_wp2_with fail
    refine (sameRows T T (by omega) rfl (by (repeat (first | with_reducible apply Sat.sub (s8) | with_reducible apply Sat.alloc' | with_reducible apply Sat.drew | with_reducible apply Sat.drewN)); (repeat (first | with_reducible exact Fr.done | with_reducible exact Fr.nil | (with_reducible apply Fr.cons; (focus ((repeat (first | with_reducible exact Take.here | with_reducible apply Take.there)); done))) | with_reducible apply Fr.skip)); done)).mono ?_
    rintro e w7 ⟨rfl, s9⟩
    clear s8
    go_wp2_with fail
    refine (ledRunsF (l := l) (rs := [(evK true, evS true, pd)]) (by simp) (by (repeat (first | with_reducible apply Sat.sub (s9) | with_reducible apply Sat.alloc' | with_reducible apply Sat.drew | with_reducible apply Sat.drewN)); (repeat (first | with_reducible exact Fr.done | with_reducible exact Fr.nil | (with_reducible apply Fr.cons; (focus ((repeat (first | with_reducible exact Take.here | with_reducible apply Take.there)); done))) | with_reducible apply Fr.skip)); done)).mono ?_
    rintro e w8 ⟨q5, c5, rfl, s10⟩
    clear s9
    go_wp2_with fail
    refine (rledRuns (l := k) (rs := [(evK true, evS true, pd)]) (by simp) (by (repeat (first | with_reducible apply Sat.sub (s10) | with_reducible apply Sat.alloc' | with_reducible apply Sat.drew | with_reducible apply Sat.drewN)); (repeat (first | with_reducible exact Fr.done | with_reducible exact Fr.nil | (with_reducible apply Fr.cons; (focus ((repeat (first | with_reducible exact Take.here | with_reducible apply Take.there)); done))) | with_reducible apply Fr.skip)); done)).mono ?_
    rintro e w9 ⟨q6, c6, rfl, s11⟩
    clear s10
    go_wp2_with fail
    refine (sameRuns [(evK true, evS true, pd)] (by rfl) (by rfl) (by simp) (by (repeat (first | with_reducible apply Sat.sub (s11) | with_reducible apply Sat.alloc' | with_reducible apply Sat.drew | with_reducible apply Sat.drewN)); (repeat (first | with_reducible exact Fr.done | with_reducible exact Fr.nil | (with_reducible apply Fr.cons; (focus ((repeat (first | with_reducible exact Take.here | with_reducible apply Take.there)); done))) | with_reducible apply Fr.skip)); done)).mono ?_
    rintro e w10 ⟨rfl, s12⟩
    clear s11
    go_wp2_with fail
    refine (keptF P HA.out.1 rfl (by omega) (by (repeat (first | with_reducible apply Sat.sub (s12) | with_reducible apply Sat.alloc' | with_reducible apply Sat.drew | with_reducible apply Sat.drewN)); (repeat (first | with_reducible exact Fr.done | with_reducible exact Fr.nil | (with_reducible apply Fr.cons; (focus ((repeat (first | with_reducible exact Take.here | with_reducible apply Take.there)); done))) | with_reducible apply Fr.skip)); done)).mono ?_
    rintro e w11 ⟨rfl, s13⟩
    clear s12
    have s14 : Sat W w11 (row qb cb 1 64 (u8s T) :: row qw cw 1 64 (u8s T) :: rled k [(evK true, evS true, pd)] :: bytes false q0 (lentB P) :: bytes false q0 P :: bytes false p1 P :: []) := (by (repeat (first | with_reducible apply Sat.sub (s13) | with_reducible apply Sat.alloc' | with_reducible apply Sat.drew | with_reducible apply Sat.drewN)); (repeat (first | with_reducible exact Fr.done | with_reducible exact Fr.nil | (with_reducible apply Fr.cons; (focus ((repeat (first | with_reducible exact Take.here | with_reducible apply Take.there)); done))) | with_reducible apply Fr.skip)); done)
    clear s13
    go_wp2_with fail
    refine (dOf true s14).mono ?_
    rintro e w12 ⟨rfl, s15⟩
    clear s14
    obtain ⟨bx, hbx⟩ : ∃ bx, bx = w12.heap.size := ⟨_, rfl⟩
    have s16 : Sat W _ (seg true bx 0 (hcells true) :: row qb cb 1 64 (u8s T) :: row qw cw 1 64 (u8s T) :: rled k [(evK true, evS true, pd)] :: bytes false q0 (lentB P) :: bytes false q0 P :: bytes false p1 P :: []) := s15.allocAt (hcells true).toArray 29 (q := bx) hbx
    simp only [hcells] at s16 ⊢
    have hn := ledNewF s16
    go_wp2_with fail
    refine hn.mono ?_
    rintro e w13 ⟨l2, rfl, s17'⟩
    have s17 : Sat W w13 (ledO (some l2) [] :: seg true bx 0 (hcells true) :: row qb cb 1 64 (u8s T) :: row qw cw 1 64 (u8s T) :: rled k [(evK true, evS true, pd)] :: bytes false q0 (lentB P) :: bytes false q0 P :: bytes false p1 P :: []) := s17'
    rw [← hbx]
    clear s17' hn s16 s15 hbx
    obtain ⟨z, y0, y1, y2, y3, y4, y5, y6⟩ := hc_true ((by (repeat (first | with_reducible apply Sat.sub (s17) | with_reducible apply Sat.alloc' | with_reducible apply Sat.drew | with_reducible apply Sat.drewN)); (repeat (first | with_reducible exact Fr.done | with_reducible exact Fr.nil | (with_reducible apply Fr.cons; (focus ((repeat (first | with_reducible exact Take.here | with_reducible apply Take.there)); done))) | with_reducible apply Fr.skip)); done) : Sat W w13 (seg true bx 0 (hcells true) :: []))
    go_wp2_with fail
    refine wp_region_quiet_tail_lit 7 (by kernel_rfl) (by kernel_rfl) ?_
    simp only [List.take_succ_cons, List.take_zero, List.drop_succ_cons, List.drop_zero]
    repeat (go_big_quiet_step (fail))
    refine wpQuiet_nil ?_
    rintro _ ⟨nq, rfl⟩
    go_wp2_with fail
    refine (dWholeR true (some l2) [] P HA.out.1 rfl (by (repeat (first | with_reducible apply Sat.sub (s17) | with_reducible apply Sat.alloc' | with_reducible apply Sat.drew | with_reducible apply Sat.drewN)); (repeat (first | with_reducible exact Fr.done | with_reducible exact Fr.nil | (with_reducible apply Fr.cons; (focus ((repeat (first | with_reducible exact Take.here | with_reducible apply Take.there)); done))) | with_reducible apply Fr.skip)); done) (by omega) HC.out (by simp only [tot]; omega) (by decide)).mono ?_
    rintro e w14 ⟨qc, cc, rfl, s18⟩
    clear s17 z y0 y1 y2 y3 y4 y5 y6
    rw [← HT.out.2.2.1, noteN_one _ _ _ HT.out.2.2.2, ← HT.out.1] at s18
    simp only [hsz] at s18 ⊢
    go_wp2_with fail
    refine (sameRows T T (by omega) rfl (by (repeat (first | with_reducible apply Sat.sub (s18) | with_reducible apply Sat.alloc' | with_reducible apply Sat.drew | with_reducible apply Sat.drewN)); (repeat (first | with_reducible exact Fr.done | with_reducible exact Fr.nil | (with_reducible apply Fr.cons; (focus ((repeat (first | with_reducible exact Take.here | with_reducible apply Take.there)); done))) | with_reducible apply Fr.skip)); done)).mono ?_
    rintro e w15 ⟨rfl, s19⟩
    clear s18
    go_wp2_with fail
    refine (ledRunsF (l := l2) (rs := [(evK true, evS true, pd)]) (by simp) (by (repeat (first | with_reducible apply Sat.sub (s19) | with_reducible apply Sat.alloc' | with_reducible apply Sat.drew | with_reducible apply Sat.drewN)); (repeat (first | with_reducible exact Fr.done | with_reducible exact Fr.nil | (with_reducible apply Fr.cons; (focus ((repeat (first | with_reducible exact Take.here | with_reducible apply Take.there)); done))) | with_reducible apply Fr.skip)); done)).mono ?_
    rintro e w16 ⟨q7, c7, rfl, s20⟩
    clear s19
    go_wp2_with fail
    refine (rledRuns (l := k) (rs := [(evK true, evS true, pd)]) (by simp) (by (repeat (first | with_reducible apply Sat.sub (s20) | with_reducible apply Sat.alloc' | with_reducible apply Sat.drew | with_reducible apply Sat.drewN)); (repeat (first | with_reducible exact Fr.done | with_reducible exact Fr.nil | (with_reducible apply Fr.cons; (focus ((repeat (first | with_reducible exact Take.here | with_reducible apply Take.there)); done))) | with_reducible apply Fr.skip)); done)).mono ?_
    rintro e w17 ⟨q8, c8, rfl, s21⟩
    clear s20
    go_wp2_with fail
    refine (sameRuns [(evK true, evS true, pd)] (by rfl) (by rfl) (by simp) (by (repeat (first | with_reducible apply Sat.sub (s21) | with_reducible apply Sat.alloc' | with_reducible apply Sat.drew | with_reducible apply Sat.drewN)); (repeat (first | with_reducible exact Fr.done | with_reducible exact Fr.nil | (with_reducible apply Fr.cons; (focus ((repeat (first | with_reducible exact Take.here | with_reducible apply Take.there)); done))) | with_reducible apply Fr.skip)); done)).mono ?_
    rintro e w18 ⟨rfl, s22⟩
    clear s21
    go_wp2_with fail
    refine (keptF P HA.out.1 rfl (by omega) (by (repeat (first | with_reducible apply Sat.sub (s22) | with_reducible apply Sat.alloc' | with_reducible apply Sat.drew | with_reducible apply Sat.drewN)); (repeat (first | with_reducible exact Fr.done | with_reducible exact Fr.nil | (with_reducible apply Fr.cons; (focus ((repeat (first | with_reducible exact Take.here | with_reducible apply Take.there)); done))) | with_reducible apply Fr.skip)); done)).mono ?_
    rintro e w19 ⟨rfl, s23⟩
    clear s22
    have s24 : Sat W w19 (row qb cb 1 64 (u8s T) :: row qc cc 1 64 (u8s T) :: []) := (by (repeat (first | with_reducible apply Sat.sub (s23) | with_reducible apply Sat.alloc' | with_reducible apply Sat.drew | with_reducible apply Sat.drewN)); (repeat (first | with_reducible exact Fr.done | with_reducible exact Fr.nil | (with_reducible apply Fr.cons; (focus ((repeat (first | with_reducible exact Take.here | with_reducible apply Take.there)); done))) | with_reducible apply Fr.skip)); done)
    clear s23
    have s25 := ownTwo HT.out.2.1 HT.out.2.1 s24
    have s26 := s25.alloc #[.slice qb 64 cb, .slice qc 64 cc] 39
    have hv : [Value.slice qb 64 cb, Value.slice qc 64 cc] = [(qb, cb, T), (qc, cc, T)].map pieceV := by
      have := HT.out.2.1
      simp only [hsz] at this
      simp [pieceV, this]
    have s28 : Sat W (w19.alloc (.cells #[.slice qb 64 cb, .slice qc 64 cc] 39)) (seg true w19.heap.size 0 ([(qb, cb, T), (qc, cc, T)].map pieceV) :: ownRows [(qb, cb, T), (qc, cc, T)] :: []) := by rw [← hv]; exact s26
    have HV := Lib.hid (And.intro hv s28); clear hv s28 s26 s25 s24
    go_wp2_with fail
    refine (apart [(qb, cb, T), (qc, cc, T)] rfl (by simp) (by have := HT.out.2.1; simp only [hsz] at this; intro t ht; simp at ht; rcases ht with rfl | rfl <;> simp [this]) HV.out.2).mono ?_
    rintro e w20 ⟨rfl, s27⟩
    go_wp2
    go_ret
    exact ⟨rfl, s27.below⟩
set_option maxRecDepth 100000 in
set_option maxHeartbeats 2000000 in
theorem dsums_none (W : World) (a : Int) (a1 : ¬ a = 1) (a2 : ¬ a = 2) (p1 : Option Addr) (n1 c1 : Nat) (P : List Byte) (g1 : n1 ≤ 8192) (hP : P.length = n1) (hP1 : n1 ≤ c1) (hP2 : c1 ≤ maxLen) (s0 : Sat W W (bytes false p1 P :: [])) :
    Calls Try.prog 4 #[.int .u8 a, .slice p1 n1 c1] W fun e W' => e = .returned (.bool true) ∧ Below W.heap.size W W' := by
  have HA := Lib.hid (And.intro hP (And.intro hP1 hP2)); clear hP hP1 hP2
  have g2 : ¬ 8192 < n1 := by omega
  go_enter Try.func4, Try.ntmps4
  go_wp2_with fail
  refine (lives11 s0).mono ?_
  rintro e w1 ⟨rfl, s1⟩
  clear s0
  go_wp2_with fail
  refine (lentF P HA.out.1 (by omega) s1).mono ?_
  rintro e w2 ⟨q0, c0, rfl, h01, h02, s2⟩
  clear s1
  go_wp2_with fail
  refine (ledNewF s2).mono ?_
  rintro e w3 ⟨l, rfl, s4⟩
  clear s2
  go_wp2_with fail
  refine (rledNew s4).mono ?_
  rintro e w4 ⟨k, rfl, s5⟩
  clear s4
  go_wp2_with fail
  refine (digSumNone a a1 a2 _ _ s5).mono ?_
  rintro e w5 ⟨rfl, s6⟩
  clear s5
  go_wp2_with fail
  refine (rsum11None a a1 a2 _ _ s6).mono ?_
  rintro e w6 ⟨rfl, s7⟩
  clear s6
  go_wp2_with fail
  refine (sameT (n := 0) (k := 0) [] [] rfl rfl (by decide) rfl (bytesNil true none (bytesNil true none s7))).mono ?_
  rintro e w7 ⟨rfl, s9⟩
  clear s7
  go_wp2_with fail
  refine (ledRunsF (l := l) (rs := []) (by simp) (by (repeat (first | with_reducible apply Sat.sub (s9) | with_reducible apply Sat.alloc' | with_reducible apply Sat.drew | with_reducible apply Sat.drewN)); (repeat (first | with_reducible exact Fr.done | with_reducible exact Fr.nil | (with_reducible apply Fr.cons; (focus ((repeat (first | with_reducible exact Take.here | with_reducible apply Take.there)); done))) | with_reducible apply Fr.skip)); done)).mono ?_
  rintro e w8 ⟨q5, c5, rfl, s10⟩
  clear s9
  go_wp2_with fail
  refine (rledRuns (l := k) (rs := []) (by simp) (by (repeat (first | with_reducible apply Sat.sub (s10) | with_reducible apply Sat.alloc' | with_reducible apply Sat.drew | with_reducible apply Sat.drewN)); (repeat (first | with_reducible exact Fr.done | with_reducible exact Fr.nil | (with_reducible apply Fr.cons; (focus ((repeat (first | with_reducible exact Take.here | with_reducible apply Take.there)); done))) | with_reducible apply Fr.skip)); done)).mono ?_
  rintro e w9 ⟨q6, c6, rfl, s11⟩
  clear s10
  go_wp2_with fail
  refine (sameRuns [] (by rfl) (by rfl) (by simp) (by (repeat (first | with_reducible apply Sat.sub (s11) | with_reducible apply Sat.alloc' | with_reducible apply Sat.drew | with_reducible apply Sat.drewN)); (repeat (first | with_reducible exact Fr.done | with_reducible exact Fr.nil | (with_reducible apply Fr.cons; (focus ((repeat (first | with_reducible exact Take.here | with_reducible apply Take.there)); done))) | with_reducible apply Fr.skip)); done)).mono ?_
  rintro e w10 ⟨rfl, s12⟩
  clear s11
  go_wp2_with fail
  refine (keptF P HA.out.1 rfl (by omega) (by (repeat (first | with_reducible apply Sat.sub (s12) | with_reducible apply Sat.alloc' | with_reducible apply Sat.drew | with_reducible apply Sat.drewN)); (repeat (first | with_reducible exact Fr.done | with_reducible exact Fr.nil | (with_reducible apply Fr.cons; (focus ((repeat (first | with_reducible exact Take.here | with_reducible apply Take.there)); done))) | with_reducible apply Fr.skip)); done)).mono ?_
  rintro e w11 ⟨rfl, s13⟩
  clear s12
  go_wp2_with fail
  refine (dOfNone a a1 a2 s13).mono ?_
  rintro e w12 ⟨rfl, s15⟩
  clear s13
  simp only [hbare]
  go_wp2
  go_ret
  exact ⟨rfl, (s15.alloc' _).below⟩
theorem dsums_any (W : World) (a : Int) (x : Option Addr × Nat × Nat × List Byte) (h : IsBytes W x.1 x.2.1 x.2.2.1 x.2.2.2) :
    Calls Try.prog 4 #[.int .u8 a, .slice x.1 x.2.1 x.2.2.1] W fun e W' => e = .returned (.bool true) ∧ Below W.heap.size W W' := by
  obtain ⟨p1, n1, c1, P⟩ := x
  simp only at h ⊢
  have s0 : Sat W W (bytes false p1 P :: []) := h.sat (Sat.nil W)
  obtain ⟨hP, hP1, hP2, -⟩ := h
  by_cases g1 : 8192 < n1
  · go_enter Try.func4, Try.ntmps4
    go_wp2_with fail
    refine (lives11 s0).mono ?_
    rintro e w1 ⟨rfl, s1⟩
    go_wp2
    go_ret
    exact ⟨rfl, s1.below⟩
  · by_cases a1 : a = 1
    · subst a1
      exact dsums_alg W false p1 n1 c1 P (by omega) hP hP1 hP2 s0
    · by_cases a2 : a = 2
      · subst a2
        exact dsums_alg W true p1 n1 c1 P (by omega) hP hP1 hP2 s0
      · exact dsums_none W a a1 a2 p1 n1 c1 P (by omega) hP hP1 hP2 s0
end Go.Proofs.Ytmohabidfalhoaa
