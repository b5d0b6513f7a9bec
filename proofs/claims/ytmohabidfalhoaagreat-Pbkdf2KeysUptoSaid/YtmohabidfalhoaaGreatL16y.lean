
/- Pbkdf2Keys: a key of any algorithm, password, salt, count and number of bytes is the document's, or the error is; what is recorded; what was handed in stays; each answer is memory of its own; where the arguments read as bytes, of bulk at most 1048576. -/
import Derived.Test.YtmohabidfalhoaaGreatGR
import Derived.Test.YtmohabidfalhoaaGreatGK
import Derived.Test.YtmohabidfalhoaaGreatArg
namespace Go.Proofs.YtmohabidfalhoaaGreat
open Go.RowKit Go.Sep Go.Bv Go.Sha
set_option linter.unusedVariables false
set_option linter.unusedSimpArgs false
theorem sameRow2 {W0 w : World} {L : List Assn} {ca cb da db n k : Nat} {pa pb : Option Addr} (xs ys : List Byte) (hn : n ≤ 1000000000000) (he : xs = ys) (hs : Sat W0 w (row pa da 1 n (u8s xs) :: row pb db 1 k (u8s ys) :: L)) :
    Calls Tryz.prog 14 #[.slice pa n ca, .slice pb k cb] w fun e w' => e = .returned (.bool true) ∧ Sat W0 w' (row pa da 1 n (u8s xs) :: row pb db 1 k (u8s ys) :: L) := by
  obtain ⟨h1, -, -, s1⟩ := rowBytes hs
  obtain ⟨h2, -, -, s2⟩ := rowBytes (s1.pull 1)
  have h := sameTrue (ca := ca) (cb := cb) xs ys he (by rw [h1]; unfold maxLen; omega) (s2.pull 1)
  rw [h1, h2] at h
  refine h.mono ?_
  rintro e w' ⟨rfl, m, rfl⟩
  exact ⟨rfl, hs.drewN m⟩
theorem own2 {W0 w : World} {L : List Assn} {pa pb : Option Addr} {ca cb n k : Nat} {xs ys : List Byte} (hx : xs.length = n) (hy : ys.length = k) (hs : Sat W0 w (row pa ca 1 n (u8s xs) :: row pb cb 1 k (u8s ys) :: L)) : Sat W0 w (ownRows [(pa, ca, xs), (pb, cb, ys)] :: L) := by
  subst hx hy
  have h1 : Sat W0 w (emp :: row pb cb 1 ys.length (u8s ys) :: row pa ca 1 xs.length (u8s xs) :: L) := (hs.pull 1).emp
  have h2 : Sat W0 w (ownRows [(pb, cb, ys)] :: row pa ca 1 xs.length (u8s xs) :: L) := Sat.sepShut (h1.pull 1)
  exact Sat.sepShut (h2.pull 1)
theorem blockR {W0 w : World} {L : List Assn} {m m2 : Bool} {pk ps : Option Addr} {ck cs nk ns : Nat} {pv : Value} {al cv iv : Int} (wide : Bool) (p : Option Nat) (rs : List Run3) (key salt : List Byte) (count i : Nat) (hnk : key.length = nk) (hns : salt.length = ns) (hp : pv = ptrO p) (ha : al = algN wide) (hcv : cv = (count : Int)) (hiv : iv = (i : Int))
    (hs : Sat W0 w (ledO p rs :: bytes m pk key :: bytes m2 ps salt :: L)) (hk1 : nk ≤ ck) (hk2 : ck ≤ maxLen) (hc1 : ns ≤ cs) (hm1 : cs ≤ maxLen) (h1 : 1 ≤ count) (h2 : count ≤ 1048576) (hi1 : 1 ≤ i) (hi : i < 4294967296)
    (hb : tot rs + 4 * nk + 2 * ns + 9000000 ≤ 2305843009213693952) (hl : rs.length + 16 ≤ 1048576) :
    Calls Tryz.prog 22 #[pv, .int .u8 al, .slice pk nk ck, .slice ps ns cs, .int .i64 cv, .int .i64 iv] w fun e w' => ∃ q cq, e = .returned (.tuple #[.slice q (hsz wide) cq, .int .i64 0]) ∧ Sat W0 w' (row q cq 1 (hsz wide) (u8s (pbBlock wide key salt count i)) :: ledO p (noteN rs (evK wide) (evS wide) (keyN wide nk + pbN wide ns count)) :: bytes m pk key :: bytes m2 ps salt :: L) := by
  subst hnk hns hp ha hcv hiv
  exact pbBlockOf wide p rs key salt count i hk1 hk2 hc1 hm1 h1 h2 hi1 hi hb hl hs
set_option maxHeartbeats 1000000 in
theorem lent16 {W0 w : World} {L : List Assn} {m : Bool} {pp : Option Addr} {n cap : Nat} (P : List Byte) (hP : P.length = n) (hn : n ≤ 1000000000) (hs : Sat W0 w (bytes m pp P :: L)) :
    Calls Tryz.prog 20 #[.slice pp n cap] w fun e w' => ∃ q c, e = .returned (.tuple #[.slice q (n + 6) c, .slice q n c]) ∧ n + 6 ≤ c ∧ c ≤ maxLen ∧ Sat W0 w' (bytes true q (lentB P) :: bytes m pp P :: L) := by
  have HP := Lib.hid hP; clear hP
  go_enter Tryz.func20, Tryz.ntmps20
  go_wp2_with fail
  refine (lentF P HP.out (by omega) hs).mono ?_
  rintro e w1 ⟨q, c, rfl, h1, h2, s1⟩
  have HS := Lib.hid (And.intro h2 s1); clear h2 s1 hs
  go_wp2_with fail
  go_quiet (fail)
  go_wp2
  refine bodyPost_ret (v := .tuple #[.slice q (n + 6) c, .slice q n c]) (by simp [results, Tryz.results20, go_sem]) rfl ⟨q, c, rfl, h1, HS.out.1, HS.out.2.drewN _⟩
theorem work16 (w : World) (ns cv bv : Int) (h0 : 0 ≤ ns) (hns : ns ≤ 4611686018427387904) (c1 : 1 ≤ cv) (c2 : cv ≤ 1048576) (b1 : 0 ≤ bv) (b2 : bv ≤ 40) : Calls Tryz.prog 41 #[.int .i64 ns, .int .i64 cv, .int .i64 bv] w fun e w' => (∃ x, e = .returned (.int .i64 x)) ∧ w' = w := by
  have g1 : ¬ cv < 0 := by omega
  have g2 : ¬ 1048576 < cv := by omega
  have g3 : ¬ 1000 < bv := by omega
  go_enter Tryz.func41, Tryz.ntmps41
  go_wp2
  go_ret
  exact ⟨⟨_, rfl⟩, rfl⟩
def isBool (e : Ending) : Prop := ∃ r, e = .returned (.bool r)
set_option maxHeartbeats 1000000 in
theorem heavy16 (w : World) (al cv bv : Int) (pk ps : Option Addr) (nk ck ns cs : Nat) (hns : ns ≤ 4611686018427387904) :
    Calls Tryz.prog 19 #[.int .u8 al, .slice pk nk ck, .slice ps ns cs, .int .i64 cv, .int .i64 bv] w fun e w' => isBool e ∧ w' = w := by
  have hz := rsize16 w al
  obtain ⟨z, hzz⟩ : ∃ z, z = (if al = 1 then (32 : Int) else if al = 2 then 64 else 0) := ⟨_, rfl⟩
  rw [← hzz] at hz
  have HZ := Lib.hid hz; clear hz hzz
  by_cases h0 : z = 0
  · subst h0
    go_enter Tryz.func19, Tryz.ntmps19
    go_wp2_with fail
    refine HZ.out.mono ?_
    rintro e w1 ⟨rfl, rfl⟩
    go_wp2
    go_ret
    exact ⟨⟨_, rfl⟩, rfl⟩
  have e0 : (z == 0) = false := by simpa using h0
  by_cases c1 : cv < 1
  · go_enter Tryz.func19, Tryz.ntmps19
    go_wp2_with fail
    refine HZ.out.mono ?_
    rintro e w1 ⟨rfl, rfl⟩
    go_wp2
    go_ret
    exact ⟨⟨_, rfl⟩, rfl⟩
  by_cases c2 : 1048576 < cv
  · go_enter Tryz.func19, Tryz.ntmps19
    go_wp2_with fail
    refine HZ.out.mono ?_
    rintro e w1 ⟨rfl, rfl⟩
    go_wp2
    go_ret
    exact ⟨⟨_, rfl⟩, rfl⟩
  by_cases c3 : bv < 0
  · go_enter Tryz.func19, Tryz.ntmps19
    go_wp2_with fail
    refine HZ.out.mono ?_
    rintro e w1 ⟨rfl, rfl⟩
    go_wp2
    go_ret
    exact ⟨⟨_, rfl⟩, rfl⟩
  by_cases c4 : 40 < bv
  · go_enter Tryz.func19, Tryz.ntmps19
    go_wp2_with fail
    refine HZ.out.mono ?_
    rintro e w1 ⟨rfl, rfl⟩
    go_wp2
    go_ret
    exact ⟨⟨_, rfl⟩, rfl⟩
  go_enter Tryz.func19, Tryz.ntmps19
  go_wp2_with fail
  refine HZ.out.mono ?_
  rintro e w1 ⟨rfl, rfl⟩
  go_wp2_with fail
  refine (work16 _ (ns : Int) cv bv (by omega) (by omega) (by omega) (by omega) (by omega) (by omega)).mono ?_
  rintro e w2 ⟨⟨x, rfl⟩, rfl⟩
  by_cases d1 : 1500 < x
  · go_wp2
    go_ret
    exact ⟨⟨_, rfl⟩, rfl⟩
  by_cases d2 : 20000 < nk
  · go_wp2
    go_ret
    exact ⟨⟨_, rfl⟩, rfl⟩
  by_cases d3 : 20000 < ns
  · go_wp2
    go_ret
    exact ⟨⟨_, rfl⟩, rfl⟩
  go_wp2
  go_ret
  exact ⟨⟨_, rfl⟩, rfl⟩
theorem sameRB {W0 w : World} {L : List Assn} {ca cb da n k : Nat} {m : Bool} {pa pb : Option Addr} (xs ys : List Byte) (hk : ys.length = k) (hn : n ≤ 1000000000000) (he : xs = ys) (hs : Sat W0 w (row pa da 1 n (u8s xs) :: bytes m pb ys :: L)) :
    Calls Tryz.prog 14 #[.slice pa n ca, .slice pb k cb] w fun e w' => e = .returned (.bool true) ∧ Sat W0 w' (row pa da 1 n (u8s xs) :: bytes m pb ys :: L) := by
  obtain ⟨h1, -, -, s1⟩ := rowBytes hs
  have h := sameTrue (ca := ca) (cb := cb) xs ys he (by rw [h1]; unfold maxLen; omega) s1
  rw [h1, hk] at h
  refine h.mono ?_
  rintro e w' ⟨rfl, m, rfl⟩
  exact ⟨rfl, hs.drewN m⟩
theorem keyR {W0 w : World} {L : List Assn} {m m2 : Bool} {pk ps : Option Addr} {ck cs nk ns : Nat} {pv : Value} {al cv nv : Int} (wide : Bool) (p : Option Nat) (rs : List Run3) (key salt : List Byte) (count n : Nat) (hnk : key.length = nk) (hns : salt.length = ns) (hp : pv = ptrO p) (ha : al = algN wide) (hcv : cv = (count : Int)) (hnv : nv = (n : Int))
    (hs : Sat W0 w (ledO p rs :: bytes m pk key :: bytes m2 ps salt :: L)) (hk1 : nk ≤ ck) (hk2 : ck ≤ maxLen) (hc1 : ns ≤ cs) (hm1 : cs ≤ maxLen) (h1 : 1 ≤ count) (h2 : count ≤ 1048576) (hn : n ≤ 16320)
    (hb : tot rs + 4 * nk + 1000 * ns + 9000000000 ≤ 2305843009213693952) (hl : rs.length + 16 ≤ 1048576) :
    Calls Tryz.prog 25 #[pv, .int .u8 al, .slice pk nk ck, .slice ps ns cs, .int .i64 cv, .int .i64 nv] w fun e w' => ∃ q, e = .returned (.tuple #[.slice q n n, .int .i64 0]) ∧ Sat W0 w' (row q n 1 n (u8s ((pbMany wide key salt count (pbM wide n)).take n)) :: ledO p (noteN rs (evK wide) (evS wide) (keyN wide nk + pbM wide n * pbN wide ns count)) :: bytes m pk key :: bytes m2 ps salt :: L) := by
  subst hnk hns hp ha hcv hnv
  exact pbKey wide p rs key salt count n hk1 hk2 hc1 hm1 h1 h2 hn hb hl hs
theorem bytesSplit {W0 w : World} {L : List Assn} {m : Bool} {q : Option Addr} (A B : List Byte) (h : Sat W0 w (bytes m q (A ++ B) :: L)) : ∃ q2, Sat W0 w (bytes m q A :: bytes m q2 B :: L) ∧ ∀ w' L', Sat W0 w' (bytes m q A :: bytes m q2 B :: L') → Sat W0 w' (bytes m q (A ++ B) :: L') := by
  by_cases hA : A = []
  · subst hA
    exact ⟨q, bytesNil m q h, fun w' L' s => s.tail⟩
  · by_cases hB : B = []
    · subst hB
      rw [List.append_nil] at h ⊢
      exact ⟨none, (bytesNil m none h).pull 1, fun w' L' s => s.drop 1⟩
    · obtain ⟨b, o, rfl, h1⟩ := bytesCell h (by simp [hA])
      rw [u8s_append] at h1
      have h2 := h1.part rfl
      refine ⟨some ⟨b, o + (u8s A).length, none⟩, ?_, ?_⟩
      · have h3 := bytesOf h2
        have h4 := bytesOf (show Sat W0 w (seg m b (o + (u8s A).length) (u8s B) :: bytes m (some ⟨b, o, none⟩) A :: L) from h3.pull 1)
        exact h4.pull 1
      · intro w' L' s
        obtain ⟨b1, o1, e1, s1⟩ := bytesCell s hA
        cases e1
        obtain ⟨b2, o2, e2, s2⟩ := bytesCell (show Sat W0 w' (bytes m (some ⟨b, o + (u8s A).length, none⟩) B :: seg m b o (u8s A) :: L') from s1.pull 1) hB
        cases e2
        have s3 := (show Sat W0 w' (seg m b o (u8s A) :: seg m b (o + (u8s A).length) (u8s B) :: L') from s2.pull 1).join rfl
        rw [← u8s_append] at s3
        exact bytesOf s3
set_option maxRecDepth 100000 in
set_option maxHeartbeats 2000000 in
theorem keys_bad (W : World) (al cv nv : Int) (p1 p2 : Option Addr) (n1 c1 n2 c2 : Nat) (K S : List Byte) (hK : K.length = n1) (hK1 : n1 ≤ c1) (hK2 : c1 ≤ maxLen) (hK3 : n1 ≤ 1048576) (hS : S.length = n2) (hS1 : n2 ≤ c2) (hS2 : c2 ≤ maxLen) (hS3 : n2 ≤ 1048576) (s0 : Sat W W (bytes false p1 K :: bytes false p2 S :: [])) (hc : keyCode al cv nv ≠ 0) (g2 : nv ≤ 16320) :
    Calls Tryz.prog 5 #[.int .u8 al, .slice p1 n1 c1, .slice p2 n2 c2, .int .i64 cv, .int .i64 nv] W fun e W' => e = .returned (.bool true) ∧ Below W.heap.size W W' := by
  have HA := Lib.hid (And.intro hK (And.intro hS (And.intro hK2 hS2))); clear hK hS hK1 hK2 hS1 hS2
  have HC := Lib.hid hc; clear hc
  go_enter Tryz.func5, Tryz.ntmps5
  go_wp2_with fail
  refine (heavy16 _ _ _ _ p1 p2 n1 c1 n2 c2 (by omega)).mono ?_
  rintro e w1 ⟨⟨r, rfl⟩, hw⟩
  obtain rfl := hw.symm
  clear hw
  cases r
  rotate_left
  · go_wp2
    go_ret
    exact ⟨rfl, s0.below⟩
  go_wp2_with fail
  refine (lent16 K HA.out.1 (by omega) s0).mono ?_
  rintro e w2 ⟨q1, d1, rfl, hq1, hq2, s1⟩
  clear s0
  go_wp2_with fail
  refine (lent16 S HA.out.2.1 (by omega) (by (repeat (first | with_reducible apply Sat.sub (s1) | with_reducible apply Sat.alloc' | with_reducible apply Sat.drew | with_reducible apply Sat.drewN)); (repeat (first | with_reducible exact Fr.done | with_reducible exact Fr.nil | (with_reducible apply Fr.cons; (focus ((repeat (first | with_reducible exact Take.here | with_reducible apply Take.there)); done))) | with_reducible apply Fr.skip)); done)).mono ?_
  rintro e w3 ⟨q2, d2, rfl, hq3, hq4, s2⟩
  clear s1 hq2 hq4
  go_wp2_with fail
  refine (ledNewF s2).mono ?_
  rintro e w4 ⟨l, rfl, s4⟩
  clear s2
  go_wp2_with fail
  refine (rledNew s4).mono ?_
  rintro e w5 ⟨k, rfl, s5⟩
  clear s4
  go_wp2_with fail
  refine (rkeyBad16 _ _ _ _ al cv nv HC.out).mono ?_
  rintro e w6 ⟨rfl, rfl⟩
  go_wp2_with fail
  refine (keyBad (some l) _ _ _ _ _ _ al cv nv HC.out s5).mono ?_
  rintro e w7 ⟨rfl, s7⟩
  clear s5
  go_wp2_with fail
  refine (keyBad none _ _ _ _ _ _ al cv nv HC.out s7).mono ?_
  rintro e w8 ⟨rfl, s8⟩
  clear s7
  obtain ⟨z, hz⟩ : ∃ z, z = keyCode al cv nv := ⟨_, rfl⟩
  rw [← hz]
  clear hz
  go_wp2_with fail
  refine (sameT (n := 0) (k := 0) [] [] rfl rfl (by decide) rfl (bytesNil true none (bytesNil true none s8))).mono ?_
  rintro e w9 ⟨rfl, s9⟩
  clear s8
  go_wp2_with fail
  refine (sameT (n := 0) (k := 0) [] [] rfl rfl (by decide) rfl s9).mono ?_
  rintro e w10 ⟨rfl, s10⟩
  clear s9
  go_wp2_with fail
  refine (keptF K HA.out.1 rfl (by omega) (show Sat W w10 (bytes true q1 (lentB K) :: bytes false p1 K :: bytes true q2 (lentB S) :: bytes false p2 S :: rled k [] :: ledO (some l) [] :: []) from (by (repeat (first | with_reducible apply Sat.sub (s10) | with_reducible apply Sat.alloc' | with_reducible apply Sat.drew | with_reducible apply Sat.drewN)); (repeat (first | with_reducible exact Fr.done | with_reducible exact Fr.nil | (with_reducible apply Fr.cons; (focus ((repeat (first | with_reducible exact Take.here | with_reducible apply Take.there)); done))) | with_reducible apply Fr.skip)); done))).mono ?_
  rintro e w11 ⟨rfl, s11⟩
  clear s10
  go_wp2_with fail
  refine (keptF S HA.out.2.1 rfl (by omega) (show Sat W w11 (bytes true q2 (lentB S) :: bytes false p2 S :: bytes true q1 (lentB K) :: rled k [] :: ledO (some l) [] :: []) from (by (repeat (first | with_reducible apply Sat.sub (s11) | with_reducible apply Sat.alloc' | with_reducible apply Sat.drew | with_reducible apply Sat.drewN)); (repeat (first | with_reducible exact Fr.done | with_reducible exact Fr.nil | (with_reducible apply Fr.cons; (focus ((repeat (first | with_reducible exact Take.here | with_reducible apply Take.there)); done))) | with_reducible apply Fr.skip)); done))).mono ?_
  rintro e w12 ⟨rfl, s12⟩
  clear s11
  go_wp2_with fail
  refine (overF (lentB K) (by rw [lentB_len, HA.out.1]) (by omega) (show Sat W w12 (bytes true q1 (lentB K) :: bytes true q2 (lentB S) :: rled k [] :: ledO (some l) [] :: []) from (by (repeat (first | with_reducible apply Sat.sub (s12) | with_reducible apply Sat.alloc' | with_reducible apply Sat.drew | with_reducible apply Sat.drewN)); (repeat (first | with_reducible exact Fr.done | with_reducible exact Fr.nil | (with_reducible apply Fr.cons; (focus ((repeat (first | with_reducible exact Take.here | with_reducible apply Take.there)); done))) | with_reducible apply Fr.skip)); done))).mono ?_
  rintro e w12a ⟨rfl, s12a⟩
  clear s12
  go_wp2_with fail
  refine (overF (lentB S) (by rw [lentB_len, HA.out.2.1]) (by omega) (show Sat W w12a (bytes true q2 (lentB S) :: rled k [] :: ledO (some l) [] :: []) from (by (repeat (first | with_reducible apply Sat.sub (s12a) | with_reducible apply Sat.alloc' | with_reducible apply Sat.drew | with_reducible apply Sat.drewN)); (repeat (first | with_reducible exact Fr.done | with_reducible exact Fr.nil | (with_reducible apply Fr.cons; (focus ((repeat (first | with_reducible exact Take.here | with_reducible apply Take.there)); done))) | with_reducible apply Fr.skip)); done))).mono ?_
  rintro e w12b ⟨rfl, s12b⟩
  clear s12a
  go_wp2_with fail
  refine (sameT (n := 0) (k := 0) [] [] rfl rfl (by decide) rfl (bytesNil true none (bytesNil true none s12b))).mono ?_
  rintro e w12c ⟨rfl, s12c⟩
  clear s12b
  have s13 : Sat W w12c (row none 0 1 0 (u8s []) :: row none 0 1 0 (u8s []) :: rled k [] :: ledO (some l) [] :: []) := ((show Sat W w12c (rled k [] :: ledO (some l) [] :: []) from (by (repeat (first | with_reducible apply Sat.sub (s12c) | with_reducible apply Sat.alloc' | with_reducible apply Sat.drew | with_reducible apply Sat.drewN)); (repeat (first | with_reducible exact Fr.done | with_reducible exact Fr.nil | (with_reducible apply Fr.cons; (focus ((repeat (first | with_reducible exact Take.here | with_reducible apply Take.there)); done))) | with_reducible apply Fr.skip)); done)).rowNil 1).rowNil 1
  have s14 : Sat W (w12c.alloc (.cells #[.slice none 0 0, .slice none 0 0] 41)) (seg true w12c.heap.size 0 ([(none, 0, []), (none, 0, [])].map pieceV) :: ownRows [(none, 0, []), (none, 0, [])] :: rled k [] :: ledO (some l) [] :: []) := (own2 rfl rfl s13).alloc #[.slice none 0 0, .slice none 0 0] 41
  have HV := Lib.hid s14; clear s13 s14 s12c
  go_wp2_with fail
  refine (apart [(none, 0, []), (none, 0, [])] rfl (by simp) (by intro t ht; simp at ht; subst ht; simp) HV.out).mono ?_
  rintro e w15 ⟨rfl, s15⟩
  clear HV
  go_wp2_with fail
  refine (ledRunsF (l := l) (rs := []) (by simp) (by (repeat (first | with_reducible apply Sat.sub (s15) | with_reducible apply Sat.alloc' | with_reducible apply Sat.drew | with_reducible apply Sat.drewN)); (repeat (first | with_reducible exact Fr.done | with_reducible exact Fr.nil | (with_reducible apply Fr.cons; (focus ((repeat (first | with_reducible exact Take.here | with_reducible apply Take.there)); done))) | with_reducible apply Fr.skip)); done)).mono ?_
  rintro e w16 ⟨q5, c5, rfl, s16⟩
  clear s15
  go_wp2_with fail
  refine (rledRuns (l := k) (rs := []) (by simp) (by (repeat (first | with_reducible apply Sat.sub (s16) | with_reducible apply Sat.alloc' | with_reducible apply Sat.drew | with_reducible apply Sat.drewN)); (repeat (first | with_reducible exact Fr.done | with_reducible exact Fr.nil | (with_reducible apply Fr.cons; (focus ((repeat (first | with_reducible exact Take.here | with_reducible apply Take.there)); done))) | with_reducible apply Fr.skip)); done)).mono ?_
  rintro e w17 ⟨q6, c6, rfl, s17⟩
  clear s16
  go_wp2_with fail
  refine (sameRuns [] (by rfl) (by rfl) (by simp) (by (repeat (first | with_reducible apply Sat.sub (s17) | with_reducible apply Sat.alloc' | with_reducible apply Sat.drew | with_reducible apply Sat.drewN)); (repeat (first | with_reducible exact Fr.done | with_reducible exact Fr.nil | (with_reducible apply Fr.cons; (focus ((repeat (first | with_reducible exact Take.here | with_reducible apply Take.there)); done))) | with_reducible apply Fr.skip)); done)).mono ?_
  rintro e w18 ⟨rfl, s18⟩
  go_wp2
  go_ret
  exact ⟨rfl, s18.below⟩
set_option maxRecDepth 100000 in
set_option maxHeartbeats 2000000 in
theorem keys_out (W : World) (al cv nv : Int) (p1 p2 : Option Addr) (n1 c1 n2 c2 : Nat) (K S : List Byte) (hK : K.length = n1) (hK1 : n1 ≤ c1) (hK2 : c1 ≤ maxLen) (hK3 : n1 ≤ 1048576) (hS : S.length = n2) (hS1 : n2 ≤ c2) (hS2 : c2 ≤ maxLen) (hS3 : n2 ≤ 1048576) (s0 : Sat W W (bytes false p1 K :: bytes false p2 S :: [])) (hc : keyCode al cv nv ≠ 0) (g : 16320 < nv) :
    Calls Tryz.prog 5 #[.int .u8 al, .slice p1 n1 c1, .slice p2 n2 c2, .int .i64 cv, .int .i64 nv] W fun e W' => e = .returned (.bool true) ∧ Below W.heap.size W W' := by
  have HA := Lib.hid (And.intro hK (And.intro hS (And.intro hK2 hS2))); clear hK hS hK1 hK2 hS1 hS2
  have HC := Lib.hid hc; clear hc
  go_enter Tryz.func5, Tryz.ntmps5
  go_wp2_with fail
  refine (lent16 K HA.out.1 (by omega) s0).mono ?_
  rintro e w2 ⟨q1, d1, rfl, hq1, hq2, s1⟩
  clear s0
  go_wp2_with fail
  refine (lent16 S HA.out.2.1 (by omega) (by (repeat (first | with_reducible apply Sat.sub (s1) | with_reducible apply Sat.alloc' | with_reducible apply Sat.drew | with_reducible apply Sat.drewN)); (repeat (first | with_reducible exact Fr.done | with_reducible exact Fr.nil | (with_reducible apply Fr.cons; (focus ((repeat (first | with_reducible exact Take.here | with_reducible apply Take.there)); done))) | with_reducible apply Fr.skip)); done)).mono ?_
  rintro e w3 ⟨q2, d2, rfl, hq3, hq4, s2⟩
  clear s1 hq2 hq4
  go_wp2_with fail
  refine (ledNewF s2).mono ?_
  rintro e w4 ⟨l, rfl, s4⟩
  clear s2
  go_wp2_with fail
  refine (rledNew s4).mono ?_
  rintro e w5 ⟨k, rfl, s5⟩
  clear s4
  go_wp2_with fail
  refine (rkeyBad16 _ _ _ _ al cv nv HC.out).mono ?_
  rintro e w6 ⟨rfl, rfl⟩
  go_wp2_with fail
  refine (keyBad (some l) _ _ _ _ _ _ al cv nv HC.out s5).mono ?_
  rintro e w7 ⟨rfl, s7⟩
  clear s5
  go_wp2_with fail
  refine (keyBad none _ _ _ _ _ _ al cv nv HC.out s7).mono ?_
  rintro e w8 ⟨rfl, s8⟩
  clear s7
  obtain ⟨z, hz⟩ : ∃ z, z = keyCode al cv nv := ⟨_, rfl⟩
  rw [← hz]
  clear hz
  go_wp2_with fail
  refine (sameT (n := 0) (k := 0) [] [] rfl rfl (by decide) rfl (bytesNil true none (bytesNil true none s8))).mono ?_
  rintro e w9 ⟨rfl, s9⟩
  clear s8
  go_wp2_with fail
  refine (sameT (n := 0) (k := 0) [] [] rfl rfl (by decide) rfl s9).mono ?_
  rintro e w10 ⟨rfl, s10⟩
  clear s9
  go_wp2_with fail
  refine (keptF K HA.out.1 rfl (by omega) (show Sat W w10 (bytes true q1 (lentB K) :: bytes false p1 K :: bytes true q2 (lentB S) :: bytes false p2 S :: rled k [] :: ledO (some l) [] :: []) from (by (repeat (first | with_reducible apply Sat.sub (s10) | with_reducible apply Sat.alloc' | with_reducible apply Sat.drew | with_reducible apply Sat.drewN)); (repeat (first | with_reducible exact Fr.done | with_reducible exact Fr.nil | (with_reducible apply Fr.cons; (focus ((repeat (first | with_reducible exact Take.here | with_reducible apply Take.there)); done))) | with_reducible apply Fr.skip)); done))).mono ?_
  rintro e w11 ⟨rfl, s11⟩
  clear s10
  go_wp2_with fail
  refine (keptF S HA.out.2.1 rfl (by omega) (show Sat W w11 (bytes true q2 (lentB S) :: bytes false p2 S :: bytes true q1 (lentB K) :: rled k [] :: ledO (some l) [] :: []) from (by (repeat (first | with_reducible apply Sat.sub (s11) | with_reducible apply Sat.alloc' | with_reducible apply Sat.drew | with_reducible apply Sat.drewN)); (repeat (first | with_reducible exact Fr.done | with_reducible exact Fr.nil | (with_reducible apply Fr.cons; (focus ((repeat (first | with_reducible exact Take.here | with_reducible apply Take.there)); done))) | with_reducible apply Fr.skip)); done))).mono ?_
  rintro e w12 ⟨rfl, s12⟩
  clear s11
  go_wp2_with fail
  refine (overF (lentB K) (by rw [lentB_len, HA.out.1]) (by omega) (show Sat W w12 (bytes true q1 (lentB K) :: bytes true q2 (lentB S) :: rled k [] :: ledO (some l) [] :: []) from (by (repeat (first | with_reducible apply Sat.sub (s12) | with_reducible apply Sat.alloc' | with_reducible apply Sat.drew | with_reducible apply Sat.drewN)); (repeat (first | with_reducible exact Fr.done | with_reducible exact Fr.nil | (with_reducible apply Fr.cons; (focus ((repeat (first | with_reducible exact Take.here | with_reducible apply Take.there)); done))) | with_reducible apply Fr.skip)); done))).mono ?_
  rintro e w12a ⟨rfl, s12a⟩
  clear s12
  go_wp2_with fail
  refine (overF (lentB S) (by rw [lentB_len, HA.out.2.1]) (by omega) (show Sat W w12a (bytes true q2 (lentB S) :: rled k [] :: ledO (some l) [] :: []) from (by (repeat (first | with_reducible apply Sat.sub (s12a) | with_reducible apply Sat.alloc' | with_reducible apply Sat.drew | with_reducible apply Sat.drewN)); (repeat (first | with_reducible exact Fr.done | with_reducible exact Fr.nil | (with_reducible apply Fr.cons; (focus ((repeat (first | with_reducible exact Take.here | with_reducible apply Take.there)); done))) | with_reducible apply Fr.skip)); done))).mono ?_
  rintro e w12b ⟨rfl, s12b⟩
  clear s12a
  go_wp2_with fail
  refine (sameT (n := 0) (k := 0) [] [] rfl rfl (by decide) rfl (bytesNil true none (bytesNil true none s12b))).mono ?_
  rintro e w12c ⟨rfl, s12c⟩
  clear s12b
  have s13 : Sat W w12c (row none 0 1 0 (u8s []) :: row none 0 1 0 (u8s []) :: rled k [] :: ledO (some l) [] :: []) := ((show Sat W w12c (rled k [] :: ledO (some l) [] :: []) from (by (repeat (first | with_reducible apply Sat.sub (s12c) | with_reducible apply Sat.alloc' | with_reducible apply Sat.drew | with_reducible apply Sat.drewN)); (repeat (first | with_reducible exact Fr.done | with_reducible exact Fr.nil | (with_reducible apply Fr.cons; (focus ((repeat (first | with_reducible exact Take.here | with_reducible apply Take.there)); done))) | with_reducible apply Fr.skip)); done)).rowNil 1).rowNil 1
  have s14 : Sat W (w12c.alloc (.cells #[.slice none 0 0, .slice none 0 0] 41)) (seg true w12c.heap.size 0 ([(none, 0, []), (none, 0, [])].map pieceV) :: ownRows [(none, 0, []), (none, 0, [])] :: rled k [] :: ledO (some l) [] :: []) := (own2 rfl rfl s13).alloc #[.slice none 0 0, .slice none 0 0] 41
  have HV := Lib.hid s14; clear s13 s14 s12c
  go_wp2_with fail
  refine (apart [(none, 0, []), (none, 0, [])] rfl (by simp) (by intro t ht; simp at ht; subst ht; simp) HV.out).mono ?_
  rintro e w15 ⟨rfl, s15⟩
  clear HV
  go_wp2_with fail
  refine (ledRunsF (l := l) (rs := []) (by simp) (by (repeat (first | with_reducible apply Sat.sub (s15) | with_reducible apply Sat.alloc' | with_reducible apply Sat.drew | with_reducible apply Sat.drewN)); (repeat (first | with_reducible exact Fr.done | with_reducible exact Fr.nil | (with_reducible apply Fr.cons; (focus ((repeat (first | with_reducible exact Take.here | with_reducible apply Take.there)); done))) | with_reducible apply Fr.skip)); done)).mono ?_
  rintro e w16 ⟨q5, c5, rfl, s16⟩
  clear s15
  go_wp2_with fail
  refine (rledRuns (l := k) (rs := []) (by simp) (by (repeat (first | with_reducible apply Sat.sub (s16) | with_reducible apply Sat.alloc' | with_reducible apply Sat.drew | with_reducible apply Sat.drewN)); (repeat (first | with_reducible exact Fr.done | with_reducible exact Fr.nil | (with_reducible apply Fr.cons; (focus ((repeat (first | with_reducible exact Take.here | with_reducible apply Take.there)); done))) | with_reducible apply Fr.skip)); done)).mono ?_
  rintro e w17 ⟨q6, c6, rfl, s17⟩
  clear s16
  go_wp2_with fail
  refine (sameRuns [] (by rfl) (by rfl) (by simp) (by (repeat (first | with_reducible apply Sat.sub (s17) | with_reducible apply Sat.alloc' | with_reducible apply Sat.drew | with_reducible apply Sat.drewN)); (repeat (first | with_reducible exact Fr.done | with_reducible exact Fr.nil | (with_reducible apply Fr.cons; (focus ((repeat (first | with_reducible exact Take.here | with_reducible apply Take.there)); done))) | with_reducible apply Fr.skip)); done)).mono ?_
  rintro e w18 ⟨rfl, s18⟩
  go_wp2
  go_ret
  exact ⟨rfl, s18.below⟩
set_option maxRecDepth 100000 in
set_option maxHeartbeats 2000000 in
theorem keys_good (wide : Bool) (count n : Nat) (W : World) (al cv nv : Int) (p1 p2 : Option Addr) (n1 c1 n2 c2 : Nat) (K S : List Byte) (hK : K.length = n1) (hK1 : n1 ≤ c1) (hK2 : c1 ≤ maxLen) (hK3 : n1 ≤ 1048576) (hS : S.length = n2) (hS1 : n2 ≤ c2) (hS2 : c2 ≤ maxLen) (hS3 : n2 ≤ 1048576) (s0 : Sat W W (bytes false p1 K :: bytes false p2 S :: [])) (hal : al = algN wide) (hcv : cv = (count : Int)) (hnv : nv = (n : Int)) (h1 : 1 ≤ count) (h2 : count ≤ 1048576) (hn : n ≤ 16320) :
    Calls Tryz.prog 5 #[.int .u8 al, .slice p1 n1 c1, .slice p2 n2 c2, .int .i64 cv, .int .i64 nv] W fun e W' => e = .returned (.bool true) ∧ Below W.heap.size W W' := by
  subst hal hcv hnv
  have hTl : ((pbMany wide K S count (pbM wide n)).take n).length = n := by
    rw [List.length_take, pbMany_len]
    have := pbM_ge wide n
    omega
  have HA := Lib.hid (And.intro hK (And.intro hS (And.intro hK2 hS2))); clear hK hS hK1 hK2 hS1 hS2
  have hkg := keyN_ge wide n1
  obtain ⟨N, hN⟩ : ∃ N, N = keyN wide n1 + pbM wide n * pbN wide n2 count := ⟨_, rfl⟩
  have hNR : noteN [] (evK wide) (evS wide) N = [(evK wide, evS wide, N)] := by unfold noteN; rw [if_neg (by omega)]; rfl
  obtain ⟨T, hT⟩ : ∃ T, T = (pbMany wide K S count (pbM wide n)).take n := ⟨_, rfl⟩
  have hr := fun (w : World) (L : List Assn) (k : Nat) (s : Sat W w (rledO (some k) [] :: bytes false p1 K :: bytes false p2 S :: L)) => rkeyOf16 (ck := c1) (cs := c2) wide (some k) [] K S count n rfl rfl rfl HA.out.1 HA.out.2.1 (by omega) (by omega) h1 h2 hn s (by simp only [tot]; omega) (by simp)
  have hx := fun (w : World) (L : List Assn) (p : Option Nat) (pv : Value) (pk ps : Option Addr) (ck cs : Nat) (hp : pv = ptrO p) (a1 : n1 ≤ ck) (a2 : ck ≤ maxLen) (a3 : n2 ≤ cs) (a4 : cs ≤ maxLen) (s : Sat W w (ledO p [] :: bytes true pk K :: bytes true ps S :: L)) => keyR (al := algN wide) (cv := (count : Int)) (nv := (n : Int)) wide p [] K S count n HA.out.1 HA.out.2.1 hp rfl rfl rfl s a1 a2 a3 a4 h1 h2 hn (by simp only [tot]; omega) (by simp)
  rw [← hN, ← hT, hNR] at hr hx
  rw [← hT] at hTl
  have HN := Lib.hid (And.intro hr (And.intro hx hTl)); clear hr hx hTl hN hNR hT hkg
  have g2 : (n : Int) ≤ 16320 := by omega
  clear h1 h2
  go_enter Tryz.func5, Tryz.ntmps5
  go_wp2_with fail
  refine (heavy16 _ _ _ _ p1 p2 n1 c1 n2 c2 (by omega)).mono ?_
  rintro e w1 ⟨⟨r, rfl⟩, hw⟩
  obtain rfl := hw.symm
  clear hw
  cases r
  rotate_left
  · go_wp2
    go_ret
    exact ⟨rfl, s0.below⟩
  go_wp2_with fail
  refine (lent16 K HA.out.1 (by omega) s0).mono ?_
  rintro e w2 ⟨q1, d1, rfl, hq1, hq2, s1⟩
  clear s0
  go_wp2_with fail
  refine (lent16 S HA.out.2.1 (by omega) (by (repeat (first | with_reducible apply Sat.sub (s1) | with_reducible apply Sat.alloc' | with_reducible apply Sat.drew | with_reducible apply Sat.drewN)); (repeat (first | with_reducible exact Fr.done | with_reducible exact Fr.nil | (with_reducible apply Fr.cons; (focus ((repeat (first | with_reducible exact Take.here | with_reducible apply Take.there)); done))) | with_reducible apply Fr.skip)); done)).mono ?_
  rintro e w3 ⟨q2, d2, rfl, hq3, hq4, s2⟩
  clear s1
  have HQ := Lib.hid (And.intro hq2 hq4); clear hq2 hq4
  have s2e := s2
  simp only [lentB] at s2e
  obtain ⟨k1, t1, j1⟩ := bytesSplit K (marks 7 6) (show Sat W w3 (bytes true q1 (K ++ marks 7 6) :: bytes true q2 (S ++ marks 7 6) :: bytes false p1 K :: bytes false p2 S :: []) from (by (repeat (first | with_reducible apply Sat.sub (s2e) | with_reducible apply Sat.alloc' | with_reducible apply Sat.drew | with_reducible apply Sat.drewN)); (repeat (first | with_reducible exact Fr.done | with_reducible exact Fr.nil | (with_reducible apply Fr.cons; (focus ((repeat (first | with_reducible exact Take.here | with_reducible apply Take.there)); done))) | with_reducible apply Fr.skip)); done))
  obtain ⟨k2, t2, j2⟩ := bytesSplit S (marks 7 6) (show Sat W w3 (bytes true q2 (S ++ marks 7 6) :: bytes true q1 K :: bytes true k1 (marks 7 6) :: bytes false p1 K :: bytes false p2 S :: []) from (by (repeat (first | with_reducible apply Sat.sub (t1) | with_reducible apply Sat.alloc' | with_reducible apply Sat.drew | with_reducible apply Sat.drewN)); (repeat (first | with_reducible exact Fr.done | with_reducible exact Fr.nil | (with_reducible apply Fr.cons; (focus ((repeat (first | with_reducible exact Take.here | with_reducible apply Take.there)); done))) | with_reducible apply Fr.skip)); done))
  have HJ := Lib.hid (And.intro j1 j2); clear j1 j2 t1 s2 s2e
  go_wp2_with fail
  refine (ledNewF t2).mono ?_
  rintro e w4 ⟨l, rfl, s4⟩
  clear t2
  go_wp2_with fail
  refine (rledNew s4).mono ?_
  rintro e w5 ⟨k, rfl, s5⟩
  clear s4
  have s6 : Sat W w5 (rledO (some k) [] :: bytes false p1 K :: bytes false p2 S :: ledO (some l) [] :: bytes true q1 K :: bytes true q2 S :: bytes true k1 (marks 7 6) :: bytes true k2 (marks 7 6) :: []) := (show Sat W w5 (rled k [] :: bytes false p1 K :: bytes false p2 S :: ledO (some l) [] :: bytes true q1 K :: bytes true q2 S :: bytes true k1 (marks 7 6) :: bytes true k2 (marks 7 6) :: []) from (by (repeat (first | with_reducible apply Sat.sub (s5) | with_reducible apply Sat.alloc' | with_reducible apply Sat.drew | with_reducible apply Sat.drewN)); (repeat (first | with_reducible exact Fr.done | with_reducible exact Fr.nil | (with_reducible apply Fr.cons; (focus ((repeat (first | with_reducible exact Take.here | with_reducible apply Take.there)); done))) | with_reducible apply Fr.skip)); done))
  clear s5
  go_wp2_with fail
  refine (HN.out.1 _ _ k s6).mono ?_
  rintro e w7 ⟨qw, cw, rfl, s7'⟩
  clear s6
  have s7 : Sat W w7 (bytes true qw T :: rled k [(evK wide, evS wide, N)] :: bytes false p1 K :: bytes false p2 S :: ledO (some l) [] :: bytes true q1 K :: bytes true q2 S :: bytes true k1 (marks 7 6) :: bytes true k2 (marks 7 6) :: []) := s7'
  clear s7'
  go_wp2_with fail
  refine (HN.out.2.1 _ _ (some l) _ _ _ _ _ rfl (by omega) HQ.out.1 (by omega) HQ.out.2 (by (repeat (first | with_reducible apply Sat.sub (s7) | with_reducible apply Sat.alloc' | with_reducible apply Sat.drew | with_reducible apply Sat.drewN)); (repeat (first | with_reducible exact Fr.done | with_reducible exact Fr.nil | (with_reducible apply Fr.cons; (focus ((repeat (first | with_reducible exact Take.here | with_reducible apply Take.there)); done))) | with_reducible apply Fr.skip)); done)).mono ?_
  rintro e w8 ⟨qx, rfl, s8⟩
  clear s7
  go_wp2_with fail
  refine (HN.out.2.1 _ _ none _ _ _ _ _ rfl (by omega) HQ.out.1 (by omega) HQ.out.2 (by (repeat (first | with_reducible apply Sat.sub (ledNone s8) | with_reducible apply Sat.alloc' | with_reducible apply Sat.drew | with_reducible apply Sat.drewN)); (repeat (first | with_reducible exact Fr.done | with_reducible exact Fr.nil | (with_reducible apply Fr.cons; (focus ((repeat (first | with_reducible exact Take.here | with_reducible apply Take.there)); done))) | with_reducible apply Fr.skip)); done)).mono ?_
  rintro e w9 ⟨qy, rfl, s9'⟩
  clear s8
  have s9a : Sat W w9 (bytes true q1 K :: bytes true k1 (marks 7 6) :: bytes true q2 S :: bytes true k2 (marks 7 6) :: row qx n 1 n (u8s T) :: bytes true qw T :: row qy n 1 n (u8s T) :: rled k [(evK wide, evS wide, N)] :: ledO (some l) [(evK wide, evS wide, N)] :: bytes false p1 K :: bytes false p2 S :: []) := (by (repeat (first | with_reducible apply Sat.sub (s9') | with_reducible apply Sat.alloc' | with_reducible apply Sat.drew | with_reducible apply Sat.drewN)); (repeat (first | with_reducible exact Fr.done | with_reducible exact Fr.nil | (with_reducible apply Fr.cons; (focus ((repeat (first | with_reducible exact Take.here | with_reducible apply Take.there)); done))) | with_reducible apply Fr.skip)); done)
  have s9b := HJ.out.1 _ _ s9a
  have s9c := HJ.out.2 _ _ (show Sat W w9 (bytes true q2 S :: bytes true k2 (marks 7 6) :: bytes true q1 (K ++ marks 7 6) :: row qx n 1 n (u8s T) :: bytes true qw T :: row qy n 1 n (u8s T) :: rled k [(evK wide, evS wide, N)] :: ledO (some l) [(evK wide, evS wide, N)] :: bytes false p1 K :: bytes false p2 S :: []) from (by (repeat (first | with_reducible apply Sat.sub (s9b) | with_reducible apply Sat.alloc' | with_reducible apply Sat.drew | with_reducible apply Sat.drewN)); (repeat (first | with_reducible exact Fr.done | with_reducible exact Fr.nil | (with_reducible apply Fr.cons; (focus ((repeat (first | with_reducible exact Take.here | with_reducible apply Take.there)); done))) | with_reducible apply Fr.skip)); done))
  clear s9' s9a s9b HJ
  have s9 : Sat W w9 (row qx n 1 n (u8s T) :: bytes true qw T :: row qy n 1 n (u8s T) :: rled k [(evK wide, evS wide, N)] :: ledO (some l) [(evK wide, evS wide, N)] :: bytes false p1 K :: bytes false p2 S :: bytes true q1 (lentB K) :: bytes true q2 (lentB S) :: []) := by
    have t : Sat W w9 (bytes true q2 (lentB S) :: bytes true q1 (lentB K) :: row qx n 1 n (u8s T) :: bytes true qw T :: row qy n 1 n (u8s T) :: rled k [(evK wide, evS wide, N)] :: ledO (some l) [(evK wide, evS wide, N)] :: bytes false p1 K :: bytes false p2 S :: []) := s9c
    exact (by (repeat (first | with_reducible apply Sat.sub (t) | with_reducible apply Sat.alloc' | with_reducible apply Sat.drew | with_reducible apply Sat.drewN)); (repeat (first | with_reducible exact Fr.done | with_reducible exact Fr.nil | (with_reducible apply Fr.cons; (focus ((repeat (first | with_reducible exact Take.here | with_reducible apply Take.there)); done))) | with_reducible apply Fr.skip)); done)
  clear s9c
  go_wp2_with fail
  refine (sameRB T T HN.out.2.2 (by omega) rfl s9).mono ?_
  rintro e w10 ⟨rfl, s10⟩
  clear s9
  go_wp2_with fail
  refine (sameRB T T HN.out.2.2 (by omega) rfl (show Sat W w10 (row qy n 1 n (u8s T) :: bytes true qw T :: row qx n 1 n (u8s T) :: rled k [(evK wide, evS wide, N)] :: ledO (some l) [(evK wide, evS wide, N)] :: bytes false p1 K :: bytes false p2 S :: bytes true q1 (lentB K) :: bytes true q2 (lentB S) :: []) from (by (repeat (first | with_reducible apply Sat.sub (s10) | with_reducible apply Sat.alloc' | with_reducible apply Sat.drew | with_reducible apply Sat.drewN)); (repeat (first | with_reducible exact Fr.done | with_reducible exact Fr.nil | (with_reducible apply Fr.cons; (focus ((repeat (first | with_reducible exact Take.here | with_reducible apply Take.there)); done))) | with_reducible apply Fr.skip)); done))).mono ?_
  rintro e w11 ⟨rfl, s11⟩
  clear s10
  go_wp2_with fail
  refine (keptF K HA.out.1 rfl (by omega) (show Sat W w11 (bytes true q1 (lentB K) :: bytes false p1 K :: bytes true q2 (lentB S) :: bytes false p2 S :: row qy n 1 n (u8s T) :: bytes true qw T :: row qx n 1 n (u8s T) :: rled k [(evK wide, evS wide, N)] :: ledO (some l) [(evK wide, evS wide, N)] :: []) from (by (repeat (first | with_reducible apply Sat.sub (s11) | with_reducible apply Sat.alloc' | with_reducible apply Sat.drew | with_reducible apply Sat.drewN)); (repeat (first | with_reducible exact Fr.done | with_reducible exact Fr.nil | (with_reducible apply Fr.cons; (focus ((repeat (first | with_reducible exact Take.here | with_reducible apply Take.there)); done))) | with_reducible apply Fr.skip)); done))).mono ?_
  rintro e w12 ⟨rfl, s12⟩
  clear s11
  go_wp2_with fail
  refine (keptF S HA.out.2.1 rfl (by omega) (show Sat W w12 (bytes true q2 (lentB S) :: bytes false p2 S :: bytes true q1 (lentB K) :: row qy n 1 n (u8s T) :: bytes true qw T :: row qx n 1 n (u8s T) :: rled k [(evK wide, evS wide, N)] :: ledO (some l) [(evK wide, evS wide, N)] :: []) from (by (repeat (first | with_reducible apply Sat.sub (s12) | with_reducible apply Sat.alloc' | with_reducible apply Sat.drew | with_reducible apply Sat.drewN)); (repeat (first | with_reducible exact Fr.done | with_reducible exact Fr.nil | (with_reducible apply Fr.cons; (focus ((repeat (first | with_reducible exact Take.here | with_reducible apply Take.there)); done))) | with_reducible apply Fr.skip)); done))).mono ?_
  rintro e w12a ⟨rfl, s12a⟩
  clear s12
  go_wp2_with fail
  refine (overF (lentB K) (by rw [lentB_len, HA.out.1]) (by omega) (show Sat W w12a (bytes true q1 (lentB K) :: bytes true q2 (lentB S) :: row qy n 1 n (u8s T) :: bytes true qw T :: row qx n 1 n (u8s T) :: rled k [(evK wide, evS wide, N)] :: ledO (some l) [(evK wide, evS wide, N)] :: []) from (by (repeat (first | with_reducible apply Sat.sub (s12a) | with_reducible apply Sat.alloc' | with_reducible apply Sat.drew | with_reducible apply Sat.drewN)); (repeat (first | with_reducible exact Fr.done | with_reducible exact Fr.nil | (with_reducible apply Fr.cons; (focus ((repeat (first | with_reducible exact Take.here | with_reducible apply Take.there)); done))) | with_reducible apply Fr.skip)); done))).mono ?_
  rintro e w12b ⟨rfl, s12b⟩
  clear s12a
  go_wp2_with fail
  refine (overF (lentB S) (by rw [lentB_len, HA.out.2.1]) (by omega) (show Sat W w12b (bytes true q2 (lentB S) :: row qy n 1 n (u8s T) :: bytes true qw T :: row qx n 1 n (u8s T) :: rled k [(evK wide, evS wide, N)] :: ledO (some l) [(evK wide, evS wide, N)] :: []) from (by (repeat (first | with_reducible apply Sat.sub (s12b) | with_reducible apply Sat.alloc' | with_reducible apply Sat.drew | with_reducible apply Sat.drewN)); (repeat (first | with_reducible exact Fr.done | with_reducible exact Fr.nil | (with_reducible apply Fr.cons; (focus ((repeat (first | with_reducible exact Take.here | with_reducible apply Take.there)); done))) | with_reducible apply Fr.skip)); done))).mono ?_
  rintro e w12c ⟨rfl, s12c⟩
  clear s12b
  go_wp2_with fail
  refine (sameRB T T HN.out.2.2 (by omega) rfl (show Sat W w12c (row qx n 1 n (u8s T) :: bytes true qw T :: row qy n 1 n (u8s T) :: rled k [(evK wide, evS wide, N)] :: ledO (some l) [(evK wide, evS wide, N)] :: []) from (by (repeat (first | with_reducible apply Sat.sub (s12c) | with_reducible apply Sat.alloc' | with_reducible apply Sat.drew | with_reducible apply Sat.drewN)); (repeat (first | with_reducible exact Fr.done | with_reducible exact Fr.nil | (with_reducible apply Fr.cons; (focus ((repeat (first | with_reducible exact Take.here | with_reducible apply Take.there)); done))) | with_reducible apply Fr.skip)); done))).mono ?_
  rintro e w13 ⟨rfl, s13'⟩
  clear s12c
  have s13 : Sat W w13 (row qx n 1 n (u8s T) :: row qy n 1 n (u8s T) :: rled k [(evK wide, evS wide, N)] :: ledO (some l) [(evK wide, evS wide, N)] :: []) := (by (repeat (first | with_reducible apply Sat.sub (s13') | with_reducible apply Sat.alloc' | with_reducible apply Sat.drew | with_reducible apply Sat.drewN)); (repeat (first | with_reducible exact Fr.done | with_reducible exact Fr.nil | (with_reducible apply Fr.cons; (focus ((repeat (first | with_reducible exact Take.here | with_reducible apply Take.there)); done))) | with_reducible apply Fr.skip)); done)
  clear s13'
  have hv : [Value.slice qx n n, Value.slice qy n n] = [(qx, n, T), (qy, n, T)].map pieceV := by
    have := HN.out.2.2
    simp [pieceV, this]
  have s14 : Sat W (w13.alloc (.cells #[.slice qx n n, .slice qy n n] 41)) (seg true w13.heap.size 0 ([(qx, n, T), (qy, n, T)].map pieceV) :: ownRows [(qx, n, T), (qy, n, T)] :: rled k [(evK wide, evS wide, N)] :: ledO (some l) [(evK wide, evS wide, N)] :: []) := by
    rw [← hv]
    exact (own2 HN.out.2.2 HN.out.2.2 s13).alloc #[.slice qx n n, .slice qy n n] 41
  have HV := Lib.hid s14; clear s13 s14 hv
  go_wp2_with fail
  refine (apart [(qx, n, T), (qy, n, T)] rfl (by simp) (by have := HN.out.2.2; intro t ht; simp at ht; rcases ht with rfl | rfl <;> simp [this] <;> omega) HV.out).mono ?_
  rintro e w15 ⟨rfl, s15⟩
  clear HV
  go_wp2_with fail
  refine (ledRunsF (l := l) (rs := [(evK wide, evS wide, N)]) (by simp) (by (repeat (first | with_reducible apply Sat.sub (s15) | with_reducible apply Sat.alloc' | with_reducible apply Sat.drew | with_reducible apply Sat.drewN)); (repeat (first | with_reducible exact Fr.done | with_reducible exact Fr.nil | (with_reducible apply Fr.cons; (focus ((repeat (first | with_reducible exact Take.here | with_reducible apply Take.there)); done))) | with_reducible apply Fr.skip)); done)).mono ?_
  rintro e w16 ⟨q5, c5, rfl, s16⟩
  clear s15
  go_wp2_with fail
  refine (rledRuns (l := k) (rs := [(evK wide, evS wide, N)]) (by simp) (by (repeat (first | with_reducible apply Sat.sub (s16) | with_reducible apply Sat.alloc' | with_reducible apply Sat.drew | with_reducible apply Sat.drewN)); (repeat (first | with_reducible exact Fr.done | with_reducible exact Fr.nil | (with_reducible apply Fr.cons; (focus ((repeat (first | with_reducible exact Take.here | with_reducible apply Take.there)); done))) | with_reducible apply Fr.skip)); done)).mono ?_
  rintro e w17 ⟨q6, c6, rfl, s17⟩
  clear s16
  go_wp2_with fail
  refine (sameRuns [(evK wide, evS wide, N)] (by rfl) (by rfl) (by simp) (by (repeat (first | with_reducible apply Sat.sub (s17) | with_reducible apply Sat.alloc' | with_reducible apply Sat.drew | with_reducible apply Sat.drewN)); (repeat (first | with_reducible exact Fr.done | with_reducible exact Fr.nil | (with_reducible apply Fr.cons; (focus ((repeat (first | with_reducible exact Take.here | with_reducible apply Take.there)); done))) | with_reducible apply Fr.skip)); done)).mono ?_
  rintro e w18 ⟨rfl, s18⟩
  go_wp2
  go_ret
  exact ⟨rfl, s18.below⟩
theorem keys_any (W : World) (al : Int) (x y : Option Addr × Nat × Nat × List Byte) (cv nv : Int) (h : IsBytes W x.1 x.2.1 x.2.2.1 x.2.2.2) (h2 : IsBytes W y.1 y.2.1 y.2.2.1 y.2.2.2) (hb : x.2.2.1 ≤ 1048576) (hb2 : y.2.2.1 ≤ 1048576) :
    Calls Tryz.prog 5 #[.int .u8 al, .slice x.1 x.2.1 x.2.2.1, .slice y.1 y.2.1 y.2.2.1, .int .i64 cv, .int .i64 nv] W fun e W' => e = .returned (.bool true) ∧ Below W.heap.size W W' := by
  obtain ⟨p1, n1, c1, K⟩ := x
  obtain ⟨p2, n2, c2, S⟩ := y
  simp only at h h2 hb hb2 ⊢
  have s0 : Sat W W (bytes false p1 K :: bytes false p2 S :: []) := h.sat (h2.sat (Sat.nil W))
  obtain ⟨hK, hK1, hK2, -⟩ := h
  obtain ⟨hS, hS1, hS2, -⟩ := h2
  by_cases gi : nv ≤ 16320
  · by_cases hc : keyCode al cv nv = 0
    · have hw : wrongCode al cv = 0 := by
        by_cases hz : wrongCode al cv = 0
        · exact hz
        · unfold keyCode at hc
          rw [if_pos hz] at hc
          exact hc
      have hn0 : 0 ≤ nv := by
        unfold keyCode at hc
        rw [if_neg (by simpa using hw)] at hc
        by_cases h : nv < 0
        · rw [if_pos h] at hc; omega
        · omega
      have ha : al = 1 ∨ al = 2 := by
        unfold wrongCode at hw
        by_cases h : ¬ al = 1 ∧ ¬ al = 2
        · rw [if_pos h] at hw; omega
        · omega
      have hcv : 1 ≤ cv ∧ cv ≤ 1048576 := by
        unfold wrongCode at hw
        rw [if_neg (by omega)] at hw
        by_cases h : cv < 1 ∨ 1048576 < cv
        · rw [if_pos h] at hw; omega
        · omega
      obtain ⟨wide, hal⟩ : ∃ wide, al = algN wide := by
        rcases ha with rfl | rfl
        · exact ⟨false, rfl⟩
        · exact ⟨true, rfl⟩
      exact keys_good wide cv.toNat nv.toNat W al cv nv p1 p2 n1 c1 n2 c2 K S hK hK1 hK2 (by omega) hS hS1 hS2 (by omega) s0 hal (by omega) (by omega) (by omega) (by omega) (by omega)
    · exact keys_bad W al cv nv p1 p2 n1 c1 n2 c2 K S hK hK1 hK2 (by omega) hS hS1 hS2 (by omega) s0 hc gi
  · have g : 16320 < nv := by omega
    have hc : keyCode al cv nv ≠ 0 := by
      unfold keyCode
      by_cases hz : wrongCode al cv = 0
      · rw [if_neg (by simpa using hz), if_neg (by omega), if_pos g]; decide
      · rw [if_pos hz]; exact hz
    exact keys_out W al cv nv p1 p2 n1 c1 n2 c2 K S hK hK1 hK2 (by omega) hS hS1 hS2 (by omega) s0 hc g
end Go.Proofs.YtmohabidfalhoaaGreat
