/- Layer 15's program: Expand, Extract, Key; under the conditions that each names. -/
import Derived.Test.YtmohabidfalhoaaHk2
namespace Go.Proofs.Ytmohabidfalhoaa
open Go.RowKit Go.Sep Go.Bv Go.Sha
set_option linter.unusedVariables false
set_option linter.unusedSimpArgs false
attribute [local go_sem] Oper.semAt_some
theorem hideTail {W0 w : World} {A B C : Assn} {Z : List Assn} (h : Sat W0 w (A :: B :: C :: Z)) : ∃ Z', Z' = Z ∧ Sat W0 w (A :: B :: C :: Z') := ⟨Z, rfl, h⟩
/-- A variable in a block of its own that holds a slice of bytes of one's own. -/
def boxB (b : Nat) (bs : List Byte) : Assn := fun x => ∃ q : Option Addr × Nat, sep (seg true b 0 [.slice q.1 bs.length q.2]) (row q.1 q.2 1 bs.length (u8s bs)) x
theorem boxBOpen {W0 w : World} {L : List Assn} {b : Nat} {bs : List Byte} (h : Sat W0 w (boxB b bs :: L)) : ∃ p c, Sat W0 w (seg true b 0 [.slice p bs.length c] :: row p c 1 bs.length (u8s bs) :: L) := by
  obtain ⟨q, h⟩ := h.exOpen
  exact ⟨q.1, q.2, h.sepOpen⟩
theorem boxBShut {W0 w : World} {L : List Assn} {b n : Nat} {bs : List Byte} {p : Option Addr} {c : Nat} (hn : bs.length = n) (h : Sat W0 w (seg true b 0 [.slice p n c] :: row p c 1 n (u8s bs) :: L)) : Sat W0 w (boxB b bs :: L) := by
  subst hn
  exact Sat.exShut (A := fun q : Option Addr × Nat => sep (seg true b 0 [.slice q.1 bs.length q.2]) (row q.1 q.2 1 bs.length (u8s bs))) (p, c) h.sepShut
theorem hkM_bd (wide : Bool) (n : Nat) (h0 : 0 < n) (h1 : n ≤ 255 * hsz wide) : 1 ≤ hkM wide n ∧ hkM wide n ≤ 255 ∧ n ≤ hkM wide n * hsz wide ∧ (hkM wide n - 1) * hsz wide < n := by
  cases wide <;> simp only [hkM, hsz] at h1 ⊢ <;> omega
set_option maxRecDepth 100000 in
set_option maxHeartbeats 2000000 in
theorem hkExpand {W0 w : World} {L : List Assn} (wide : Bool) (p : Option Nat) (rs : List Run3) (prk info : List Byte) {mk mi : Bool} {kp ip : Option Addr} {kn kc ni ic n : Nat} {pv : Value} (hp : pv = ptrO p) (hkn : prk.length = kn) (hkc : kn ≤ kc) (hkm : kc ≤ maxLen) (hni : info.length = ni) (hic : ni ≤ ic) (hicm : ic ≤ maxLen) (hn : n ≤ 255 * hsz wide)
    (hb : tot rs + 2 * kn + 1000 * ni + 2000000 ≤ 2305843009213693952) (hl : rs.length + 16 ≤ 1048576) (hs : Sat W0 w (ledO p rs :: bytes mk kp prk :: bytes mi ip info :: L)) :
    Calls Try.prog 55 #[pv, .int .u8 (algN wide), .slice kp kn kc, .slice ip ni ic, .int .i64 (n : Int)] w fun e w' => ∃ q c, e = .returned (.tuple #[.slice q n c, .int .i64 0]) ∧ n ≤ c ∧ c ≤ maxLen ∧ Sat W0 w' (bytes true q (hkdf wide prk info n) :: ledO p (noteN rs (evK wide) (evS wide) (expN wide kn ni n)) :: bytes mk kp prk :: bytes mi ip info :: L) := by
  subst hp
  have hh : hsz wide ≤ 64 := by cases wide <;> decide
  have hkN : keyN wide kn ≤ kn + 4 := by
    unfold keyN
    by_cases h : bsz wide < kn
    · rw [if_pos h]; cases wide <;> simp only [padN, bsz, roomN] <;> omega
    · rw [if_neg h]; omega
  have HB := Lib.hid (And.intro hkn (And.intro hkm (And.intro hni (And.intro hicm (And.intro hn (And.intro hb (And.intro hl (And.intro hh hkN)))))))); clear hkn hkm hni hicm hn hb hl hh hkN
  obtain ⟨bn, hbn⟩ : ∃ bn, bn = w.heap.size := ⟨_, rfl⟩
  have s0 := hs.allocAt #[.int .i64 (n : Int)] 3 (q := bn) hbn
  clear hs
  refine (callsIn_wide (n := 3)).1 ?_
  refine callsIn_of_wp_marks Try.func55 rfl trivial ?_ rfl
  simp only [Try.ntmps55, List.size_toArray, List.length_cons, List.length_nil, Nat.reduceAdd, Nat.reduceSub, Array.replicate_succ, Array.replicate_zero, List.push_toArray, List.append_toArray, List.nil_append, List.cons_append]
  have n0 := s0.at 0 rfl
  gi_wp2_with fail
  refine ⟨trivial, callsIn_wide.2 ?_⟩
  refine (hkMay wide (n : Int) 0 (by rw [if_neg (by omega), if_neg (by have := HB.out.2.2.2.2.1; omega)]) s0).mono ?_
  rintro e w1 ⟨rfl, s1⟩
  rw [← hbn]
  clear s0 n0 hbn
  gi_wp2_with fail
  refine ⟨trivial, callsIn_wide.2 ?_⟩
  refine (hmacNewF wide p rs prk HB.out.1 rfl rfl hkc HB.out.2.1 (by have := HB.out.2.2.2.2.2.1; omega) (by have := HB.out.2.2.2.2.2.2.1; omega) (by (repeat (first | with_reducible apply Sat.sub (s1) | with_reducible apply Sat.alloc' | with_reducible apply Sat.drew | with_reducible apply Sat.drewN)); (repeat (first | with_reducible exact Fr.done | with_reducible exact Fr.nil | (with_reducible apply Fr.cons; (focus ((repeat (first | with_reducible exact Take.here | with_reducible apply Take.there)); done))) | with_reducible apply Fr.skip)); done)).mono ?_
  rintro e w2 ⟨c, rfl, s2⟩
  clear s1
  obtain ⟨k, hk⟩ : ∃ k, k = blockKey wide prk := ⟨_, rfl⟩
  rw [← hk] at s2
  have HK := Lib.hid hk; clear hk
  have hC : ∀ wx, Sat W0 wx (seg true bn 0 [.int .i64 (n : Int)] :: []) → wx.cell? ⟨bn, 0, none⟩ = some (.int .i64 (n : Int)) ∧ bn < wx.heap.size := fun wx h => ⟨h.at 0 rfl, h.lt (by simp)⟩
  have HC := Lib.hid hC; clear hC
  obtain ⟨n0, z0⟩ := HC.out _ (Sat.sub (s2) (by (repeat (first | with_reducible exact Fr.done | with_reducible exact Fr.nil | (with_reducible apply Fr.cons; (focus ((repeat (first | with_reducible exact Take.here | with_reducible apply Take.there)); done))) | with_reducible apply Fr.skip))))
  by_cases hn0 : n = 0
  · subst hn0
    gi_wp2
    refine ⟨_, results_tmp2 rfl _ _ _, none, 0, rfl, Nat.le_refl _, Nat.zero_le _, ?_⟩
    have e1 : hkdf wide prk info 0 = [] := by simp [hkdf]
    have e2 : expN wide kn ni 0 = keyN wide kn := by cases wide <;> rfl
    rw [e1, e2]
    exact bytesNil true none (by (repeat (first | with_reducible apply Sat.sub (s2) | with_reducible apply Sat.alloc' | with_reducible apply Sat.drew | with_reducible apply Sat.drewN)); (repeat (first | with_reducible exact Fr.done | with_reducible exact Fr.nil | (with_reducible apply Fr.cons; (focus ((repeat (first | with_reducible exact Take.here | with_reducible apply Take.there)); done))) | with_reducible apply Fr.skip)); done)
  · have hn1 : ¬ (n : Int) = 0 := by omega
    gi_wp2_with fail
    refine ⟨trivial, callsIn_wide.2 ?_⟩
    obtain ⟨bo, hbo⟩ : ∃ bo, bo = w2.heap.size := ⟨_, rfl⟩
    have s3 := s2.allocAt #[.slice none 0 0] 39 (q := bo) hbo
    refine (hkBlocks _ _ ip ni ic s3).mono ?_
    rintro e w3 ⟨bl, bm, bi, rfl, s4'⟩
    rw [← hbo]
    clear s2 s3 hbo n0 z0
    obtain ⟨N, hN⟩ : ∃ N, N = hkM wide n := ⟨_, rfl⟩
    obtain ⟨hN1, hN2, hN3, hN4⟩ := hkM_bd wide n (by omega) HB.out.2.2.2.2.1
    rw [← hN] at hN1 hN2 hN3 hN4
    obtain ⟨R, hR⟩ : ∃ R, R = noteN rs (evK wide) (evS wide) (keyN wide kn) := ⟨_, rfl⟩
    rw [← hR] at s4'
    have hRt : tot R + 1000 * ni + 1000000 ≤ 2305843009213693952 := by rw [hR, tot_noteN]; have := HB.out.2.2.2.2.2.1; have := HB.out.2.2.2.2.2.2.2.2; omega
    have hRl : R.length + 8 ≤ 1048576 := by rw [hR]; have := noteN_len rs (evK wide) (evS wide) (keyN wide kn); have := HB.out.2.2.2.2.2.2.1; omega
    have s4 : Sat W0 w3 (ledO p R :: mac wide c k [] :: seg true bm 0 [.pointer (some ⟨c, 0, none⟩)] :: seg true bl 0 [ptrO p] :: seg true bi 0 [.slice ip ni ic] :: bytes mi ip info :: boxB bo [] :: seg true bn 0 [.int .i64 (n : Int)] :: bytes mk kp prk :: L) := by
      have s5 : Sat W0 w3 (seg true bo 0 [.slice none 0 0] :: ledO p R :: mac wide c k [] :: seg true bm 0 [.pointer (some ⟨c, 0, none⟩)] :: seg true bl 0 [ptrO p] :: seg true bi 0 [.slice ip ni ic] :: bytes mi ip info :: seg true bn 0 [.int .i64 (n : Int)] :: bytes mk kp prk :: L) := (by (repeat (first | with_reducible apply Sat.sub (s4') | with_reducible apply Sat.alloc' | with_reducible apply Sat.drew | with_reducible apply Sat.drewN)); (repeat (first | with_reducible exact Fr.done | with_reducible exact Fr.nil | (with_reducible apply Fr.cons; (focus ((repeat (first | with_reducible exact Take.here | with_reducible apply Take.there)); done))) | with_reducible apply Fr.skip)); done)
      have s6 : Sat W0 w3 (seg true bo 0 [.slice none 0 0] :: row none 0 1 0 (u8s []) :: ledO p R :: mac wide c k [] :: seg true bm 0 [.pointer (some ⟨c, 0, none⟩)] :: seg true bl 0 [ptrO p] :: seg true bi 0 [.slice ip ni ic] :: bytes mi ip info :: seg true bn 0 [.int .i64 (n : Int)] :: bytes mk kp prk :: L) := (s5.rowNil 1).pick [1]
      have s7 := boxBShut (bs := []) (n := 0) (p := none) (c := 0) rfl s6
      exact (by (repeat (first | with_reducible apply Sat.sub (s7) | with_reducible apply Sat.alloc' | with_reducible apply Sat.drew | with_reducible apply Sat.drewN)); (repeat (first | with_reducible exact Fr.done | with_reducible exact Fr.nil | (with_reducible apply Fr.cons; (focus ((repeat (first | with_reducible exact Take.here | with_reducible apply Take.there)); done))) | with_reducible apply Fr.skip)); done)
    clear s4'
    have HR := Lib.hid (And.intro hR (And.intro hRt (And.intro hRl (And.intro hN3 (And.intro hN4 hN))))); clear hR hRt hRl hN3 hN4 hN
    gi_wp2
    refine wpIn_rangeSat (F := Fence.wide) (n := 3) rfl (by decide) (gf := 101) (lb := #[.pointer (some ⟨bm, 0, none⟩), .pointer (some ⟨bl, 0, none⟩), .pointer (some ⟨bi, 0, none⟩)]) rfl trivial (enters_of Try.func101 (by kernel_rfl) rfl) s4 ?_
    intro fn l D rd W1 hfn hl hD hrd s5
    clear hl hD
    have s6 : Sat W0 W1 (ledO p R :: mac wide c k [] :: seg true bm 0 [.pointer (some ⟨c, 0, none⟩)] :: seg true bl 0 [ptrO p] :: seg true bi 0 [.slice ip ni ic] :: bytes mi ip info :: obj l (rd .ready none) :: obj D (.deferred (some [])) :: boxB bo [] :: seg true bn 0 [.int .i64 (n : Int)] :: bytes mk kp prk :: L) := (by (repeat (first | with_reducible apply Sat.sub (s5) | with_reducible apply Sat.alloc' | with_reducible apply Sat.drew | with_reducible apply Sat.drewN)); (repeat (first | with_reducible exact Fr.done | with_reducible exact Fr.nil | (with_reducible apply Fr.cons; (focus ((repeat (first | with_reducible exact Take.here | with_reducible apply Take.there)); done))) | with_reducible apply Fr.skip)); done)
    clear s5
    refine hkIter (m := 1) (c := c) (mi := mi) (ip := ip) wide p R prk info k HK.out HB.out.2.2.1 hic HB.out.2.2.2.1 N hN1 hN2 HR.out.2.1 HR.out.2.2.1 (fun i => obj l (rd .ready none) :: obj D (.deferred (some [])) :: boxB bo (hkOut wide prk info i) :: seg true bn 0 [.int .i64 (n : Int)] :: bytes mk kp prk :: L) _ l ?_ s6
    clear s6
    intro i q cq W2 hi hq1 hq2 s6
    clear s4
    simp only [hkOwn] at s6
    subst hrd
    refine yieldSat (L := bytes true q (hkT wide prk info (i + 1)) :: ledO p (noteN R (evK wide) (evS wide) (hkCnt wide ni (i + 1))) :: mac wide c k (hkMsg wide prk info (i + 1)) :: seg true bm 0 [.pointer (some ⟨c, 0, none⟩)] :: seg true bl 0 [ptrO p] :: seg true bi 0 [.slice ip ni ic] :: bytes mi ip info :: obj D (.deferred (some [])) :: boxB bo (hkOut wide prk info i) :: seg true bn 0 [.int .i64 (n : Int)] :: bytes mk kp prk :: L) rfl hfn (by (repeat (first | with_reducible apply Sat.sub (s6) | with_reducible apply Sat.alloc' | with_reducible apply Sat.drew | with_reducible apply Sat.drewN)); (repeat (first | with_reducible exact Fr.done | with_reducible exact Fr.nil | (with_reducible apply Fr.cons; (focus ((repeat (first | with_reducible exact Take.here | with_reducible apply Take.there)); done))) | with_reducible apply Fr.skip)); done) ?a1 ?assign ?body
    case assign =>
      intro K hK
      gi_wp2
      exact hK
    case body =>
      clear s6
      intro W3 s7
      obtain ⟨Z, hZ, s8⟩ := hideTail ((Sat.sub (s7) (by (repeat (first | with_reducible exact Fr.done | with_reducible exact Fr.nil | (with_reducible apply Fr.cons; (focus ((repeat (first | with_reducible exact Take.here | with_reducible apply Take.there)); done))) | with_reducible apply Fr.skip)))) : Sat W0 W3 (boxB bo (hkOut wide prk info i) :: bytes true q (hkT wide prk info (i + 1)) :: seg true bn 0 [.int .i64 (n : Int)] :: _))
      clear s7
      obtain ⟨po, co, s9⟩ := boxBOpen s8
      clear s8
      obtain ⟨u, hu⟩ : ∃ u, u = (hkOut wide prk info i).length := ⟨_, rfl⟩
      have hu2 : u = i * hsz wide := by rw [hu]; exact hkOut_len _ _ _ _
      have hTl : (hkT wide prk info (i + 1)).length = hsz wide := by rw [hkT_len, if_neg (by omega)]
      rw [← hu] at s9
      have hO : ∀ wx pp nn cc, Sat W0 wx (seg true bo 0 [.slice pp nn cc] :: seg true bn 0 [.int .i64 (n : Int)] :: []) → wx.cell? ⟨bo, 0, none⟩ = some (.slice pp nn cc) ∧ wx.frozen? ⟨bo, 0, none⟩ = false ∧ bo < wx.heap.size ∧ wx.cell? ⟨bn, 0, none⟩ = some (.int .i64 (n : Int)) ∧ bn < wx.heap.size ∧ bo ≠ bn := fun wx pp nn cc h => ⟨h.at 0 rfl, h.fr 0 (by simp), h.lt (by simp), (h.pull 1 : Sat W0 wx (seg true bn 0 [.int .i64 (n : Int)] :: _)).at 0 rfl, (h.pull 1 : Sat W0 wx (seg true bn 0 [.int .i64 (n : Int)] :: _)).lt (by simp), Sat.ne' h (by simp) (by simp)⟩
      have HO := Lib.hid hO; clear hO
      have hlen : u + hsz wide = (i + 1) * hsz wide := by rw [hu2, Nat.succ_mul]
      have hsm : u + hsz wide ≤ 255 * 64 := by
        rw [hlen]
        exact Nat.mul_le_mul (by omega) HB.out.2.2.2.2.2.2.2.1
      have hcase : (i + 1 < N ∧ u + hsz wide < n) ∨ (i + 1 = N ∧ n ≤ u + hsz wide) := by
        by_cases h : i + 1 < N
        · refine .inl ⟨h, ?_⟩
          rw [hlen]
          have h1 : (i + 1) * hsz wide ≤ (N - 1) * hsz wide := Nat.mul_le_mul_right _ (by omega)
          have := HR.out.2.2.2.2.1
          omega
        · have e : i + 1 = N := by omega
          refine .inr ⟨e, ?_⟩
          rw [hlen, e]
          exact HR.out.2.2.2.1
      have HU := Lib.hid (And.intro hu (And.intro hlen (And.intro hTl hZ))); clear hu hlen hTl hu2 hZ
      obtain ⟨b0, b1, b2, b3, b4, b5⟩ := HO.out _ _ _ _ (Sat.sub (s9) (by (repeat (first | with_reducible exact Fr.done | with_reducible exact Fr.nil | (with_reducible apply Fr.cons; (focus ((repeat (first | with_reducible exact Take.here | with_reducible apply Take.there)); done))) | with_reducible apply Fr.skip))))
      rcases hcase with ⟨hc1, hc2⟩ | ⟨hc1, hc2⟩
      · gi_wp2_with (gi_at_builtin; refine wplIn_app8 rfl (.tmp 42) (.tmp 43) rfl rfl rfl (by (repeat (first | with_reducible apply Sat.sub (s9) | with_reducible apply Sat.alloc' | with_reducible apply Sat.drew | with_reducible apply Sat.drewN)); (repeat (first | with_reducible exact Fr.done | with_reducible exact Fr.nil | (with_reducible apply Fr.cons; (focus ((repeat (first | with_reducible exact Take.here | with_reducible apply Take.there)); done))) | with_reducible apply Fr.skip)); done) HU.out.2.2.1 (by omega) ?_; intro p9 c9 w9 s10; clear b0 b1 b2 b3 b4 b5; obtain ⟨b0, b1, b2, b3, b4, b5⟩ := HO.out _ _ _ _ (Sat.sub (s10) (by (repeat (first | with_reducible exact Fr.done | with_reducible exact Fr.nil | (with_reducible apply Fr.cons; (focus ((repeat (first | with_reducible exact Take.here | with_reducible apply Take.there)); done))) | with_reducible apply Fr.skip)))))
        have st := ((Sat.sub (s10) (by (repeat (first | with_reducible exact Fr.done | with_reducible exact Fr.nil | (with_reducible apply Fr.cons; (focus ((repeat (first | with_reducible exact Take.here | with_reducible apply Take.there)); done))) | with_reducible apply Fr.skip)))) : Sat W0 w9 (seg true bo 0 [.slice po u co] :: row p9 c9 1 (u + hsz wide) (u8s (hkOut wide prk info i ++ hkT wide prk info (i + 1))) :: bytes true q (hkT wide prk info (i + 1)) :: seg true bn 0 [.int .i64 (n : Int)] :: Z)).store (i := 0) (by simp) (.slice p9 (u + hsz wide) c9) (q := 0) rfl
        have s12 := boxBShut (bs := hkOut wide prk info (i + 1)) (n := u + hsz wide) (by rw [hkOut_len]; exact HU.out.2.1.symm) st
        rw [HU.out.2.2.2] at s12
        clear st s10 b0 b1 b2 b3 b4 b5
        refine ⟨bytes true q (hkT wide prk info (i + 1)) :: ledO p (noteN R (evK wide) (evS wide) (hkCnt wide ni (i + 1))) :: mac wide c k (hkMsg wide prk info (i + 1)) :: seg true bm 0 [.pointer (some ⟨c, 0, none⟩)] :: seg true bl 0 [ptrO p] :: seg true bi 0 [.slice ip ni ic] :: bytes mi ip info :: obj D (.deferred (some [])) :: boxB bo (hkOut wide prk info (i + 1)) :: seg true bn 0 [.int .i64 (n : Int)] :: bytes mk kp prk :: L, (by (repeat (first | with_reducible apply Sat.sub (s12) | with_reducible apply Sat.alloc' | with_reducible apply Sat.drew | with_reducible apply Sat.drewN)); (repeat (first | with_reducible exact Fr.done | with_reducible exact Fr.nil | (with_reducible apply Fr.cons; (focus ((repeat (first | with_reducible exact Take.here | with_reducible apply Take.there)); done))) | with_reducible apply Fr.skip)); done), ?_⟩
        intro W4 s13
        exact (by (repeat (first | with_reducible apply Sat.sub (s13) | with_reducible apply Sat.alloc' | with_reducible apply Sat.drew | with_reducible apply Sat.drewN)); (repeat (first | with_reducible exact Fr.done | with_reducible exact Fr.nil | (with_reducible apply Fr.cons; (focus ((repeat (first | with_reducible exact Take.here | with_reducible apply Take.there)); done))) | with_reducible apply Fr.skip)); done)
      · gi_wp2_with (gi_at_builtin; refine wplIn_app8 rfl (.tmp 42) (.tmp 43) rfl rfl rfl (by (repeat (first | with_reducible apply Sat.sub (s9) | with_reducible apply Sat.alloc' | with_reducible apply Sat.drew | with_reducible apply Sat.drewN)); (repeat (first | with_reducible exact Fr.done | with_reducible exact Fr.nil | (with_reducible apply Fr.cons; (focus ((repeat (first | with_reducible exact Take.here | with_reducible apply Take.there)); done))) | with_reducible apply Fr.skip)); done) HU.out.2.2.1 (by omega) ?_; intro p9 c9 w9 s10; clear b0 b1 b2 b3 b4 b5; obtain ⟨b0, b1, b2, b3, b4, b5⟩ := HO.out _ _ _ _ (Sat.sub (s10) (by (repeat (first | with_reducible exact Fr.done | with_reducible exact Fr.nil | (with_reducible apply Fr.cons; (focus ((repeat (first | with_reducible exact Take.here | with_reducible apply Take.there)); done))) | with_reducible apply Fr.skip)))))
        have st := ((Sat.sub (s10) (by (repeat (first | with_reducible exact Fr.done | with_reducible exact Fr.nil | (with_reducible apply Fr.cons; (focus ((repeat (first | with_reducible exact Take.here | with_reducible apply Take.there)); done))) | with_reducible apply Fr.skip)))) : Sat W0 w9 (seg true bo 0 [.slice po u co] :: row p9 c9 1 (u + hsz wide) (u8s (hkOut wide prk info i ++ hkT wide prk info (i + 1))) :: bytes true q (hkT wide prk info (i + 1)) :: seg true bn 0 [.int .i64 (n : Int)] :: Z)).store (i := 0) (by simp) (.slice p9 (u + hsz wide) c9) (q := 0) rfl
        have s12 := boxBShut (bs := hkOut wide prk info (i + 1)) (n := u + hsz wide) (by rw [hkOut_len]; exact HU.out.2.1.symm) st
        rw [HU.out.2.2.2] at s12
        clear st s10 b0 b1 b2 b3 b4 b5
        refine ⟨bytes true q (hkT wide prk info (i + 1)) :: ledO p (noteN R (evK wide) (evS wide) (hkCnt wide ni (i + 1))) :: mac wide c k (hkMsg wide prk info (i + 1)) :: seg true bm 0 [.pointer (some ⟨c, 0, none⟩)] :: seg true bl 0 [ptrO p] :: seg true bi 0 [.slice ip ni ic] :: bytes mi ip info :: obj D (.deferred (some [])) :: boxB bo (hkOut wide prk info (i + 1)) :: seg true bn 0 [.int .i64 (n : Int)] :: bytes mk kp prk :: L, (by (repeat (first | with_reducible apply Sat.sub (s12) | with_reducible apply Sat.alloc' | with_reducible apply Sat.drew | with_reducible apply Sat.drewN)); (repeat (first | with_reducible exact Fr.done | with_reducible exact Fr.nil | (with_reducible apply Fr.cons; (focus ((repeat (first | with_reducible exact Take.here | with_reducible apply Take.there)); done))) | with_reducible apply Fr.skip)); done), ?_⟩
        intro W4 s13
        refine ⟨.done, (fun h => by cases h), some (.exit 0), bytes true q (hkT wide prk info (i + 1)) :: ledO p (noteN R (evK wide) (evS wide) (hkCnt wide ni (i + 1))) :: boxB bo (hkOut wide prk info (i + 1)) :: seg true bn 0 [.int .i64 (n : Int)] :: bytes mk kp prk :: bytes mi ip info :: L, (by (repeat (first | with_reducible apply Sat.sub (s13) | with_reducible apply Sat.alloc' | with_reducible apply Sat.drew | with_reducible apply Sat.drewN)); (repeat (first | with_reducible exact Fr.done | with_reducible exact Fr.nil | (with_reducible apply Fr.cons; (focus ((repeat (first | with_reducible exact Take.here | with_reducible apply Take.there)); done))) | with_reducible apply Fr.skip)); done), ?_⟩
        clear s12 s13
        intro W5 s14 hD
        obtain ⟨pu, cu, s15⟩ := boxBOpen ((Sat.sub (s14) (by (repeat (first | with_reducible exact Fr.done | with_reducible exact Fr.nil | (with_reducible apply Fr.cons; (focus ((repeat (first | with_reducible exact Take.here | with_reducible apply Take.there)); done))) | with_reducible apply Fr.skip)))) : Sat W0 W5 (boxB bo (hkOut wide prk info (i + 1)) :: obj D (.deferred (some [])) :: bytes true q (hkT wide prk info (i + 1)) :: ledO p (noteN R (evK wide) (evS wide) (hkCnt wide ni (i + 1))) :: seg true bn 0 [.int .i64 (n : Int)] :: bytes mk kp prk :: bytes mi ip info :: L))
        rw [hkOut_len, ← HU.out.2.1] at s15
        obtain ⟨hv, hcu, hcu2, s16⟩ := rowBytes ((Sat.sub (s15) (by (repeat (first | with_reducible exact Fr.done | with_reducible exact Fr.nil | (with_reducible apply Fr.cons; (focus ((repeat (first | with_reducible exact Take.here | with_reducible apply Take.there)); done))) | with_reducible apply Fr.skip)))) : Sat W0 W5 (row pu cu 1 (u + hsz wide) (u8s (hkOut wide prk info (i + 1))) :: seg true bo 0 [.slice pu (u + hsz wide) cu] :: obj D (.deferred (some [])) :: ledO p (noteN R (evK wide) (evS wide) (hkCnt wide ni (i + 1))) :: seg true bn 0 [.int .i64 (n : Int)] :: bytes mk kp prk :: bytes mi ip info :: L))
        clear s14 s15
        have hX : (hkOut wide prk info (i + 1)).take n = hkdf wide prk info n ∧ ((hkOut wide prk info (i + 1)).take n).length = n := by
          refine ⟨by unfold hkdf; rw [← HR.out.2.2.2.2.2, hc1], ?_⟩
          rw [List.length_take, hv]; omega
        have s17 := bytesTake n s16
        have HX := Lib.hid (And.intro hX hcu2); clear hX hv s16 hcu2
        obtain ⟨b0, b1, b2, b3, b4, b5⟩ := HO.out _ _ _ _ (Sat.sub (s17) (by (repeat (first | with_reducible exact Fr.done | with_reducible exact Fr.nil | (with_reducible apply Fr.cons; (focus ((repeat (first | with_reducible exact Take.here | with_reducible apply Take.there)); done))) | with_reducible apply Fr.skip))))
        have s18 : Sat W0 W5 (row none 0 1 0 (u8s []) :: bytes true pu ((hkOut wide prk info (i + 1)).take n) :: seg true bo 0 [.slice pu (u + hsz wide) cu] :: obj D (.deferred (some [])) :: ledO p (noteN R (evK wide) (evS wide) (hkCnt wide ni (i + 1))) :: seg true bn 0 [.int .i64 (n : Int)] :: bytes mk kp prk :: bytes mi ip info :: L) := s17.rowNil 1
        clear s17
        gi_wp2_with (gi_at_builtin; refine wplIn_app8 (xs := []) rfl (.const (.slice none 0 0)) (.tmp 51) rfl rfl rfl s18 HX.out.1.2 (by omega) ?_; intro p9 c9 w9 s10)
        have hD' := ((Sat.sub (s10) (by (repeat (first | with_reducible exact Fr.done | with_reducible exact Fr.nil | (with_reducible apply Fr.cons; (focus ((repeat (first | with_reducible exact Take.here | with_reducible apply Take.there)); done))) | with_reducible apply Fr.skip)))) : Sat W0 w9 (obj D (.deferred (some [])) :: [])).obj.1
        have s19 := ((Sat.sub (s10) (by (repeat (first | with_reducible exact Fr.done | with_reducible exact Fr.nil | (with_reducible apply Fr.cons; (focus ((repeat (first | with_reducible exact Take.here | with_reducible apply Take.there)); done))) | with_reducible apply Fr.skip)))) : Sat W0 w9 (obj D (.deferred (some [])) :: row p9 c9 1 (0 + n) (u8s ([] ++ (hkOut wide prk info (i + 1)).take n)) :: ledO p (noteN R (evK wide) (evS wide) (hkCnt wide ni (i + 1))) :: bytes mk kp prk :: bytes mi ip info :: L)).putObj (.deferred none) rfl
        refine ⟨by simp, .inl ⟨_, _, rfl, run_takeDeferred hD', ?_⟩⟩
        refine ⟨_, results_tmp2 rfl _ _ _, p9, c9, rfl, ?_⟩
        have s20 : Sat W0 _ (row p9 c9 1 (0 + n) (u8s ([] ++ (hkOut wide prk info (i + 1)).take n)) :: ledO p (noteN R (evK wide) (evS wide) (hkCnt wide ni (i + 1))) :: bytes mk kp prk :: bytes mi ip info :: L) := s19.tail
        rw [Nat.zero_add, List.nil_append, HX.out.1.1, hc1, HR.out.1, noteN_add, HR.out.2.2.2.2.2] at s20
        obtain ⟨-, h1, h2, s21⟩ := rowBytes s20
        exact ⟨h1, h2, s21⟩
end Go.Proofs.Ytmohabidfalhoaa
