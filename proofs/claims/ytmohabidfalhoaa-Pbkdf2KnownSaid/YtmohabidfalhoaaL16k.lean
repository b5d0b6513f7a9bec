/- Pbkdf2Known: the document's examples; each error ahead of the next; no condition. -/
import Derived.Test.YtmohabidfalhoaaPbk6
namespace Go.Proofs.Ytmohabidfalhoaa
open Go.RowKit Go.Sep Go.Bv Go.Sha
set_option linter.unusedVariables false
set_option linter.unusedSimpArgs false
theorem keyH {W0 w : World} {L : List Assn} {m m2 : Bool} {pk ps : Option Addr} {ck cs nk ns : Nat} {pv : Value} {al cv nv : Int} (wide : Bool) (p : Option Nat) (rs : List Run3) (key salt : List Byte) (count n : Nat) (hnk : key.length = nk) (hns : salt.length = ns) (hp : pv = ptrO p) (ha : al = algN wide) (hcv : cv = (count : Int)) (hnv : nv = (n : Int))
    (hs : Sat W0 w (ledO p rs :: bytes m pk key :: bytes m2 ps salt :: L)) (hk1 : nk ≤ ck) (hk2 : ck ≤ maxLen) (hc1 : ns ≤ cs) (hm1 : cs ≤ maxLen) (h1 : 1 ≤ count) (h2 : count ≤ 1048576) (hn : n ≤ 16320)
    (hb : tot rs + 4 * nk + 1000 * ns + 9000000000 ≤ 2305843009213693952) (hl : rs.length + 16 ≤ 1048576) :
    Calls Try.prog 59 #[pv, .int .u8 al, .slice pk nk ck, .slice ps ns cs, .int .i64 cv, .int .i64 nv] w fun e w' => ∃ (q : Option Addr) (T : List Byte) (R : List Run3), e = .returned (.tuple #[.slice q n n, .int .i64 0]) ∧ Hid (T.length = n) ∧ Hid (T = (pbMany wide key salt count (pbM wide n)).take n) ∧ Hid (R = noteN rs (evK wide) (evS wide) (keyN wide nk + pbM wide n * pbN wide ns count)) ∧ Sat W0 w' (bytes true q T :: ledO p R :: bytes m pk key :: bytes m2 ps salt :: L) := by
  refine (keyF wide p rs key salt count n hnk hns hp ha hcv hnv hs hk1 hk2 hc1 hm1 h1 h2 hn hb hl).mono ?_
  rintro e w' ⟨q, rfl, s⟩
  exact ⟨q, _, _, rfl, Lib.hid (pbTake_len wide key salt count n), Lib.hid rfl, Lib.hid rfl, s⟩
theorem pbEx5 : ((pbMany false [112, 97, 115, 115, 119, 111, 114, 100] [115, 97, 108, 116] 1 (pbM false 40)).take 40).drop 32 = [0x4d, 0xbf, 0x3a, 0x2f, 0x3d, 0xad, 0x33, 0x77] := by decide +kernel
theorem runEx1 : noteN [] (evK false) (evS false) (keyN false 8 + pbM false 32 * pbN false 4 1) = [(1, 64, 4)] := by decide
theorem runEx2 : noteN [] (evK false) (evS false) (keyN false 65 + pbM false 0 * pbN false 0 1) = [(1, 64, 4)] := by decide
/-- The end of bytes, by itself. -/
theorem bytesDrop {W0 w : World} {L : List Assn} {m : Bool} {b o : Nat} {bs : List Byte} (n : Nat) (h : Sat W0 w (bytes m (some ⟨b, o, none⟩) bs :: L)) (hn : n ≤ bs.length) : Sat W0 w (bytes m (some ⟨b, o + n, none⟩) (bs.drop n) :: L) :=
  h.imp fun x hx => by
    rcases hx with rfl | ⟨b', o', e, hx⟩
    · exact .inl (by simp)
    · cases e
      refine .inr ⟨b, o + n, rfl, fun i v hv => ?_⟩
      rw [Nat.add_assoc]
      refine hx (n + i) v ?_
      simp only [u8s, List.getElem?_map, List.getElem?_drop] at hv ⊢
      exact hv
set_option maxHeartbeats 1000000 in
theorem refused16 {W0 w : World} {L : List Assn} (al cv nv want : Int) (h : keyCode al cv nv = want) (h0 : want ≠ 0) (hs : Sat W0 w L) :
    Calls Try.prog 64 #[.int .u8 al, .int .i64 cv, .int .i64 nv, .int .i64 want] w fun e w' => e = .returned (.bool true) ∧ Sat W0 w' L := by
  have kc := fun (w : World) (C : Array Value) (n c g : Nat) (hg : g = w.heap.size) => Joins.run_convert_bytes_const_at (P := Try.prog) w 39 5 C n c g hg Try.underlying39 Try.underlying5
  have HW := Lib.hid (And.intro h h0); clear h h0
  go_enter Try.func64, Try.ntmps64
  go_wp2_with fail
  refine (ledNewF hs).mono ?_
  rintro e w1 ⟨l, rfl, s1⟩
  go_wp2_with fail
  refine (keyBad (some l) _ _ _ _ _ _ al cv nv (by rw [HW.out.1]; exact HW.out.2) (by repeat (first | with_reducible apply Sat.sub (s1) | with_reducible apply Sat.alloc' | with_reducible apply Sat.drew | with_reducible apply Sat.drewN); repeat (first | with_reducible exact Fr.done | with_reducible exact Fr.nil | (with_reducible apply Fr.cons; (focus ((repeat (first | with_reducible exact Take.here | with_reducible apply Take.there)); done))) | with_reducible apply Fr.skip))).mono ?_
  rintro e w2 ⟨rfl, s2⟩
  rw [HW.out.1]
  go_wp2_with fail
  refine (ledLenF (l := l) (by repeat (first | with_reducible apply Sat.sub (s2) | with_reducible apply Sat.alloc' | with_reducible apply Sat.drew | with_reducible apply Sat.drewN); repeat (first | with_reducible exact Fr.done | with_reducible exact Fr.nil | (with_reducible apply Fr.cons; (focus ((repeat (first | with_reducible exact Take.here | with_reducible apply Take.there)); done))) | with_reducible apply Fr.skip))).mono ?_
  rintro e w' ⟨rfl, rfl⟩
  simp only [tot]
  go_wp2
  go_ret
  exact ⟨rfl, (by repeat (first | with_reducible apply Sat.sub (s2) | with_reducible apply Sat.alloc' | with_reducible apply Sat.drew | with_reducible apply Sat.drewN); repeat (first | with_reducible exact Fr.done | with_reducible exact Fr.nil | (with_reducible apply Fr.cons; (focus ((repeat (first | with_reducible exact Take.here | with_reducible apply Take.there)); done))) | with_reducible apply Fr.skip))⟩
set_option maxRecDepth 100000 in
set_option maxHeartbeats 1000000 in
theorem known_any (W : World) : Calls Try.prog 17 #[] W fun e W' => e = .returned (.bool true) ∧ Below W.heap.size W W' := by
  have kc := fun (w : World) (C : Array Value) (n c g : Nat) (hg : g = w.heap.size) => Joins.run_convert_bytes_const_at (P := Try.prog) w 39 5 C n c g hg Try.underlying39 Try.underlying5
  have tw : ∀ (w : World) (L : List Assn), Sat W w L → Sat W ((w.alloc (.cells (u8s [112, 97, 115, 115, 119, 111, 114, 100]).toArray 5 ((u8s [112, 97, 115, 115, 119, 111, 114, 100]).toArray.size, (u8s [112, 97, 115, 115, 119, 111, 114, 100]).toArray.size + 1))).alloc (.cells (u8s [115, 97, 108, 116]).toArray 5 ((u8s [115, 97, 108, 116]).toArray.size, (u8s [115, 97, 108, 116]).toArray.size + 1))) (bytes true (some ⟨w.heap.size, 0, none⟩) [112, 97, 115, 115, 119, 111, 114, 100] :: bytes true (some ⟨w.heap.size + 1, 0, none⟩) [115, 97, 108, 116] :: L) := by
    intro w L hs
    have t1 := hs.allocMark (u8s [112, 97, 115, 115, 119, 111, 114, 100]).toArray 5
    have t2 := t1.allocMark (u8s [115, 97, 108, 116]).toArray 5
    rw [show (w.alloc (.cells (u8s [112, 97, 115, 115, 119, 111, 114, 100]).toArray 5 ((u8s [112, 97, 115, 115, 119, 111, 114, 100]).toArray.size, (u8s [112, 97, 115, 115, 119, 111, 114, 100]).toArray.size + 1))).heap.size = w.heap.size + 1 by simp] at t2
    exact bytesOf ((bytesOf t2).pull 1)
  have HT := Lib.hid tw; clear tw
  go_enter Try.func17, Try.ntmps17
  go_wp2_with fail
  refine (keyH false none [] [112, 97, 115, 115, 119, 111, 114, 100] [115, 97, 108, 116] 1 40 (by rfl) (by rfl) rfl rfl rfl rfl (ledNone (HT.out _ _ (Sat.nil W))) (by decide) (by decide) (by decide) (by decide) (by decide) (by decide) (by decide) (by decide) (by decide)).mono ?_
  rintro e w1 ⟨q1, T, R0, rfl, hTl, hT, -, s1⟩
  have hT2 : Hid (T.drop 32 = [0x4d, 0xbf, 0x3a, 0x2f, 0x3d, 0xad, 0x33, 0x77]) := Lib.hid (by rw [hT.out]; exact pbEx5)
  clear hT
  obtain ⟨bT, oT, rfl, s2⟩ := bytesCell s1 (by intro h; have := hTl.out; rw [h] at this; simp at this)
  have s3 : Sat W w1 (bytes true (some ⟨bT, oT, none⟩) T :: []) := (bytesOf s2).sub (.cons .here .nil)
  clear s1 s2
  go_wp2_with fail
  refine (ledNewF s3).mono ?_
  rintro e w2 ⟨l, rfl, s4⟩
  clear s3
  go_wp2_with fail
  have s4' : Sat W _ (ledO (some l) [] :: bytes true (some ⟨w2.heap.size, 0, none⟩) [112, 97, 115, 115, 119, 111, 114, 100] :: bytes true (some ⟨w2.heap.size + 1, 0, none⟩) [115, 97, 108, 116] :: bytes true (some ⟨bT, oT, none⟩) T :: []) := (HT.out _ _ s4).pick [2]
  refine (keyH false (some l) [] [112, 97, 115, 115, 119, 111, 114, 100] [115, 97, 108, 116] 1 32 (by rfl) (by rfl) rfl rfl rfl rfl s4' (by decide) (by decide) (by decide) (by decide) (by decide) (by decide) (by decide) (by decide) (by decide)).mono ?_
  rintro e w3 ⟨q2, T2, R1, rfl, -, -, hR1, s5⟩
  clear s4 s4'
  have e1 : R1 = [(1, 64, 4)] := by rw [hR1.out]; exact runEx1
  subst e1
  clear hR1
  go_wp2_with fail
  refine (ledNewF s5).mono ?_
  rintro e w4 ⟨m, rfl, s6⟩
  clear s5
  obtain ⟨i3, hi3, hz3, hs3, hb3⟩ := info_parts Try.info_u8
  go_wp2_with (refine wpl_make rfl 39 5 (.const (.int .i64 65)) (.const (.int .i64 65)) rfl Try.underlying39 hi3 hz3 hs3 hb3 rfl 65 rfl rfl (by omega) (by omega) s6 ?_; intro w5 g s7 _; rw [u8s_zero] at s7)
  have s8 := bytesNil true none (bytesOf s7)
  clear s6 s7
  refine (keyH false (some m) [] (List.replicate 65 0) [] 1 0 (by simp) (by rfl) rfl rfl rfl rfl (by repeat (first | with_reducible apply Sat.sub (s8) | with_reducible apply Sat.alloc' | with_reducible apply Sat.drew | with_reducible apply Sat.drewN); repeat (first | with_reducible exact Fr.done | with_reducible exact Fr.nil | (with_reducible apply Fr.cons; (focus ((repeat (first | with_reducible exact Take.here | with_reducible apply Take.there)); done))) | with_reducible apply Fr.skip)) (by decide) (by decide) (by decide) (by decide) (by decide) (by decide) (by decide) (by decide) (by decide)).mono ?_
  rintro e w6 ⟨q3, T3, R2, rfl, -, -, hR2, s9⟩
  clear s8
  have e2 : R2 = [(1, 64, 4)] := by rw [hR2.out]; exact runEx2
  subst e2
  clear hR2
  have s10 : Sat W w6 (ledO (some l) [(1, 64, 4)] :: ledO (some m) [(1, 64, 4)] :: bytes true (some ⟨bT, oT, none⟩) T :: []) := (by repeat (first | with_reducible apply Sat.sub (s9) | with_reducible apply Sat.alloc' | with_reducible apply Sat.drew | with_reducible apply Sat.drewN); repeat (first | with_reducible exact Fr.done | with_reducible exact Fr.nil | (with_reducible apply Fr.cons; (focus ((repeat (first | with_reducible exact Take.here | with_reducible apply Take.there)); done))) | with_reducible apply Fr.skip))
  have s11 : Sat W _ (runsA true (some ⟨w6.heap.size, 0, none⟩) [(1, 64, 4)] :: _) := runOne (k := 1) (s := 64) (n := 4) (T := 63) s10
  have s12 : Sat W _ (bytes true (some ⟨bT, oT, none⟩) T :: runsA true (some ⟨w6.heap.size, 0, none⟩) [(1, 64, 4)] :: ledO (some l) [(1, 64, 4)] :: ledO (some m) [(1, 64, 4)] :: []) := (by repeat (first | with_reducible apply Sat.sub (s11) | with_reducible apply Sat.alloc' | with_reducible apply Sat.drew | with_reducible apply Sat.drewN); repeat (first | with_reducible exact Fr.done | with_reducible exact Fr.nil | (with_reducible apply Fr.cons; (focus ((repeat (first | with_reducible exact Take.here | with_reducible apply Take.there)); done))) | with_reducible apply Fr.skip))
  have s13 := bytesDrop 32 s12 (by rw [hTl.out]; decide)
  have s14 := bytesOf (s13.allocAt (u8s [0x4d, 0xbf, 0x3a, 0x2f, 0x3d, 0xad, 0x33, 0x77]).toArray 5 (q := w6.heap.size + 1) (by simp))
  clear s9 s10 s11 s12 s13
  go_wp2_with fail
  refine (sameT (T.drop 32) [0x4d, 0xbf, 0x3a, 0x2f, 0x3d, 0xad, 0x33, 0x77] (by rw [List.length_drop, hTl.out]) (by rfl) (by omega) hT2.out (s14.pull 1)).mono ?_
  rintro e w7 ⟨rfl, s15'⟩
  have s15 : Sat W w7 (runsA true (some ⟨w6.heap.size, 0, none⟩) [(1, 64, 4)] :: ledO (some l) [(1, 64, 4)] :: ledO (some m) [(1, 64, 4)] :: []) := ((s15'.drop 0).drop 0)
  clear s14 s15'
  go_wp2_with fail
  refine (ledRunsF (l := l) (rs := [(1, 64, 4)]) (by decide) (by repeat (first | with_reducible apply Sat.sub (s15) | with_reducible apply Sat.alloc' | with_reducible apply Sat.drew | with_reducible apply Sat.drewN); repeat (first | with_reducible exact Fr.done | with_reducible exact Fr.nil | (with_reducible apply Fr.cons; (focus ((repeat (first | with_reducible exact Take.here | with_reducible apply Take.there)); done))) | with_reducible apply Fr.skip))).mono ?_
  rintro e w8 ⟨q5, c5, rfl, s16⟩
  clear s15
  go_wp2_with fail
  refine (sameRuns [(1, 64, 4)] (by rfl) (by rfl) (by decide) (by repeat (first | with_reducible apply Sat.sub (s16) | with_reducible apply Sat.alloc' | with_reducible apply Sat.drew | with_reducible apply Sat.drewN); repeat (first | with_reducible exact Fr.done | with_reducible exact Fr.nil | (with_reducible apply Fr.cons; (focus ((repeat (first | with_reducible exact Take.here | with_reducible apply Take.there)); done))) | with_reducible apply Fr.skip))).mono ?_
  rintro e w9 ⟨rfl, s17⟩
  clear s16
  go_wp2_with fail
  refine (ledRunsF (l := m) (rs := [(1, 64, 4)]) (by decide) (by repeat (first | with_reducible apply Sat.sub (s17) | with_reducible apply Sat.alloc' | with_reducible apply Sat.drew | with_reducible apply Sat.drewN); repeat (first | with_reducible exact Fr.done | with_reducible exact Fr.nil | (with_reducible apply Fr.cons; (focus ((repeat (first | with_reducible exact Take.here | with_reducible apply Take.there)); done))) | with_reducible apply Fr.skip))).mono ?_
  rintro e w10 ⟨q6, c6, rfl, s18⟩
  clear s17
  go_wp2_with fail
  have s18' : Sat W w10 (runsA true q6 [(1, 64, 4)] :: runsA true (some ⟨w6.heap.size, 0, none⟩) [(1, 64, 4)] :: []) := (by repeat (first | with_reducible apply Sat.sub (s18) | with_reducible apply Sat.alloc' | with_reducible apply Sat.drew | with_reducible apply Sat.drewN); repeat (first | with_reducible exact Fr.done | with_reducible exact Fr.nil | (with_reducible apply Fr.cons; (focus ((repeat (first | with_reducible exact Take.here | with_reducible apply Take.there)); done))) | with_reducible apply Fr.skip))
  refine (sameRuns [(1, 64, 4)] (by rfl) (by rfl) (by decide) s18').mono ?_
  rintro e w11 ⟨rfl, s19'⟩
  have s19 : Sat W w11 [] := (by repeat (first | with_reducible apply Sat.sub (s19') | with_reducible apply Sat.alloc' | with_reducible apply Sat.drew | with_reducible apply Sat.drewN); repeat (first | with_reducible exact Fr.done | with_reducible exact Fr.nil | (with_reducible apply Fr.cons; (focus ((repeat (first | with_reducible exact Take.here | with_reducible apply Take.there)); done))) | with_reducible apply Fr.skip))
  clear s18 s18' s19'
  go_wp2_with fail
  refine (refused16 3 0 (-1) 4 (by decide) (by decide) s19).mono ?_
  rintro e w12 ⟨rfl, s20⟩
  clear s19
  go_wp2_with fail
  refine (refused16 0 1 1 4 (by decide) (by decide) s20).mono ?_
  rintro e w13 ⟨rfl, s21⟩
  clear s20
  go_wp2_with fail
  refine (refused16 1 0 (-1) 10 (by decide) (by decide) s21).mono ?_
  rintro e w14 ⟨rfl, s22⟩
  clear s21
  go_wp2_with fail
  refine (refused16 1 1048577 1 10 (by decide) (by decide) s22).mono ?_
  rintro e w15 ⟨rfl, s23⟩
  clear s22
  go_wp2_with fail
  refine (refused16 2 1 (-1) 2 (by decide) (by decide) s23).mono ?_
  rintro e w16 ⟨rfl, s24⟩
  clear s23
  go_wp2_with fail
  refine (refused16 2 1 16321 9 (by decide) (by decide) s24).mono ?_
  rintro e w17 ⟨rfl, s25⟩
  clear s24
  go_wp2_with fail
  refine (blockBad none none none 0 0 0 0 1 1 0 (by decide) s25).mono ?_
  rintro e w18 ⟨rfl, s26⟩
  clear s25
  rw [show blockCode 1 1 0 = 2 by decide]
  go_wp2_with fail
  refine (blockBad none none none 0 0 0 0 1 1 4294967296 (by decide) s26).mono ?_
  rintro e w19 ⟨rfl, s27⟩
  clear s26
  rw [show blockCode 1 1 4294967296 = 2 by decide]
  have s28 : Sat W w19 (ledO none [] :: bytes true none [] :: bytes true none [] :: []) := ledNone (bytesNil true none (bytesNil true none s27))
  clear s27
  go_wp2_with fail
  refine (blockF false none [] [] [] 1 4294967295 (by rfl) (by rfl) rfl rfl rfl rfl s28 (by decide) (by decide) (by decide) (by decide) (by decide) (by decide) (by decide) (by decide) (by decide) (by decide)).mono ?_
  rintro e w20 ⟨q7, c7, rfl, s29⟩
  have s30 : Sat W w20 (ledO none [] :: bytes true none [] :: bytes true none [] :: []) := ledNone ((by repeat (first | with_reducible apply Sat.sub (s29) | with_reducible apply Sat.alloc' | with_reducible apply Sat.drew | with_reducible apply Sat.drewN); repeat (first | with_reducible exact Fr.done | with_reducible exact Fr.nil | (with_reducible apply Fr.cons; (focus ((repeat (first | with_reducible exact Take.here | with_reducible apply Take.there)); done))) | with_reducible apply Fr.skip)) : Sat W w20 (bytes true none [] :: bytes true none [] :: []))
  clear s28 s29
  simp only [hsz]
  go_wp2_with fail
  refine (keyH true none [] [] [] 1 16320 (by rfl) (by rfl) rfl rfl rfl rfl s30 (by decide) (by decide) (by decide) (by decide) (by decide) (by decide) (by decide) (by decide) (by decide)).mono ?_
  rintro e w21 ⟨q8, T8, R8, rfl, -, -, -, s31⟩
  clear s30
  go_wp2_with fail
  refine (awake16 s31).mono ?_
  rintro e w22 ⟨rfl, s32⟩
  go_wp2
  go_ret
  exact ⟨rfl, s32.below⟩
end Go.Proofs.Ytmohabidfalhoaa
