/- awake of layer 16's statements: the chapter's examples; under the condition that it names. -/
import Derived.Test.YtmohabidfalhoaaL16
namespace Go.Proofs.Ytmohabidfalhoaa
open Go.RowKit Go.Sep Go.Bv Go.Sha
set_option linter.unusedVariables false
set_option linter.unusedSimpArgs false
theorem pbTake_len (wide : Bool) (key salt : List Byte) (count n : Nat) : ((pbMany wide key salt count (pbM wide n)).take n).length = n := by
  rw [List.length_take, pbMany_len]; have := pbM_ge wide n; omega
theorem starts16S {W0 w : World} {L : List Assn} {m1 m2 : Bool} {pk pw : Option Addr} {ck cw n m : Nat} (K V : List Byte) (hK : K.length = n) (hV : V.length = m) (hck : n ≤ ck) (hcm : ck ≤ maxLen) (hm : m ≤ n) (hn : n ≤ 100000) (he : K.take m = V) (hs : Sat W0 w (bytes m1 pk K :: bytes m2 pw V :: L)) :
    Calls Try.prog 85 #[.slice pk n ck, .int .i64 0, .int .i64 (n : Int), .slice pw m cw] w fun e w' => e = .returned (.bool true) ∧ Sat W0 w' L := by
  refine (starts16 K V hK hV hck hcm hm hn he hs).mono ?_
  rintro e w' ⟨rfl, k, rfl⟩
  exact ⟨rfl, ((hs.drewN k).drop 0).drop 0⟩
set_option maxRecDepth 100000 in
set_option maxHeartbeats 8000000 in
theorem awake16 {W0 w : World} {L : List Assn} (hs : Sat W0 w L) : Calls Try.prog 57 #[] w fun e w' => e = .returned (.bool true) ∧ Sat W0 w' L := by
  have kc := fun (w : World) (C : Array Value) (n c g : Nat) (hg : g = w.heap.size) => Joins.run_convert_bytes_const_at (P := Try.prog) w 39 5 C n c g hg Try.underlying39 Try.underlying5
  have t1 := hs.allocMark (u8s [112, 97, 115, 115, 119, 111, 114, 100]).toArray 5
  have t2 := t1.allocMark (u8s [115, 97, 108, 116]).toArray 5
  rw [show (w.alloc (.cells (u8s [112, 97, 115, 115, 119, 111, 114, 100]).toArray 5 ((u8s [112, 97, 115, 115, 119, 111, 114, 100]).toArray.size, (u8s [112, 97, 115, 115, 119, 111, 114, 100]).toArray.size + 1))).heap.size = w.heap.size + 1 by simp] at t2
  have s0 : Sat W0 _ (ledO none [] :: bytes true (some ⟨w.heap.size, 0, none⟩) [112, 97, 115, 115, 119, 111, 114, 100] :: bytes true (some ⟨w.heap.size + 1, 0, none⟩) [115, 97, 108, 116] :: L) := ledNone (bytesOf ((bytesOf t2).pull 1))
  clear t1 t2 hs
  go_enter Try.func57, Try.ntmps57
  go_wp2_with fail
  have h1 := pbKey (ck := 8) (cs := 4) false none [] [112, 97, 115, 115, 119, 111, 114, 100] [115, 97, 108, 116] 1 32 (by decide) (by decide) (by decide) (by decide) (by decide) (by decide) (by decide) (by decide) (by decide) s0
  simp only [algN, ptrO, Option.map_none, List.length_cons, List.length_nil, Nat.zero_add, Nat.reduceAdd] at h1
  refine h1.mono ?_
  rintro e w1 ⟨q1, rfl, s1⟩
  clear h1 s0
  obtain ⟨gp, hgp⟩ : ∃ g, g = w.heap.size := ⟨_, rfl⟩
  obtain ⟨gs, hgs⟩ : ∃ g, g = gp + 1 := ⟨_, rfl⟩
  rw [← hgp, ← hgs] at s1 ⊢
  clear hgp hgs
  obtain ⟨l1, _, _, s1⟩ := rowBytes s1
  have r1 : Sat W0 w1 (ledO none [] :: bytes true (some ⟨gp, 0, none⟩) [112, 97, 115, 115, 119, 111, 114, 100] :: bytes true (some ⟨gs, 0, none⟩) [115, 97, 108, 116] :: bytes true q1 _ :: L) := ledNone ((s1.pick [2, 3, 0]).drop 3)
  go_wp2_with fail
  have h2 := pbKey (ck := 8) (cs := 4) false none [] [112, 97, 115, 115, 119, 111, 114, 100] [115, 97, 108, 116] 2 32 (by decide) (by decide) (by decide) (by decide) (by decide) (by decide) (by decide) (by decide) (by decide) r1
  simp only [algN, ptrO, Option.map_none, List.length_cons, List.length_nil, Nat.zero_add, Nat.reduceAdd] at h2
  refine h2.mono ?_
  rintro e w2 ⟨q2, rfl, s2⟩
  clear h2 s1 r1
  obtain ⟨l2, _, _, s2⟩ := rowBytes s2
  have r2 : Sat W0 w2 (ledO none [] :: bytes true (some ⟨gp, 0, none⟩) [112, 97, 115, 115, 119, 111, 114, 100] :: bytes true (some ⟨gs, 0, none⟩) [115, 97, 108, 116] :: bytes true q2 _ :: bytes true q1 _ :: L) := ledNone ((s2.pick [2, 3, 0]).drop 3)
  go_wp2_with fail
  have h3 := pbKey (ck := 8) (cs := 4) true none [] [112, 97, 115, 115, 119, 111, 114, 100] [115, 97, 108, 116] 1 64 (by decide) (by decide) (by decide) (by decide) (by decide) (by decide) (by decide) (by decide) (by decide) r2
  simp only [algN, ptrO, Option.map_none, List.length_cons, List.length_nil, Nat.zero_add, Nat.reduceAdd] at h3
  refine h3.mono ?_
  rintro e w3 ⟨q3, rfl, s3⟩
  clear h3 s2 r2
  obtain ⟨l3, _, _, s3⟩ := rowBytes s3
  have r3 : Sat W0 w3 (ledO none [] :: bytes true none [] :: bytes true none [] :: bytes true q3 _ :: bytes true q2 _ :: bytes true q1 _ :: L) := ledNone (bytesNil true none (bytesNil true none ((((s3.pick [0, 4, 5]).drop 3).drop 3).drop 3)))
  go_wp2_with fail
  have h4 := pbKey (ck := 0) (cs := 0) true none [] [] [] 3 10 (by decide) (by decide) (by decide) (by decide) (by decide) (by decide) (by decide) (by decide) (by decide) r3
  simp only [algN, ptrO, Option.map_none, List.length_nil] at h4
  refine h4.mono ?_
  rintro e w4 ⟨q4, rfl, s4⟩
  clear h4 s3 r3
  obtain ⟨l4, _, _, s4⟩ := rowBytes s4
  obtain ⟨T1, e1⟩ : ∃ T, T = (pbMany false [112, 97, 115, 115, 119, 111, 114, 100] [115, 97, 108, 116] 1 (pbM false 32)).take 32 := ⟨_, rfl⟩
  obtain ⟨T2, e2⟩ : ∃ T, T = (pbMany false [112, 97, 115, 115, 119, 111, 114, 100] [115, 97, 108, 116] 2 (pbM false 32)).take 32 := ⟨_, rfl⟩
  obtain ⟨T3, e3⟩ : ∃ T, T = (pbMany true [112, 97, 115, 115, 119, 111, 114, 100] [115, 97, 108, 116] 1 (pbM true 64)).take 64 := ⟨_, rfl⟩
  obtain ⟨T4, e4⟩ : ∃ T, T = (pbMany true [] [] 3 (pbM true 10)).take 10 := ⟨_, rfl⟩
  rw [← e1] at s4 l1
  rw [← e2] at s4 l2
  rw [← e3] at s4 l3
  rw [← e4] at s4 l4
  have f1 : T1.take 8 = [0x12, 0x0f, 0xb6, 0xcf, 0xfc, 0xf8, 0xb3, 0x2c] := by rw [e1]; exact pbEx1
  have f2 : T2.take 8 = [0xae, 0x4d, 0x0c, 0x95, 0xaf, 0x6b, 0x46, 0xd3] := by rw [e2]; exact pbEx2
  have f3 : T3.take 8 = [0x86, 0x7f, 0x70, 0xcf, 0x1a, 0xde, 0x02, 0xcf] := by rw [e3]; exact pbEx3
  have f4 : T4.take 10 = [0xba, 0x78, 0xa2, 0xc1, 0x8f, 0xe1, 0xf3, 0xcf, 0xff, 0xab] := by rw [e4]; exact pbEx4
  have r4 : Sat W0 w4 (bytes true q1 T1 :: bytes true q2 T2 :: bytes true q3 T3 :: bytes true q4 T4 :: L) := (((s4.pick [6, 5, 4, 0]).drop 4).drop 4).drop 4
  have HF := Lib.hid (And.intro l1 (And.intro l2 (And.intro l3 (And.intro l4 (And.intro f1 (And.intro f2 (And.intro f3 f4))))))); clear l1 l2 l3 l4 f1 f2 f3 f4 e1 e2 e3 e4 s4

  have u0 := r4.alloc (u8s [0x12, 0x0f, 0xb6, 0xcf, 0xfc, 0xf8, 0xb3, 0x2c]).toArray 5
  have v0 := starts16S (L := bytes true q2 T2 :: bytes true q3 T3 :: bytes true q4 T4 :: L) (ck := 32) (cw := 8) T1 [0x12, 0x0f, 0xb6, 0xcf, 0xfc, 0xf8, 0xb3, 0x2c] HF.out.1 (by rfl) (by decide) (by decide) (by decide) (by decide) HF.out.2.2.2.2.1 ((bytesOf u0).pull 1)
  go_wp2_with fail
  refine v0.mono ?_
  rintro e w5 ⟨rfl, r5⟩
  clear u0 v0 r4
  have u1 := r5.alloc (u8s [0xae, 0x4d, 0x0c, 0x95, 0xaf, 0x6b, 0x46, 0xd3]).toArray 5
  have v1 := starts16S (L := bytes true q3 T3 :: bytes true q4 T4 :: L) (ck := 32) (cw := 8) T2 [0xae, 0x4d, 0x0c, 0x95, 0xaf, 0x6b, 0x46, 0xd3] HF.out.2.1 (by rfl) (by decide) (by decide) (by decide) (by decide) HF.out.2.2.2.2.2.1 ((bytesOf u1).pull 1)
  go_wp2_with fail
  refine v1.mono ?_
  rintro e w6 ⟨rfl, r6⟩
  clear u1 v1 r5
  have u2 := r6.alloc (u8s [0x86, 0x7f, 0x70, 0xcf, 0x1a, 0xde, 0x02, 0xcf]).toArray 5
  have v2 := starts16S (L := bytes true q4 T4 :: L) (ck := 64) (cw := 8) T3 [0x86, 0x7f, 0x70, 0xcf, 0x1a, 0xde, 0x02, 0xcf] HF.out.2.2.1 (by rfl) (by decide) (by decide) (by decide) (by decide) HF.out.2.2.2.2.2.2.1 ((bytesOf u2).pull 1)
  go_wp2_with fail
  refine v2.mono ?_
  rintro e w7 ⟨rfl, r7⟩
  clear u2 v2 r6
  have u3 := r7.alloc (u8s [0xba, 0x78, 0xa2, 0xc1, 0x8f, 0xe1, 0xf3, 0xcf, 0xff, 0xab]).toArray 5
  have v3 := starts16S (L := L) (ck := 10) (cw := 10) T4 [0xba, 0x78, 0xa2, 0xc1, 0x8f, 0xe1, 0xf3, 0xcf, 0xff, 0xab] HF.out.2.2.2.1 (by rfl) (by decide) (by decide) (by decide) (by decide) HF.out.2.2.2.2.2.2.2 ((bytesOf u3).pull 1)
  go_wp2_with fail
  refine v3.mono ?_
  rintro e w8 ⟨rfl, r8⟩
  clear u3 v3 r7
  go_wp2
  go_ret
  exact ⟨rfl, r8⟩
end Go.Proofs.Ytmohabidfalhoaa
