
import Derived.Test.YtbefjaodpbgpcaaGreatVp1
import Derived.Test.YtbefjaodpbgpcaaGreatVp2
import Derived.Test.YtbefjaodpbgpcaaGreatVp5
import Derived.Test.YtbefjaodpbgpcaaGreatVp6
import Derived.Test.YtbefjaodpbgpcaaGreatHK
set_option linter.unusedVariables false
set_option linter.unusedSimpArgs false
set_option maxRecDepth 100000
set_option maxHeartbeats 16000000
namespace Go.Proofs.YtbefjaodpbgpcaaGreat
open Go.RowKit Go.Sep Go.Bv Go.Kec Go.Aes Go.Sha
theorem ledMark {W0 w : World} {L : List Assn} {l : Nat} {rs : List Run3} (hs : Sat W0 w (ledO (some l) rs :: L)) : Calls Tryz.prog 14 #[.pointer (some ⟨l, 0, none⟩)] w fun e w' => e = .returned (.int .i64 (tot rs : Int)) ∧ w = w' := by
 have h := ledLenF hs
 have HL := Lib.hid h; clear h hs
 go_enter Tryz.func14, Tryz.ntmps14
 go_wp2_with fail
 refine HL.out.mono ?_
 rintro e w1 ⟨rfl, rfl⟩
 go_wp2
 go_ret
 exact ⟨rfl, rfl⟩
theorem sinceR_len : ∀ (rs : List Run3) (m : Nat), (sinceR rs m).length ≤ rs.length
 | [], _ => Nat.le_refl _
 | r :: rs, m => by
  unfold sinceR
  split
  ·have := sinceR_len rs (m - r.2.2); simp only [List.length_cons]; omega
  ·simp
theorem sameIntsW {W0 w : World} {L : List Assn} {ca cb n : Nat} {pa pb : Option Addr} (xs : List Nat) (hx : xs.length = n) (hn : n ≤ 1000000) (hs : Sat W0 w (row pa ca 1 n (intsH xs) :: row pb cb 1 n (intsH xs) :: L)) :
  Calls Tryz.prog 20 #[.slice pa n ca, .slice pb n cb] w fun e w' => e = .returned (.bool true) ∧ Sat W0 w' L := by
 have h0 : n ≠ 0 → ∃ ba bb, pa = some ⟨ba, 0, none⟩ ∧ pb = some ⟨bb, 0, none⟩ ∧ (∀ i v, (intsH xs)[i]? = some v → w.cell? ⟨ba, i, none⟩ = some v) ∧ (∀ i v, (intsH xs)[i]? = some v → w.cell? ⟨bb, i, none⟩ = some v) := by
  intro hne
  obtain ⟨-, ⟨-, -, h0, -, -⟩ | ⟨ba, r1, rfl, -, -, -, h1⟩⟩ := hs.rowOpen
  ·exact absurd h0 hne
  obtain ⟨-, ⟨-, -, h0, -, -⟩ | ⟨bb, r2, rfl, -, -, -, h2⟩⟩ := (hs.pull 1 : Sat W0 w (row pb cb 1 n (intsH xs) :: _)).rowOpen
  ·exact absurd h0 hne
  exact ⟨ba, bb, rfl, rfl, fun i v hv => h1.at i (by rw [List.getElem?_append_left (List.getElem?_eq_some_iff.1 hv).1]; exact hv), fun i v hv => h2.at i (by rw [List.getElem?_append_left (List.getElem?_eq_some_iff.1 hv).1]; exact hv)⟩
 have HN := Lib.hid (And.intro hx h0); clear hx h0
 have HS := Lib.hid hs.tail.tail; clear hs
 go_enter Tryz.func20, Tryz.ntmps20
 go_wp2
 go_loopw [5] (fun t5 wr => ∃ i k : Nat, i ≤ n ∧ t5 = .int .i64 (i : Int) ∧ wr = w.drewN k) (fun t5 _ => n - (intOf t5).toNat)
 case atStart => exact ⟨0, 0, Nat.zero_le _, rfl, rfl⟩
 case round =>
  obtain ⟨i, k, hi, rfl, rfl⟩ := hrel
  by_cases hlt : i < n
  ·obtain ⟨ba, bb, rfl, rfl, h1, h2⟩ := HN.out.2 (by omega)
   have hix : i < xs.length := by rw [HN.out.1]; exact hlt
   have g : (intsH xs)[i]? = some (.int .i64 ((xs[i] : Nat) : Int)) := by unfold intsH; rw [List.getElem?_map, List.getElem?_eq_getElem hix]; rfl
   obtain ⟨x, hxx⟩ : ∃ x, x = xs[i] := ⟨_, rfl⟩
   rw [← hxx] at g
   have a0 := h1 _ _ g
   have b0 := h2 _ _ g
   clear g h1 h2 hxx hix
   go_wp2_with fail
   go_quiet (fail)
   go_wp2
   go_roundw
   case rel => exact ⟨i + 1, _, by omega, by go_num, rfl⟩
   case measure => simp [intOf]; omega
  ·obtain rfl : i = n := by omega
   go_wp2
   go_ret
   exact ⟨rfl, HS.out.drewN _⟩
def dsum (l : List OpM) : Nat := (l.map fun x => 8 + x.dn + x.en).sum
theorem dsum_snoc {l : List OpM} {i : Nat} {x : OpM} (h : l[i]? = some x) : dsum (l.take (i + 1)) = dsum (l.take i) + (8 + x.dn + x.en) := by
 obtain ⟨h1, h2⟩ := List.getElem?_eq_some_iff.1 h
 unfold dsum
 rw [List.take_succ_eq_append_getElem h1, List.map_append, List.sum_append, h2]
 simp
theorem dsum_len : ∀ l : List OpM, 8 * l.length ≤ dsum l
 | [] => Nat.le_refl _
 | x :: l => by
  have h := dsum_len l
  unfold dsum at h ⊢
  rw [List.map_cons, List.sum_cons, List.length_cons]
  omega
theorem dsum_take (l : List OpM) (i : Nat) : dsum (l.take i) ≤ dsum l := by
 have h : dsum l = dsum (l.take i) + dsum (l.drop i) := by
  unfold dsum
  rw [← List.sum_append, ← List.map_append, List.take_append_drop]
 omega
theorem dsum_filter : ∀ l : List OpM, dsum (l.filter fewP) ≤ dsum l
 | [] => Nat.le_refl _
 | x :: l => by
  have h := dsum_filter l
  rw [List.filter_cons]
  unfold dsum at h ⊢
  split
  ·rw [List.map_cons, List.map_cons, List.sum_cons, List.sum_cons]; omega
  ·rw [List.map_cons, List.sum_cons]; omega
def filled (s : OpS) (b : Byte) (p q : Option Addr) : OpM := ⟨s.kind, s.handle, s.alg, s.count, s.out, p, s.dn, s.dn, q, s.en, s.en, List.replicate s.dn b, List.replicate s.en b⟩
theorem filled_fine {s : OpS} (b : Byte) (p q : Option Addr) (hk : s.kind < 256) (ha : s.alg < 256) (hd : s.dn ≤ 1048576) (he : s.en ≤ 1048576) : (filled s b p q).fine := ⟨⟨hk, ha⟩, ⟨by simp [filled], Nat.le_refl _, by show s.dn ≤ maxLen; unfold maxLen; omega⟩, ⟨by simp [filled], Nat.le_refl _, by show s.en ≤ maxLen; unfold maxLen; omega⟩, hd, he⟩
theorem filled_sk (s : OpS) (b : Byte) (p q : Option Addr) : (filled s b p q).c.sk = s := by simp [filled, OpM.c, OpC.sk]
theorem fine_sk {x : OpM} (h : x.fine) : x.c.sk = x.sk := by
 obtain ⟨-, ⟨h1, -⟩, ⟨h2, -⟩, -⟩ := h
 unfold OpC.sk OpM.sk OpM.c
 simp only [h1, h2]
theorem hList_alike {S T : Sts SesD} (h : shS S = shS T) : hList S = hList T := by
 unfold hList
 congr 1
 have e : ∀ U : Sts SesD, U.map (·.isSome) = (shS U).map (·.isSome) := fun U => by
  unfold shS
  rw [List.map_map]
  refine List.map_congr_left fun x _ => ?_
  cases x <;> rfl
 rw [e S, e T, h]
def Kept (w' : World) (ga gb gs : Nat) (cd : Int) (hh nb : Nat) (qa qb : Option Addr) (ca cb : Nat) (sk : OpS) : Prop :=
 w'.cell? ⟨ga, 0, none⟩ = some (.int .i64 cd) ∧ w'.cell? ⟨ga, 1, none⟩ = some (.int .i64 (hh : Int)) ∧ w'.cell? ⟨ga, 3, none⟩ = some (.slice qa nb ca) ∧ ga < w'.heap.size ∧
 w'.cell? ⟨gb, 0, none⟩ = some (.int .i64 cd) ∧ w'.cell? ⟨gb, 1, none⟩ = some (.int .i64 (hh : Int)) ∧ w'.cell? ⟨gb, 3, none⟩ = some (.slice qb nb cb) ∧ gb < w'.heap.size ∧ w'.rangeAt gs 0 (skC sk) ∧ gs < w'.heap.size
theorem public_walk {W0 w : World} {L : List Assn} {p : Option Addr} {n c : Nat} (b : Byte) (xs : List OpM) (hn : xs.length = n) (hd : dsum xs ≤ 1048576) (hs : Sat W0 w (opsR p xs :: L)) :
  Calls Tryz.prog 4 #[.slice p n c, .int .u8 (v8 b)] w fun e w' => e = .returned (.bool true) ∧ Sat W0 w' L := by
 have hn2 : n ≤ 131072 := by have := dsum_len xs; omega
 have HN := Lib.hid (And.intro hn (And.intro hd hn2)); clear hn hd hn2
 go_enter Tryz.func4, Tryz.ntmps4
 go_wp2_with fail
 refine (ledNewF hs).mono ?_
 rintro e w1 ⟨l, rfl, s1⟩
 clear hs
 go_wp2_with fail
 refine (ledNewF s1).mono ?_
 rintro e w2 ⟨m, rfl, s2⟩
 clear s1
 go_wp2_with fail
 refine (vNewW sesI (some l) s2).mono ?_
 rintro e w3 ⟨v, rfl, s3⟩
 clear s2
 go_wp2_with fail
 refine (vNewW sesI (some m) s3).mono ?_
 rintro e w4 ⟨u, rfl, s4⟩
 clear s3
 go_wp2_with fail
 refine (awake24 s4).mono ?_
 rintro e w5 ⟨rfl, s5⟩
 clear s4
 go_wp2_with fail
 have s6 : Sat W0 w5 (opsR p xs :: ledO (some l) [] :: vlt sesI v (some l) B0 :: ledO (some m) [] :: vlt sesI u (some m) B0 :: L) := s5.f
 clear s5
 refine (fewW xs HN.out.1 (by have := HN.out.2.2; omega) s6).mono ?_
 rintro e w6 ⟨q, k, d, rfl, hk, s7⟩
 clear s6
 obtain ⟨ys, hys⟩ : ∃ ys, ys = xs.filter fewP := ⟨_, rfl⟩
 rw [← hys] at s7 hk
 have hyd : dsum ys ≤ 1048576 := by rw [hys]; exact Nat.le_trans (dsum_filter xs) HN.out.2.1
 have hk2 : k ≤ 131072 := by have := dsum_len ys; omega
 have HY := Lib.hid (And.intro hk (And.intro hyd hk2)); clear hk hyd hys
 have s8 : Sat W0 w6 (opsR q ys :: ledO (some l) [] :: vlt sesI v (some l) B0 :: ledO (some m) [] :: vlt sesI u (some m) B0 :: L) := s7.f
 clear s7
 go_wp2
 go_loopw [9] (fun t9 wr => ∃ (i : Nat) (S T : Sts SesD) (rs : List Run3), i ≤ k ∧ t9 = .int .i64 (i : Int) ∧ shS S = shS T ∧ okV (dsum (ys.take i)) S ∧ okV (dsum (ys.take i)) T ∧ tot rs ≤ 3002000000 * i ∧ rs.length ≤ 5 * i ∧ Sat W0 wr (opsR q ys :: ledO (some l) rs :: vlt sesI v (some l) S :: ledO (some m) rs :: vlt sesI u (some m) T :: L)) (fun t9 _ => k - (intOf t9).toNat)
 case atStart => exact ⟨0, B0, B0, [], Nat.zero_le _, rfl, rfl, okV0, okV0, Nat.zero_le _, Nat.zero_le _, s8⟩
 case round =>
  clear s8
  obtain ⟨i, S, T, rs, hi, rfl, hST, hoS, hoT, htr, hlr, s⟩ := hrel
  by_cases hlt : i < k
  ·obtain ⟨x, hx⟩ : ∃ x, ys[i]? = some x := ⟨ys[i]'(by rw [HY.out.1]; exact hlt), List.getElem?_eq_getElem _⟩
   obtain ⟨hfx, bb, bo, rfl, s1⟩ := opsPeek s hx
   have hdn := dsum_snoc hx
   have hdt := dsum_take ys (i + 1)
   have hyd := HY.out.2.1
   have hdx : x.data.length = x.dn := hfx.2.1.1
   have hdxe : x.more.length = x.en := hfx.2.2.1.1
   obtain ⟨D, hD⟩ : ∃ D, D = dsum (ys.take i) := ⟨_, rfl⟩
   rw [← hD] at hdn hoS hoT
   have hxk := hfx.1.1
   have hxa := hfx.1.2
   obtain ⟨hpa, hpb, hpc, hpd⟩ := plain_dn x.sk
   obtain ⟨sk, hsk⟩ : ∃ z, z = plainS x.sk := ⟨_, rfl⟩
   rw [← hsk] at hpa hpb hpc hpd
   obtain ⟨hqa, hqb, hqc, hqd⟩ := plain_dn sk
   obtain ⟨s2, hs2⟩ : ∃ z, z = plainS sk := ⟨_, rfl⟩
   rw [← hs2] at hqa hqb hqc hqd
   have hx1 : x.sk.dn = x.dn := rfl
   have hx2 : x.sk.en = x.en := rfl
   have hx3 : x.sk.kind = x.kd := rfl
   have hx4 : x.sk.alg = x.ag := rfl
   have hsd : sk.dn ≤ 1048576 := by omega
   have hse : sk.en ≤ 1048576 := by omega
   have hskk : sk.kind < 256 := by omega
   have hff := fun (p q : Option Addr) => filled_fine b p q (s := s2) (by omega) (by omega) (by omega) (by omega)
   have hal := fun (p q : Option Addr) => alike (o := x.c) (u := (filled s2 b p q).c) (rs := rs) hoS hoT hST (by rw [filled_sk, fine_sk hfx, hs2, hsk])
   have hbd := doV_bound (o := x.c) (rs := rs) hoS (by show x.data.length ≤ _; omega)
   rw [fine_sk hfx, ← hsk] at hbd
   obtain ⟨-, hn1, hn2, hn3, hn4⟩ := doV_next (D := x.dn) (o := x.c) (rs := rs) hoS (by omega) (.inl (by show x.data.length ≤ _; omega))
   have hm1 := fun (p q : Option Addr) => (doV_next (D := x.dn) (o := (filled s2 b p q).c) (rs := rs) hoT (by omega) (.inl (by show (List.replicate s2.dn b).length ≤ _; rw [List.length_replicate]; omega))).2.1
   have hof := fun (w : World) (X : List Assn) (s : Sat W0 w X) => ofW x hxk s
   rw [← hsk] at hof
   have hfo := fun (w : World) (X : List Assn) (s : Sat W0 w X) => fillOpW sk b hskk (by omega) (by omega) s
   rw [← hs2] at hfo
   have hc1 := fun (w : World) (X : List Assn) (s : Sat W0 w (ledO (some l) rs :: vlt sesI v (some l) S :: bytes false x.dp x.data :: bytes false x.ep x.more :: X)) => doVW (x := x) hoS (by omega) ⟨by omega, by omega⟩ hfx s
   have hc2 := fun (p q : Option Addr) (w : World) (X : List Assn) (s : Sat W0 w (ledO (some m) rs :: vlt sesI u (some m) T :: bytes true p (List.replicate s2.dn b) :: bytes true q (List.replicate s2.en b) :: X)) => doVW (x := filled s2 b p q) hoT (by omega) ⟨by omega, by omega⟩ (hff p q) s
   have hbw := fun (w : World) (X : List Assn) (s : Sat W0 w X) => boundW sk s
   obtain ⟨bnd, hbn⟩ : ∃ z, z = boundN sk := ⟨_, rfl⟩
   rw [← hbn] at hbd hbw
   obtain ⟨R, hR⟩ : ∃ R, R = doV S x.c rs := ⟨_, rfl⟩
   rw [← hR] at hbd hn1 hn2 hn3 hn4 hc1
   obtain ⟨cd, hcd⟩ : ∃ z, z = R.2.1.code := ⟨_, rfl⟩
   obtain ⟨hh, hhh⟩ : ∃ z, z = R.2.1.handle := ⟨_, rfl⟩
   obtain ⟨nb, hnb⟩ : ∃ z, z = R.2.1.bytes.length := ⟨_, rfl⟩
   obtain ⟨r1, hr1⟩ : ∃ z, z = R.2.2 := ⟨_, rfl⟩
   rw [← hr1] at hbd hn2 hn3 hn4
   have hal2 : ∀ (p q : Option Addr), shS R.1 = shS (doV T (filled s2 b p q).c rs).1 ∧ (doV T (filled s2 b p q).c rs).2.1.code = cd ∧ (doV T (filled s2 b p q).c rs).2.1.handle = hh ∧ (doV T (filled s2 b p q).c rs).2.1.bytes.length = nb ∧ (doV T (filled s2 b p q).c rs).2.2 = r1 := fun p q => by
    have h := hal p q
    rw [← hR] at h
    rw [hcd, hhh, hnb, hr1]
    exact h
   obtain ⟨N0, hN0⟩ : ∃ z, z = tot rs := ⟨_, rfl⟩
   obtain ⟨N1, hN1⟩ : ∃ z, z = tot r1 := ⟨_, rfl⟩
   have hti : tot r1 ≤ 3002000000 * (i + 1) := by omega
   have hli : r1.length ≤ 5 * (i + 1) := by omega
   have hb0 : N1 ≤ 1000000000000000 := by omega
   have hb1 : N0 + 2 ≤ N1 := by omega
   have hb2 : N1 ≤ N0 + bnd := by omega
   have hsl : (sinceR r1 N0).length ≤ 1000000000 := Nat.le_trans (sinceR_len _ _) (by omega)
   have hsc : ∀ (l : Nat) (w : World) (X : List Assn), Sat W0 w (ledO (some l) r1 :: X) → Calls Tryz.prog 17 #[.pointer (some ⟨l, 0, none⟩), .int .i64 (N0 : Int)] w fun e w' => ∃ q c, e = .returned (.slice q (sinceR r1 N0).length c) ∧ Sat W0 w' (runsA true q (sinceR r1 N0) :: ledO (some l) r1 :: X) := fun l w X s => ledSince (l := l) (mark := N0) (rs := r1) (by omega) (by omega) (by omega) s
   have hmk := fun (l : Nat) (w : World) (X : List Assn) (s : Sat W0 w (ledO (some l) r1 :: X)) => ledMark (l := l) (rs := r1) s
   have hmk0 := fun (l : Nat) (w : World) (X : List Assn) (s : Sat W0 w (ledO (some l) rs :: X)) => ledMark (l := l) (rs := rs) s
   rw [← hN1] at hmk
   rw [← hN0] at hmk0
   obtain ⟨Z, hZ⟩ : ∃ z, z = sinceR r1 N0 := ⟨_, rfl⟩
   rw [← hZ] at hsc hsl
   have hsm := fun (pa pb : Option Addr) (ca cb : Nat) (w : World) (X : List Assn) (s : Sat W0 w (runsA true pa Z :: runsA true pb Z :: X)) => sameRuns (ca := ca) (cb := cb) Z rfl rfl hsl s
   obtain ⟨zn, hzn⟩ : ∃ z, z = Z.length := ⟨_, rfl⟩
   rw [← hzn] at hsc hsm
   have hd1 : D + x.dn ≤ dsum (ys.take (i + 1)) := by omega
   have HE := Lib.hid (And.intro (And.intro hcd (And.intro hhh (And.intro hnb hr1))) (And.intro hal2 (And.intro hm1 (And.intro (okV_mono hd1 hn1) (And.intro hd1 (And.intro hti hli))))))
   have HF := Lib.hid (And.intro hof (And.intro hfo (And.intro hc1 (And.intro hc2 (And.intro hbw (And.intro hsc (And.intro hmk (And.intro hmk0 hsm))))))))
   have hlt' : (i : Int) < (k : Int) := by omega
   have hik : i + 1 ≤ 131072 := by have := HY.out.2.2; omega
   have zb : bb < wr.heap.size := World.block_lt_of_cell? wr _ (s1.cell (i := 0) (v := .int .u8 (x.kd : Int)) rfl)
   have hg1 : ((16777215 : Int) < (sk.dn : Int)) = False := by simp only [eq_iff_iff, iff_false]; omega
   have hg2 : ((16777215 : Int) < (sk.en : Int)) = False := by simp only [eq_iff_iff, iff_false]; omega
   obtain ⟨N2, hN2⟩ : ∃ z, z = N1 - N0 := ⟨_, rfl⟩
   have hg3 : IntKind.i64.wrap ((N1 : Int) - (N0 : Int)) = (N2 : Int) := by rw [IntKind.wrap_i64]; omega
   have hg4 : N2 ≤ bnd ∧ 2 ≤ N2 := by omega
   have hz1 : decide ((bnd : Int) < (N2 : Int)) = false := by rw [decide_eq_false_iff_not]; omega
   have hz2 : decide (bnd < N2) = false := by rw [decide_eq_false_iff_not]; omega
   have hz3 : (!decide (N2 ≤ bnd)) = false := by rw [decide_eq_true hg4.1]; rfl
   have hz4 : decide ((N2 : Int) < 2) = false := by rw [decide_eq_false_iff_not]; omega
   have hz5 : decide (N2 < 2) = false := by rw [decide_eq_false_iff_not]; omega
   have hz6 : (!decide (2 ≤ N2)) = false := by rw [decide_eq_true hg4.2]; rfl
   have HG := Lib.hid (And.intro hg3 (And.intro (And.intro hz1 (And.intro hz2 hz3)) (And.intro hz4 (And.intro hz5 hz6)))); clear hg3 hg4 hN2 hz1 hz2 hz3 hz4 hz5 hz6
   clear hal hal2 hm1 hn1 hn2 hn3 hn4 hd1 hti hli hof hfo hc1 hc2 hbw hsc hmk hmk0 hsm hzn hZ hN0 hN1 hb2 hcd hhh hnb hr1 hR hbn hbd hff hskk hse hsd hx1 hx2 hx3 hx4 hqa hqb hqc hqd hpa hpb hpc hpd hs2 hsk hxk hxa hdx hdxe hdn hdt hyd hfx hx hST hoS hoT htr hlr hsl s hD
   go_wp2_with (refine wpl_ldOp rfl (.tmp 42) rfl s1 rfl ?_)
   refine (HF.out.1 _ _ s1).mono ?_
   rintro e wa ⟨rfl, sa⟩
   clear s1 zb
   go_wp2_with (first | (refine wpl_alloc_agg rfl 38 rfl sa (skC sk0) (zero_sk _) ?_; intro wb gs sb _; clear sa) | (refine wpl_stSk rfl rfl (.tmp 10) (.tmp 44) rfl (s' := sk) sb rfl rfl ?_; intro wc sc; clear sb; obtain ⟨o0, o1, o2, o3, o4, o5, o6, zo⟩ := hSk _ _ _ _ _ sc) | (refine wpl_ldSk rfl (.tmp 10) rfl sc rfl ?_))
   clear o0 o1 o2 o3 o4 o5 o6 zo hg1 hg2
   refine (HF.out.2.1 _ _ sc).mono ?_
   rintro e wd ⟨pf, qf, rfl, sd'⟩
   have sd : Sat W0 wd (seg true gs 0 (skC sk) :: bytes true pf (List.replicate s2.dn b) :: bytes true qf (List.replicate s2.en b) :: seg false bb (bo + i * 7) x.cells :: bytes false x.dp x.data :: bytes false x.ep x.more :: opsR (some ⟨bb, bo, none⟩) ys :: ledO (some l) rs :: vlt sesI v (some l) S :: ledO (some m) rs :: vlt sesI u (some m) T :: L) := sd'.f
   clear sc sd'
   go_wp2_with (first | (refine wpl_alloc_agg rfl 27 rfl sd _ (zero_op _) ?_; intro we go se _; clear sd) | (refine wpl_stOp rfl rfl (.tmp 11) (.tmp 57) rfl (kd := s2.kind) (ag := s2.alg) se rfl rfl ?_; intro wf sf'; clear se))
   have sf : Sat W0 wf (seg false bb (bo + i * 7) x.cells :: bytes false x.dp x.data :: bytes false x.ep x.more :: opsR (some ⟨bb, bo, none⟩) ys :: seg true go 0 (filled s2 b pf qf).cells :: seg true gs 0 (skC sk) :: bytes true pf (List.replicate s2.dn b) :: bytes true qf (List.replicate s2.en b) :: ledO (some l) rs :: vlt sesI v (some l) S :: ledO (some m) rs :: vlt sesI u (some m) T :: L) := by
    have h : Sat W0 wf (seg true go 0 (filled s2 b pf qf).cells :: seg true gs 0 (skC sk) :: bytes true pf (List.replicate s2.dn b) :: bytes true qf (List.replicate s2.en b) :: seg false bb (bo + i * 7) x.cells :: bytes false x.dp x.data :: bytes false x.ep x.more :: opsR (some ⟨bb, bo, none⟩) ys :: ledO (some l) rs :: vlt sesI v (some l) S :: ledO (some m) rs :: vlt sesI u (some m) T :: L) := sf'
    exact h.f
   clear sf'
   refine (HF.out.2.2.2.2.2.2.2.1 l _ _ (sf.f : Sat W0 wf (ledO (some l) rs :: vlt sesI v (some l) S :: []))).mono ?_
   rintro e wf' ⟨rfl, rfl⟩
   have zb : bb < wf.heap.size := World.block_lt_of_cell? wf _ (sf.cell (i := 0) (v := .int .u8 (x.kd : Int)) rfl)
   go_wp2_with (refine wpl_ldOp rfl (.tmp 64) rfl sf rfl ?_)
   refine (HF.out.2.2.1 _ (seg true go 0 (filled s2 b pf qf).cells :: seg true gs 0 (skC sk) :: bytes true pf (List.replicate s2.dn b) :: bytes true qf (List.replicate s2.en b) :: ledO (some m) rs :: vlt sesI u (some m) T :: opsR (some ⟨bb, bo, none⟩) ys :: L) sf.f).mono ?_
   rintro e wg ⟨qa, ca, rfl, -, -, sg'⟩
   obtain ⟨ea, hea⟩ : ∃ z, z = R.2.1.same := ⟨_, rfl⟩
   rw [← HE.out.1.1, ← HE.out.1.2.1, ← HE.out.1.2.2.1, ← hea]
   rw [← HE.out.1.2.2.2] at sg'
   clear hea sf zb
   have sg : Sat W0 wg (seg true go 0 (filled s2 b pf qf).cells :: seg true gs 0 (skC sk) :: bytes true pf (List.replicate s2.dn b) :: bytes true qf (List.replicate s2.en b) :: ledO (some l) r1 :: vlt sesI v (some l) R.1 :: ledO (some m) rs :: vlt sesI u (some m) T :: opsR (some ⟨bb, bo, none⟩) ys :: L) := sg'.f
   clear sg'
   go_wp2_with (first | (refine wpl_alloc_agg rfl 44 rfl sg _ (zero_ans _) ?_; intro wh ga sh _; clear sg) | (refine wpl_stAns rfl rfl (.tmp 14) (.tmp 66) rfl sh rfl rfl ?_; intro wi si'; clear sh; have si : Sat W0 wi (seg true go 0 (filled s2 b pf qf).cells :: seg true ga 0 [.int .i64 cd, .int .i64 (hh : Int), .bool ea, .slice qa nb ca] :: seg true gs 0 (skC sk) :: bytes true pf (List.replicate s2.dn b) :: bytes true qf (List.replicate s2.en b) :: ledO (some l) r1 :: vlt sesI v (some l) R.1 :: ledO (some m) rs :: vlt sesI u (some m) T :: opsR (some ⟨bb, bo, none⟩) ys :: L) := si'.f; clear si') | (refine wpl_ldOp rfl (.tmp 11) rfl si rfl ?_))
   refine (HF.out.2.2.2.1 pf qf _ (seg true ga 0 [.int .i64 cd, .int .i64 (hh : Int), .bool ea, .slice qa nb ca] :: seg true gs 0 (skC sk) :: ledO (some l) r1 :: vlt sesI v (some l) R.1 :: opsR (some ⟨bb, bo, none⟩) ys :: L) si.f).mono ?_
   rintro e wj ⟨qb, cb, rfl, -, -, sj'⟩
   obtain ⟨ha1, ha2, ha3, ha4, ha5⟩ := HE.out.2.1 pf qf
   obtain ⟨eb, heb⟩ : ∃ z, z = (doV T (filled s2 b pf qf).c rs).2.1.same := ⟨_, rfl⟩
   obtain ⟨T', hT'⟩ : ∃ z, z = (doV T (filled s2 b pf qf).c rs).1 := ⟨_, rfl⟩
   rw [ha2, ha3, ha4, ← heb]
   rw [ha5, ← hT'] at sj'
   rw [← hT'] at ha1
   have HT := Lib.hid (And.intro ha1 hT'); clear ha1 ha2 ha3 ha4 ha5 heb si hT'
   have sj : Sat W0 wj (seg true ga 0 [.int .i64 cd, .int .i64 (hh : Int), .bool ea, .slice qa nb ca] :: seg true gs 0 (skC sk) :: ledO (some l) r1 :: vlt sesI v (some l) R.1 :: ledO (some m) r1 :: vlt sesI u (some m) T' :: opsR (some ⟨bb, bo, none⟩) ys :: L) := sj'.f
   clear sj'
   go_wp2_with (first | (refine wpl_alloc_agg rfl 44 rfl sj _ (zero_ans _) ?_; intro wk gb sk1 _; clear sj) | (refine wpl_stAns rfl rfl (.tmp 15) (.tmp 69) rfl sk1 rfl rfl ?_; intro wl sl'; clear sk1))
   have sl : Sat W0 wl (seg true ga 0 [.int .i64 cd, .int .i64 (hh : Int), .bool ea, .slice qa nb ca] :: seg true gb 0 [.int .i64 cd, .int .i64 (hh : Int), .bool eb, .slice qb nb cb] :: seg true gs 0 (skC sk) :: ledO (some l) r1 :: vlt sesI v (some l) R.1 :: ledO (some m) r1 :: vlt sesI u (some m) T' :: opsR (some ⟨bb, bo, none⟩) ys :: L) := sl'.f
   clear sl'
   have hCf := fun (w' : World) (X : List Assn) (h : Sat W0 w' (seg true ga 0 [.int .i64 cd, .int .i64 (hh : Int), .bool ea, .slice qa nb ca] :: seg true gb 0 [.int .i64 cd, .int .i64 (hh : Int), .bool eb, .slice qb nb cb] :: seg true gs 0 (skC sk) :: X)) => (by
    have h1 := h.pull 1
    have h2 := h.pull 2
    exact ⟨h.at 0 rfl, h.at 1 rfl, h.at 3 rfl, h.lt (by simp), Sat.at h1 0 rfl, Sat.at h1 1 rfl, Sat.at h1 3 rfl, Sat.lt h1 (by simp), Sat.rangeAt h2, Sat.lt h2 (by simp)⟩ : Kept w' ga gb gs cd hh nb qa qb ca cb sk)
   have HC := Lib.hid hCf; clear hCf
   have sd := sl.drew
   clear sl
   refine region_E (fun w' : World => w'.cell? ⟨ga, 0, none⟩ = some (.int .i64 cd) ∧ w'.cell? ⟨ga, 1, none⟩ = some (.int .i64 (hh : Int)) ∧ w'.cell? ⟨ga, 3, none⟩ = some (.slice qa nb ca) ∧ ga < w'.heap.size ∧ w'.cell? ⟨gb, 0, none⟩ = some (.int .i64 cd) ∧ w'.cell? ⟨gb, 1, none⟩ = some (.int .i64 (hh : Int)) ∧ w'.cell? ⟨gb, 3, none⟩ = some (.slice qb nb cb) ∧ gb < w'.heap.size ∧ w'.rangeAt gs 0 (skC sk) ∧ gs < w'.heap.size) [4, 6, 11, 13, 18, 21, 40] (by kernel_rfl) ?_
   have hHeld := HC.out _ _ sd
   iterate 30
    first | refine autoT' hHeld (h := ?_) | refine autoP' (h := ?_)
    try simp only [pA1, pA2, pA3, pA4]
   refine anyE_one' (i := 28) (h := fun K hK => ?_)
   go_simp
   refine (HF.out.2.2.2.2.2.1 l _ (seg true ga 0 [.int .i64 cd, .int .i64 (hh : Int), .bool ea, .slice qa nb ca] :: seg true gb 0 [.int .i64 cd, .int .i64 (hh : Int), .bool eb, .slice qb nb cb] :: seg true gs 0 (skC sk) :: vlt sesI v (some l) R.1 :: ledO (some m) r1 :: vlt sesI u (some m) T' :: opsR (some ⟨bb, bo, none⟩) ys :: L) sd.f).mono ?_
   rintro e wm ⟨q9, c9, rfl, sm'⟩
   have sm : Sat W0 wm (seg true ga 0 [.int .i64 cd, .int .i64 (hh : Int), .bool ea, .slice qa nb ca] :: seg true gb 0 [.int .i64 cd, .int .i64 (hh : Int), .bool eb, .slice qb nb cb] :: seg true gs 0 (skC sk) :: runsA true q9 Z :: ledO (some l) r1 :: vlt sesI v (some l) R.1 :: ledO (some m) r1 :: vlt sesI u (some m) T' :: opsR (some ⟨bb, bo, none⟩) ys :: L) := sm'.f
   clear sd sm'
   go_wp2_with fail
   have hKp := HC.out _ _ sm
   refine hK.out _ _ hKp ?_
   clear hK K hHeld
   have hHeld := hKp
   clear hKp
   try simp only [pA1, pA2, pA3, pA4]
   refine anyE_one' (i := 31) (h := fun K hK => ?_)
   go_simp
   refine (HF.out.2.2.2.2.2.1 m _ (seg true ga 0 [.int .i64 cd, .int .i64 (hh : Int), .bool ea, .slice qa nb ca] :: seg true gb 0 [.int .i64 cd, .int .i64 (hh : Int), .bool eb, .slice qb nb cb] :: seg true gs 0 (skC sk) :: runsA true q9 Z :: ledO (some l) r1 :: vlt sesI v (some l) R.1 :: vlt sesI u (some m) T' :: opsR (some ⟨bb, bo, none⟩) ys :: L) sm.f).mono ?_
   rintro e wn ⟨q8, c8, rfl, sn'⟩
   have sn : Sat W0 wn (seg true ga 0 [.int .i64 cd, .int .i64 (hh : Int), .bool ea, .slice qa nb ca] :: seg true gb 0 [.int .i64 cd, .int .i64 (hh : Int), .bool eb, .slice qb nb cb] :: seg true gs 0 (skC sk) :: runsA true q9 Z :: runsA true q8 Z :: ledO (some l) r1 :: vlt sesI v (some l) R.1 :: ledO (some m) r1 :: vlt sesI u (some m) T' :: opsR (some ⟨bb, bo, none⟩) ys :: L) := sn'.f
   clear sm sn'
   go_wp2_with fail
   have hKp := HC.out _ _ sn
   refine hK.out _ _ hKp ?_
   clear hK K hHeld
   have hHeld := hKp
   clear hKp
   try simp only [pA1, pA2, pA3, pA4]
   refine anyE_one' (i := 32) (h := fun K hK => ?_)
   go_simp
   refine (HF.out.2.2.2.2.2.2.2.2 q9 q8 c9 c8 _ (seg true ga 0 [.int .i64 cd, .int .i64 (hh : Int), .bool ea, .slice qa nb ca] :: seg true gb 0 [.int .i64 cd, .int .i64 (hh : Int), .bool eb, .slice qb nb cb] :: seg true gs 0 (skC sk) :: ledO (some l) r1 :: vlt sesI v (some l) R.1 :: ledO (some m) r1 :: vlt sesI u (some m) T' :: opsR (some ⟨bb, bo, none⟩) ys :: L) sn.f).mono ?_
   rintro e wo ⟨rfl, so'⟩
   have so : Sat W0 wo (seg true ga 0 [.int .i64 cd, .int .i64 (hh : Int), .bool ea, .slice qa nb ca] :: seg true gb 0 [.int .i64 cd, .int .i64 (hh : Int), .bool eb, .slice qb nb cb] :: seg true gs 0 (skC sk) :: ledO (some l) r1 :: vlt sesI v (some l) R.1 :: ledO (some m) r1 :: vlt sesI u (some m) T' :: opsR (some ⟨bb, bo, none⟩) ys :: L) := so'.f
   clear sn so'
   go_wp2_with fail
   have hKp := HC.out _ _ so
   refine hK.out _ _ hKp ?_
   clear hK K hHeld
   have hHeld := hKp
   clear hKp
   try simp only [pA1, pA2, pA3, pA4]
   iterate 4
    first | refine autoT' hHeld (h := ?_) | refine autoP' (h := ?_)
    try simp only [pA1, pA2, pA3, pA4]
   refine anyE_pure (i := 38) (x := ?_) (v := ?_) ?_ (by kernel_rfl) (by kernel_rfl) (by kernel_rfl) ?_ ?_ ?_
   rotate_left 2
   ·(simp only [gE1, gE2, gE3]; rfl)
   ·exact fun _ _ _ h => h
   ·refine Or.inl ⟨by rfl, fun w hSw => ?_⟩
    (try dsimp only at hSw)
    go_simp
    try (with_reducible rfl)
   try simp only [pA1, pA2, pA3, pA4]
   refine anyE_take (i := 40) (x := ?_) (v := ?_) ?_ (by kernel_rfl) (by kernel_rfl) (by kernel_rfl) (by kernel_rfl) ?_ ?_ hHeld ?_
   rotate_left 2
   ·(simp only [gE1, gE2, gE3]; rfl)
   ·exact fun _ _ _ h => h
   ·refine yieldsIf_load_mid ?_ 38 (.tmp 10) ?_ gs 0 ?_ (skC sk) _ ?_ Tryz.underlying38 rfl Tryz.size_sk
    ·rfl
    ·rfl
    ·rfl
    ·intro w hSw
     exact hSw.2.2.2.2.2.2.2.2.1
   try simp only [pA1, pA2, pA3, pA4]
   refine anyE_one' (i := 37) (h := fun K hK => ?_)
   go_simp
   refine (HF.out.2.2.2.2.2.2.1 l _ _ (so.f : Sat W0 wo (ledO (some l) r1 :: vlt sesI v (some l) R.1 :: []))).mono ?_
   rintro e wo' ⟨rfl, rfl⟩
   go_wp2_with fail
   have hKp := HC.out _ _ so
   refine hK.out _ _ hKp ?_
   clear hK K hHeld
   have hHeld := hKp
   clear hKp
   try simp only [pA1, pA2, pA3, pA4]
   iterate 1
    first | refine autoT' hHeld (h := ?_) | refine autoP' (h := ?_)
    try simp only [pA1, pA2, pA3, pA4]
   rw [HG.out.1]
   refine anyE_one' (i := 41) (h := fun K hK => ?_)
   go_simp
   refine (HF.out.2.2.2.2.1 _ _ so).mono ?_
   rintro e wp ⟨rfl, sp⟩
   clear so
   go_wp2_with fail
   have hKp := HC.out _ _ sp
   refine hK.out _ _ hKp ?_
   clear hK K hHeld
   have hHeld := hKp
   clear hKp
   try simp only [pA1, pA2, pA3, pA4]
   iterate 1
    first | refine autoT' hHeld (h := ?_) | refine autoP' (h := ?_)
    try simp only [pA1, pA2, pA3, pA4]
   first | rw [HG.out.2.1.1] | rw [HG.out.2.1.2.1] | rw [HG.out.2.1.2.2]
   iterate 3
    first | refine autoT' hHeld (h := ?_) | refine autoP' (h := ?_)
    try simp only [pA1, pA2, pA3, pA4]
   refine anyE_pure (i := 47) (x := ?_) (v := ?_) ?_ (by kernel_rfl) (by kernel_rfl) (by kernel_rfl) ?_ ?_ ?_
   rotate_left 2
   ·(simp only [gE1, gE2, gE3]; rfl)
   ·exact fun _ _ _ h => h
   ·refine Or.inl ⟨by rfl, fun w hSw => ?_⟩
    (try dsimp only at hSw)
    go_simp
    try (with_reducible rfl)
   try simp only [pA1, pA2, pA3, pA4]
   refine anyE_one' (i := 46) (h := fun K hK => ?_)
   go_simp
   refine (HF.out.2.2.2.2.2.2.1 l _ _ (sp.f : Sat W0 wp (ledO (some l) r1 :: vlt sesI v (some l) R.1 :: []))).mono ?_
   rintro e wp' ⟨rfl, rfl⟩
   go_wp2_with fail
   have hKp := HC.out _ _ sp
   refine hK.out _ _ hKp ?_
   clear hK K hHeld
   have hHeld := hKp
   clear hKp
   try simp only [pA1, pA2, pA3, pA4]
   iterate 1
    first | refine autoT' hHeld (h := ?_) | refine autoP' (h := ?_)
    try simp only [pA1, pA2, pA3, pA4]
   rw [HG.out.1]
   iterate 1
    first | refine autoT' hHeld (h := ?_) | refine autoP' (h := ?_)
    try simp only [pA1, pA2, pA3, pA4]
   first | rw [HG.out.2.2.1] | rw [HG.out.2.2.2.1] | rw [HG.out.2.2.2.2]
   iterate 1
    first | refine autoT' hHeld (h := ?_) | refine autoP' (h := ?_)
    try simp only [pA1, pA2, pA3, pA4]
   refine anyE_done (by kernel_rfl) ?_ _
   clear hHeld hb0 hb1
   have HS := Lib.hid sp; clear sp
   go_wp2_with fail
   go_roundw
   case measure => simp [intOf]; omega
   case rel =>
    have h := HS.out
    refine ⟨i + 1, R.1, T', r1, by omega, by go_num, HT.out.1, HE.out.2.2.2.1, ?_, HE.out.2.2.2.2.2.1, HE.out.2.2.2.2.2.2, h.f⟩
    rw [HT.out.2]
    exact okV_mono HE.out.2.2.2.2.1 (HE.out.2.2.1 pf qf)
  ·obtain rfl : i = k := by omega
   have hhl := hList_alike hST
   have hl1 : rs.length ≤ 1000000000 := by omega
   obtain ⟨hl, hhl2⟩ : ∃ z, z = hList T := ⟨_, rfl⟩
   have hv1 := fun (w : World) (X : List Assn) (s : Sat W0 w (vlt sesI v (some l) S :: X)) => heldVW s
   have hv2 := fun (w : World) (X : List Assn) (s : Sat W0 w (vlt sesI u (some m) T :: X)) => heldVW s
   rw [hhl, ← hhl2] at hv1
   rw [← hhl2] at hv2
   have hlen : hl.length ≤ 1000000 := by rw [hhl2]; exact Nat.le_trans (idxH_le _ 64) (by decide)
   obtain ⟨rn, hrn⟩ : ∃ z, z = rs.length := ⟨_, rfl⟩
   have hr1 := fun (l : Nat) (w : World) (X : List Assn) (s : Sat W0 w (ledO (some l) rs :: X)) => ledRunsF (l := l) (rs := rs) hl1 s
   have hsm := fun (pa pb : Option Addr) (ca cb : Nat) (w : World) (X : List Assn) (s : Sat W0 w (runsA true pa rs :: runsA true pb rs :: X)) => sameRuns (ca := ca) (cb := cb) rs rfl rfl hl1 s
   obtain ⟨hm, hhm⟩ : ∃ z, z = hl.length := ⟨_, rfl⟩
   have hsi := fun (pa pb : Option Addr) (ca cb : Nat) (w : World) (X : List Assn) (s : Sat W0 w (row pa ca 1 hm (intsH hl) :: row pb cb 1 hm (intsH hl) :: X)) => sameIntsW (ca := ca) (cb := cb) hl hhm.symm (by rw [hhm]; exact hlen) s
   rw [← hrn] at hr1 hsm
   rw [← hhm] at hv1 hv2
   have HE := Lib.hid (And.intro hv1 (And.intro hv2 (And.intro hr1 (And.intro hsm hsi)))); clear hv1 hv2 hr1 hsm hsi hrn hhm hlen hhl hhl2 hl1 hST hoS hoT htr hlr
   go_wp2_with fail
   refine (HE.out.2.2.1 l _ (vlt sesI v (some l) S :: ledO (some m) rs :: vlt sesI u (some m) T :: opsR q ys :: L) s.f).mono ?_
   rintro e wa ⟨qa, ca, rfl, sa⟩
   clear s
   go_wp2_with fail
   refine (HE.out.2.2.1 m _ (runsA true qa rs :: ledO (some l) rs :: vlt sesI v (some l) S :: vlt sesI u (some m) T :: opsR q ys :: L) sa.f).mono ?_
   rintro e wb ⟨qb, cb, rfl, sb⟩
   clear sa
   go_wp2_with fail
   refine (HE.out.2.2.2.1 qa qb ca cb _ (ledO (some l) rs :: vlt sesI v (some l) S :: ledO (some m) rs :: vlt sesI u (some m) T :: L) sb.f).mono ?_
   rintro e wc ⟨rfl, sc⟩
   clear sb
   go_wp2_with fail
   refine (HE.out.1 _ (vlt sesI u (some m) T :: L) sc.f).mono ?_
   rintro e wd ⟨qc, cc, rfl, sd⟩
   clear sc
   go_wp2_with fail
   refine (HE.out.2.1 _ (row qc cc 1 hm (intsH hl) :: L) sd.f).mono ?_
   rintro e we ⟨qd, cd, rfl, se⟩
   clear sd
   go_wp2_with fail
   refine (HE.out.2.2.2.2 qc qd cc cd _ L se.f).mono ?_
   rintro e wf ⟨rfl, sf⟩
   have HS := Lib.hid sf; clear se sf
   go_wp2
   go_ret
   exact ⟨rfl, HS.out⟩
end Go.Proofs.YtbefjaodpbgpcaaGreat
