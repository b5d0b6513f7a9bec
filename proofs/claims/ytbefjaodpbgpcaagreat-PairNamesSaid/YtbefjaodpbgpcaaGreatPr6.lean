
/- Where two scripts part: in whole; under the conditions that each names. -/
import Derived.Test.YtbefjaodpbgpcaaGreatPr5
namespace Go.Proofs.YtbefjaodpbgpcaaGreat
open Go.RowKit Go.Sep Go.Bv
set_option linter.unusedVariables false
set_option linter.unusedSimpArgs false
attribute [local go_sem] Oper.semAt_some
/-- The first place at which two lists part, or -1. -/
def partAt {α : Type} [DecidableEq α] : Nat → List α → List α → Int
 | _, [], [] => -1
 | k, [], _ :: _ => k
 | k, _ :: _, [] => k
 | k, x :: xs, y :: ys => if x = y then partAt (k + 1) xs ys else k
theorem partAt_same {α : Type} [DecidableEq α] : ∀ (l : List α) (k : Nat), partAt k l l = -1
 | [], _ => rfl
 | x :: l, k => by rw [partAt, if_pos rfl]; exact partAt_same l _
theorem partAt_ne {α : Type} [DecidableEq α] : ∀ (i k : Nat) (xs ys : List α), xs.take i = ys.take i → xs[i]? ≠ ys[i]? → partAt k xs ys = ((k + i : Nat) : Int)
 | 0, k, [], [], _, h => absurd rfl h
 | 0, k, [], _ :: _, _, _ => rfl
 | 0, k, _ :: _, [], _, _ => rfl
 | 0, k, x :: xs, y :: ys, _, h => by
  rw [partAt, if_neg (fun e => h (by rw [e]; rfl))]; rfl
 | i + 1, k, [], [], _, h => absurd rfl h
 | i + 1, k, [], _ :: _, h, _ => by simp at h
 | i + 1, k, _ :: _, [], h, _ => by simp at h
 | i + 1, k, x :: xs, y :: ys, h, h2 => by
  simp only [List.take_succ_cons, List.cons.injEq] at h
  rw [partAt, if_pos h.1, partAt_ne i (k + 1) xs ys h.2 (by simpa using h2)]
  omega
theorem part_end {α : Type} [DecidableEq α] (xs ys : List α) (hn : xs.length ≤ ys.length) (h : xs = ys.take xs.length) : partAt 0 xs ys = if xs.length < ys.length then (xs.length : Int) else -1 := by
 split
 ·rename_i hlt
  rw [partAt_ne xs.length 0 xs ys (by rw [List.take_length]; exact h) (by
   rw [List.getElem?_eq_none (Nat.le_refl _), List.getElem?_eq_getElem hlt]; simp), Nat.zero_add]
 ·rename_i hlt
  rw [List.take_of_length_le (by omega)] at h
  rw [h]
  exact partAt_same _ _
def spG (b6 b7 b8 i m : Nat) (q : SQ) (l lx : List (Int × List Run3)) (b4 b5 : Nat) (o1 o2 : Assn) : Assn := fun h => (i ≤ m ∧ lx.take i = l.take i) ∧ big (o1 :: o2 :: spL b6 b7 b8 i m q l b4 b5 []) h
theorem sgOpen {W0 w : World} {L : List Assn} {b6 b7 b8 i m : Nat} {q : SQ} {l lx : List (Int × List Run3)} {b4 b5 : Nat} {o1 o2 : Assn} (h : Sat W0 w (spG b6 b7 b8 i m q l lx b4 b5 o1 o2 :: L)) : (i ≤ m ∧ lx.take i = l.take i) ∧ Sat W0 w (o1 :: o2 :: spL b6 b7 b8 i m q l b4 b5 L) :=
 ⟨h.fact fun x hx => hx.1, (h.imp fun x hx => hx.2).bigOpen⟩
theorem sgShut {W0 w : World} {L : List Assn} {b6 b7 b8 i m : Nat} {q : SQ} {l lx : List (Int × List Run3)} {b4 b5 : Nat} {o1 o2 : Assn} (hp : i ≤ m ∧ lx.take i = l.take i) (h : Sat W0 w (o1 :: o2 :: spL b6 b7 b8 i m q l b4 b5 L)) : Sat W0 w (spG b6 b7 b8 i m q l lx b4 b5 o1 o2 :: L) :=
 (Sat.bigShut (K := o1 :: o2 :: spL b6 b7 b8 i m q l b4 b5 []) h).imp fun x hx => ⟨hp, hx⟩
def spE (i : Nat) (r : Int) (b4 b5 : Nat) (o1 o2 : Assn) : Assn := fun h => r = (i : Int) ∧ big [o1, o2, seg true b4 0 [.int .i64 (i : Int)], seg true b5 0 [.int .i64 0]] h
theorem seOpen {W0 w : World} {L : List Assn} {i : Nat} {r : Int} {b4 b5 : Nat} {o1 o2 : Assn} (h : Sat W0 w (spE i r b4 b5 o1 o2 :: L)) : r = (i : Int) ∧ Sat W0 w (o1 :: o2 :: seg true b4 0 [.int .i64 (i : Int)] :: seg true b5 0 [.int .i64 0] :: L) :=
 ⟨h.fact fun x hx => hx.1, (h.imp fun x hx => hx.2).bigOpen⟩
theorem seShut {W0 w : World} {L : List Assn} {i : Nat} {r : Int} {b4 b5 : Nat} {o1 o2 : Assn} (hr : r = (i : Int)) (h : Sat W0 w (o1 :: o2 :: seg true b4 0 [.int .i64 (i : Int)] :: seg true b5 0 [.int .i64 0] :: L)) : Sat W0 w (spE i r b4 b5 o1 o2 :: L) :=
 (Sat.bigShut (K := [o1, o2, seg true b4 0 [.int .i64 (i : Int)], seg true b5 0 [.int .i64 0]]) h).imp fun x hx => ⟨hr, hx⟩
section
variable {σ : Type}
set_option maxRecDepth 100000 in
set_option maxHeartbeats 8000000 in
theorem splitW {W0 w : World} {L : List Assn} {I : SesI σ} {D : Doer σ} {inv : Nat → Sts σ → List Run3 → Prop} {good : OpC → Prop} {N : Nat} (H : Does I D inv good N) {n m c c2 : Nat} {p p2 : Option Addr} (xs ys : List OpM) (hx : xs.length = n) (hy : ys.length = m) (hN : n ≤ N) (hNm : m ≤ N) (hN2 : N ≤ 1000000) (hB : n ≤ 4096) (hBm : m ≤ 4096) (hg : ∀ x ∈ xs, good x.c) (hg2 : ∀ x ∈ ys, good x.c)
  (hs : Sat W0 w (opsR p xs :: opsR p2 ys :: L)) :
  Calls Tryz.prog 6 #[.slice p n c, .slice p2 m c2] w fun e w' => e = .returned (.tuple #[.int .i64 (partAt 0 (seenL D (xs.map OpM.c) (List.replicate 64 none) []) (seenL D (ys.map OpM.c) (List.replicate 64 none) [])), .int .i64 0]) ∧ Sat W0 w' (opsR p xs :: opsR p2 ys :: L) := by
 obtain ⟨b, hb⟩ : ∃ b, b = w.heap.size := ⟨_, rfl⟩
 have s1 := allocAt' (allocAt' hs #[.int .i64 0] 3 (q := b) hb) #[.int .i64 0] 28 (q := b + 1) (by simp [hb])
 have s2 : Sat W0 _ (opsR p2 ys :: opsR p xs :: seg true b 0 [.int .i64 0] :: seg true (b + 1) 0 [.int .i64 0] :: L) := s1.f
 obtain ⟨lx, hlx⟩ : ∃ l, l = seenL D (xs.map OpM.c) (List.replicate 64 none) [] := ⟨_, rfl⟩
 obtain ⟨l, hl⟩ : ∃ l, l = seenL D (ys.map OpM.c) (List.replicate 64 none) [] := ⟨_, rfl⟩
 have hll : l.length = m := by rw [hl, seenL_len, List.length_map, hy]
 have hlxl : lx.length = n := by rw [hlx, seenL_len, List.length_map, hx]
 rw [← hlx, ← hl]
 obtain ⟨R, hR⟩ : ∃ R, R = partAt 0 lx l := ⟨_, rfl⟩
 rw [← hR]
 have g1 : ¬ (4096 : Int) < (n : Int) := by omega
 have g2 : ¬ (4096 : Int) < (m : Int) := by omega
 have HL := Lib.hid (And.intro hlxl (And.intro hlx (And.intro H (And.intro hx (And.intro hN (And.intro hN2 (And.intro hg (And.intro hl.symm (And.intro hy (And.intro hg2 (And.intro hB (And.intro hll (And.intro hNm (And.intro hBm hR)))))))))))))); clear hll hl H hx hN hN2 hg hlx hlxl hy hg2 hB hNm hBm hR
 have HS2 := Lib.hid s2; clear s1 s2 hs
 refine (callsIn_wide (n := 4)).1 ?_
 refine callsIn_of_wp_marks Tryz.func6 rfl trivial ?_ rfl
 simp only [Tryz.ntmps6, List.size_toArray, List.length_cons, List.length_nil, Nat.reduceAdd, Nat.reduceSub, Array.replicate_succ, Array.replicate_zero, List.push_toArray, List.append_toArray, List.nil_append, List.cons_append]
 gi_wp2_with fail
 rw [← hb]
 clear hb
 refine ⟨trivial, callsIn_wide.2 ?_⟩
 refine (seenW HL.out.2.2.1 ys HL.out.2.2.2.2.2.2.2.2.1 HL.out.2.2.2.2.2.2.2.2.2.2.2.2.1 HL.out.2.2.2.2.2.1 HL.out.2.2.2.2.2.2.2.2.2.1 HS2.out).mono ?_
 rintro e w1 ⟨⟨p1, c1, p3, c3, ts⟩, rfl, hq1, hq2, s3⟩
 rw [HL.out.2.2.2.2.2.2.2.1] at s3 hq2
 simp only at hq1 hq2
 have s4 : Sat W0 w1 (opsR p xs :: row p1 c1 1 m (codesV l) :: row p3 c3 1 m (ts.map runsV) :: ownRuns ts :: seg true b 0 [.int .i64 0] :: seg true (b + 1) 0 [.int .i64 0] :: opsR p2 ys :: L) := s3.f
 have HQ := Lib.hid (And.intro hq1 hq2); clear hq1 hq2 s3 HS2
 obtain ⟨b6, hb6⟩ : ∃ b6, b6 = w1.heap.size := ⟨_, rfl⟩
 have s5 := allocAt' (allocAt' (allocAt' s4 #[.slice p1 m c1] 58 (q := b6) hb6) #[.slice p3 m c3] 59 (q := b6 + 1) (by simp [hb6])) #[.int .i64 0] 3 (q := b6 + 1 + 1) (by simp [hb6])
 have HS8 := Lib.hid s5; clear s4 s5
 gi_wp2_with fail
 rw [← hb6]
 clear hb6
 refine ⟨trivial, callsIn_wide.2 ?_⟩
 refine (seenF HS8.out).mono ?_
 rintro e w2 ⟨g, rfl, s6⟩
 clear HS8
 gi_wp2_with fail
 refine wpIn_rangeSat (F := Fence.wide) (n := 4) rfl (by decide) (gf := 44) (lb := #[.pointer (some ⟨g, 0, none⟩)]) rfl trivial (enters_of Tryz.func44 (by kernel_rfl) rfl) s6 ?_
 intro fn lr D' rd W1 hfn hlr hD hrd s7
 clear hlr hD s6
 have s8 : Sat W0 W1 (seg true g 0 [.slice p n c] :: opsR p xs :: spG b6 (b6 + 1) (b6 + 1 + 1) 0 m (p1, c1, p3, c3, ts) l lx b (b + 1) (obj lr (rd .ready none)) (obj D' (.deferred (some []))) :: opsR p2 ys :: L) := by
  have h2 : Sat W0 W1 (obj lr (rd .ready none) :: obj D' (.deferred (some [])) :: seg true (b6 + 1 + 1) 0 [.int .i64 0] :: seg true b6 0 [.slice p1 m c1] :: seg true (b6 + 1) 0 [.slice p3 m c3] :: row p1 c1 1 m (codesV l) :: row p3 c3 1 m (ts.map runsV) :: ownRuns ts :: seg true b 0 [.int .i64 0] :: seg true (b + 1) 0 [.int .i64 0] :: seg true g 0 [.slice p n c] :: opsR p xs :: opsR p2 ys :: L) := s7.f
  have h3 : Sat W0 W1 (spG b6 (b6 + 1) (b6 + 1 + 1) 0 m (p1, c1, p3, c3, ts) l lx b (b + 1) (obj lr (rd .ready none)) (obj D' (.deferred (some []))) :: seg true g 0 [.slice p n c] :: opsR p xs :: opsR p2 ys :: L) := sgShut ⟨Nat.zero_le _, rfl⟩ h2
  exact h3.f
 clear s7
 refine (seenIter HL.out.2.2.1 xs HL.out.2.2.2.1 HL.out.2.2.2.2.1 HL.out.2.2.2.2.2.1 HL.out.2.2.2.2.2.2.1 (fun i => spG b6 (b6 + 1) (b6 + 1 + 1) i m (p1, c1, p3, c3, ts) l lx b (b + 1) (obj lr (rd .ready none)) (obj D' (.deferred (some [])))) (fun i => spE i R b (b + 1) (obj lr (rd .done (some .ret))) (obj D' (.deferred (some [])))) lr 2 ?_ s8).mono ?_
 ·clear s8
  intro i W2 ⟨tp, tc, tr⟩ code X hi hget s5
  have hsm := seenL_small HL.out.2.2.1 (by intro o ho; obtain ⟨x, hx, rfl⟩ := List.mem_map.1 ho; exact HL.out.2.2.2.2.2.2.1 x hx) (by rw [List.length_map, HL.out.2.2.2.1]; exact HL.out.2.2.2.2.1) hget
  rw [← HL.out.2.1] at hget
  obtain ⟨⟨him, htake⟩, s6⟩ := sgOpen (show Sat W0 W2 (spG b6 (b6 + 1) (b6 + 1 + 1) i m (p1, c1, p3, c3, ts) l lx b (b + 1) (obj lr (rd .ready none)) (obj D' (.deferred (some []))) :: runsA true tp tr :: X) from s5.pull 1)
  obtain ⟨rn, hrn⟩ : ∃ k, k = tr.length := ⟨_, rfl⟩
  have e0 : runsV (tp, tc, tr) = .slice tp rn tc := by rw [hrn]; rfl
  obtain ⟨cv, hcv⟩ : ∃ lv, lv = codesV l := ⟨_, rfl⟩
  obtain ⟨rv, hrv⟩ : ∃ rv, rv = ts.map runsV := ⟨_, rfl⟩
  have s7 : Sat W0 W2 (obj lr (rd .ready none) :: seg true (b6 + 1 + 1) 0 [.int .i64 (i : Int)] :: seg true b6 0 [.slice p1 m c1] :: seg true (b6 + 1) 0 [.slice p3 m c3] :: row p1 c1 1 m cv :: row p3 c3 1 m rv :: ownRuns ts :: seg true b 0 [.int .i64 0] :: seg true (b + 1) 0 [.int .i64 0] :: runsA true tp tr :: obj D' (.deferred (some [])) :: X) := by
   rw [hcv, hrv]
   exact s6.f
  have hbig : n ≤ 4096 := HL.out.2.2.2.2.2.2.2.2.2.2.1
  -- where the lists part here
  have hpart : lx[i]? ≠ l[i]? → R = (i : Int) := fun hne => by
   have := partAt_ne i 0 lx l htake hne
   rw [HL.out.2.2.2.2.2.2.2.2.2.2.2.2.2.2, this, Nat.zero_add]
  have hnext : lx[i]? = l[i]? → i < m → i + 1 ≤ m ∧ lx.take (i + 1) = l.take (i + 1) := fun he hi' => ⟨hi', by
   rw [List.take_add_one, List.take_add_one, htake, he]⟩
  have HV := Lib.hid (And.intro hcv (And.intro hrv (And.intro hpart (And.intro hnext (And.intro hget (And.intro hrn e0)))))); clear s5 s6 hcv hrv hpart hnext
  have hrr : runsV (tp, tc, tr) = .slice tp rn tc := e0
  subst hrd
  refine yieldSat (L := seg true (b6 + 1 + 1) 0 [.int .i64 (i : Int)] :: seg true b6 0 [.slice p1 m c1] :: seg true (b6 + 1) 0 [.slice p3 m c3] :: row p1 c1 1 m cv :: row p3 c3 1 m rv :: ownRuns ts :: seg true b 0 [.int .i64 0] :: seg true (b + 1) 0 [.int .i64 0] :: runsA true tp tr :: obj D' (.deferred (some [])) :: X) rfl hfn s7 ?a1 ?assign ?body
  case assign =>
   intro K hK
   gi_wp2
   exact hK
  case body =>
   clear s7
   intro W3 s8
   have e8 : W3.cell? ⟨b6 + 1 + 1, 0, none⟩ = some (.int .i64 (i : Int)) := Sat.at (s8.pull 1) 0 rfl
   have f8 : W3.frozen? ⟨b6 + 1 + 1, 0, none⟩ = false := Sat.fr (s8.pull 1) 0 (by simp)
   have z8 : b6 + 1 + 1 < W3.heap.size := Sat.lt (s8.pull 1) (by simp)
   have e6 : W3.cell? ⟨b6, 0, none⟩ = some (.slice p1 m c1) := Sat.at (s8.pull 2) 0 rfl
   have z6 : b6 < W3.heap.size := by omega
   have e7 : W3.cell? ⟨b6 + 1, 0, none⟩ = some (.slice p3 m c3) := Sat.at (s8.pull 3) 0 rfl
   have z7 : b6 + 1 < W3.heap.size := by omega
   have hin : (i : Int) < (n : Int) := by omega
   -- what every early leaving does
   have hleave : ∀ (w4 : World) (Y : List Assn), Sat W0 w4 (seg true b 0 [.int .i64 0] :: seg true (b + 1) 0 [.int .i64 0] :: Y) → w4.cell? ⟨b, 0, none⟩ = some (.int .i64 0) ∧ w4.frozen? ⟨b, 0, none⟩ = false ∧ b < w4.heap.size ∧ w4.cell? ⟨b + 1, 0, none⟩ = some (.int .i64 0) ∧ w4.frozen? ⟨b + 1, 0, none⟩ = false ∧ b + 1 < w4.heap.size ∧
     Sat W0 ((w4.setCell ⟨b, 0, none⟩ (.int .i64 (i : Int))).setCell ⟨b + 1, 0, none⟩ (.int .i64 0)) (seg true (b + 1) 0 [.int .i64 0] :: seg true b 0 [.int .i64 (i : Int)] :: Y) := fun w4 Y h => by
    have s9a : Sat W0 (w4.setCell ⟨b, 0, none⟩ (.int .i64 (i : Int))) (seg true b 0 [.int .i64 (i : Int)] :: _) := h.store (i := 0) (by simp) (.int .i64 (i : Int)) (q := 0) rfl
    have s9b : Sat W0 ((w4.setCell ⟨b, 0, none⟩ (.int .i64 (i : Int))).setCell ⟨b + 1, 0, none⟩ (.int .i64 0)) (seg true (b + 1) 0 [.int .i64 0] :: _) := s9a.swap.store (i := 0) (by simp) (.int .i64 0) (q := 0) rfl
    exact ⟨h.at 0 rfl, h.fr 0 (by simp), h.lt (by simp), Sat.at (h.pull 1) 0 rfl, Sat.fr (h.pull 1) 0 (by simp), Sat.lt (h.pull 1) (by simp), s9b⟩
   have HLV := Lib.hid hleave; clear hleave
   by_cases hm : i < m
   rotate_left
   ·obtain rfl : i = m := by omega
    obtain ⟨c4, e4, z4, c5, e5, z5, s9⟩ := HLV.out W3 _ (s8.f : Sat W0 W3 (seg true b 0 [.int .i64 0] :: seg true (b + 1) 0 [.int .i64 0] :: obj lr _ :: obj D' (.deferred (some [])) :: X))
    have HS := Lib.hid s9; clear s8 s9
    gi_wp2_with fail
    refine ⟨trivial, ?_⟩
    gi_wp2_with fail
    refine ⟨seg true (b + 1) 0 [.int .i64 0] :: seg true b 0 [.int .i64 (i : Int)] :: obj D' (.deferred (some [])) :: X, ?_, ?_⟩
    ·have s9 := HS.out
     exact s9.f
    intro W4 s15
    have hR : R = (i : Int) := HV.out.2.2.1 (by
     rw [HV.out.2.2.2.2.1, List.getElem?_eq_none (by rw [HL.out.2.2.2.2.2.2.2.2.2.2.2.1]; exact Nat.le_refl _)]
     simp)
    exact seShut (by first | exact hR | rfl) s15.f
   obtain ⟨⟨code2, tr2⟩, hy2⟩ : ∃ y, l[i]? = some y := ⟨l[i]'(by rw [HL.out.2.2.2.2.2.2.2.2.2.2.2.1]; exact hm), List.getElem?_eq_getElem _⟩
   obtain ⟨t, ht⟩ : ∃ t, ts[i]? = some t := ⟨ts[i]'(by rw [HQ.out.1]; exact hm), List.getElem?_eq_getElem _⟩
   obtain ⟨tq, tcq, tr3⟩ := t
   have htr : tr3 = tr2 := by
    have h1 := congrArg (fun (z : List (List Run3)) => z[i]?) HQ.out.2
    simp only [List.getElem?_map, ht, hy2, Option.map_some, Option.some.injEq] at h1
    exact h1
   subst htr
   obtain ⟨rn3, hrn3⟩ : ∃ k, k = tr3.length := ⟨_, rfl⟩
   have hc1 : cv[i]? = some (.int .i64 code2) := by rw [HV.out.1]; unfold codesV; rw [List.getElem?_map, hy2]; rfl
   have hc2 : rv[i]? = some (.slice tq rn3 tcq) := by rw [HV.out.2.1, List.getElem?_map, ht, hrn3]; rfl
   obtain ⟨g1, rfl, x1, y1⟩ := rowPeek (s8.pull 4) hc1
   obtain ⟨g3, rfl, x3, y3⟩ := rowPeek (s8.pull 5) hc2
   have hni : ((i : Int) == (m : Int)) = false := by rw [beq_eq_false_iff_ne]; omega
   have him' : (i : Int) < (m : Int) := by omega
   by_cases hcode : code = code2
   rotate_left
   ·have hne : (code != code2) = true := by rw [bne_iff_ne]; exact hcode
    have hR : R = (i : Int) := HV.out.2.2.1 (by
     rw [HV.out.2.2.2.2.1, hy2]
     intro h
     simp only [Option.some.injEq, Prod.mk.injEq] at h
     exact hcode h.1)
    obtain ⟨c4, e4, z4, c5, e5, z5, s9⟩ := HLV.out W3 _ (s8.f : Sat W0 W3 (seg true b 0 [.int .i64 0] :: seg true (b + 1) 0 [.int .i64 0] :: obj lr _ :: obj D' (.deferred (some [])) :: X))
    have HS := Lib.hid s9; clear s8 s9
    gi_wp2_with fail
    refine ⟨trivial, ?_⟩
    gi_wp2_with fail
    refine ⟨seg true (b + 1) 0 [.int .i64 0] :: seg true b 0 [.int .i64 (i : Int)] :: obj D' (.deferred (some [])) :: X, ?_, ?_⟩
    ·have s9 := HS.out
     exact s9.f
    intro W4 s15
    exact seShut (by first | exact hR | rfl) s15.f
   subst hcode
   have HB := Lib.hid (And.intro hy2 (And.intro ht hrn3)); clear hy2 ht hrn3
   have HS := Lib.hid s8; clear s8
   gi_wp2_with fail
   refine ⟨trivial, CallsIn.inRound lr (callsIn_wide.2 ?_)⟩
   have s8 := HS.out
   have s9 := ownOut HB.out.2.1 (s8.f : Sat W0 W3 (ownRuns ts :: runsA true tp tr :: seg true (b6 + 1 + 1) 0 [.int .i64 (i : Int)] :: seg true b6 0 [.slice (some ⟨g1, 0, none⟩) m c1] :: seg true (b6 + 1) 0 [.slice (some ⟨g3, 0, none⟩) m c3] :: row (some ⟨g1, 0, none⟩) c1 1 m cv :: row (some ⟨g3, 0, none⟩) c3 1 m rv :: obj lr _ :: seg true b 0 [.int .i64 0] :: seg true (b + 1) 0 [.int .i64 0] :: obj D' (.deferred (some [])) :: X))
   refine (ledSame tr tr3 rfl HB.out.2.2.symm hsm (s9.f : Sat W0 W3 (runsA true tp tr :: runsA true tq tr3 :: stars ((ts.map fun t => runsA true t.1 t.2.2).eraseIdx i) :: seg true (b6 + 1 + 1) 0 [.int .i64 (i : Int)] :: seg true b6 0 [.slice (some ⟨g1, 0, none⟩) m c1] :: seg true (b6 + 1) 0 [.slice (some ⟨g3, 0, none⟩) m c3] :: row (some ⟨g1, 0, none⟩) c1 1 m cv :: row (some ⟨g3, 0, none⟩) c3 1 m rv :: obj lr _ :: seg true b 0 [.int .i64 0] :: seg true (b + 1) 0 [.int .i64 0] :: obj D' (.deferred (some [])) :: X))).mono ?_
   clear s8 s9 HS e8 f8 z8 e6 z6 e7 z7 x1 y1 x3 y3
   rintro e w4 ⟨rfl, s10⟩
   by_cases hrun : tr = tr3
   rotate_left
   ·have hd : decide (tr = tr3) = false := decide_eq_false hrun
    have hR : R = (i : Int) := HV.out.2.2.1 (by
     rw [HV.out.2.2.2.2.1, HB.out.1]
     intro h
     simp only [Option.some.injEq, Prod.mk.injEq, true_and] at h
     exact hrun h)
    have s12 : Sat W0 w4 (seg true b 0 [.int .i64 0] :: seg true (b + 1) 0 [.int .i64 0] :: seg true (b6 + 1 + 1) 0 [.int .i64 (i : Int)] :: obj lr _ :: obj D' (.deferred (some [])) :: X) := s10.f
    obtain ⟨c4, e4, z4, c5, e5, z5, s9⟩ := HLV.out w4 _ s12
    have e8 : w4.cell? ⟨b6 + 1 + 1, 0, none⟩ = some (.int .i64 (i : Int)) := Sat.at (s12.pull 2) 0 rfl
    have z8 : b6 + 1 + 1 < w4.heap.size := Sat.lt (s12.pull 2) (by simp)
    rw [hd]
    have HS := Lib.hid s9; clear s10 s12 s9 hd
    gi_wp2_with fail
    refine ⟨seg true (b + 1) 0 [.int .i64 0] :: seg true b 0 [.int .i64 (i : Int)] :: obj D' (.deferred (some [])) :: X, ?_, ?_⟩
    ·have s9 := HS.out
     exact s9.f
    intro W4 s15
    exact seShut (by first | exact hR | rfl) s15.f
   subst hrun
   have s11 := ownIn HB.out.2.1 (s10.f : Sat W0 w4 (runsA true tq tr :: stars ((ts.map fun t => runsA true t.1 t.2.2).eraseIdx i) :: runsA true tp tr :: seg true (b6 + 1 + 1) 0 [.int .i64 (i : Int)] :: seg true b6 0 [.slice (some ⟨g1, 0, none⟩) m c1] :: seg true (b6 + 1) 0 [.slice (some ⟨g3, 0, none⟩) m c3] :: row (some ⟨g1, 0, none⟩) c1 1 m cv :: row (some ⟨g3, 0, none⟩) c3 1 m rv :: obj lr _ :: seg true b 0 [.int .i64 0] :: seg true (b + 1) 0 [.int .i64 0] :: obj D' (.deferred (some [])) :: X))
   have s12 : Sat W0 w4 (seg true (b6 + 1 + 1) 0 [.int .i64 (i : Int)] :: seg true b6 0 [.slice (some ⟨g1, 0, none⟩) m c1] :: seg true (b6 + 1) 0 [.slice (some ⟨g3, 0, none⟩) m c3] :: row (some ⟨g1, 0, none⟩) c1 1 m cv :: row (some ⟨g3, 0, none⟩) c3 1 m rv :: ownRuns ts :: runsA true tp tr :: obj lr _ :: seg true b 0 [.int .i64 0] :: seg true (b + 1) 0 [.int .i64 0] :: obj D' (.deferred (some [])) :: X) := s11.f
   have e8 : w4.cell? ⟨b6 + 1 + 1, 0, none⟩ = some (.int .i64 (i : Int)) := s12.at 0 rfl
   have f8 : w4.frozen? ⟨b6 + 1 + 1, 0, none⟩ = false := s12.fr 0 (by simp)
   have z8 : b6 + 1 + 1 < w4.heap.size := s12.lt (by simp)
   have s13 : Sat W0 (w4.setCell ⟨b6 + 1 + 1, 0, none⟩ (.int .i64 ((i : Int) + 1))) (seg true (b6 + 1 + 1) 0 [.int .i64 ((i : Int) + 1)] :: _) := s12.store (i := 0) (by simp) (.int .i64 ((i : Int) + 1)) (q := 0) rfl
   have hd : decide (tr = tr) = true := decide_eq_true rfl
   rw [hd]
   clear s10 s11 s12 hd
   have HS := Lib.hid s13; clear s13
   gi_wp2_with fail
   refine ⟨seg true (b6 + 1 + 1) 0 [.int .i64 ((i : Int) + 1)] :: seg true b6 0 [.slice (some ⟨g1, 0, none⟩) m c1] :: seg true (b6 + 1) 0 [.slice (some ⟨g3, 0, none⟩) m c3] :: row (some ⟨g1, 0, none⟩) c1 1 m cv :: row (some ⟨g3, 0, none⟩) c3 1 m rv :: ownRuns ts :: seg true b 0 [.int .i64 0] :: seg true (b + 1) 0 [.int .i64 0] :: obj D' (.deferred (some [])) :: X, ?_, ?_⟩
   ·have s13 := HS.out
    exact s13.f
   intro W4 s15
   have s16 : Sat W0 W4 (obj lr _ :: obj D' (.deferred (some [])) :: seg true (b6 + 1 + 1) 0 [.int .i64 ((i : Int) + 1)] :: seg true b6 0 [.slice (some ⟨g1, 0, none⟩) m c1] :: seg true (b6 + 1) 0 [.slice (some ⟨g3, 0, none⟩) m c3] :: row (some ⟨g1, 0, none⟩) c1 1 m cv :: row (some ⟨g3, 0, none⟩) c3 1 m rv :: ownRuns ts :: seg true b 0 [.int .i64 0] :: seg true (b + 1) 0 [.int .i64 0] :: X) := s15.f
   rw [HV.out.1, HV.out.2.1] at s16
   exact sgShut (i := i + 1) (HV.out.2.2.2.1 (HV.out.2.2.2.2.1.trans HB.out.1.symm) hm) s16
 ·clear s8
  rintro e W2 ⟨⟨v, rfl⟩, s6 | ⟨i, hi, s6⟩⟩
  rotate_left
  ·subst hrd
   obtain ⟨hR, s7⟩ := seOpen s6
   clear s6
   refine ⟨⟨_, rfl⟩, .done, some .ret, seg true b 0 [.int .i64 (i : Int)] :: seg true (b + 1) 0 [.int .i64 0] :: opsR p xs :: opsR p2 ys :: L, (fun h => by cases h), s7.f, ?_⟩
   clear s7
   intro W5 s8 hD
   have sr : Sat W0 W5 (seg true b 0 [.int .i64 (i : Int)] :: seg true (b + 1) 0 [.int .i64 0] :: obj D' (.deferred (some [])) :: opsR p xs :: opsR p2 ys :: L) := s8.f
   clear s8
   gi_wp2_with fail
   have hD' := (sr.f : Sat W0 _ (obj D' (.deferred (some [])) :: [])).obj.1
   have s6 := (sr.f : Sat W0 _ (obj D' (.deferred (some [])) :: seg true b 0 [.int .i64 (i : Int)] :: seg true (b + 1) 0 [.int .i64 0] :: opsR p xs :: opsR p2 ys :: L)).putObj (.deferred none) rfl
   have r1 : _ = some (Value.int .i64 (i : Int)) := (s6.f : Sat W0 _ (seg true b 0 [.int .i64 (i : Int)] :: [])).at 0 rfl
   have r2 : _ = some (Value.int .i64 0) := (s6.f : Sat W0 _ (seg true (b + 1) 0 [.int .i64 0] :: [])).at 0 rfl
   refine ⟨by simp, .inl ⟨_, _, rfl, run_takeDeferred hD', ?_⟩⟩
   refine ⟨.tuple #[.int .i64 (i : Int), .int .i64 0], ?_, by rw [hR], ?_⟩
   ·simp [results, Tryz.results6, go_sem, asAddr, r1, r2]
   ·exact s6.f
  subst hrd
  obtain ⟨⟨hnm, htake⟩, s7⟩ := sgOpen s6
  clear s6
  have hR : R = if n < m then (n : Int) else -1 := by
   have h1 := part_end lx l (by rw [HL.out.1, HL.out.2.2.2.2.2.2.2.2.2.2.2.1]; exact hnm) (by rw [HL.out.1, ← htake, List.take_of_length_le (by rw [HL.out.1]; exact Nat.le_refl _)])
   rw [HL.out.1, HL.out.2.2.2.2.2.2.2.2.2.2.2.1] at h1
   rw [HL.out.2.2.2.2.2.2.2.2.2.2.2.2.2.2]
   exact h1
  refine ⟨⟨_, rfl⟩, .ready, none, spL b6 (b6 + 1) (b6 + 1 + 1) n m (p1, c1, p3, c3, ts) l b (b + 1) (opsR p xs :: opsR p2 ys :: L), (fun h => by cases h), s7.f, ?_⟩
  clear s7
  intro W5 s8 hD
  have s9 : Sat W0 W5 (seg true b 0 [.int .i64 0] :: seg true (b + 1) 0 [.int .i64 0] :: seg true (b6 + 1 + 1) 0 [.int .i64 (n : Int)] :: seg true b6 0 [.slice p1 m c1] :: obj D' (.deferred (some [])) :: opsR p xs :: opsR p2 ys :: L) := s8.f
  clear s8
  have e4 : W5.frozen? ⟨b, 0, none⟩ = false := s9.fr 0 (by simp)
  have e5 : W5.frozen? ⟨b + 1, 0, none⟩ = false := Sat.fr (s9.pull 1) 0 (by simp)
  have z4 : b < W5.heap.size := s9.lt (by simp)
  have c4 : W5.cell? ⟨b, 0, none⟩ = some (.int .i64 0) := s9.at 0 rfl
  have c5 : W5.cell? ⟨b + 1, 0, none⟩ = some (.int .i64 0) := Sat.at (s9.pull 1) 0 rfl
  have z5 : b + 1 < W5.heap.size := Sat.lt (s9.pull 1) (by simp)
  have e8 : W5.cell? ⟨b6 + 1 + 1, 0, none⟩ = some (.int .i64 (n : Int)) := Sat.at (s9.pull 2) 0 rfl
  have z8 : b6 + 1 + 1 < W5.heap.size := Sat.lt (s9.pull 2) (by simp)
  have e6 : W5.cell? ⟨b6, 0, none⟩ = some (.slice p1 m c1) := Sat.at (s9.pull 3) 0 rfl
  have z6 : b6 < W5.heap.size := by omega
  by_cases hlt : n < m
  ·rw [if_pos hlt] at hR
   have hltI : (n : Int) < (m : Int) := by omega
   have s9a : Sat W0 (W5.setCell ⟨b, 0, none⟩ (.int .i64 (n : Int))) (seg true b 0 [.int .i64 (n : Int)] :: _) := s9.store (i := 0) (by simp) (.int .i64 (n : Int)) (q := 0) rfl
   have s10 : Sat W0 ((W5.setCell ⟨b, 0, none⟩ (.int .i64 (n : Int))).setCell ⟨b + 1, 0, none⟩ (.int .i64 0)) (seg true (b + 1) 0 [.int .i64 0] :: _) := s9a.swap.store (i := 0) (by simp) (.int .i64 0) (q := 0) rfl
   have HS := Lib.hid s10; clear s9 s9a s10
   gi_wp2_with fail
   have sr := HS.out
   have hD' := (sr.f : Sat W0 _ (obj D' (.deferred (some [])) :: [])).obj.1
   have s6 := (sr.f : Sat W0 _ (obj D' (.deferred (some [])) :: seg true b 0 [.int .i64 (n : Int)] :: seg true (b + 1) 0 [.int .i64 0] :: opsR p xs :: opsR p2 ys :: L)).putObj (.deferred none) rfl
   have r1 : _ = some (Value.int .i64 (n : Int)) := (s6.f : Sat W0 _ (seg true b 0 [.int .i64 (n : Int)] :: [])).at 0 rfl
   have r2 : _ = some (Value.int .i64 0) := (s6.f : Sat W0 _ (seg true (b + 1) 0 [.int .i64 0] :: [])).at 0 rfl
   refine ⟨by simp, .inl ⟨_, _, rfl, run_takeDeferred hD', ?_⟩⟩
   refine ⟨.tuple #[.int .i64 (n : Int), .int .i64 0], ?_, by rw [hR], ?_⟩
   ·simp [results, Tryz.results6, go_sem, asAddr, r1, r2]
   ·exact s6.f
  ·rw [if_neg hlt] at hR
   have hltI : ¬ (n : Int) < (m : Int) := by omega
   have s9a : Sat W0 (W5.setCell ⟨b, 0, none⟩ (.int .i64 (-1))) (seg true b 0 [.int .i64 (-1)] :: _) := s9.store (i := 0) (by simp) (.int .i64 (-1)) (q := 0) rfl
   have s10 : Sat W0 ((W5.setCell ⟨b, 0, none⟩ (.int .i64 (-1))).setCell ⟨b + 1, 0, none⟩ (.int .i64 0)) (seg true (b + 1) 0 [.int .i64 0] :: _) := s9a.swap.store (i := 0) (by simp) (.int .i64 0) (q := 0) rfl
   have HS := Lib.hid s10; clear s9 s9a s10
   gi_wp2_with fail
   have sr := HS.out
   have hD' := (sr.f : Sat W0 _ (obj D' (.deferred (some [])) :: [])).obj.1
   have s6 := (sr.f : Sat W0 _ (obj D' (.deferred (some [])) :: seg true b 0 [.int .i64 (-1)] :: seg true (b + 1) 0 [.int .i64 0] :: opsR p xs :: opsR p2 ys :: L)).putObj (.deferred none) rfl
   have r1 : _ = some (Value.int .i64 (-1)) := (s6.f : Sat W0 _ (seg true b 0 [.int .i64 (-1)] :: [])).at 0 rfl
   have r2 : _ = some (Value.int .i64 0) := (s6.f : Sat W0 _ (seg true (b + 1) 0 [.int .i64 0] :: [])).at 0 rfl
   refine ⟨by simp, .inl ⟨_, _, rfl, run_takeDeferred hD', ?_⟩⟩
   refine ⟨.tuple #[.int .i64 (-1), .int .i64 0], ?_, by rw [hR], ?_⟩
   ·simp [results, Tryz.results6, go_sem, asAddr, r1, r2]
   ·exact s6.f
end
end Go.Proofs.YtbefjaodpbgpcaaGreat
