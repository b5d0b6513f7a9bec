
/- Two scripts that are seen the same do not part; a script over the bound; under the conditions that each names. -/
import Derived.Test.YtbefjaodpbgpcaaGreatPr4
namespace Go.Proofs.YtbefjaodpbgpcaaGreat
open Go.RowKit Go.Sep Go.Bv
set_option linter.unusedVariables false
set_option linter.unusedSimpArgs false
attribute [local go_sem] Oper.semAt_some
theorem rowPeek {W0 w : World} {L : List Assn} {p : Option Addr} {cp n i : Nat} {xs : List Value} {v : Value} (h : Sat W0 w (row p cp 1 n xs :: L)) (hi : xs[i]? = some v) : ∃ g, p = some ⟨g, 0, none⟩ ∧ w.cell? ⟨g, i, none⟩ = some v ∧ g < w.heap.size := by
 have hlt := (List.getElem?_eq_some_iff.1 hi).1
 obtain ⟨hl, ⟨-, -, h0, -, -⟩ | ⟨g, rest, rfl, hc, hm, hcl, hg⟩⟩ := h.rowOpen
 ·omega
 ·exact ⟨g, rfl, hg.at i (by rw [List.getElem?_append_left hlt]; exact hi), hg.lt (by rw [List.length_append]; omega)⟩
theorem sinceR_short : ∀ (rs : List Run3) (m : Nat), (sinceR rs m).length ≤ rs.length
 | [], _ => Nat.le_refl _
 | r :: rs, m => by
  unfold sinceR
  split
  ·have := sinceR_short rs (m - r.2.2)
   rw [List.length_cons]; omega
  ·rw [List.length_cons, List.length_cons]; omega
theorem seenL_small {σ : Type} {I : SesI σ} {D : Doer σ} {inv : Nat → Sts σ → List Run3 → Prop} {good : OpC → Prop} {N : Nat} (H : Does I D inv good N) {l : List OpC} (hg : ∀ o ∈ l, good o) (hl : l.length ≤ N) {i : Nat} {c : Int} {r : List Run3} (h : (seenL D l (List.replicate 64 none) [])[i]? = some (c, r)) : r.length ≤ 1000000000 := by
 have hi : i < l.length := by have := (List.getElem?_eq_some_iff.1 h).1; rw [seenL_len] at this; exact this
 have ho : l[i]? = some l[i] := List.getElem?_eq_getElem hi
 rw [seenL_get D l i _ _ _ ho] at h
 simp only [Option.some.injEq, Prod.mk.injEq] at h
 rw [← h.2]
 have h1 := H.next (H.inv_after hg hl i (by omega)) (by omega) (hg _ (List.getElem_mem hi))
 exact Nat.le_trans (sinceR_short _ _) (H.room h1.1 (by omega)).2
set_option maxHeartbeats 1000000 in
theorem splitBig {W0 w : World} {L : List Assn} {n k c c2 : Nat} {p p2 : Option Addr} (h : 4096 < n ∨ 4096 < k) (hs : Sat W0 w L) :
  Calls Tryz.prog 6 #[.slice p n c, .slice p2 k c2] w fun e w' => e = .returned (.tuple #[.int .i64 0, .int .i64 9]) ∧ Sat W0 w' L := by
 have s1 := (hs.alloc #[.int .i64 0] 3).alloc #[.int .i64 9] 28
 have r0 := Sat.at (s1.pull 1) 0 rfl
 have r1 := s1.at 0 rfl
 have HS := Lib.hid (s1.tail.tail : Sat W0 _ L); clear s1 hs
 by_cases h1 : 4096 < n
 ·have g1 : (4096 : Int) < (n : Int) := by omega
  go_enter Tryz.func6, Tryz.ntmps6
  go_wp2
  exact bodyPost_ret (v := .tuple #[.int .i64 0, .int .i64 9]) (by simp [results, Tryz.results6, go_sem, asAddr]) rfl ⟨rfl, HS.out⟩
 ·have g1 : ¬ (4096 : Int) < (n : Int) := by omega
  have g2 : (4096 : Int) < (k : Int) := by omega
  go_enter Tryz.func6, Tryz.ntmps6
  go_wp2
  exact bodyPost_ret (v := .tuple #[.int .i64 0, .int .i64 9]) (by simp [results, Tryz.results6, go_sem, asAddr]) rfl ⟨rfl, HS.out⟩
abbrev spL (b6 b7 b8 i n : Nat) (q : SQ) (l : List (Int × List Run3)) (b4 b5 : Nat) (T : List Assn) : List Assn :=
 seg true b8 0 [.int .i64 (i : Int)] :: seg true b6 0 [.slice q.1 n q.2.1] :: seg true b7 0 [.slice q.2.2.1 n q.2.2.2.1] :: row q.1 q.2.1 1 n (codesV l) :: row q.2.2.1 q.2.2.2.1 1 n (q.2.2.2.2.map runsV) :: ownRuns q.2.2.2.2 :: seg true b4 0 [.int .i64 0] :: seg true b5 0 [.int .i64 0] :: T
def spJ (b6 b7 b8 i n : Nat) (q : SQ) (l : List (Int × List Run3)) (b4 b5 : Nat) (o1 o2 : Assn) : Assn := big (o1 :: o2 :: spL b6 b7 b8 i n q l b4 b5 [])
theorem spOpen {W0 w : World} {L : List Assn} {b6 b7 b8 i n : Nat} {q : SQ} {l : List (Int × List Run3)} {b4 b5 : Nat} {o1 o2 : Assn} (h : Sat W0 w (spJ b6 b7 b8 i n q l b4 b5 o1 o2 :: L)) : Sat W0 w (o1 :: o2 :: spL b6 b7 b8 i n q l b4 b5 L) := Sat.bigOpen h
theorem spShut {W0 w : World} {L : List Assn} {b6 b7 b8 i n : Nat} {q : SQ} {l : List (Int × List Run3)} {b4 b5 : Nat} {o1 o2 : Assn} (h : Sat W0 w (o1 :: o2 :: spL b6 b7 b8 i n q l b4 b5 L)) : Sat W0 w (spJ b6 b7 b8 i n q l b4 b5 o1 o2 :: L) := Sat.bigShut (K := o1 :: o2 :: spL b6 b7 b8 i n q l b4 b5 []) h
section
variable {σ : Type}
set_option maxRecDepth 100000 in
set_option maxHeartbeats 8000000 in
theorem splitSame {W0 w : World} {L : List Assn} {I : SesI σ} {D : Doer σ} {inv : Nat → Sts σ → List Run3 → Prop} {good : OpC → Prop} {N : Nat} (H : Does I D inv good N) {n c c2 : Nat} {p p2 : Option Addr} (xs ys : List OpM) (hx : xs.length = n) (hy : ys.length = n) (hN : n ≤ N) (hN2 : N ≤ 1000000) (hB : n ≤ 4096) (hg : ∀ x ∈ xs, good x.c) (hg2 : ∀ x ∈ ys, good x.c)
  (heq : seenL D (xs.map OpM.c) (List.replicate 64 none) [] = seenL D (ys.map OpM.c) (List.replicate 64 none) [])
  (hs : Sat W0 w (opsR p xs :: opsR p2 ys :: L)) :
  Calls Tryz.prog 6 #[.slice p n c, .slice p2 n c2] w fun e w' => e = .returned (.tuple #[.int .i64 (-1), .int .i64 0]) ∧ Sat W0 w' (opsR p xs :: opsR p2 ys :: L) := by
 obtain ⟨b, hb⟩ : ∃ b, b = w.heap.size := ⟨_, rfl⟩
 have s1 := allocAt' (allocAt' hs #[.int .i64 0] 3 (q := b) hb) #[.int .i64 0] 28 (q := b + 1) (by simp [hb])
 have s2 : Sat W0 _ (opsR p2 ys :: opsR p xs :: seg true b 0 [.int .i64 0] :: seg true (b + 1) 0 [.int .i64 0] :: L) := s1.f
 obtain ⟨l, hl⟩ : ∃ l, l = seenL D (xs.map OpM.c) (List.replicate 64 none) [] := ⟨_, rfl⟩
 have hll : l.length = n := by rw [hl, seenL_len, List.length_map, hx]
 have hly := heq.symm.trans hl.symm
 have g1 : ¬ (4096 : Int) < (n : Int) := by omega
 have HL := Lib.hid (And.intro hll (And.intro hl (And.intro H (And.intro hx (And.intro hN (And.intro hN2 (And.intro hg (And.intro hly (And.intro hy (And.intro hg2 hB)))))))))); clear hll hl H hx hN hN2 hg hly hy hg2 hB heq
 have HS2 := Lib.hid s2; clear s1 s2 hs
 refine (callsIn_wide (n := 4)).1 ?_
 refine callsIn_of_wp_marks Tryz.func6 rfl trivial ?_ rfl
 simp only [Tryz.ntmps6, List.size_toArray, List.length_cons, List.length_nil, Nat.reduceAdd, Nat.reduceSub, Array.replicate_succ, Array.replicate_zero, List.push_toArray, List.append_toArray, List.nil_append, List.cons_append]
 gi_wp2_with fail
 rw [← hb]
 clear hb
 refine ⟨trivial, callsIn_wide.2 ?_⟩
 refine (seenW HL.out.2.2.1 ys HL.out.2.2.2.2.2.2.2.2.1 HL.out.2.2.2.2.1 HL.out.2.2.2.2.2.1 HL.out.2.2.2.2.2.2.2.2.2.1 HS2.out).mono ?_
 rintro e w1 ⟨⟨p1, c1, p3, c3, ts⟩, rfl, hq1, hq2, s3⟩
 rw [HL.out.2.2.2.2.2.2.2.1] at s3 hq2
 simp only at hq1 hq2
 have s4 : Sat W0 w1 (opsR p xs :: row p1 c1 1 n (codesV l) :: row p3 c3 1 n (ts.map runsV) :: ownRuns ts :: seg true b 0 [.int .i64 0] :: seg true (b + 1) 0 [.int .i64 0] :: opsR p2 ys :: L) := s3.f
 have HQ := Lib.hid (And.intro hq1 hq2); clear hq1 hq2 s3 HS2
 obtain ⟨b6, hb6⟩ : ∃ b6, b6 = w1.heap.size := ⟨_, rfl⟩
 have s5 := allocAt' (allocAt' (allocAt' s4 #[.slice p1 n c1] 58 (q := b6) hb6) #[.slice p3 n c3] 59 (q := b6 + 1) (by simp [hb6])) #[.int .i64 0] 3 (q := b6 + 1 + 1) (by simp [hb6])
 have HS8 := Lib.hid s5; clear s4 s5
 gi_wp2_with fail
 rw [← hb6]
 clear hb6
 refine ⟨trivial, callsIn_wide.2 ?_⟩
 refine (seenF HS8.out).mono ?_
 rintro e w2 ⟨g, rfl, s6⟩
 clear HS8
 gi_wp2_with fail
 refine wpIn_rangeSat (F := Fence.wide) (n := 4) rfl (by decide) (gf := 44) (lb := #[.pointer (some ⟨g, 0, none⟩)]) rfl trivial (enters_of Tryz.func44 (by kernel_rfl) rfl) s6 ?_
 intro fn lr D' rd W1 hfn hlr hD hrd s7
 clear hlr hD s6
 have s8 : Sat W0 W1 (seg true g 0 [.slice p n c] :: opsR p xs :: spJ b6 (b6 + 1) (b6 + 1 + 1) 0 n (p1, c1, p3, c3, ts) l b (b + 1) (obj lr (rd .ready none)) (obj D' (.deferred (some []))) :: opsR p2 ys :: L) := by
  have h2 : Sat W0 W1 (obj lr (rd .ready none) :: obj D' (.deferred (some [])) :: seg true (b6 + 1 + 1) 0 [.int .i64 0] :: seg true b6 0 [.slice p1 n c1] :: seg true (b6 + 1) 0 [.slice p3 n c3] :: row p1 c1 1 n (codesV l) :: row p3 c3 1 n (ts.map runsV) :: ownRuns ts :: seg true b 0 [.int .i64 0] :: seg true (b + 1) 0 [.int .i64 0] :: seg true g 0 [.slice p n c] :: opsR p xs :: opsR p2 ys :: L) := s7.f
  have h3 : Sat W0 W1 (spJ b6 (b6 + 1) (b6 + 1 + 1) 0 n (p1, c1, p3, c3, ts) l b (b + 1) (obj lr (rd .ready none)) (obj D' (.deferred (some []))) :: seg true g 0 [.slice p n c] :: opsR p xs :: opsR p2 ys :: L) := spShut h2
  exact h3.f
 clear s7
 refine (seenIter HL.out.2.2.1 xs HL.out.2.2.2.1 HL.out.2.2.2.2.1 HL.out.2.2.2.2.2.1 HL.out.2.2.2.2.2.2.1 (fun i => spJ b6 (b6 + 1) (b6 + 1 + 1) i n (p1, c1, p3, c3, ts) l b (b + 1) (obj lr (rd .ready none)) (obj D' (.deferred (some [])))) (fun _ => fun _ => False) lr 2 ?_ s8).mono ?_
 ·clear s8
  intro i W2 ⟨tp, tc, tr⟩ code X hi hget s5
  have hsm := seenL_small HL.out.2.2.1 (by intro o ho; obtain ⟨x, hx, rfl⟩ := List.mem_map.1 ho; exact HL.out.2.2.2.2.2.2.1 x hx) (by rw [List.length_map, HL.out.2.2.2.1]; exact HL.out.2.2.2.2.1) hget
  rw [← HL.out.2.1] at hget
  have s6 := spOpen (show Sat W0 W2 (spJ b6 (b6 + 1) (b6 + 1 + 1) i n (p1, c1, p3, c3, ts) l b (b + 1) (obj lr (rd .ready none)) (obj D' (.deferred (some []))) :: runsA true tp tr :: X) from s5.pull 1)
  obtain ⟨t, ht⟩ : ∃ t, ts[i]? = some t := ⟨ts[i]'(by rw [HQ.out.1]; exact hi), List.getElem?_eq_getElem _⟩
  obtain ⟨tq, tcq, tr2⟩ := t
  have htr : tr2 = tr := by
   have h1 := congrArg (fun (z : List (List Run3)) => z[i]?) HQ.out.2
   simp only [List.getElem?_map, ht, hget, Option.map_some, Option.some.injEq] at h1
   exact h1
  subst htr
  obtain ⟨rn, hrn⟩ : ∃ k, k = tr2.length := ⟨_, rfl⟩
  have hc1 : (codesV l)[i]? = some (.int .i64 code) := by unfold codesV; rw [List.getElem?_map, hget]; rfl
  have hc2 : (ts.map runsV)[i]? = some (.slice tq rn tcq) := by rw [List.getElem?_map, ht, hrn]; rfl
  obtain ⟨cv, hcv⟩ : ∃ lv, lv = codesV l := ⟨_, rfl⟩
  obtain ⟨rv, hrv⟩ : ∃ rv, rv = ts.map runsV := ⟨_, rfl⟩
  have s7 : Sat W0 W2 (obj lr (rd .ready none) :: seg true (b6 + 1 + 1) 0 [.int .i64 (i : Int)] :: seg true b6 0 [.slice p1 n c1] :: seg true (b6 + 1) 0 [.slice p3 n c3] :: row p1 c1 1 n cv :: row p3 c3 1 n rv :: ownRuns ts :: seg true b 0 [.int .i64 0] :: seg true (b + 1) 0 [.int .i64 0] :: runsA true tp tr2 :: obj D' (.deferred (some [])) :: X) := by
   rw [hcv, hrv]
   exact s6.f
  rw [← hcv] at hc1
  rw [← hrv] at hc2
  have HV := Lib.hid (And.intro hcv (And.intro hrv ht)); clear s5 s6 hcv hrv ht
  have e0 : runsV (tp, tc, tr2) = .slice tp rn tc := by rw [hrn]; rfl
  have hbig : n ≤ 4096 := HL.out.2.2.2.2.2.2.2.2.2.2
  subst hrd
  refine yieldSat (L := seg true (b6 + 1 + 1) 0 [.int .i64 (i : Int)] :: seg true b6 0 [.slice p1 n c1] :: seg true (b6 + 1) 0 [.slice p3 n c3] :: row p1 c1 1 n cv :: row p3 c3 1 n rv :: ownRuns ts :: seg true b 0 [.int .i64 0] :: seg true (b + 1) 0 [.int .i64 0] :: runsA true tp tr2 :: obj D' (.deferred (some [])) :: X) rfl hfn s7 ?a1 ?assign ?body
  case assign =>
   intro K hK
   gi_wp2
   exact hK
  case body =>
   clear s7
   intro W3 s8
   obtain ⟨g1, rfl, x1, y1⟩ := rowPeek (s8.pull 4) hc1
   obtain ⟨g3, rfl, x3, y3⟩ := rowPeek (s8.pull 5) hc2
   have e8 : W3.cell? ⟨b6 + 1 + 1, 0, none⟩ = some (.int .i64 (i : Int)) := Sat.at (s8.pull 1) 0 rfl
   have f8 : W3.frozen? ⟨b6 + 1 + 1, 0, none⟩ = false := Sat.fr (s8.pull 1) 0 (by simp)
   have z8 : b6 + 1 + 1 < W3.heap.size := Sat.lt (s8.pull 1) (by simp)
   have e6 : W3.cell? ⟨b6, 0, none⟩ = some (.slice (some ⟨g1, 0, none⟩) n c1) := Sat.at (s8.pull 2) 0 rfl
   have z6 : b6 < W3.heap.size := by omega
   have e7 : W3.cell? ⟨b6 + 1, 0, none⟩ = some (.slice (some ⟨g3, 0, none⟩) n c3) := Sat.at (s8.pull 3) 0 rfl
   have z7 : b6 + 1 < W3.heap.size := by omega
   have hni : ((i : Int) == (n : Int)) = false := by rw [beq_eq_false_iff_ne]; omega
   have hin : (i : Int) < (n : Int) := by omega
   have HS := Lib.hid s8; clear s8
   have HR := Lib.hid (And.intro hrn e0); clear hrn e0
   gi_wp2_with fail
   refine ⟨trivial, CallsIn.inRound lr (callsIn_wide.2 ?_)⟩
   have s8 := HS.out
   have s9 := ownOut HV.out.2.2 (s8.f : Sat W0 W3 (ownRuns ts :: runsA true tp tr2 :: seg true (b6 + 1 + 1) 0 [.int .i64 (i : Int)] :: seg true b6 0 [.slice (some ⟨g1, 0, none⟩) n c1] :: seg true (b6 + 1) 0 [.slice (some ⟨g3, 0, none⟩) n c3] :: row (some ⟨g1, 0, none⟩) c1 1 n cv :: row (some ⟨g3, 0, none⟩) c3 1 n rv :: obj lr _ :: seg true b 0 [.int .i64 0] :: seg true (b + 1) 0 [.int .i64 0] :: obj D' (.deferred (some [])) :: X))
   refine (ledSame tr2 tr2 rfl HR.out.1.symm hsm (s9.f : Sat W0 W3 (runsA true tp tr2 :: runsA true tq tr2 :: stars ((ts.map fun t => runsA true t.1 t.2.2).eraseIdx i) :: seg true (b6 + 1 + 1) 0 [.int .i64 (i : Int)] :: seg true b6 0 [.slice (some ⟨g1, 0, none⟩) n c1] :: seg true (b6 + 1) 0 [.slice (some ⟨g3, 0, none⟩) n c3] :: row (some ⟨g1, 0, none⟩) c1 1 n cv :: row (some ⟨g3, 0, none⟩) c3 1 n rv :: obj lr _ :: seg true b 0 [.int .i64 0] :: seg true (b + 1) 0 [.int .i64 0] :: obj D' (.deferred (some [])) :: X))).mono ?_
   clear s8 s9 HS e8 f8 z8 e6 z6 e7 z7 x1 y1 x3 y3
   rintro e w4 ⟨rfl, s10⟩
   have s11 := ownIn HV.out.2.2 (s10.f : Sat W0 w4 (runsA true tq tr2 :: stars ((ts.map fun t => runsA true t.1 t.2.2).eraseIdx i) :: runsA true tp tr2 :: seg true (b6 + 1 + 1) 0 [.int .i64 (i : Int)] :: seg true b6 0 [.slice (some ⟨g1, 0, none⟩) n c1] :: seg true (b6 + 1) 0 [.slice (some ⟨g3, 0, none⟩) n c3] :: row (some ⟨g1, 0, none⟩) c1 1 n cv :: row (some ⟨g3, 0, none⟩) c3 1 n rv :: obj lr _ :: seg true b 0 [.int .i64 0] :: seg true (b + 1) 0 [.int .i64 0] :: obj D' (.deferred (some [])) :: X))
   have s12 : Sat W0 w4 (seg true (b6 + 1 + 1) 0 [.int .i64 (i : Int)] :: seg true b6 0 [.slice (some ⟨g1, 0, none⟩) n c1] :: seg true (b6 + 1) 0 [.slice (some ⟨g3, 0, none⟩) n c3] :: row (some ⟨g1, 0, none⟩) c1 1 n cv :: row (some ⟨g3, 0, none⟩) c3 1 n rv :: ownRuns ts :: runsA true tp tr2 :: obj lr _ :: seg true b 0 [.int .i64 0] :: seg true (b + 1) 0 [.int .i64 0] :: obj D' (.deferred (some [])) :: X) := s11.f
   have e8 : w4.cell? ⟨b6 + 1 + 1, 0, none⟩ = some (.int .i64 (i : Int)) := s12.at 0 rfl
   have f8 : w4.frozen? ⟨b6 + 1 + 1, 0, none⟩ = false := s12.fr 0 (by simp)
   have z8 : b6 + 1 + 1 < w4.heap.size := s12.lt (by simp)
   have s13 : Sat W0 (w4.setCell ⟨b6 + 1 + 1, 0, none⟩ (.int .i64 ((i : Int) + 1))) (seg true (b6 + 1 + 1) 0 [.int .i64 ((i : Int) + 1)] :: _) := s12.store (i := 0) (by simp) (.int .i64 ((i : Int) + 1)) (q := 0) rfl
   have hd : decide (tr2 = tr2) = true := decide_eq_true rfl
   rw [hd]
   clear s10 s11 s12 hd
   have HS := Lib.hid s13; clear s13
   gi_wp2_with fail
   refine ⟨seg true (b6 + 1 + 1) 0 [.int .i64 ((i : Int) + 1)] :: seg true b6 0 [.slice (some ⟨g1, 0, none⟩) n c1] :: seg true (b6 + 1) 0 [.slice (some ⟨g3, 0, none⟩) n c3] :: row (some ⟨g1, 0, none⟩) c1 1 n cv :: row (some ⟨g3, 0, none⟩) c3 1 n rv :: ownRuns ts :: seg true b 0 [.int .i64 0] :: seg true (b + 1) 0 [.int .i64 0] :: obj D' (.deferred (some [])) :: X, ?_, ?_⟩
   ·have s13 := HS.out
    exact s13.f
   intro W4 s15
   have s16 : Sat W0 W4 (obj lr _ :: obj D' (.deferred (some [])) :: seg true (b6 + 1 + 1) 0 [.int .i64 ((i : Int) + 1)] :: seg true b6 0 [.slice (some ⟨g1, 0, none⟩) n c1] :: seg true (b6 + 1) 0 [.slice (some ⟨g3, 0, none⟩) n c3] :: row (some ⟨g1, 0, none⟩) c1 1 n cv :: row (some ⟨g3, 0, none⟩) c3 1 n rv :: ownRuns ts :: seg true b 0 [.int .i64 0] :: seg true (b + 1) 0 [.int .i64 0] :: X) := s15.f
   rw [HV.out.1, HV.out.2.1] at s16
   exact spShut (i := i + 1) s16
 ·clear s8
  rintro e W2 ⟨⟨v, rfl⟩, s6 | ⟨i, hi, hF⟩⟩
  rotate_left
  ·exact (hF.fact fun x hx => hx).elim
  subst hrd
  have s7 := spOpen s6
  clear s6
  refine ⟨⟨_, rfl⟩, .ready, none, spL b6 (b6 + 1) (b6 + 1 + 1) n n (p1, c1, p3, c3, ts) l b (b + 1) (opsR p xs :: opsR p2 ys :: L), (fun h => by cases h), s7.f, ?_⟩
  clear s7
  intro W5 s8 hD
  have s9 : Sat W0 W5 (seg true b 0 [.int .i64 0] :: seg true (b + 1) 0 [.int .i64 0] :: seg true (b6 + 1 + 1) 0 [.int .i64 (n : Int)] :: seg true b6 0 [.slice p1 n c1] :: obj D' (.deferred (some [])) :: opsR p xs :: opsR p2 ys :: L) := s8.f
  clear s8
  have e4 : W5.frozen? ⟨b, 0, none⟩ = false := s9.fr 0 (by simp)
  have e5 : W5.frozen? ⟨b + 1, 0, none⟩ = false := Sat.fr (s9.pull 1) 0 (by simp)
  have z4 : b < W5.heap.size := s9.lt (by simp)
  have c4 : W5.cell? ⟨b, 0, none⟩ = some (.int .i64 0) := s9.at 0 rfl
  have c5 : W5.cell? ⟨b + 1, 0, none⟩ = some (.int .i64 0) := Sat.at (s9.pull 1) 0 rfl
  have z5 : b + 1 < W5.heap.size := Sat.lt (s9.pull 1) (by simp)
  have e8 : W5.cell? ⟨b6 + 1 + 1, 0, none⟩ = some (.int .i64 (n : Int)) := Sat.at (s9.pull 2) 0 rfl
  have z8 : b6 + 1 + 1 < W5.heap.size := Sat.lt (s9.pull 2) (by simp)
  have e6 : W5.cell? ⟨b6, 0, none⟩ = some (.slice p1 n c1) := Sat.at (s9.pull 3) 0 rfl
  have z6 : b6 < W5.heap.size := by omega
  have s9a : Sat W0 (W5.setCell ⟨b, 0, none⟩ (.int .i64 (-1))) (seg true b 0 [.int .i64 (-1)] :: _) := s9.store (i := 0) (by simp) (.int .i64 (-1)) (q := 0) rfl
  have s10 : Sat W0 ((W5.setCell ⟨b, 0, none⟩ (.int .i64 (-1))).setCell ⟨b + 1, 0, none⟩ (.int .i64 0)) (seg true (b + 1) 0 [.int .i64 0] :: _) := s9a.swap.store (i := 0) (by simp) (.int .i64 0) (q := 0) rfl
  have HS := Lib.hid s10; clear s9 s9a s10
  gi_wp2_with fail
  have sr := HS.out
  have hD' := (sr.f : Sat W0 _ (obj D' (.deferred (some [])) :: [])).obj.1
  have s6 := (sr.f : Sat W0 _ (obj D' (.deferred (some [])) :: seg true b 0 [.int .i64 (-1)] :: seg true (b + 1) 0 [.int .i64 0] :: opsR p xs :: opsR p2 ys :: L)).putObj (.deferred none) rfl
  have r1 : _ = some (Value.int .i64 (-1)) := (s6.f : Sat W0 _ (seg true b 0 [.int .i64 (-1)] :: [])).at 0 rfl
  have r2 : _ = some (Value.int .i64 0) := (s6.f : Sat W0 _ (seg true (b + 1) 0 [.int .i64 0] :: [])).at 0 rfl
  refine ⟨by simp, .inl ⟨_, _, rfl, run_takeDeferred hD', ?_⟩⟩
  refine ⟨.tuple #[.int .i64 (-1), .int .i64 0], ?_, rfl, ?_⟩
  ·simp [results, Tryz.results6, go_sem, asAddr, r1, r2]
  ·exact s6.f
end
end Go.Proofs.YtbefjaodpbgpcaaGreat
