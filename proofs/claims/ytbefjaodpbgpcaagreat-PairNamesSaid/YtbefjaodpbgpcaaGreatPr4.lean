
/- What is seen of a script, as two lists; under the conditions that each names. -/
import Derived.Test.YtbefjaodpbgpcaaGreatPr2
namespace Go.Proofs.YtbefjaodpbgpcaaGreat
open Go.RowKit Go.Sep Go.Bv
set_option linter.unusedVariables false
set_option linter.unusedSimpArgs false
attribute [local go_sem] Oper.semAt_some
theorem Tryz.info_errno : (Tryz.prog.info? 28).map (fun i => (i.zero, i.size, i.bytes)) = some (some (.int .i64 0), 1, 8) := by kernel_rfl
theorem Tryz.info_runs : (Tryz.prog.info? 47).map (fun i => (i.zero, i.size, i.bytes)) = some (some (.slice none 0 0), 1, 24) := by kernel_rfl
set_option maxHeartbeats 1000000 in
theorem seenF {W0 w : World} {L : List Assn} {p : Option Addr} {n c : Nat} (hs : Sat W0 w L) :
  Calls Tryz.prog 26 #[.slice p n c] w fun e w' => ∃ g, e = .returned (.func (.func 44) #[] #[.pointer (some ⟨g, 0, none⟩)]) ∧ Sat W0 w' (seg true g 0 [.slice p n c] :: L) := by
 have s1 := hs.alloc #[.slice p n c] 22
 have HS := Lib.hid s1; clear hs s1
 go_enter Tryz.func26, Tryz.ntmps26
 go_wp2
 go_ret
 exact ⟨_, rfl, HS.out⟩
abbrev codesV (l : List (Int × List Run3)) : List Value := l.map fun x => Value.int .i64 x.1
abbrev SQ := Option Addr × Nat × Option Addr × Nat × List RPiece
/-- What lies about a round of Seen. -/
abbrev snL (b4 b5 i : Nat) (q : SQ) (l : List (Int × List Run3)) (T : List Assn) : List Assn :=
 seg true b4 0 [.slice q.1 i q.2.1] :: seg true b5 0 [.slice q.2.2.1 i q.2.2.2.1] :: row q.1 q.2.1 1 i (codesV (l.take i)) :: row q.2.2.1 q.2.2.2.1 1 i (q.2.2.2.2.map runsV) :: ownRuns q.2.2.2.2 :: T
def snJ (b4 b5 i : Nat) (l : List (Int × List Run3)) (o1 o2 : Assn) : Assn := fun h => ∃ q : SQ, (q.2.2.2.2.length = i ∧ q.2.2.2.2.map (fun t => t.2.2) = (l.take i).map Prod.snd) ∧ big (o1 :: o2 :: snL b4 b5 i q l []) h
theorem snOpen {W0 w : World} {L : List Assn} {b4 b5 i : Nat} {l : List (Int × List Run3)} {o1 o2 : Assn} (h : Sat W0 w (snJ b4 b5 i l o1 o2 :: L)) : ∃ q : SQ, q.2.2.2.2.length = i ∧ q.2.2.2.2.map (fun t => t.2.2) = (l.take i).map Prod.snd ∧ Sat W0 w (o1 :: o2 :: snL b4 b5 i q l L) := by
 obtain ⟨q, h1⟩ := Sat.exOpen h
 obtain ⟨h2, h3⟩ := h1.fact fun x hx => hx.1
 exact ⟨q, h2, h3, (h1.imp fun x hx => hx.2).bigOpen⟩
theorem snShut {W0 w : World} {L : List Assn} {b4 b5 i : Nat} {l : List (Int × List Run3)} {o1 o2 : Assn} (q : SQ) (h2 : q.2.2.2.2.length = i) (h3 : q.2.2.2.2.map (fun t => t.2.2) = (l.take i).map Prod.snd) (h : Sat W0 w (o1 :: o2 :: snL b4 b5 i q l L)) : Sat W0 w (snJ b4 b5 i l o1 o2 :: L) :=
 (Sat.bigShut (K := o1 :: o2 :: snL b4 b5 i q l []) h).imp fun x hx => ⟨q, ⟨h2, h3⟩, hx⟩
theorem allocAt' {W0 w : World} {L : List Assn} (h : Sat W0 w L) (cs : Array Value) (T : TypeId) {q : Nat} (hq : q = w.heap.size) : Sat W0 (w.alloc (.cells cs T)) (seg true q 0 cs.toList :: L) := by
 subst hq; exact h.alloc cs T
@[go_sem] theorem eqlSeen (f : FuncId) (fr : Array Value) (w : World) : (binOp .eql 63 (.func (.func f) #[] fr) .nilFunc).run Tryz.prog w = .ok (.bool false) w := by kernel_rfl
section
variable {σ : Type}
set_option maxRecDepth 100000 in
set_option maxHeartbeats 8000000 in
theorem seenW {W0 w : World} {L : List Assn} {I : SesI σ} {D : Doer σ} {inv : Nat → Sts σ → List Run3 → Prop} {good : OpC → Prop} {N : Nat} (H : Does I D inv good N) {n c : Nat} {p : Option Addr} (xs : List OpM) (hn : xs.length = n) (hN : n ≤ N) (hN2 : N ≤ 1000000) (hg : ∀ x ∈ xs, good x.c)
  (hs : Sat W0 w (opsR p xs :: L)) :
  Calls Tryz.prog 25 #[.slice p n c] w fun e w' => ∃ q : SQ, e = .returned (.tuple #[.slice q.1 n q.2.1, .slice q.2.2.1 n q.2.2.2.1]) ∧ q.2.2.2.2.length = n ∧ q.2.2.2.2.map (fun t => t.2.2) = (seenL D (xs.map OpM.c) (List.replicate 64 none) []).map Prod.snd ∧
   Sat W0 w' (row q.1 q.2.1 1 n (codesV (seenL D (xs.map OpM.c) (List.replicate 64 none) [])) :: row q.2.2.1 q.2.2.2.1 1 n (q.2.2.2.2.map runsV) :: ownRuns q.2.2.2.2 :: opsR p xs :: L) := by
 obtain ⟨l, hl⟩ : ∃ l, l = seenL D (xs.map OpM.c) (List.replicate 64 none) [] := ⟨_, rfl⟩
 have hll : l.length = n := by rw [hl, seenL_len, List.length_map, hn]
 rw [← hl]
 obtain ⟨i1, hi1, hz1, hs1, hb1⟩ := info_parts Tryz.info_errno
 obtain ⟨i2, hi2, hz2, hs2, hb2⟩ := info_parts Tryz.info_runs
 have HI := Lib.hid (And.intro (And.intro hi1 (And.intro hz1 (And.intro hs1 hb1))) (And.intro hi2 (And.intro hz2 (And.intro hs2 hb2)))); clear hi1 hz1 hs1 hb1 hi2 hz2 hs2 hb2
 obtain ⟨bx, hbx⟩ : ∃ bx, bx = w.heap.size := ⟨_, rfl⟩
 have s1 := allocAt' (allocAt' hs #[.slice none 0 0] 58 (q := bx) hbx) #[.slice none 0 0] 59 (q := bx + 1) (by simp [hbx])
 have HL := Lib.hid (And.intro hll (And.intro hl (And.intro H (And.intro hn (And.intro hN (And.intro hN2 hg)))))); clear hll hl H hn hN hN2 hg
 refine (callsIn_wide (n := 4)).1 ?_
 refine callsIn_of_wp_marks Tryz.func25 rfl trivial ?_ rfl
 simp only [Tryz.ntmps25, List.size_toArray, List.length_cons, List.length_nil, Nat.reduceAdd, Nat.reduceSub, Array.replicate_succ, Array.replicate_zero, List.push_toArray, List.append_toArray, List.nil_append, List.cons_append]
 gi_wp2_with fail
 rw [← hbx]
 refine ⟨trivial, callsIn_wide.2 ?_⟩
 refine (seenF s1).mono ?_
 rintro e w1 ⟨g, rfl, s2⟩
 clear hs s1 hbx
 gi_wp2_with fail
 refine wpIn_rangeSat (F := Fence.wide) (n := 4) rfl (by decide) (gf := 44) (lb := #[.pointer (some ⟨g, 0, none⟩)]) rfl trivial (enters_of Tryz.func44 (by kernel_rfl) rfl) s2 ?_
 intro fn lr D' rd W1 hfn hlr hD hrd s3
 clear hlr hD s2
 have s4 : Sat W0 W1 (seg true g 0 [.slice p n c] :: opsR p xs :: snJ bx (bx + 1) 0 l (obj lr (rd .ready none)) (obj D' (.deferred (some []))) :: L) := by
  have h1 := ((s3.rowNil 1).rowNil 1).emp
  have h2 : Sat W0 W1 (ownRuns [] :: row none 0 1 0 (([] : List RPiece).map runsV) :: row none 0 1 0 (codesV (l.take 0)) :: obj lr (rd .ready none) :: obj D' (.deferred (some [])) :: seg true g 0 [.slice p n c] :: seg true (bx + 1) 0 [.slice none 0 0] :: seg true bx 0 [.slice none 0 0] :: opsR p xs :: L) := h1
  have h3 : Sat W0 W1 (snJ bx (bx + 1) 0 l (obj lr (rd .ready none)) (obj D' (.deferred (some []))) :: seg true g 0 [.slice p n c] :: opsR p xs :: L) := snShut (none, 0, none, 0, []) rfl rfl (h2.f : Sat W0 W1 (obj lr (rd .ready none) :: obj D' (.deferred (some [])) :: snL bx (bx + 1) 0 (none, 0, none, 0, []) l (seg true g 0 [.slice p n c] :: opsR p xs :: L)))
  exact h3.f
 clear s3
 refine (seenIter HL.out.2.2.1 xs HL.out.2.2.2.1 HL.out.2.2.2.2.1 HL.out.2.2.2.2.2.1 HL.out.2.2.2.2.2.2 (fun i => snJ bx (bx + 1) i l (obj lr (rd .ready none)) (obj D' (.deferred (some [])))) (fun _ => fun _ => False) lr 2 ?_ s4).mono ?_
 ·clear s4
  intro i W2 ⟨tp, tc, tr⟩ code X hi hget s5
  rw [← HL.out.2.1] at hget
  obtain ⟨q, hq1, hq2, s6⟩ := snOpen (show Sat W0 W2 (snJ bx (bx + 1) i l (obj lr (rd .ready none)) (obj D' (.deferred (some []))) :: runsA true tp tr :: X) from s5.pull 1)
  obtain ⟨⟨p1, c1, p2, c2, ts⟩, hqq⟩ : ∃ z, z = q := ⟨_, rfl⟩
  subst hqq
  simp only at hq1 hq2
  have hbig : n ≤ 1000000 := Nat.le_trans HL.out.2.2.2.2.1 HL.out.2.2.2.2.2.1
  have HQ := Lib.hid (And.intro hget (And.intro hq1 (And.intro hq2 hbig))); clear s5 hget hq1 hq2 hbig
  obtain ⟨lv, hlv⟩ : ∃ lv, lv = codesV (l.take i) := ⟨_, rfl⟩
  obtain ⟨rv, hrv⟩ : ∃ rv, rv = ts.map runsV := ⟨_, rfl⟩
  have s7 : Sat W0 W2 (obj lr (rd .ready none) :: row p1 c1 1 i lv :: row p2 c2 1 i rv :: seg true bx 0 [.slice p1 i c1] :: seg true (bx + 1) 0 [.slice p2 i c2] :: runsA true tp tr :: ownRuns ts :: obj D' (.deferred (some [])) :: X) := by
   rw [hlv, hrv]
   exact s6.f
  have HV := Lib.hid (And.intro hlv hrv); clear s6 hlv hrv
  subst hrd
  refine yieldSat (L := row p1 c1 1 i lv :: row p2 c2 1 i rv :: seg true bx 0 [.slice p1 i c1] :: seg true (bx + 1) 0 [.slice p2 i c2] :: runsA true tp tr :: ownRuns ts :: obj D' (.deferred (some [])) :: X) rfl hfn s7 ?a1 ?assign ?body
  case assign =>
   intro K hK
   gi_wp2
   exact hK
  case body =>
   clear s7
   intro W3 s8
   have s9 : Sat W0 W3 (row p1 c1 1 i lv :: seg true bx 0 [.slice p1 i c1] :: row p2 c2 1 i rv :: seg true (bx + 1) 0 [.slice p2 i c2] :: obj lr _ :: runsA true tp tr :: ownRuns ts :: obj D' (.deferred (some [])) :: X) := s8.f
   clear s8
   have e1 : W3.cell? ⟨bx, 0, none⟩ = some (.slice p1 i c1) := (s9.pull 1).at 0 rfl
   have z1 : bx < W3.heap.size := (s9.pull 1).lt (by simp)
   have hbig : i + 1 ≤ 1000000 := by have := HQ.out.2.2.2; omega
   obtain ⟨rn, hrn⟩ : ∃ k, k = tr.length := ⟨_, rfl⟩
   have e0 : runsV (tp, tc, tr) = .slice tp rn tc := by rw [hrn]; rfl
   rw [e0]
   have HRC := Lib.hid (And.intro e0 hrn); clear e0 hrn
   gi_wp2_with (first | (refine wplIn_append rfl (.tmp 12) (.tmp 14) 58 rfl Tryz.underlying58 HI.out.1.1 HI.out.1.2.1 HI.out.1.2.2.1 HI.out.1.2.2.2 rfl (by decide) (s9.alloc' _) rfl (some _) 1 1 rfl [.int .i64 code] rfl ((s9.alloc #[.int .i64 code] 28).news) (fun h => by cases h) (fun u hu => by rw [List.mem_singleton.1 hu]; rfl) (by unfold maxLen; omega) (by omega) ?_; intro p9 c9 w9 s10; clear s9; have e2 : w9.cell? ⟨bx, 0, none⟩ = some (.slice p1 i c1) := Sat.at (s10.pull 1) 0 rfl; have f2 : w9.frozen? ⟨bx, 0, none⟩ = false := Sat.fr (s10.pull 1) 0 (by simp); have z2 : bx < w9.heap.size := Sat.lt (s10.pull 1) (by simp); have e3 : w9.cell? ⟨bx + 1, 0, none⟩ = some (.slice p2 i c2) := Sat.at (s10.pull 3) 0 rfl; have z3 : bx + 1 < w9.heap.size := Sat.lt (s10.pull 3) (by simp); have s10b : Sat W0 w9 (seg true bx 0 [.slice p1 i c1] :: row p9 c9 1 (i + 1) (lv ++ [.int .i64 code]) :: row p2 c2 1 i rv :: seg true (bx + 1) 0 [.slice p2 i c2] :: obj lr _ :: runsA true tp tr :: ownRuns ts :: obj D' (.deferred (some [])) :: X) := s10.f; have s11 : Sat W0 (w9.setCell ⟨bx, 0, none⟩ (.slice p9 (i + 1) c9)) (seg true bx 0 [.slice p9 (i + 1) c9] :: _) := Sat.store s10b (i := 0) (by simp) (.slice p9 (i + 1) c9) (q := 0) rfl; clear s10 s10b; have s12 : Sat W0 (w9.setCell ⟨bx, 0, none⟩ (.slice p9 (i + 1) c9)) (row p2 c2 1 i rv :: seg true (bx + 1) 0 [.slice p2 i c2] :: row p9 c9 1 (i + 1) (lv ++ [.int .i64 code]) :: seg true bx 0 [.slice p9 (i + 1) c9] :: obj lr _ :: runsA true tp tr :: ownRuns ts :: obj D' (.deferred (some [])) :: X) := s11.f; clear s11) | (refine wplIn_append rfl (.tmp 16) (.tmp 18) 59 rfl Tryz.underlying59 HI.out.2.1 HI.out.2.2.1 HI.out.2.2.2.1 HI.out.2.2.2.2 rfl (by decide) (s12.alloc' _) rfl (some _) 1 1 rfl [.slice tp rn tc] rfl (by have h := (s12.alloc #[.slice tp rn tc] 47).news; have e : (w9.setCell ⟨bx, 0, none⟩ (.slice p9 (i + 1) c9)).heap.size = w9.heap.size := (by simp); rw [e] at h; exact h) (fun h => by cases h) (fun u hu => by rw [List.mem_singleton.1 hu]; rfl) (by unfold maxLen; omega) (by omega) ?_; intro p10 c10 w10 s13; clear s12; have e4 : w10.cell? ⟨bx + 1, 0, none⟩ = some (.slice p2 i c2) := Sat.at (s13.pull 1) 0 rfl; have f4 : w10.frozen? ⟨bx + 1, 0, none⟩ = false := Sat.fr (s13.pull 1) 0 (by simp); have z4 : bx + 1 < w10.heap.size := Sat.lt (s13.pull 1) (by simp); have s13b : Sat W0 w10 (seg true (bx + 1) 0 [.slice p2 i c2] :: row p10 c10 1 (i + 1) (rv ++ [.slice tp rn tc]) :: row p9 c9 1 (i + 1) (lv ++ [.int .i64 code]) :: seg true bx 0 [.slice p9 (i + 1) c9] :: obj lr _ :: runsA true tp tr :: ownRuns ts :: obj D' (.deferred (some [])) :: X) := s13.f; have s14 : Sat W0 (w10.setCell ⟨bx + 1, 0, none⟩ (.slice p10 (i + 1) c10)) (seg true (bx + 1) 0 [.slice p10 (i + 1) c10] :: _) := Sat.store s13b (i := 0) (by simp) (.slice p10 (i + 1) c10) (q := 0) rfl; clear s13 s13b))
   refine ⟨row p9 c9 1 (i + 1) (lv ++ [.int .i64 code]) :: row p10 c10 1 (i + 1) (rv ++ [.slice tp rn tc]) :: seg true bx 0 [.slice p9 (i + 1) c9] :: seg true (bx + 1) 0 [.slice p10 (i + 1) c10] :: runsA true tp tr :: ownRuns ts :: obj D' (.deferred (some [])) :: X, s14.f, ?_⟩
   intro W4 s15
   clear s14
   have hl := List.getElem?_eq_some_iff.1 HQ.out.1
   have ht : l.take (i + 1) = l.take i ++ [(code, tr)] := by rw [List.take_succ_eq_append_getElem hl.1, hl.2]
   refine snShut (p9, c9, p10, c10, ts ++ [(tp, tc, tr)]) (by rw [List.length_append, HQ.out.2.1]; rfl) (by rw [ht, List.map_append, List.map_append, HQ.out.2.2.1]; rfl) ?_
   rw [HV.out.1, HV.out.2, ← HRC.out.1] at s15
   have h1 : codesV (l.take (i + 1)) = codesV (l.take i) ++ [.int .i64 code] := by rw [ht]; unfold codesV; rw [List.map_append]; rfl
   have h2 : (ts ++ [(tp, tc, tr)]).map runsV = ts.map runsV ++ [runsV (tp, tc, tr)] := by rw [List.map_append]; rfl
   show Sat W0 W4 (obj lr _ :: obj D' _ :: seg true bx 0 [.slice p9 (i + 1) c9] :: seg true (bx + 1) 0 [.slice p10 (i + 1) c10] :: row p9 c9 1 (i + 1) (codesV (l.take (i + 1))) :: row p10 c10 1 (i + 1) ((ts ++ [(tp, tc, tr)]).map runsV) :: ownRuns (ts ++ [(tp, tc, tr)]) :: X)
   rw [h1, h2]
   have s16 : Sat W0 W4 (ownRuns (ts ++ [(tp, tc, tr)]) :: _) := ownPush (t := (tp, tc, tr)) (s15.f : Sat W0 W4 (runsA true tp tr :: ownRuns ts :: obj lr _ :: obj D' (.deferred (some [])) :: seg true bx 0 [.slice p9 (i + 1) c9] :: seg true (bx + 1) 0 [.slice p10 (i + 1) c10] :: row p9 c9 1 (i + 1) (codesV (l.take i) ++ [.int .i64 code]) :: row p10 c10 1 (i + 1) (ts.map runsV ++ [runsV (tp, tc, tr)]) :: X))
   exact s16.f
 ·clear s4
  rintro e W2 ⟨⟨v, rfl⟩, s6 | ⟨i, hi, hF⟩⟩
  rotate_left
  ·exact (hF.fact fun x hx => hx).elim
  subst hrd
  obtain ⟨q, hq1, hq2, s7⟩ := snOpen s6
  clear s6
  have HQ := Lib.hid (And.intro hq1 hq2); clear hq1 hq2
  refine ⟨⟨_, rfl⟩, .ready, none, snL bx (bx + 1) n q l (opsR p xs :: L), (fun h => by cases h), s7.f, ?_⟩
  clear s7
  intro W5 s8 hD
  have s9 : Sat W0 W5 (seg true bx 0 [.slice q.1 n q.2.1] :: seg true (bx + 1) 0 [.slice q.2.2.1 n q.2.2.2.1] :: obj D' (.deferred (some [])) :: row q.1 q.2.1 1 n (codesV (l.take n)) :: row q.2.2.1 q.2.2.2.1 1 n (q.2.2.2.2.map runsV) :: ownRuns q.2.2.2.2 :: opsR p xs :: L) := s8.f
  clear s8
  have s9 := s9.drew
  have e1 : W5.drew.cell? ⟨bx, 0, none⟩ = some (.slice q.1 n q.2.1) := s9.at 0 rfl
  have z1 := s9.lt (by simp)
  have e2 : W5.drew.cell? ⟨bx + 1, 0, none⟩ = some (.slice q.2.2.1 n q.2.2.2.1) := Sat.at (s9.pull 1) 0 rfl
  have z2 : bx + 1 < W5.drew.heap.size := Sat.lt (s9.pull 1) (by simp)
  have HS := Lib.hid s9; clear s9
  gi_wp2_with fail
  gi_region
  all_goals
   gi_wp2
   have sr := HS.out
   have hD' := (sr.f : Sat W0 _ (obj D' (.deferred (some [])) :: [])).obj.1
   have s6 := (sr.f : Sat W0 _ (obj D' (.deferred (some [])) :: row q.1 q.2.1 1 n (codesV (l.take n)) :: row q.2.2.1 q.2.2.2.1 1 n (q.2.2.2.2.map runsV) :: ownRuns q.2.2.2.2 :: opsR p xs :: L)).putObj (.deferred none) rfl
   refine ⟨by simp, .inl ⟨_, _, rfl, run_takeDeferred hD', ?_⟩⟩
   have hl : l.take n = l := List.take_of_length_le (by rw [HL.out.1]; exact Nat.le_refl _)
   have hq2 := HQ.out.2
   rw [hl] at s6 hq2
   refine ⟨.tuple #[.slice q.1 n q.2.1, .slice q.2.2.1 n q.2.2.2.1], ?_, q, rfl, HQ.out.1, hq2, ?_⟩
   ·simp [results, Tryz.results25, go_sem]
   ·exact s6.f
end
end Go.Proofs.YtbefjaodpbgpcaaGreat
