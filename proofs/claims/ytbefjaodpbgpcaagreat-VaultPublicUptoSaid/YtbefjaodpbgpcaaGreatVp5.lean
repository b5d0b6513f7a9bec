
import Derived.Test.YtbefjaodpbgpcaaGreatHL
set_option linter.unusedVariables false
set_option linter.unusedSimpArgs false
set_option maxRecDepth 100000
set_option maxHeartbeats 16000000
namespace Go.Proofs.YtbefjaodpbgpcaaGreat
open Go.RowKit Go.Sep
attribute [local go_sem] Oper.semAt_some
theorem Tryz.info_intH : (Tryz.prog.info? 3).map (fun i => (i.zero, i.size, i.bytes)) = some (some (.int .i64 0), 1, 8) := by kernel_rfl
theorem allocAtV {W0 w : World} {L : List Assn} (h : Sat W0 w L) (cs : Array Value) (T : TypeId) {q : Nat} (hq : q = w.heap.size) : Sat W0 (w.alloc (.cells cs T)) (seg true q 0 cs.toList :: L) := by
 subst hq; exact h.alloc cs T
abbrev intsH (l : List Nat) : List Value := l.map fun (i : Nat) => Value.int .i64 (i : Int)
def hdA (bl : Nat) (l : List Nat) : Assn := fun h => ∃ q : Option Addr × Nat, sep (seg true bl 0 [.slice q.1 l.length q.2]) (row q.1 q.2 1 l.length (intsH l)) h
theorem hdOpen {W0 w : World} {L : List Assn} {bl : Nat} {l : List Nat} (h : Sat W0 w (hdA bl l :: L)) : ∃ q c, Sat W0 w (seg true bl 0 [.slice q l.length c] :: row q c 1 l.length (intsH l) :: L) := by
 obtain ⟨q, h1⟩ := Sat.exOpen h
 exact ⟨q.1, q.2, h1.sepOpen⟩
theorem hdShut {W0 w : World} {L : List Assn} {bl c : Nat} {q : Option Addr} {l : List Nat} (h : Sat W0 w (seg true bl 0 [.slice q l.length c] :: row q c 1 l.length (intsH l) :: L)) : Sat W0 w (hdA bl l :: L) :=
 (Sat.sepShut h).imp fun x hx => ⟨(q, c), hx⟩
theorem idxH_le (held : List Bool) : ∀ n, (idxH held n).length ≤ n
 | 0 => Nat.le_refl _
 | n + 1 => by
  have := idxH_le held n
  unfold idxH
  split
  ·rw [List.length_append]; show _ + 1 ≤ _; omega
  ·omega
section
variable {σ : Type}
def hList (S : Sts σ) : List Nat := idxH (S.map (·.isSome)) 64
theorem heldVW {W0 w : World} {L : List Assn} {I : SesI σ} {v : Nat} {l : Option Nat} {S : Sts σ} (hs : Sat W0 w (vlt I v l S :: L)) :
  Calls Tryz.prog 21 #[.pointer (some ⟨v, 0, none⟩)] w fun e w' => ∃ q c, e = .returned (.slice q (hList S).length c) ∧ Sat W0 w' (row q c 1 (hList S).length (intsH (hList S)) :: vlt I v l S :: L) := by
 obtain ⟨t, hb, vb, T, rfl, hS, hT, s0⟩ := vltOpen hs
 clear hs
 obtain ⟨i1, hi1, hz1, hs1, hb1⟩ := info_parts Tryz.info_intH
 have HI := Lib.hid (And.intro hi1 (And.intro hz1 (And.intro hs1 hb1))); clear hi1 hz1 hs1 hb1
 have hoi : ∀ v ∈ valsC T, v.oneCell' = true := by
  intro v hv
  unfold valsC at hv
  obtain ⟨x, -, rfl⟩ := List.mem_map.1 hv
  unfold Slt.v
  split <;> rfl
 have hli : hList (T.map Slt.th) = idxH (heldC T) 64 := by
  unfold hList heldC
  rw [List.map_map]
  congr 1
  refine List.map_congr_left fun s _ => ?_
  simp [Slt.th]
 rw [hli]
 have hal := fun (w : World) (X : List Assn) (s : Sat W0 w (tabC t hb vb (heldC T) (valsC T) X)) => all_th (heldC_len hT) (valsC_len hT) (by decide) (by decide) hoi s
 have hH0 : ∀ (r : List Value) i, i < 64 → ((heldC T).map Value.bool ++ r)[i]? = some (.bool ((heldC T).getD i false)) := fun r i hi => by
  rw [List.getElem?_append_left (by rw [List.length_map, heldC_len hT]; exact hi)]
  exact bool_at _ _ (by rw [heldC_len hT]; exact hi)
 have hV0 : ∀ (r : List Value) i, i < 64 → (valsC T ++ r)[i]? = some ((valsC T).getD i .nilIface) := fun r i hi => by
  rw [List.getElem?_append_left (by rw [valsC_len hT]; exact hi), List.getD_eq_getElem?_getD, List.getElem?_eq_getElem (by rw [valsC_len hT]; exact hi)]
  rfl
 have hle := idxH_le (heldC T) 64
 obtain ⟨ks, hks⟩ : ∃ ks, ks = idxH (heldC T) 64 := ⟨_, rfl⟩
 obtain ⟨k, hk⟩ : ∃ k, k = ks.length := ⟨_, rfl⟩
 rw [← hks, ← hk]
 have HN := Lib.hid (And.intro hS (And.intro hT (And.intro hal (And.intro hH0 (And.intro hV0 hle))))); clear hS hT hal hH0 hV0 hoi hli hle
 have HZ := Lib.hid (And.intro hks hk); clear hks hk
 obtain ⟨bl, hbl⟩ : ∃ bl, bl = w.heap.size := ⟨_, rfl⟩
 have s1 := allocAtV s0 #[.slice none 0 0] 52 (q := bl) hbl
 have c0 := (s1.pull 1).at 0 rfl
 have z0 := Sat.lt (s1.pull 1) (by simp [vlC])
 refine (callsIn_wide (n := 4)).1 ?_
 refine callsIn_of_wp_marks Tryz.func21 rfl trivial ?_ rfl
 simp only [Tryz.ntmps21, List.size_toArray, List.length_cons, List.length_nil, Nat.reduceAdd, Nat.reduceSub, Array.replicate_succ, Array.replicate_zero, List.push_toArray, List.append_toArray, List.nil_append, List.cons_append]
 gi_wp2_with fail
 refine ⟨trivial, callsIn_wide.2 ?_⟩
 refine (vIs s0).mono ?_
 rintro e w1 ⟨rfl, rfl⟩
 gi_wp2_with fail
 rw [← hbl]
 refine ⟨trivial, callsIn_wide.2 ?_⟩
 refine (HN.out.2.2.1 _ (seg true bl 0 [.slice none 0 0] :: seg true v 0 (vlC t l T) :: stars (T.map (Slt.A I)) :: L) s1.f).mono ?_
 rintro e w2 ⟨g, p1, c1, p2, c2, rfl, s2⟩
 clear s0 s1 c0 z0 hbl
 have s3 : Sat W0 w2 (row p1 c1 1 64 ((heldC T).map .bool) :: row p2 c2 1 64 (valsC T) :: seg true g 0 [.slice p1 64 c1, .slice p2 64 c2] :: tabC t hb vb (heldC T) (valsC T) (seg true bl 0 [.slice none 0 0] :: seg true v 0 (vlC t l T) :: stars (T.map (Slt.A I)) :: L)) := s2.f
 clear s2
 obtain ⟨-, ⟨-, -, h0, -, -⟩ | ⟨h1, r1, rfl, -, -, -, s4⟩⟩ := s3.rowOpen
 ·exact absurd h0 (by decide)
 have s5 : Sat W0 w2 (row p2 c2 1 64 (valsC T) :: seg true h1 0 ((heldC T).map Value.bool ++ r1) :: seg true g 0 [.slice (some ⟨h1, 0, none⟩) 64 c1, .slice p2 64 c2] :: tabC t hb vb (heldC T) (valsC T) (seg true bl 0 [.slice none 0 0] :: seg true v 0 (vlC t l T) :: stars (T.map (Slt.A I)) :: L)) := s4.f
 clear s3 s4
 obtain ⟨-, ⟨-, -, h0, -, -⟩ | ⟨h2, r2, rfl, -, -, -, s6⟩⟩ := s5.rowOpen
 ·exact absurd h0 (by decide)
 obtain ⟨HB, hHB⟩ : ∃ z, z = (heldC T).map Value.bool ++ r1 := ⟨_, rfl⟩
 obtain ⟨VB, hVB⟩ : ∃ z, z = valsC T ++ r2 := ⟨_, rfl⟩
 have hH := HN.out.2.2.2.1 r1
 have hV := HN.out.2.2.2.2.1 r2
 rw [← hHB] at hH s6
 rw [← hVB] at hV s6
 obtain ⟨vv, hvv⟩ : ∃ f : Nat → Value, f = fun i => (valsC T).getD i .nilIface := ⟨_, rfl⟩
 have hV2 : ∀ i, i < 64 → VB[i]? = some (vv i) := fun i hi => by rw [hvv]; exact hV i hi
 have HV := Lib.hid (And.intro hH hV2); clear hH hV hV2 hHB hVB hvv s5
 have s7 : Sat W0 w2 (seg true g 0 [.slice (some ⟨h1, 0, none⟩) 64 c1, .slice (some ⟨h2, 0, none⟩) 64 c2] :: seg true h1 0 HB :: seg true h2 0 VB :: seg true bl 0 [.slice none 0 0] :: vltL I v l t hb vb T L) := s6.f
 clear s6
 gi_wp2_with fail
 refine wpIn_rangeSat (F := Fence.wide) (n := 4) rfl (by decide) (gf := 60) (lb := #[.pointer (some ⟨g, 0, none⟩)]) rfl trivial (enters_of Tryz.func60 (by kernel_rfl) rfl) s7 ?_
 intro fn lr D rd W1 hfn hlr hD hrd s8
 clear hlr hD s7
 have s9 : Sat W0 W1 (seg true g 0 [.slice (some ⟨h1, 0, none⟩) 64 c1, .slice (some ⟨h2, 0, none⟩) 64 c2] :: seg true h1 0 HB :: seg true h2 0 VB :: obj lr (rd .ready none) :: obj D (.deferred (some [])) :: hdA bl (idxH (heldC T) 0) :: vltL I v l t hb vb T L) := by
  have h1' := s8.rowNil 1
  have h2' := hdShut (q := none) (c := 0) (l := []) (h1'.f : Sat W0 W1 (seg true bl 0 [.slice none 0 0] :: row none 0 1 0 [] :: obj lr (rd .ready none) :: obj D (.deferred (some [])) :: seg true g 0 [.slice (some ⟨h1, 0, none⟩) 64 c1, .slice (some ⟨h2, 0, none⟩) 64 c2] :: seg true h1 0 HB :: seg true h2 0 VB :: vltL I v l t hb vb T L))
  have h3' : Sat W0 W1 (hdA bl (idxH (heldC T) 0) :: obj lr (rd .ready none) :: obj D (.deferred (some [])) :: seg true g 0 [.slice (some ⟨h1, 0, none⟩) 64 c1, .slice (some ⟨h2, 0, none⟩) 64 c2] :: seg true h1 0 HB :: seg true h2 0 VB :: vltL I v l t hb vb T L) := h2'
  exact h3'.f
 clear s8
 obtain ⟨hd, hhd⟩ : ∃ h, h = heldC T := ⟨_, rfl⟩
 refine thIter (m := 2) (heldC T) vv HB VB HV.out.1 HV.out.2 (by decide) (by decide) (fun i => obj lr (rd .ready none) :: obj D (.deferred (some [])) :: hdA bl (idxH (heldC T) i) :: vltL I v l t hb vb T L) (fun i hd => by rw [show idxH (heldC T) (i + 1) = idxH (heldC T) i by rw [idxH, hd]; rfl]) _ lr ?_ ?_ s9
 ·clear s9
  intro i W2 hi hdi sa
  have hup : idxH (heldC T) (i + 1) = idxH (heldC T) i ++ [i] := by rw [idxH, hdi]; rfl
  obtain ⟨ks, hks⟩ : ∃ ks, ks = idxH (heldC T) i := ⟨_, rfl⟩
  have hkl : ks.length ≤ 64 := by rw [hks]; exact Nat.le_trans (idxH_le _ _) (by omega)
  rw [← hks] at sa hup
  obtain ⟨k, hk⟩ : ∃ k, k = ks.length := ⟨_, rfl⟩
  obtain ⟨q, c, sb⟩ := hdOpen (sa.f : Sat W0 W2 (hdA bl ks :: obj lr (rd .ready none) :: obj D (.deferred (some [])) :: seg true g 0 [.slice (some ⟨h1, 0, none⟩) 64 c1, .slice (some ⟨h2, 0, none⟩) 64 c2] :: seg true h1 0 HB :: seg true h2 0 VB :: vltL I v l t hb vb T L))
  rw [← hk] at sb hkl
  obtain ⟨lv, hlv⟩ : ∃ lv, lv = intsH ks := ⟨_, rfl⟩
  rw [← hlv] at sb
  have HK := Lib.hid (And.intro hk (And.intro hlv (And.intro hup hks))); clear hk hlv hup hks hdi sa
  subst hrd
  refine yieldSat (L := row q c 1 k lv :: seg true bl 0 [.slice q k c] :: obj D (.deferred (some [])) :: seg true g 0 [.slice (some ⟨h1, 0, none⟩) 64 c1, .slice (some ⟨h2, 0, none⟩) 64 c2] :: seg true h1 0 HB :: seg true h2 0 VB :: vltL I v l t hb vb T L) rfl hfn sb.f ?a1 ?assign ?body
  case assign =>
   intro K hK
   gi_wp2
   exact hK
  case body =>
   clear sb
   intro W3 sc
   have sd : Sat W0 W3 (row q c 1 k lv :: seg true bl 0 [.slice q k c] :: obj lr _ :: obj D (.deferred (some [])) :: seg true g 0 [.slice (some ⟨h1, 0, none⟩) 64 c1, .slice (some ⟨h2, 0, none⟩) 64 c2] :: seg true h1 0 HB :: seg true h2 0 VB :: vltL I v l t hb vb T L) := sc.f
   clear sc
   have e1 : W3.cell? ⟨bl, 0, none⟩ = some (.slice q k c) := (sd.pull 1).at 0 rfl
   have z1 : bl < W3.heap.size := (sd.pull 1).lt (by simp)
   gi_wp2_with (refine wplIn_append rfl (.tmp 16) (.tmp 18) 52 rfl Tryz.underlying52 HI.out.1 HI.out.2.1 HI.out.2.2.1 HI.out.2.2.2 rfl (by decide) (sd.alloc' _) rfl (some _) 1 1 rfl [.int .i64 (i : Int)] rfl ((sd.alloc #[.int .i64 (i : Int)] 3).news) (fun h => by cases h) (fun u hu => by rw [List.mem_singleton.1 hu]; rfl) (by unfold maxLen; omega) (by omega) ?_; intro p9 c9 w9 se; clear sd; have e2 : w9.cell? ⟨bl, 0, none⟩ = some (.slice q k c) := Sat.at (se.pull 1) 0 rfl; have f2 : w9.frozen? ⟨bl, 0, none⟩ = false := Sat.fr (se.pull 1) 0 (by simp); have z2 : bl < w9.heap.size := Sat.lt (se.pull 1) (by simp); have sf : Sat W0 w9 (seg true bl 0 [.slice q k c] :: row p9 c9 1 (k + 1) (lv ++ [.int .i64 (i : Int)]) :: obj lr _ :: obj D (.deferred (some [])) :: seg true g 0 [.slice (some ⟨h1, 0, none⟩) 64 c1, .slice (some ⟨h2, 0, none⟩) 64 c2] :: seg true h1 0 HB :: seg true h2 0 VB :: vltL I v l t hb vb T L) := se.f; have sg : Sat W0 (w9.setCell ⟨bl, 0, none⟩ (.slice p9 (k + 1) c9)) (seg true bl 0 [.slice p9 (k + 1) c9] :: _) := Sat.store sf (i := 0) (by simp) (.slice p9 (k + 1) c9) (q := 0) rfl; clear se sf)
   refine ⟨row p9 c9 1 (k + 1) (lv ++ [.int .i64 (i : Int)]) :: seg true bl 0 [.slice p9 (k + 1) c9] :: obj D (.deferred (some [])) :: seg true g 0 [.slice (some ⟨h1, 0, none⟩) 64 c1, .slice (some ⟨h2, 0, none⟩) 64 c2] :: seg true h1 0 HB :: seg true h2 0 VB :: vltL I v l t hb vb T L, sg.f, ?_⟩
   intro W4 sh
   clear sg
   have e9 : (intsH (idxH (heldC T) (i + 1))) = lv ++ [.int .i64 (i : Int)] := by rw [HK.out.2.2.1, HK.out.2.1]; unfold intsH; rw [List.map_append]; rfl
   have e8 : (idxH (heldC T) (i + 1)).length = k + 1 := by rw [HK.out.2.2.1, List.length_append, HK.out.1]; rfl
   have si := hdShut (q := p9) (c := c9) (l := idxH (heldC T) (i + 1)) (by rw [e9, e8]; exact (sh.f : Sat W0 W4 (seg true bl 0 [.slice p9 (k + 1) c9] :: row p9 c9 1 (k + 1) (lv ++ [.int .i64 (i : Int)]) :: obj lr _ :: obj D (.deferred (some [])) :: seg true g 0 [.slice (some ⟨h1, 0, none⟩) 64 c1, .slice (some ⟨h2, 0, none⟩) 64 c2] :: seg true h1 0 HB :: seg true h2 0 VB :: vltL I v l t hb vb T L)))
   exact si.f
 ·clear s9
  intro W2 sa
  subst hrd
  obtain ⟨q, c, sb⟩ := hdOpen (sa.f : Sat W0 W2 (hdA bl (idxH (heldC T) 64) :: obj lr _ :: obj D (.deferred (some [])) :: vltL I v l t hb vb T L))
  clear sa
  rw [← HZ.out.1, ← HZ.out.2] at sb
  refine ⟨.ready, none, seg true bl 0 [.slice q k c] :: row q c 1 k (intsH ks) :: vltL I v l t hb vb T L, (fun h => by cases h), sb.f, ?_⟩
  clear sb
  intro W5 sc hD'
  have sd : Sat W0 W5 (seg true bl 0 [.slice q k c] :: obj D (.deferred (some [])) :: row q c 1 k (intsH ks) :: vltL I v l t hb vb T L) := sc.f
  clear sc
  have e1 := sd.at 0 rfl
  have z1 := sd.lt (by simp)
  have HS := Lib.hid sd; clear sd
  gi_wp2
  have sr := HS.out
  have hDD := (sr.f : Sat W0 _ (obj D (.deferred (some [])) :: [])).obj.1
  have s6 := (sr.f : Sat W0 _ (obj D (.deferred (some [])) :: row q c 1 k (intsH ks) :: vltL I v l t hb vb T L)).putObj (.deferred none) rfl
  refine ⟨by simp, .inl ⟨_, _, rfl, run_takeDeferred hDD, ?_⟩⟩
  refine ⟨.slice q k c, ?_, q, c, rfl, ?_⟩
  ·simp [results, Tryz.results21, go_sem]
  ·have s7 := vltShut rfl HN.out.1 (s6.f : Sat W0 _ (vltL I v l t hb vb T (row q c 1 k (intsH ks) :: L)))
   exact s7.f
end
end Go.Proofs.YtbefjaodpbgpcaaGreat
