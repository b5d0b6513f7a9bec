
/- A ledger's runs from a number on; two lists of runs held against each other; under the conditions that each names. -/
import Derived.Test.YtbefjaodpbgpcaaGreatGG
namespace Go.Proofs.YtbefjaodpbgpcaaGreat
open Go.RowKit Go.Sep Go.Bv
set_option linter.unusedVariables false
set_option linter.unusedSimpArgs false
/-- The runs of the events from a number on. -/
def sinceR : List Run3 → Nat → List Run3
 | [], _ => []
 | r :: rs, m => if r.2.2 ≤ m then sinceR rs (m - r.2.2) else (r.1, r.2.1, r.2.2 - m) :: rs
theorem sinceR_none : ∀ (rs : List Run3) (m : Nat), tot rs ≤ m → sinceR rs m = []
 | [], _, _ => rfl
 | r :: rs, m, h => by
  have h' : r.2.2 + tot rs ≤ m := h
  rw [sinceR, if_pos (by omega)]
  exact sinceR_none rs _ (by omega)
theorem sinceR_cut : ∀ (rs : List Run3) (m k : Nat) (r : Run3) (l : List Run3), rs.drop k = r :: l → tot (rs.take k) ≤ m → m < tot (rs.take k) + r.2.2 → sinceR rs m = (r.1, r.2.1, r.2.2 - (m - tot (rs.take k))) :: l
 | rs, m, 0, r, l, hd, h1, h2 => by
  rw [List.drop_zero] at hd
  subst hd
  simp only [List.take_zero, tot, Nat.zero_add] at h2 ⊢
  rw [sinceR, if_neg (by omega)]
  rfl
 | [], m, k + 1, r, l, hd, _, _ => by simp at hd
 | x :: rs, m, k + 1, r, l, hd, h1, h2 => by
  simp only [List.take_succ_cons, tot, List.drop_succ_cons] at hd h1 h2 ⊢
  rw [sinceR, if_pos (by omega), sinceR_cut rs (m - x.2.2) k r l hd (by omega) (by omega)]
  congr 3
  omega
theorem tot_take_le (rs : List Run3) (k : Nat) : tot (rs.take k) ≤ tot rs := by
 have h := tot_append (rs.take k) (rs.drop k)
 rw [List.take_append_drop] at h
 omega
theorem tot_take_succ {rs : List Run3} {k : Nat} {r : Run3} (h : rs[k]? = some r) : tot (rs.take (k + 1)) = tot (rs.take k) + r.2.2 := by
 obtain ⟨hk, hv⟩ := List.getElem?_eq_some_iff.1 h
 rw [List.take_succ_eq_append_getElem hk, tot_append, hv]; simp [tot]
theorem rowHead {W0 w : World} {L : List Assn} {p : Option Addr} {c m : Nat} {rs l : List Run3} {r : Run3} (hr : rs = r :: l) (h : Sat W0 w (row p c 3 m (rs.flatMap enc3) :: L)) :
  ∃ g rest, p = some ⟨g, 0, none⟩ ∧ Sat W0 w (seg true g 0 (.int .u8 r.1 :: .int .i64 r.2.1 :: .int .i64 (r.2.2 : Int) :: (l.flatMap enc3 ++ rest)) :: L) := by
 subst hr
 obtain ⟨hl, ⟨-, -, -, h0, -⟩ | ⟨g, rest, rfl, h1, h2, h3, h4⟩⟩ := h.rowOpen
 ·simp [enc3] at h0
 ·exact ⟨g, rest, rfl, h4⟩
set_option maxRecDepth 100000 in
set_option maxHeartbeats 4000000 in
theorem ledSince {W0 w : World} {L : List Assn} {l mark : Nat} {rs : List Run3} (hl : rs.length ≤ 1000000000) (hb : tot rs ≤ 4611686018427387904) (hm : mark < tot rs) (hs : Sat W0 w (led l rs :: L)) :
  Calls Tryz.prog 17 #[.pointer (some ⟨l, 0, none⟩), .int .i64 (mark : Int)] w fun e w' => ∃ q c, e = .returned (.slice q (sinceR rs mark).length c) ∧ Sat W0 w' (runsA true q (sinceR rs mark) :: led l rs :: L) := by
 obtain ⟨p, cp, s1⟩ := ledOpen hs
 clear hs
 obtain ⟨n, hn⟩ : ∃ n, n = rs.length := ⟨_, rfl⟩
 obtain ⟨N, hN⟩ : ∃ N, N = tot rs := ⟨_, rfl⟩
 rw [← hn, ← hN] at s1
 rw [← hN] at hb hm
 rw [← hn] at hl
 have c0 := s1.at 0 rfl
 have c1 := s1.at 1 rfl
 have z0 := s1.lt (by simp)
 have hcell : ∀ k r, rs[k]? = some r → ∃ g, p = some ⟨g, 0, none⟩ ∧ w.cell? ⟨g, k * 3 + 2, none⟩ = some (.int .i64 (r.2.2 : Int)) ∧ g < w.heap.size := by
  intro k r hk
  have hr : Sat W0 w (row p cp 3 n (rs.flatMap enc3) :: _) := s1.pull 1
  obtain ⟨hrl, ⟨-, -, h0, -, -⟩ | ⟨g, rest, rfl, hcap, hmx, hcl, hg⟩⟩ := hr.rowOpen
  ·have := (List.getElem?_eq_some_iff.1 hk).1; omega
  ·exact ⟨g, rfl, (row3 hg hk).2.2, hg.lt (by rw [hcl]; have := (List.getElem?_eq_some_iff.1 hk).1; omega)⟩
 have HN := Lib.hid (And.intro hn (And.intro hN (And.intro hcell s1))); clear hn hN hcell s1
 have hmI : ¬ (N : Int) ≤ (mark : Int) := by omega
 go_enter Tryz.func17, Tryz.ntmps17
 go_wp2
 go_loopw [5, 6] (fun t5 t6 wr => ∃ k at_ : Nat, k ≤ n ∧ t6 = .int .i64 (k : Int) ∧ t5 = .int .i64 (at_ : Int) ∧ at_ = tot (rs.take k) ∧ (k = n ∨ mark < tot (rs.take (k + 1))) ∧ wr = w) (fun _ t6 _ => (intOf t6).toNat)
 case atStart => exact ⟨n, N, Nat.le_refl _, rfl, rfl, by rw [HN.out.1, List.take_length]; exact HN.out.2.1, .inl rfl, rfl⟩
 case round =>
  obtain ⟨k, at_, hk, rfl, rfl, hat, hup, rfl⟩ := hrel
  have hatN : at_ ≤ N := by rw [hat, HN.out.2.1]; exact tot_take_le rs k
  by_cases hgo : mark < at_
  ·have hk0 : 0 < k := by
    rcases Nat.eq_zero_or_pos k with h | h
    ·subst h; rw [hat] at hgo; exact absurd hgo (by simp [tot])
    ·exact h
   obtain ⟨j, rfl⟩ : ∃ j, k = j + 1 := ⟨k - 1, by omega⟩
   obtain ⟨r, hr⟩ : ∃ r, rs[j]? = some r := ⟨rs[j]'(by rw [← HN.out.1]; omega), List.getElem?_eq_getElem _⟩
   obtain ⟨g, rfl, hc, hg⟩ := HN.out.2.2.1 j r hr
   have hts := tot_take_succ hr
   obtain ⟨x, hx⟩ : ∃ x, x = r.2.2 := ⟨_, rfl⟩
   rw [← hx] at hc hts
   have hsub : at_ - x = tot (rs.take j) ∧ x ≤ at_ := by omega
   have hup2 : mark < tot (rs.take (j + 1)) := by omega
   have HX := Lib.hid (And.intro hsub.1 hup2)
   have hxa := hsub.2
   clear hsub hup2 hts hat hup hx hr
   have e1 : ((j + 1 : Nat) : Int) - 1 = (j : Int) := by omega
   have e2 : (at_ : Int) - (x : Int) = ((at_ - x : Nat) : Int) := by omega
   have g1 : (0 : Int) < ((j + 1 : Nat) : Int) := by omega
   have g2 : (mark : Int) < (at_ : Int) := by omega
   have g3 : (j : Int) < (n : Int) := by omega
   go_wp2
   go_roundw
   case rel => exact ⟨j, at_ - x, by omega, by go_num, by go_num, HX.out.1, .inr HX.out.2, by first | trivial | rfl⟩
   case measure => first | (simp [intOf]; done) | (simp [intOf]; omega)
  ·have hkn : k < n := by
    rcases hup with h | h
    ·subst h; rw [hat, HN.out.1, List.take_length, ← HN.out.2.1] at hgo; omega
    ·rcases Nat.lt_or_ge k n with h' | h'
     ·exact h'
     ·have : tot (rs.take k) = N := by rw [List.take_of_length_le (by rw [← HN.out.1]; exact h'), HN.out.2.1]
      rw [hat, this] at hgo; omega
   obtain ⟨r, hr⟩ : ∃ r, rs[k]? = some r := ⟨rs[k]'(by rw [← HN.out.1]; exact hkn), List.getElem?_eq_getElem _⟩
   have hdr : rs.drop k = r :: rs.drop (k + 1) := by
    rw [List.drop_eq_getElem_cons (by rw [← HN.out.1]; exact hkn), (List.getElem?_eq_some_iff.1 hr).2]
   have hup2 : mark < at_ + r.2.2 := by
    rcases hup with h | h
    ·omega
    ·rw [tot_take_succ hr, ← hat] at h; exact h
   have hcut := sinceR_cut rs mark k r _ hdr (by rw [← hat]; omega) (by rw [← hat]; exact hup2)
   rw [← hat] at hcut
   have hlen : (sinceR rs mark).length = n - k := by rw [hcut, List.length_cons, List.length_drop, ← HN.out.1]; omega
   obtain ⟨r0, r1, r2⟩ := r
   simp only at hup2 hcut
   have s1 := HN.out.2.2.2
   have t1 := s1.alloc #[] 72
   have t2 : Sat W0 _ (row (some ⟨wr.heap.size, 0, none⟩) 0 3 0 (([] : List Run3).flatMap enc3) :: seg true l 0 [.slice p n cp, .int .i64 (N : Int)] :: row p cp 3 n (rs.flatMap enc3) :: L) := t1.rowMade (rest := []) (sz := 3) (n := 0) (cap := 0) rfl rfl (Nat.le_refl _) (Nat.zero_le _)
   have q2 : Sat W0 _ (row p cp 3 n (rs.flatMap enc3) :: _) := t2.pull 2
   obtain ⟨hrl, ⟨-, -, h0, -, -⟩ | ⟨g, rest, rfl, hcap, hmx, hcl, hg⟩⟩ := q2.rowOpen
   ·omega
   have hfd : ∀ j u, ((rs.drop k).flatMap enc3)[j]? = some u → ((rs.flatMap enc3) ++ rest)[k * 3 + j]? = some u := by
    intro j u hu
    have e : rs.flatMap enc3 = (rs.take k).flatMap enc3 ++ (rs.drop k).flatMap enc3 := by rw [← List.flatMap_append, List.take_append_drop]
    have e2 : ((rs.take k).flatMap enc3).length = k * 3 := by rw [fm_len len3, List.length_take, Nat.min_eq_left (by rw [← HN.out.1]; omega)]
    rw [e, List.append_assoc, List.getElem?_append_right (by omega), e2, Nat.add_sub_cancel_left, List.getElem?_append_left (List.getElem?_eq_some_iff.1 hu).1]
    exact hu
   have hn2 : ∀ j u, ((rs.drop k).flatMap enc3)[j]? = some u → ∃ ad, (some ⟨g, k * 3, none⟩ : Option Addr) = some ad ∧ (wr.alloc (.cells #[] 72)).cell? (ad.add j) = some u := fun j u hu => ⟨_, rfl, by rw [add_lit', ← Nat.zero_add (k * 3 + j)]; exact hg.cell (hfd j u hu)⟩
   have hnl : ((rs.drop k).flatMap enc3).length = (n - k) * 3 := by rw [fm_len len3, List.length_drop, ← HN.out.1]
   have hr2 : r2 ≤ N := by
    rw [HN.out.2.1]
    have h1 := tot_take_succ hr
    have h2 := tot_take_le rs (k + 1)
    simp only at h1
    omega
   obtain ⟨i3, hi3, hz3, hs3, hb3⟩ := info_parts Tryz.info_run
   have c0 := (HN.out.2.2.2).at 0 rfl
   have z0 := (HN.out.2.2.2).lt (by simp)
   have HB := Lib.hid (And.intro hnl (And.intro hn2 (And.intro hcut (And.intro hlen (And.intro hdr hup2))))); clear hnl hn2 hcut hlen hdr hup2 hrl hmx hcl hg q2 t1 s1 hfd hr hup hat hatN
   have hkc : k ≤ n := by omega
   have hgo2 : ¬ (mark : Int) < (at_ : Int) := by omega
   have HW := Lib.hid HN.out.2.2.2
   have HT2 := Lib.hid t2; clear t2
   have hnk0 : 0 < n - k := by omega
   by_cases hma : at_ < mark
   ·have g4 : (at_ : Int) < (mark : Int) := by omega
    have e5 : (mark : Int) - (at_ : Int) = ((mark - at_ : Nat) : Int) := by omega
    have e6 : (r2 : Int) - ((mark - at_ : Nat) : Int) = ((r2 - (mark - at_) : Nat) : Int) := by have := HB.out.2.2.2.2.2; omega
    go_wp2_with (refine wpl_append rfl (.tmp 46) (.tmp 52) 47 rfl Tryz.underlying47 hi3 hz3 hs3 hb3 rfl (by decide) HT2.out rfl (some ⟨g, k * 3, none⟩) (n - k) (cp - k) rfl ((rs.drop k).flatMap enc3) HB.out.1 HB.out.2.1 (fun h => by cases h) (enc3_one _) (by unfold maxLen; omega) (by omega) ?_; intro p2 c2 w2 s2 _ _; rw [List.flatMap_nil, List.nil_append] at s2; obtain ⟨g2, rest2, rfl, s3⟩ := rowHead HB.out.2.2.2.2.1 s2; clear s2; have c3 := s3.at 2 rfl; have f3 := s3.fr 2 (by simp); have z3 := s3.lt (by simp))
    all_goals
     have s4 := s3.store (i := 2) (by simp) (.int .i64 ((r2 - (mark - at_) : Nat) : Int)) (q := 2) rfl
     have HS := Lib.hid s4; clear s3 s4
     go_ret
     rw [HB.out.2.2.2.1]
     refine ⟨_, ⟨_, rfl⟩, ?_⟩
     rw [HB.out.2.2.1]
     have s5 : Sat W0 _ (seg true g2 0 (((r0, r1, r2 - (mark - at_)) :: rs.drop (k + 1)).flatMap enc3 ++ rest2) :: _) := HS.out
     have s5b : Sat W0 _ (seg true g2 0 (((r0, r1, r2 - (mark - at_)) :: rs.drop (k + 1)).flatMap enc3) :: seg true g2 (0 + (((r0, r1, r2 - (mark - at_)) :: rs.drop (k + 1)).flatMap enc3).length) rest2 :: seg true l 0 [.slice (some ⟨g, 0, none⟩) n cp, .int .i64 (N : Int)] :: row (some ⟨g, 0, none⟩) cp 3 n (rs.flatMap enc3) :: L) := s5.part rfl
     have s6 := runsOf s5b
     have s7 : Sat W0 _ (seg true l 0 [.slice (some ⟨g, 0, none⟩) n cp, .int .i64 (N : Int)] :: row (some ⟨g, 0, none⟩) cp 3 n (rs.flatMap enc3) :: runsA true _ _ :: L) := s6.f
     rw [HN.out.1, HN.out.2.1] at s7
     exact (ledShut s7).pull 1
   ·have g4 : ¬ (at_ : Int) < (mark : Int) := by omega
    have hme : mark = at_ := by omega
    subst hme
    go_wp2_with (refine wpl_append rfl (.tmp 46) (.tmp 52) 47 rfl Tryz.underlying47 hi3 hz3 hs3 hb3 rfl (by decide) HT2.out rfl (some ⟨g, k * 3, none⟩) (n - k) (cp - k) rfl ((rs.drop k).flatMap enc3) HB.out.1 HB.out.2.1 (fun h => by cases h) (enc3_one _) (by unfold maxLen; omega) (by omega) ?_; intro p2 c2 w2 s2 _ _; rw [List.flatMap_nil, List.nil_append] at s2)
    all_goals
     have HS := Lib.hid s2; clear s2
     go_ret
     rw [HB.out.2.2.2.1]
     refine ⟨_, ⟨_, rfl⟩, ?_⟩
     rw [HB.out.2.2.1, Nat.sub_self, Nat.sub_zero, ← HB.out.2.2.2.2.1]
     have s6 := rowRuns HS.out
     have s7 : Sat W0 _ (seg true l 0 [.slice (some ⟨g, 0, none⟩) n cp, .int .i64 (N : Int)] :: row (some ⟨g, 0, none⟩) cp 3 n (rs.flatMap enc3) :: runsA true _ _ :: L) := s6.f
     rw [HN.out.1, HN.out.2.1] at s7
     exact (ledShut s7).pull 1
set_option maxRecDepth 100000 in
set_option maxHeartbeats 4000000 in
/-- Two lists of runs, by the ledger's own comparison. -/
theorem ledSame {W0 w : World} {L : List Assn} {ca cb n k : Nat} {m1 m2 : Bool} {pa pb : Option Addr} (xs ys : List Run3) (hx : xs.length = n) (hy : ys.length = k) (hn : n ≤ 1000000000) (hs : Sat W0 w (runsA m1 pa xs :: runsA m2 pb ys :: L)) :
  Calls Tryz.prog 27 #[.slice pa n ca, .slice pb k cb] w fun e w' => e = .returned (.bool (decide (xs = ys))) ∧ Sat W0 w' (runsA m1 pa xs :: runsA m2 pb ys :: L) := by
 by_cases hnk : n = k
 rotate_left
 ·have hne : ¬ xs = ys := fun h => hnk (by rw [← hx, ← hy, h])
  have hd : decide (xs = ys) = false := decide_eq_false hne
  rw [hd]
  have hI : ((n : Int) != (k : Int)) = true := by rw [bne_iff_ne]; omega
  have HS := Lib.hid hs; clear hs hd hne hnk
  go_enter Tryz.func27, Tryz.ntmps27
  go_wp2
  go_ret
  exact ⟨rfl, HS.out⟩
 subst hnk
 have h0 : n ≠ 0 → ∃ ba oa bb ob, pa = some ⟨ba, oa, none⟩ ∧ pb = some ⟨bb, ob, none⟩ ∧ (∀ i v, (xs.flatMap enc3)[i]? = some v → w.cell? ⟨ba, oa + i, none⟩ = some v) ∧ (∀ i v, (ys.flatMap enc3)[i]? = some v → w.cell? ⟨bb, ob + i, none⟩ = some v) := by
  intro hne
  have hx0 : xs ≠ [] := by rintro rfl; exact hne (by rw [← hx]; rfl)
  have hy0 : ys ≠ [] := by rintro rfl; exact hne (by rw [← hy]; rfl)
  obtain ⟨ba, oa, rfl, h1⟩ := runsCell hs hx0
  obtain ⟨bb, ob, rfl, h2⟩ := runsCell (hs.pull 1 : Sat W0 w (runsA m2 pb ys :: _)) hy0
  exact ⟨ba, oa, bb, ob, rfl, rfl, fun i v hv => h1.cell hv, fun i v hv => h2.cell hv⟩
 have HN := Lib.hid (And.intro hx (And.intro hy h0)); clear hx hy h0
 have HS := Lib.hid hs; clear hs
 go_enter Tryz.func27, Tryz.ntmps27
 go_wp2
 go_loopw [13] (fun t13 wr => ∃ i k : Nat, i ≤ n ∧ t13 = .int .i64 (i : Int) ∧ (∀ j, j < i → xs[j]? = ys[j]?) ∧ wr = w.drewN k) (fun t13 _ => n - (intOf t13).toNat)
 case atStart => exact ⟨0, 0, Nat.zero_le _, rfl, fun j hj => absurd hj (Nat.not_lt_zero j), rfl⟩
 case round =>
  obtain ⟨i, k, hi, rfl, hall, rfl⟩ := hrel
  by_cases hlt : i < n
  ·obtain ⟨ba, oa, bb, ob, rfl, rfl, h1, h2⟩ := HN.out.2.2 (by omega)
   have hix : i < xs.length := by rw [HN.out.1]; exact hlt
   have hiy : i < ys.length := by rw [HN.out.2.1]; exact hlt
   have g : ∀ j, j < 3 → (xs.flatMap enc3)[i * 3 + j]? = (enc3 xs[i])[j]? := fun j hj => fm_get len3 xs i j hix hj
   have g' : ∀ j, j < 3 → (ys.flatMap enc3)[i * 3 + j]? = (enc3 ys[i])[j]? := fun j hj => fm_get len3 ys i j hiy hj
   obtain ⟨⟨x0, x1, x2⟩, hxx⟩ : ∃ x, x = xs[i] := ⟨_, rfl⟩
   obtain ⟨⟨y0, y1, y2⟩, hyy⟩ : ∃ y, y = ys[i] := ⟨_, rfl⟩
   have hgx : xs[i]? = some (x0, x1, x2) := by rw [hxx]; exact List.getElem?_eq_getElem hix
   have hgy : ys[i]? = some (y0, y1, y2) := by rw [hyy]; exact List.getElem?_eq_getElem hiy
   rw [← hxx] at g
   rw [← hyy] at g'
   have a0 := h1 _ _ (g 0 (by omega))
   have a1 := h1 _ _ (g 1 (by omega))
   have a2 := h1 _ _ (g 2 (by omega))
   have b0 := h2 _ _ (g' 0 (by omega))
   have b1 := h2 _ _ (g' 1 (by omega))
   have b2 := h2 _ _ (g' 2 (by omega))
   simp only [Nat.add_zero, ← Nat.add_assoc] at a0 a1 a2 b0 b1 b2
   have HG := Lib.hid (And.intro hgx (And.intro hgy hall)); clear g g' h1 h2 hxx hyy hix hiy hgx hgy hall
   by_cases he : x0 = y0 ∧ x1 = y1 ∧ x2 = y2
   ·obtain ⟨rfl, rfl, rfl⟩ := he
    go_wp2_with fail
    go_quiet (fail)
    go_wp2
    go_roundw
    case rel =>
     refine ⟨i + 1, _, by omega, by go_num, fun j hj => ?_, rfl⟩
     rcases Nat.lt_succ_iff_lt_or_eq.1 hj with h | h
     ·exact HG.out.2.2 j h
     ·rw [h, HG.out.1, HG.out.2.1]
    case measure => simp [intOf]; omega
   ·have hd : decide (xs = ys) = false := decide_eq_false fun h => he (by
     have h3 := HG.out.2.1
     rw [← h, HG.out.1] at h3
     simp only [Option.some.injEq, Prod.mk.injEq] at h3
     exact h3)
    have HD := Lib.hid hd; clear hd
    have hcase : (x0 == y0) = false ∨ (x0 = y0 ∧ (x1 == y1) = false) ∨ (x0 = y0 ∧ x1 = y1 ∧ ((x2 : Int) == (y2 : Int)) = false) := by
     by_cases h0 : x0 = y0
     ·by_cases h1 : x1 = y1
      ·refine .inr (.inr ⟨h0, h1, ?_⟩)
       rw [beq_eq_false_iff_ne]
       intro h2
       exact he ⟨h0, h1, by omega⟩
      ·exact .inr (.inl ⟨h0, by rw [beq_eq_false_iff_ne]; exact h1⟩)
     ·exact .inl (by rw [beq_eq_false_iff_ne]; exact h0)
    clear he
    rcases hcase with hc | ⟨rfl, hc⟩ | ⟨rfl, rfl, hc⟩
    all_goals
     go_wp2_with fail
     go_quiet (fail)
     go_wp2
     go_ret
     exact ⟨by rw [HD.out]; rfl, by first | exact HS.out.drewN _ | exact (HS.out.drewN _).drewN _⟩
  ·obtain rfl : i = n := by omega
   have hd : decide (xs = ys) = true := decide_eq_true (List.ext_getElem? fun j => by
    by_cases hj : j < i
    ·exact hall j hj
    ·rw [List.getElem?_eq_none (by rw [HN.out.1]; omega), List.getElem?_eq_none (by rw [HN.out.2.1]; omega)])
   have HD := Lib.hid hd; clear hd hall
   go_wp2
   go_ret
   exact ⟨by rw [HD.out]; rfl, by first | exact HS.out.drewN _ | exact (HS.out.drewN _).drewN _⟩
end Go.Proofs.YtbefjaodpbgpcaaGreat
