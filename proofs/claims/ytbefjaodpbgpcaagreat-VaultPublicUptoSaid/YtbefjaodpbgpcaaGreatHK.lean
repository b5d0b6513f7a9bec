/- Pr0, Pr1: texts that lie apart elsewhere, as one; each under the conditions that it names. -/
import Derived.Test.YtbefjaodpbgpcaaGreatGG
import Derived.Test.YtbefjaodpbgpcaaGreatVdo
import Derived.Test.YtbefjaodpbgpcaaGreatGI
set_option linter.unusedVariables false
set_option linter.unusedSimpArgs false
set_option maxRecDepth 100000
set_option maxHeartbeats 16000000
namespace Go.Proofs.YtbefjaodpbgpcaaGreat
open Go.RowKit Go.Sep Go.Bv
def sinceR : List Run3 → Nat → List Run3
 | [], _ => []
 | r :: rs, m => if r.2.2 ≤ m then sinceR rs (m - r.2.2) else (r.1, r.2.1, r.2.2 - m) :: rs
theorem sinceR_cut : ∀ (rs : List Run3) (m k : Nat) (r : Run3) (l : List Run3), rs.drop k = r :: l → tot (rs.take k) ≤ m → m < tot (rs.take k) + r.2.2 → sinceR rs m = (r.1, r.2.1, r.2.2 - (m - tot (rs.take k))) :: l
 | rs, m, 0, r, l, hd, h1, h2 => by
  rw [List.drop_zero] at hd
  subst hd
  simp only [List.take_zero, tot, Nat.zero_add] at h2 ⊢
  rw [sinceR, if_neg (by omega)]
  rfl
 | [], m, k + 1, r, l, hd, _, _ => by simp at hd
 | x :: rs, m, k + 1, r, l, hd, h1, h2 => by
  simp only [List.take_succ_cons, tot, List.drop_succ_cons] at hd h1 h2 ⊢
  rw [sinceR, if_pos (by omega), sinceR_cut rs (m - x.2.2) k r l hd (by omega) (by omega)]
  congr 3
  omega
theorem tot_take_le (rs : List Run3) (k : Nat) : tot (rs.take k) ≤ tot rs := by
 have h := tot_append (rs.take k) (rs.drop k)
 rw [List.take_append_drop] at h
 omega
theorem tot_take_succ {rs : List Run3} {k : Nat} {r : Run3} (h : rs[k]? = some r) : tot (rs.take (k + 1)) = tot (rs.take k) + r.2.2 := by
 obtain ⟨hk, hv⟩ := List.getElem?_eq_some_iff.1 h
 rw [List.take_succ_eq_append_getElem hk, tot_append, hv]; simp [tot]
theorem rowHead {W0 w : World} {L : List Assn} {p : Option Addr} {c m : Nat} {rs l : List Run3} {r : Run3} (hr : rs = r :: l) (h : Sat W0 w (row p c 3 m (rs.flatMap enc3) :: L)) :
  ∃ g rest, p = some ⟨g, 0, none⟩ ∧ Sat W0 w (seg true g 0 (.int .u8 r.1 :: .int .i64 r.2.1 :: .int .i64 (r.2.2 : Int) :: (l.flatMap enc3 ++ rest)) :: L) := by
 subst hr
 obtain ⟨hl, ⟨-, -, -, h0, -⟩ | ⟨g, rest, rfl, h1, h2, h3, h4⟩⟩ := h.rowOpen
 ·simp [enc3] at h0
 ·exact ⟨g, rest, rfl, h4⟩
theorem ledSince {W0 w : World} {L : List Assn} {l mark : Nat} {rs : List Run3} (hl : rs.length ≤ 1000000000) (hb : tot rs ≤ 4611686018427387904) (hm : mark < tot rs) (hs : Sat W0 w (led l rs :: L)) :
  Calls Tryz.prog 17 #[.pointer (some ⟨l, 0, none⟩), .int .i64 (mark : Int)] w fun e w' => ∃ q c, e = .returned (.slice q (sinceR rs mark).length c) ∧ Sat W0 w' (runsA true q (sinceR rs mark) :: led l rs :: L) := by
 obtain ⟨p, cp, s1⟩ := ledOpen hs
 clear hs
 obtain ⟨n, hn⟩ : ∃ n, n = rs.length := ⟨_, rfl⟩
 obtain ⟨N, hN⟩ : ∃ N, N = tot rs := ⟨_, rfl⟩
 rw [← hn, ← hN] at s1
 rw [← hN] at hb hm
 rw [← hn] at hl
 have c0 := s1.at 0 rfl
 have c1 := s1.at 1 rfl
 have z0 := s1.lt (by simp)
 have hcell : ∀ k r, rs[k]? = some r → ∃ g, p = some ⟨g, 0, none⟩ ∧ w.cell? ⟨g, k * 3 + 2, none⟩ = some (.int .i64 (r.2.2 : Int)) ∧ g < w.heap.size := by
  intro k r hk
  have hr : Sat W0 w (row p cp 3 n (rs.flatMap enc3) :: _) := s1.pull 1
  obtain ⟨hrl, ⟨-, -, h0, -, -⟩ | ⟨g, rest, rfl, hcap, hmx, hcl, hg⟩⟩ := hr.rowOpen
  ·have := (List.getElem?_eq_some_iff.1 hk).1; omega
  ·exact ⟨g, rfl, (row3 hg hk).2.2, hg.lt (by rw [hcl]; have := (List.getElem?_eq_some_iff.1 hk).1; omega)⟩
 have HN := Lib.hid (And.intro hn (And.intro hN (And.intro hcell s1))); clear hn hN hcell s1
 have hmI : ¬ (N : Int) ≤ (mark : Int) := by omega
 go_enter Tryz.func17, Tryz.ntmps17
 go_wp2
 go_loopw [5, 6] (fun t5 t6 wr => ∃ k at_ : Nat, k ≤ n ∧ t6 = .int .i64 (k : Int) ∧ t5 = .int .i64 (at_ : Int) ∧ at_ = tot (rs.take k) ∧ (k = n ∨ mark < tot (rs.take (k + 1))) ∧ wr = w) (fun _ t6 _ => (intOf t6).toNat)
 case atStart => exact ⟨n, N, Nat.le_refl _, rfl, rfl, by rw [HN.out.1, List.take_length]; exact HN.out.2.1, .inl rfl, rfl⟩
 case round =>
  obtain ⟨k, at_, hk, rfl, rfl, hat, hup, rfl⟩ := hrel
  have hatN : at_ ≤ N := by rw [hat, HN.out.2.1]; exact tot_take_le rs k
  by_cases hgo : mark < at_
  ·have hk0 : 0 < k := by
    rcases Nat.eq_zero_or_pos k with h | h
    ·subst h; rw [hat] at hgo; exact absurd hgo (by simp [tot])
    ·exact h
   obtain ⟨j, rfl⟩ : ∃ j, k = j + 1 := ⟨k - 1, by omega⟩
   obtain ⟨r, hr⟩ : ∃ r, rs[j]? = some r := ⟨rs[j]'(by rw [← HN.out.1]; omega), List.getElem?_eq_getElem _⟩
   obtain ⟨g, rfl, hc, hg⟩ := HN.out.2.2.1 j r hr
   have hts := tot_take_succ hr
   obtain ⟨x, hx⟩ : ∃ x, x = r.2.2 := ⟨_, rfl⟩
   rw [← hx] at hc hts
   have hsub : at_ - x = tot (rs.take j) ∧ x ≤ at_ := by omega
   have hup2 : mark < tot (rs.take (j + 1)) := by omega
   have HX := Lib.hid (And.intro hsub.1 hup2)
   have hxa := hsub.2
   clear hsub hup2 hts hat hup hx hr
   have e1 : ((j + 1 : Nat) : Int) - 1 = (j : Int) := by omega
   have e2 : (at_ : Int) - (x : Int) = ((at_ - x : Nat) : Int) := by omega
   have g1 : (0 : Int) < ((j + 1 : Nat) : Int) := by omega
   have g2 : (mark : Int) < (at_ : Int) := by omega
   have g3 : (j : Int) < (n : Int) := by omega
   go_wp2
   go_roundw
   case rel => exact ⟨j, at_ - x, by omega, by go_num, by go_num, HX.out.1, .inr HX.out.2, by first | trivial | rfl⟩
   case measure => first | (simp [intOf]; done) | (simp [intOf]; omega)
  ·have hkn : k < n := by
    rcases hup with h | h
    ·subst h; rw [hat, HN.out.1, List.take_length, ← HN.out.2.1] at hgo; omega
    ·rcases Nat.lt_or_ge k n with h' | h'
     ·exact h'
     ·have : tot (rs.take k) = N := by rw [List.take_of_length_le (by rw [← HN.out.1]; exact h'), HN.out.2.1]
      rw [hat, this] at hgo; omega
   obtain ⟨r, hr⟩ : ∃ r, rs[k]? = some r := ⟨rs[k]'(by rw [← HN.out.1]; exact hkn), List.getElem?_eq_getElem _⟩
   have hdr : rs.drop k = r :: rs.drop (k + 1) := by
    rw [List.drop_eq_getElem_cons (by rw [← HN.out.1]; exact hkn), (List.getElem?_eq_some_iff.1 hr).2]
   have hup2 : mark < at_ + r.2.2 := by
    rcases hup with h | h
    ·omega
    ·rw [tot_take_succ hr, ← hat] at h; exact h
   have hcut := sinceR_cut rs mark k r _ hdr (by rw [← hat]; omega) (by rw [← hat]; exact hup2)
   rw [← hat] at hcut
   have hlen : (sinceR rs mark).length = n - k := by rw [hcut, List.length_cons, List.length_drop, ← HN.out.1]; omega
   obtain ⟨r0, r1, r2⟩ := r
   simp only at hup2 hcut
   have s1 := HN.out.2.2.2
   have t1 := s1.alloc #[] 72
   have t2 : Sat W0 _ (row (some ⟨wr.heap.size, 0, none⟩) 0 3 0 (([] : List Run3).flatMap enc3) :: seg true l 0 [.slice p n cp, .int .i64 (N : Int)] :: row p cp 3 n (rs.flatMap enc3) :: L) := t1.rowMade (rest := []) (sz := 3) (n := 0) (cap := 0) rfl rfl (Nat.le_refl _) (Nat.zero_le _)
   have q2 : Sat W0 _ (row p cp 3 n (rs.flatMap enc3) :: _) := t2.pull 2
   obtain ⟨hrl, ⟨-, -, h0, -, -⟩ | ⟨g, rest, rfl, hcap, hmx, hcl, hg⟩⟩ := q2.rowOpen
   ·omega
   have hfd : ∀ j u, ((rs.drop k).flatMap enc3)[j]? = some u → ((rs.flatMap enc3) ++ rest)[k * 3 + j]? = some u := by
    intro j u hu
    have e : rs.flatMap enc3 = (rs.take k).flatMap enc3 ++ (rs.drop k).flatMap enc3 := by rw [← List.flatMap_append, List.take_append_drop]
    have e2 : ((rs.take k).flatMap enc3).length = k * 3 := by rw [fm_len len3, List.length_take, Nat.min_eq_left (by rw [← HN.out.1]; omega)]
    rw [e, List.append_assoc, List.getElem?_append_right (by omega), e2, Nat.add_sub_cancel_left, List.getElem?_append_left (List.getElem?_eq_some_iff.1 hu).1]
    exact hu
   have hn2 : ∀ j u, ((rs.drop k).flatMap enc3)[j]? = some u → ∃ ad, (some ⟨g, k * 3, none⟩ : Option Addr) = some ad ∧ (wr.alloc (.cells #[] 72)).cell? (ad.add j) = some u := fun j u hu => ⟨_, rfl, by rw [add_lit', ← Nat.zero_add (k * 3 + j)]; exact hg.cell (hfd j u hu)⟩
   have hnl : ((rs.drop k).flatMap enc3).length = (n - k) * 3 := by rw [fm_len len3, List.length_drop, ← HN.out.1]
   have hr2 : r2 ≤ N := by
    rw [HN.out.2.1]
    have h1 := tot_take_succ hr
    have h2 := tot_take_le rs (k + 1)
    simp only at h1
    omega
   obtain ⟨i3, hi3, hz3, hs3, hb3⟩ := info_parts Tryz.info_run
   have c0 := (HN.out.2.2.2).at 0 rfl
   have z0 := (HN.out.2.2.2).lt (by simp)
   have HB := Lib.hid (And.intro hnl (And.intro hn2 (And.intro hcut (And.intro hlen (And.intro hdr hup2))))); clear hnl hn2 hcut hlen hdr hup2 hrl hmx hcl hg q2 t1 s1 hfd hr hup hat hatN
   have hkc : k ≤ n := by omega
   have hgo2 : ¬ (mark : Int) < (at_ : Int) := by omega
   have HW := Lib.hid HN.out.2.2.2
   have HT2 := Lib.hid t2; clear t2
   have hnk0 : 0 < n - k := by omega
   by_cases hma : at_ < mark
   ·have g4 : (at_ : Int) < (mark : Int) := by omega
    have e5 : (mark : Int) - (at_ : Int) = ((mark - at_ : Nat) : Int) := by omega
    have e6 : (r2 : Int) - ((mark - at_ : Nat) : Int) = ((r2 - (mark - at_) : Nat) : Int) := by have := HB.out.2.2.2.2.2; omega
    go_wp2_with (refine wpl_append rfl (.tmp 46) (.tmp 52) 47 rfl Tryz.underlying47 hi3 hz3 hs3 hb3 rfl (by decide) HT2.out rfl (some ⟨g, k * 3, none⟩) (n - k) (cp - k) rfl ((rs.drop k).flatMap enc3) HB.out.1 HB.out.2.1 (fun h => by cases h) (enc3_one _) (by unfold maxLen; omega) (by omega) ?_; intro p2 c2 w2 s2 _ _; rw [List.flatMap_nil, List.nil_append] at s2; obtain ⟨g2, rest2, rfl, s3⟩ := rowHead HB.out.2.2.2.2.1 s2; clear s2; have c3 := s3.at 2 rfl; have f3 := s3.fr 2 (by simp); have z3 := s3.lt (by simp))
    all_goals
     have s4 := s3.store (i := 2) (by simp) (.int .i64 ((r2 - (mark - at_) : Nat) : Int)) (q := 2) rfl
     have HS := Lib.hid s4; clear s3 s4
     go_ret
     rw [HB.out.2.2.2.1]
     refine ⟨_, ⟨_, rfl⟩, ?_⟩
     rw [HB.out.2.2.1]
     have s5 : Sat W0 _ (seg true g2 0 (((r0, r1, r2 - (mark - at_)) :: rs.drop (k + 1)).flatMap enc3 ++ rest2) :: _) := HS.out
     have s5b : Sat W0 _ (seg true g2 0 (((r0, r1, r2 - (mark - at_)) :: rs.drop (k + 1)).flatMap enc3) :: seg true g2 (0 + (((r0, r1, r2 - (mark - at_)) :: rs.drop (k + 1)).flatMap enc3).length) rest2 :: seg true l 0 [.slice (some ⟨g, 0, none⟩) n cp, .int .i64 (N : Int)] :: row (some ⟨g, 0, none⟩) cp 3 n (rs.flatMap enc3) :: L) := s5.part rfl
     have s6 := runsOf s5b
     have s7 : Sat W0 _ (seg true l 0 [.slice (some ⟨g, 0, none⟩) n cp, .int .i64 (N : Int)] :: row (some ⟨g, 0, none⟩) cp 3 n (rs.flatMap enc3) :: runsA true _ _ :: L) := s6.f
     rw [HN.out.1, HN.out.2.1] at s7
     exact (ledShut s7).pull 1
   ·have g4 : ¬ (at_ : Int) < (mark : Int) := by omega
    have hme : mark = at_ := by omega
    subst hme
    go_wp2_with (refine wpl_append rfl (.tmp 46) (.tmp 52) 47 rfl Tryz.underlying47 hi3 hz3 hs3 hb3 rfl (by decide) HT2.out rfl (some ⟨g, k * 3, none⟩) (n - k) (cp - k) rfl ((rs.drop k).flatMap enc3) HB.out.1 HB.out.2.1 (fun h => by cases h) (enc3_one _) (by unfold maxLen; omega) (by omega) ?_; intro p2 c2 w2 s2 _ _; rw [List.flatMap_nil, List.nil_append] at s2)
    all_goals
     have HS := Lib.hid s2; clear s2
     go_ret
     rw [HB.out.2.2.2.1]
     refine ⟨_, ⟨_, rfl⟩, ?_⟩
     rw [HB.out.2.2.1, Nat.sub_self, Nat.sub_zero, ← HB.out.2.2.2.2.1]
     have s6 := rowRuns HS.out
     have s7 : Sat W0 _ (seg true l 0 [.slice (some ⟨g, 0, none⟩) n cp, .int .i64 (N : Int)] :: row (some ⟨g, 0, none⟩) cp 3 n (rs.flatMap enc3) :: runsA true _ _ :: L) := s6.f
     rw [HN.out.1, HN.out.2.1] at s7
     exact (ledShut s7).pull 1
end Go.Proofs.YtbefjaodpbgpcaaGreat
namespace Go.Proofs.YtbefjaodpbgpcaaGreat
open Go.RowKit Go.Sep Go.Bv
structure OpM where
 kd : Nat
 hd : Int
 ag : Nat
 ct : Int
 ot : Int
 dp : Option Addr
 dn : Nat
 dc : Nat
 ep : Option Addr
 en : Nat
 ec : Nat
 data : List Byte
 more : List Byte
def OpM.c (x : OpM) : OpC := ⟨x.kd, x.hd, x.ag, x.ct, x.ot, x.data, x.more⟩
def OpM.fine (x : OpM) : Prop := (x.kd < 256 ∧ x.ag < 256) ∧ (x.data.length = x.dn ∧ x.dn ≤ x.dc ∧ x.dc ≤ maxLen) ∧ (x.more.length = x.en ∧ x.en ≤ x.ec ∧ x.ec ≤ maxLen) ∧ x.dn ≤ 1048576 ∧ x.en ≤ 1048576
abbrev OpM.cells (x : OpM) : List Value := opC x.kd x.hd x.ag x.ct x.ot x.dp x.dn x.dc x.ep x.en x.ec
abbrev OpM.v (x : OpM) : Value := .agg #[.int .u8 (x.kd : Int), .int .i64 x.hd, .int .u8 (x.ag : Int), .int .i64 x.ct, .int .i64 x.ot, .slice x.dp x.dn x.dc, .slice x.ep x.en x.ec]
def opsR (p : Option Addr) (xs : List OpM) : Assn := fun h => ∀ (i : Nat) x, xs[i]? = some x → x.fine ∧ ∃ b o, p = some ⟨b, o, none⟩ ∧ seg false b (o + i * 7) x.cells h ∧ bytes false x.dp x.data h ∧ bytes false x.ep x.more h
theorem opsR_reads (p : Option Addr) (xs : List OpM) : Reads (opsR p xs) := fun x y hxy h i z hz => by
 obtain ⟨h1, b, o, e, h2, h3, h4⟩ := h i z hz
 exact ⟨h1, b, o, e, seg_reads _ _ _ x y hxy h2, bytes_reads _ _ x y hxy h3, bytes_reads _ _ x y hxy h4⟩
theorem opsPeek {W0 w : World} {L : List Assn} {p : Option Addr} {xs : List OpM} {i : Nat} {x : OpM} (h : Sat W0 w (opsR p xs :: L)) (hx : xs[i]? = some x) :
  x.fine ∧ ∃ b o, p = some ⟨b, o, none⟩ ∧ Sat W0 w (seg false b (o + i * 7) x.cells :: bytes false x.dp x.data :: bytes false x.ep x.more :: opsR p xs :: L) := by
 have hf : x.fine ∧ ∃ b o, p = some ⟨b, o, none⟩ := h.fact fun y hy => by
  obtain ⟨h1, b, o, e, _⟩ := hy i x hx
  exact ⟨h1, b, o, e⟩
 obtain ⟨h1, b, o, rfl⟩ := hf
 refine ⟨h1, b, o, rfl, ?_⟩
 have key : ∀ y, opsR (some ⟨b, o, none⟩) xs y → seg false b (o + i * 7) x.cells y ∧ bytes false x.dp x.data y ∧ bytes false x.ep x.more y := fun y hy => by
  obtain ⟨_, b', o', e, h2⟩ := hy i x hx
  cases e
  exact h2
 have d1 := (h.dup (opsR_reads _ _)).imp fun y hy => (key y hy).2.2
 have d2 := (d1.swap.dup (opsR_reads _ _)).imp fun y hy => (key y hy).2.1
 have d3 := (d2.swap.dup (opsR_reads _ _)).imp fun y hy => (key y hy).1
 exact d3.f
abbrev Doer (σ : Type) := Sts σ → OpC → List Run3 → Sts σ × Ans × List Run3
section
variable {σ : Type}
def after (D : Doer σ) : Nat → List OpC → Sts σ → List Run3 → Sts σ × List Run3
 | 0, _, S, rs => (S, rs)
 | _ + 1, [], S, rs => (S, rs)
 | k + 1, o :: os, S, rs => after D k os (D S o rs).1 (D S o rs).2.2
theorem after_succ (D : Doer σ) : ∀ (l : List OpC) (k : Nat) (o : OpC) (S : Sts σ) (rs : List Run3), l[k]? = some o →
  after D (k + 1) l S rs = ((D (after D k l S rs).1 o (after D k l S rs).2).1, (D (after D k l S rs).1 o (after D k l S rs).2).2.2)
 | [], k, o, S, rs, h => by simp at h
 | x :: l, 0, o, S, rs, h => by
  simp only [List.getElem?_cons_zero, Option.some.injEq] at h
  subst h
  cases l <;> rfl
 | x :: l, k + 1, o, S, rs, h => by
  have := after_succ D l k o (D S x rs).1 (D S x rs).2.2 (by simpa using h)
  simpa [after] using this
end
end Go.Proofs.YtbefjaodpbgpcaaGreat
