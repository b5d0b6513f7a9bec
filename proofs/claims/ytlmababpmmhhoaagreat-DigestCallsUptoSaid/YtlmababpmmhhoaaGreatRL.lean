
/- The document's ledger: it notes events, tells its runs; each under the conditions that it names. -/
import Derived.Test.YtlmababpmmhhoaaGreatLed2
namespace Go.Proofs.YtlmababpmmhhoaaGreat
open Go.RowKit Go.Sep Go.Bv Go.Sha
set_option linter.unusedVariables false
set_option linter.unusedSimpArgs false
/-- The document's ledger: its runs behind one cell. -/
def rled (l : Nat) (rs : List Run3) : Assn := fun x => ∃ q : Option Addr × Nat, sep (seg true l 0 [.slice q.1 rs.length q.2]) (row q.1 q.2 3 rs.length (rs.flatMap enc3)) x
theorem rledOpen {W0 w : World} {L : List Assn} {l : Nat} {rs : List Run3} (h : Sat W0 w (rled l rs :: L)) : ∃ p c, Sat W0 w (seg true l 0 [.slice p rs.length c] :: row p c 3 rs.length (rs.flatMap enc3) :: L) := by
  obtain ⟨q, h⟩ := h.exOpen
  exact ⟨q.1, q.2, h.sepOpen⟩
theorem rledShut {W0 w : World} {L : List Assn} {l : Nat} {rs : List Run3} {p : Option Addr} {c : Nat} (h : Sat W0 w (seg true l 0 [.slice p rs.length c] :: row p c 3 rs.length (rs.flatMap enc3) :: L)) : Sat W0 w (rled l rs :: L) :=
  Sat.exShut (A := fun q : Option Addr × Nat => sep (seg true l 0 [.slice q.1 rs.length q.2]) (row q.1 q.2 3 rs.length (rs.flatMap enc3))) (p, c) h.sepShut
set_option maxHeartbeats 1000000 in
theorem rledNew {W0 w : World} {L : List Assn} (hs : Sat W0 w L) : Calls Tryz.prog 7 #[] w fun e w' => ∃ l, e = .returned (.pointer (some ⟨l, 0, none⟩)) ∧ Sat W0 w' (rled l [] :: L) := by
  go_enter Tryz.func7, Tryz.ntmps7
  go_wp2
  go_ret
  exact ⟨_, rfl, rledShut (p := none) (c := 0) (((hs.rowNil 3).alloc _ _).to (by simp))⟩
set_option maxHeartbeats 1000000 in
theorem rnote_zero (w : World) (l : Nat) (k s : Int) : Calls Tryz.prog 57 #[.pointer (some ⟨l, 0, none⟩), .agg #[.int .u8 k, .int .i64 s], .int .i64 0] w fun e w' => e = .returned (.tuple #[]) ∧ w.alloc (.cells #[.int .u8 k, .int .i64 s] 59) = w' := by
  go_enter Tryz.func57, Tryz.ntmps57
  go_wp2
  exact bodyPost_ret (v := .tuple #[]) (by simp [results, Tryz.results57, go_sem]) rfl ⟨rfl, rfl⟩
theorem rnote_nil (w : World) (k s : Int) (n : Int) : Calls Tryz.prog 57 #[.pointer none, .agg #[.int .u8 k, .int .i64 s], .int .i64 n] w fun e w' => e = .returned (.tuple #[]) ∧ w.alloc (.cells #[.int .u8 k, .int .i64 s] 59) = w' := by
  go_enter Tryz.func57, Tryz.ntmps57
  go_wp2
  exact bodyPost_ret (v := .tuple #[]) (by simp [results, Tryz.results57, go_sem]) rfl ⟨rfl, rfl⟩
set_option maxRecDepth 100000 in
set_option maxHeartbeats 2000000 in
theorem rnote_new {W0 w : World} {L : List Assn} {l : Nat} (rs : List Run3) (k s : Int) (n : Nat) (hs : Sat W0 w (rled l rs :: L)) (hn : 1 ≤ n) (hb : n ≤ 4611686018427387904) (hl : rs.length ≤ 4294967296) (hne : ∀ r, rs.getLast? = some r → (r.1 == k && r.2.1 == s) = false) :
    Calls Tryz.prog 57 #[.pointer (some ⟨l, 0, none⟩), .agg #[.int .u8 k, .int .i64 s], .int .i64 (n : Int)] w fun e w' => e = .returned (.tuple #[]) ∧ Sat W0 w' (rled l (rs ++ [(k, s, n)]) :: L) := by
  obtain ⟨p, c, s1⟩ := rledOpen hs
  have hr : Sat W0 w (row p c 3 rs.length (rs.flatMap enc3) :: seg true l 0 [.slice p rs.length c] :: L) := s1.pull 1
  obtain ⟨hrl, hro⟩ := hr.rowOpen
  have c0 := s1.at 0 rfl
  have f0 := s1.fr 0 (by simp)
  have z1 := s1.lt (by simp)
  obtain ⟨i3, hi3, hz3, hs3, hb3⟩ := info_parts Tryz.info_run
  rcases List.eq_nil_or_concat rs with rfl | ⟨rs0, r, hrs⟩
  · go_enter Tryz.func57, Tryz.ntmps57
    go_wp2_with fail
    go_quiet (fail)
    go_wp2
    go_region_law (refine step_append (by rfl) (.tmp 54) (.tmp 58) 47 (by rfl) Tryz.underlying47 hi3 hz3 hs3 hb3 rfl (by decide) (p := p) (cp := c) (xs := ([] : List Run3).flatMap enc3) (n := ([] : List Run3).length) (L := seg true l 0 [.slice p ([] : List Run3).length c] :: L) (by exact (((s1.alloc #[.int .u8 k, .int .i64 s] 59).tail.drewN _).drew.alloc' _).pull 1) (by rfl) (some _) 1 1 (by rfl) (enc3 (k, s, n)) rfl (by exact (((s1.alloc #[.int .u8 k, .int .i64 s] 59).tail.drewN _).drew.allocAt #[.int .u8 k, .int .i64 s, .int .i64 n] 82 (by simp)).news) (fun h => by cases h) (by simp [enc3, Value.oneCell']) (by unfold maxLen; simp only [List.length_nil]; omega) (by simp only [List.length_nil]; omega) ?_; intro p' c' w' hs' _ _; have sl : Sat W0 w' (seg true l 0 [.slice p ([] : List Run3).length c] :: _) := hs'.pull 1; have k0 := sl.at 0 rfl; have k1 := sl.fr 0 (by simp))
    all_goals
      refine bodyPost_end (by simp [results, Tryz.results57, go_sem]) rfl ⟨rfl, ?_⟩
      have sl : Sat W0 w' (seg true l 0 [.slice p ([] : List Run3).length c] :: _) := hs'.pull 1
      refine rledShut (p := p') (c := c') ?_
      have st := sl.store (i := 0) (by simp) (.slice p' (([] : List Run3).length + 1) c') (q := 0) (by simp)
      refine st.to ?_
      simp [enc3]
  · obtain ⟨r0, r1, r2⟩ := r
    have hlast := hne (r0, r1, r2) (by rw [hrs]; simp)
    have hcase : (¬ r0 = k) ∨ (k = r0 ∧ ¬ r1 = s) := by
      by_cases h : r0 = k
      · exact .inr ⟨h.symm, by simpa [h] using hlast⟩
      · exact .inl h
    clear hlast
    have hlen : rs.length = rs0.length + 1 := by rw [hrs]; simp
    rcases hro with ⟨-, -, h0, -, -⟩ | ⟨g, rest, rfl, hcap, hmx, hcl, hg⟩
    · omega
    obtain ⟨y0, y1, y2⟩ := row3 hg (k := rs0.length) (y := (r0, r1, r2)) (by rw [hrs]; simp)
    have zg := hg.lt (by rw [hcl]; omega)
    have Hrs := Lib.hid hrs; clear hrs
    have e1 : (rs.length : Int) - 1 = (rs0.length : Int) := by omega
    have e2 : IntKind.i64.wrap (rs0.length : Int) = (rs0.length : Int) := by rw [IntKind.wrap_i64]; omega
    have hlt : rs0.length < rs.length := by omega
    clear hlen
    rcases hcase with hk | ⟨rfl, hk⟩
    all_goals
      go_enter Tryz.func57, Tryz.ntmps57
      go_wp2_with fail
      go_quiet (fail)
      go_wp2
      go_region_law (refine step_append (by rfl) (.tmp 54) (.tmp 58) 47 (by rfl) Tryz.underlying47 hi3 hz3 hs3 hb3 rfl (by decide) (p := (some ⟨g, 0, none⟩)) (cp := c) (xs := rs.flatMap enc3) (n := rs.length) (L := seg true l 0 [.slice (some ⟨g, 0, none⟩) rs.length c] :: L) (by exact (((s1.alloc #[.int .u8 k, .int .i64 s] 59).tail.drewN _).drew.alloc' _).pull 1) (by rfl) (some _) 1 1 (by rfl) (enc3 (k, s, n)) rfl (by exact (((s1.alloc #[.int .u8 k, .int .i64 s] 59).tail.drewN _).drew.allocAt #[.int .u8 k, .int .i64 s, .int .i64 n] 82 (by simp)).news) (fun h => by cases h) (by simp [enc3, Value.oneCell']) (by unfold maxLen; omega) (by omega) ?_; intro p' c' w' hs' _ _; have sl : Sat W0 w' (seg true l 0 [.slice (some ⟨g, 0, none⟩) rs.length c] :: _) := hs'.pull 1; have k0 := sl.at 0 rfl; have k1 := sl.fr 0 (by simp))
      all_goals
        refine bodyPost_end (by simp [results, Tryz.results57, go_sem]) rfl ⟨rfl, ?_⟩
        have sl : Sat W0 w' (seg true l 0 [.slice (some ⟨g, 0, none⟩) rs.length c] :: _) := hs'.pull 1
        refine rledShut (p := p') (c := c') ?_
        have st := sl.store (i := 0) (by simp) (.slice p' (rs.length + 1) c') (q := 0) (by simp)
        refine st.to ?_
        simp [enc3]
set_option maxRecDepth 100000 in
set_option maxHeartbeats 2000000 in
theorem rnote_same {W0 w : World} {L : List Assn} {l : Nat} (rs : List Run3) (k s : Int) (c n : Nat) (hs : Sat W0 w (rled l (rs ++ [(k, s, c)]) :: L)) (hn : 1 ≤ n) (hb : c + n ≤ 4611686018427387904) (hl : rs.length ≤ 4294967296) :
    Calls Tryz.prog 57 #[.pointer (some ⟨l, 0, none⟩), .agg #[.int .u8 k, .int .i64 s], .int .i64 (n : Int)] w fun e w' => e = .returned (.tuple #[]) ∧ Sat W0 w' (rled l (rs ++ [(k, s, c + n)]) :: L) := by
  obtain ⟨p, cp, s1⟩ := rledOpen hs
  have hlen : (rs ++ [(k, s, c)]).length = rs.length + 1 := by simp
  rw [hlen] at s1
  have hr : Sat W0 w (row p cp 3 (rs.length + 1) ((rs ++ [(k, s, c)]).flatMap enc3) :: seg true l 0 [.slice p (rs.length + 1) cp] :: L) := s1.pull 1
  obtain ⟨hrl, hro⟩ := hr.rowOpen
  rcases hro with ⟨-, -, h0, -, -⟩ | ⟨g, rest, rfl, hcap, hmx, hcl, hg⟩
  · omega
  have c0 := s1.at 0 rfl
  have f0 := s1.fr 0 (by simp)
  have z1 := s1.lt (by simp)
  have hcc : rs.length * 3 + 2 < ((rs ++ [(k, s, c)]).flatMap enc3 ++ rest).length := by rw [hcl]; omega
  obtain ⟨y0, y1, y2⟩ := row3 hg (k := rs.length) (y := (k, s, c)) (by simp)
  have y3 := hg.fr (rs.length * 3 + 2) hcc
  have zg := hg.lt (by rw [hcl]; omega)
  have e1 : ((rs.length : Int) + 1) - 1 = (rs.length : Int) := by omega
  have e2 : IntKind.i64.wrap (rs.length : Int) = (rs.length : Int) := by rw [IntKind.wrap_i64]; omega
  clear hlen
  go_enter Tryz.func57, Tryz.ntmps57
  go_wp2_with fail
  go_quiet (fail)
  go_wp2_with fail
  refine wp_region_quiet_tail_lit 15 (by kernel_rfl) (by kernel_rfl) ?_
  simp only [List.take_succ_cons, List.take_zero, List.drop_succ_cons, List.drop_zero]
  repeat (go_big_quiet_step (fail))
  refine wpQuiet_nil ?_
  rintro _ ⟨nr, rfl⟩
  go_wp2
  refine bodyPost_ret (v := .tuple #[]) (by simp [results, Tryz.results57, go_sem]) rfl ⟨rfl, ?_⟩
  have t1 : Sat W0 w (seg true l 0 [.slice (some ⟨g, 0, none⟩) (rs.length + 1) cp] :: seg true g 0 ((rs ++ [(k, s, c)]).flatMap enc3 ++ rest) :: L) := hg.pull 1
  have t3 : ∀ n : Nat, Sat W0 _ (seg true g 0 ((rs ++ [(k, s, c)]).flatMap enc3 ++ rest) :: _) := fun n => ((t1.alloc #[.int .u8 k, .int .i64 s] 59).tail.drewN n).pull 1
  have t4 := fun m => (t3 m).store (i := rs.length * 3 + 2) hcc (.int .i64 ((c + n : Nat) : Int)) (q := rs.length * 3 + 2) (by simp)
  simp only [set_last3] at t4
  refine rledShut (p := some ⟨g, 0, none⟩) (c := cp) ?_
  have t5 := fun m => ((t4 m).rowMade (sz := 3) (n := rs.length + 1) (by rw [fm_len len3]; simp) (by rw [← hcl]; simp [fm_len len3, len3]) hcap hmx).pull 1
  refine (t5 _).to ?_
  simp
/-- So many times the same event, perhaps none. -/
theorem rnoteN {W0 w : World} {L : List Assn} {l : Nat} {nv : Int} (rs : List Run3) (k s : Int) (n : Nat) (hv : nv = (n : Int)) (hs : Sat W0 w (rled l rs :: L)) (hb : tot rs + n ≤ 4611686018427387904) (hl : rs.length ≤ 4294967296) :
    Calls Tryz.prog 57 #[.pointer (some ⟨l, 0, none⟩), .agg #[.int .u8 k, .int .i64 s], .int .i64 nv] w fun e w' => e = .returned (.tuple #[]) ∧ Sat W0 w' (rled l (noteN rs k s n) :: L) := by
  subst hv
  by_cases hn : n = 0
  · subst hn
    refine (rnote_zero w l k s).mono ?_
    rintro e w' ⟨rfl, rfl⟩
    exact ⟨rfl, by rw [show noteN rs k s 0 = rs from if_pos rfl]; exact (hs.alloc _ _).tail⟩
  · rw [show noteN rs k s n = note rs k s n from if_neg hn]
    rcases List.eq_nil_or_concat rs with rfl | ⟨rs0, ⟨r0, r1, r2⟩, hcc⟩
    · exact rnote_new [] k s n hs (by omega) (by omega) hl (by simp)
    · rw [List.concat_eq_append] at hcc
      subst hcc
      by_cases h : r0 = k ∧ r1 = s
      · obtain ⟨rfl, rfl⟩ := h
        have e : note (rs0 ++ [(r0, r1, r2)]) r0 r1 n = rs0 ++ [(r0, r1, r2 + n)] := by simp [note]
        rw [e]
        exact rnote_same rs0 r0 r1 r2 n hs (by omega) (by rw [tot_append] at hb; simp [tot] at hb; omega) (by simp at hl; omega)
      · have e : note (rs0 ++ [(r0, r1, r2)]) k s n = (rs0 ++ [(r0, r1, r2)]) ++ [(k, s, n)] := by simp [note, h]
        rw [e]
        refine rnote_new (rs0 ++ [(r0, r1, r2)]) k s n hs (by omega) (by omega) hl ?_
        intro r hr
        simp at hr
        subst hr
        simpa using h
set_option maxRecDepth 100000 in
set_option maxHeartbeats 2000000 in
/-- Runs: a list of its own. -/
theorem rledRuns {W0 w : World} {L : List Assn} {l : Nat} {rs : List Run3} (hl : rs.length ≤ 1000000000) (hs : Sat W0 w (rled l rs :: L)) :
    Calls Tryz.prog 15 #[.pointer (some ⟨l, 0, none⟩)] w fun e w' => ∃ q c, e = .returned (.slice q rs.length c) ∧ Sat W0 w' (runsA true q rs :: rled l rs :: L) := by
  obtain ⟨p, c, s1⟩ := rledOpen hs
  clear hs
  obtain ⟨i3, hi3, hz3, hs3, hb3⟩ := info_parts Tryz.info_run
  obtain ⟨n, hn⟩ : ∃ n, n = rs.length := ⟨_, rfl⟩
  rw [← hn] at s1 hl ⊢
  have HN := Lib.hid hn; clear hn
  go_enter Tryz.func15, Tryz.ntmps15
  go_wp2
  go_loopw [3, 4] (fun t3 t4 wr => ∃ (i : Nat) (q : Option Addr) (d : Nat), i ≤ n ∧ t4 = .int .i64 (i : Int) ∧ t3 = .slice q i d ∧ Sat W0 wr (row q d 3 i ((rs.take i).flatMap enc3) :: seg true l 0 [.slice p n c] :: row p c 3 n (rs.flatMap enc3) :: L)) (fun _ t4 _ => n - (intOf t4).toNat)
  case atStart => exact ⟨0, none, 0, Nat.zero_le _, rfl, rfl, s1.rowNil 3⟩
  case round =>
    clear s1
    obtain ⟨i, q, d, hi, rfl, rfl, s⟩ := hrel
    have sl : Sat W0 wr (seg true l 0 [.slice p n c] :: _) := s.pull 1
    have c0 := sl.at 0 rfl
    have z0 := sl.lt (by simp)
    by_cases hlt : i < n
    · have hr : Sat W0 wr (row p c 3 n (rs.flatMap enc3) :: _) := s.pull 2
      obtain ⟨hrl, hro⟩ := hr.rowOpen
      rcases hro with ⟨-, -, h0, -, -⟩ | ⟨g, rest, rfl, hcap, hmx, hcl, hg⟩
      · omega
      have hix : i < rs.length := by rw [← HN.out]; exact hlt
      obtain ⟨⟨x0, x1, x2⟩, hxx⟩ : ∃ x, x = rs[i] := ⟨_, rfl⟩
      obtain ⟨y0, y1, y2⟩ := row3 hg (k := i) (y := (x0, x1, x2)) (by rw [hxx]; exact List.getElem?_eq_getElem hix)
      have zg := hg.lt (by rw [hcl]; omega)
      have hn2 : (rs.take (i + 1)).flatMap enc3 = (rs.take i).flatMap enc3 ++ enc3 (x0, x1, x2) := by
        rw [List.take_succ_eq_append_getElem hix, List.flatMap_append, hxx]; simp
      have HX := Lib.hid hn2; clear hxx hn2 hrl hcl hg hr hix hcap hmx
      go_wp2_with (at_builtin; refine wpl_append rfl (.tmp 18) (.tmp 26) 47 rfl Tryz.underlying47 hi3 hz3 hs3 hb3 rfl (by decide) (s.alloc' _) rfl (some _) 1 1 rfl (enc3 (x0, x1, x2)) rfl ((s.alloc #[.int .u8 x0, .int .i64 x1, .int .i64 x2] 82).news) (fun h => by cases h) (by simp [enc3, Value.oneCell']) (by unfold maxLen; omega) (by omega) ?_; intro p9 c9 w9 s9 _ _)
      go_roundw
      case rel => exact ⟨i + 1, p9, c9, by omega, by go_num, rfl, by rw [HX.out]; exact s9⟩
      case measure => simp [intOf]; omega
    · obtain rfl : i = n := by omega
      have e1 : rs.take i = rs := by rw [HN.out]; exact List.take_length
      rw [e1] at s
      go_wp2
      go_ret
      refine ⟨q, d, rfl, ?_⟩
      have s2 := rowRuns s
      rw [HN.out] at s2
      exact (rledShut (s2.pick [1, 2])).pull 1
end Go.Proofs.YtlmababpmmhhoaaGreat
