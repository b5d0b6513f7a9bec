/- Dca, Dcb: texts that lie apart elsewhere, as one; each under the conditions that it names. -/
import Derived.Test.YtlmababpmmhhoaaGreatDA

/- DigestCalls: a call of both: Write; under the conditions that each names. -/
namespace Go.Proofs.YtlmababpmmhhoaaGreat
open Go.RowKit Go.Sep Go.Bv Go.Sha
set_option linter.unusedVariables false
set_option linter.unusedSimpArgs false
@[go_sem] theorem nA0Write (b : Nat) (w : World) : (nilAhead 265 87 (.agg #[.pointer (some ⟨b, 0, none⟩)]) "Write").run Tryz.prog w = .ok (some false) w := by kernel_rfl
@[go_sem] theorem mA0Write (b : Nat) (w : World) : (method 265 87 (.agg #[.pointer (some ⟨b, 0, none⟩)]) "Write").run Tryz.prog w = .ok (127, .pointer (some ⟨b, 0, none⟩)) w := by kernel_rfl
@[go_sem] theorem nA0Sum (b : Nat) (w : World) : (nilAhead 265 87 (.agg #[.pointer (some ⟨b, 0, none⟩)]) "Sum").run Tryz.prog w = .ok (some false) w := by kernel_rfl
@[go_sem] theorem mA0Sum (b : Nat) (w : World) : (method 265 87 (.agg #[.pointer (some ⟨b, 0, none⟩)]) "Sum").run Tryz.prog w = .ok (52, .pointer (some ⟨b, 0, none⟩)) w := by kernel_rfl
@[go_sem] theorem nA0Wipe (b : Nat) (w : World) : (nilAhead 265 87 (.agg #[.pointer (some ⟨b, 0, none⟩)]) "Wipe").run Tryz.prog w = .ok (some false) w := by kernel_rfl
@[go_sem] theorem mA0Wipe (b : Nat) (w : World) : (method 265 87 (.agg #[.pointer (some ⟨b, 0, none⟩)]) "Wipe").run Tryz.prog w = .ok (126, .pointer (some ⟨b, 0, none⟩)) w := by kernel_rfl
@[go_sem] theorem nA0Form (b : Nat) (w : World) : (nilAhead 265 87 (.agg #[.pointer (some ⟨b, 0, none⟩)]) "Form").run Tryz.prog w = .ok (some false) w := by kernel_rfl
@[go_sem] theorem mA0Form (b : Nat) (w : World) : (method 265 87 (.agg #[.pointer (some ⟨b, 0, none⟩)]) "Form").run Tryz.prog w = .ok (124, .pointer (some ⟨b, 0, none⟩)) w := by kernel_rfl
@[go_sem] theorem nA1Write (b : Nat) (w : World) : (nilAhead 265 91 (.agg #[.pointer (some ⟨b, 0, none⟩)]) "Write").run Tryz.prog w = .ok (some false) w := by kernel_rfl
@[go_sem] theorem mA1Write (b : Nat) (w : World) : (method 265 91 (.agg #[.pointer (some ⟨b, 0, none⟩)]) "Write").run Tryz.prog w = .ok (54, .pointer (some ⟨b, 0, none⟩)) w := by kernel_rfl
@[go_sem] theorem nA1Sum (b : Nat) (w : World) : (nilAhead 265 91 (.agg #[.pointer (some ⟨b, 0, none⟩)]) "Sum").run Tryz.prog w = .ok (some false) w := by kernel_rfl
@[go_sem] theorem mA1Sum (b : Nat) (w : World) : (method 265 91 (.agg #[.pointer (some ⟨b, 0, none⟩)]) "Sum").run Tryz.prog w = .ok (55, .pointer (some ⟨b, 0, none⟩)) w := by kernel_rfl
@[go_sem] theorem nA1Wipe (b : Nat) (w : World) : (nilAhead 265 91 (.agg #[.pointer (some ⟨b, 0, none⟩)]) "Wipe").run Tryz.prog w = .ok (some false) w := by kernel_rfl
@[go_sem] theorem mA1Wipe (b : Nat) (w : World) : (method 265 91 (.agg #[.pointer (some ⟨b, 0, none⟩)]) "Wipe").run Tryz.prog w = .ok (132, .pointer (some ⟨b, 0, none⟩)) w := by kernel_rfl
@[go_sem] theorem nA1Form (b : Nat) (w : World) : (nilAhead 265 91 (.agg #[.pointer (some ⟨b, 0, none⟩)]) "Form").run Tryz.prog w = .ok (some false) w := by kernel_rfl
@[go_sem] theorem mA1Form (b : Nat) (w : World) : (method 265 91 (.agg #[.pointer (some ⟨b, 0, none⟩)]) "Form").run Tryz.prog w = .ok (130, .pointer (some ⟨b, 0, none⟩)) w := by kernel_rfl
theorem bytesSplit {W0 w : World} {L : List Assn} {m : Bool} {q : Option Addr} {A B : List Byte} (hA : A ++ B ≠ []) (h : Sat W0 w (bytes m q (A ++ B) :: L)) : ∃ q2, Sat W0 w (bytes m q A :: bytes m q2 B :: L) ∧ ∀ (w' : World) (L' : List Assn), Sat W0 w' (bytes m q A :: bytes m q2 B :: L') → Sat W0 w' (bytes m q (A ++ B) :: L') := by
  obtain ⟨b, o, rfl, s⟩ := bytesCell h hA
  rw [u8s_append] at s
  have s2 := s.part (q := o + (u8s A).length) rfl
  refine ⟨some ⟨b, o + (u8s A).length, none⟩, ?_, ?_⟩
  · have s3 := bytesOf s2
    have s4 := bytesOf ((Sat.sub (s3) (by with_reducible repeat first | exact Fr1 | exact Fr2 | (apply Fr3; focus ((repeat (first | exact Tk1 | apply Tk2)); done)) | apply Fr4)) : Sat W0 w (seg m b (o + (u8s A).length) (u8s B) :: bytes m (some ⟨b, o, none⟩) A :: L))
    exact (Sat.sub (s4) (by with_reducible repeat first | exact Fr1 | exact Fr2 | (apply Fr3; focus ((repeat (first | exact Tk1 | apply Tk2)); done)) | apply Fr4))
  · intro w' L' t
    have tA : Sat W0 w' (seg m b o (u8s A) :: bytes m (some ⟨b, o + (u8s A).length, none⟩) B :: L') := t.imp fun x hx => by
      rcases hx with rfl | ⟨b', o', e, hx⟩
      · intro i v hv; cases hv
      · cases e; exact hx
    have tB : Sat W0 w' (seg m b (o + (u8s A).length) (u8s B) :: seg m b o (u8s A) :: L') := Sat.imp ((Sat.sub (tA) (by with_reducible repeat first | exact Fr1 | exact Fr2 | (apply Fr3; focus ((repeat (first | exact Tk1 | apply Tk2)); done)) | apply Fr4)) : Sat W0 w' (bytes m (some ⟨b, o + (u8s A).length, none⟩) B :: seg m b o (u8s A) :: L')) fun x hx => by
      rcases hx with rfl | ⟨b', o', e, hx⟩
      · intro i v hv; cases hv
      · cases e; exact hx
    have tC := Sat.join ((Sat.sub (tB) (by with_reducible repeat first | exact Fr1 | exact Fr2 | (apply Fr3; focus ((repeat (first | exact Tk1 | apply Tk2)); done)) | apply Fr4)) : Sat W0 w' (seg m b o (u8s A) :: seg m b (o + (u8s A).length) (u8s B) :: L')) rfl
    rw [← u8s_append] at tC
    exact bytesOf tC
/-- What a call leaves. -/
def postA (W0 : World) (L : List Assn) (x l m M i : Nat) (e : Ending) (w' : World) : Prop := e = .returned (.bool true) ∧ ∃ S ts us pt ct pw cw N rs, okW M (i + 1) S ts us N rs ∧ Sat W0 w' (wA x l m S ts us pt ct pw cw N rs L)
theorem noteN_one1 (rs : List Run3) (k s : Int) : note rs k s 1 = noteN rs k s 1 := by rw [noteN, if_neg (by decide)]
theorem mem_set_le {S : List Sl} {k : Nat} {a : Sl} {M M' : Nat} (h : ∀ s ∈ S, slN s ≤ M) (hM : M ≤ M') (ha : slN a ≤ M') : ∀ s ∈ S.set k a, slN s ≤ M' := by
  intro s hs
  rcases List.mem_or_eq_of_mem_set hs with h1 | rfl
  · exact Nat.le_trans (h s h1) hM
  · exact ha
theorem set_same {S : List Sl} {k : Nat} {a : Sl} (h : S[k]? = some a) : S.set k a = S := by
  obtain ⟨hk, rfl⟩ := List.getElem?_eq_some_iff.1 h
  exact List.set_getElem_self hk

set_option maxRecDepth 100000 in
set_option maxHeartbeats 8000000 in
theorem act_write {W0 w : World} {L : List Assn} {x l m M i N k n cap : Nat} {S : List Sl} {ts us : List Piece} {pt pw pp : Option Addr} {ct cw : Nat} {rs : List Run3} {msg P : List Byte} {pb rb : Nat} (wide : Bool) (on to alg : Int) (hok : okW M i S ts us N rs) (hi : i ≤ 60) (hM : M + n ≤ 100000) (hP : P.length = n) (hnc : n ≤ cap) (hcm : cap ≤ maxLen) (hkp : pickM on 3 = k) (hsk : S[k]? = some (.live wide msg pb rb))
    (hs : Sat W0 w (wA x l m S ts us pt ct pw cw N rs (bytes false pp P :: L))) :
    Calls Tryz.prog 9 #[.pointer (some ⟨x, 0, none⟩), .agg #[.int .i64 on, .int .i64 0, .int .i64 to, .slice pp n cap, .int .u8 alg]] w (postA W0 L x l m (M + n) i) := by
  have hk : k < 3 := by rw [← hok.1]; exact (List.getElem?_eq_some_iff.1 hsk).1
  have hslN := hok.2.2.2.2.2.2.2.2 _ (List.mem_of_getElem? hsk)
  obtain ⟨e0, e3⟩ := wc_S (l := l) (m := m) (pt := pt) (pw := pw) (ct := ct) (N := N) (cw := cw) hok.1 k hsk
  obtain ⟨e6, e7, -, -, e10⟩ := wc_at (l := l) (m := m) (pt := pt) (pw := pw) (ct := ct) (N := N) (cw := cw) hok.1
  obtain ⟨C, hC⟩ : ∃ C, C = wCells l m S pt ct N pw cw := ⟨_, rfl⟩
  rw [← hC] at e0 e3 e6 e7 e10
  have s0 : Sat W0 w (seg true x 0 C :: stars (S.map slA) :: row pt ct 1 N (ts.map pieceV) :: row pw cw 1 N (us.map pieceV) :: ownRows ts :: ownRows us :: ledO (some l) rs :: rledO (some m) rs :: bytes false pp P :: L) := by
    rw [hC]; exact (Sat.sub (hs) (by with_reducible repeat first | exact Fr1 | exact Fr2 | (apply Fr3; focus ((repeat (first | exact Tk1 | apply Tk2)); done)) | apply Fr4))
  clear hs
  have hrs : tot rs ≤ 10000000 ∧ rs.length ≤ 1000 := by
    have h1 := hok.2.2.2.2.2.2.1
    have h2 := hok.2.2.2.2.2.2.2.1
    have h3 : 100000 * i ≤ 100000 * 60 := Nat.mul_le_mul_left _ hi
    omega
  have HC := Lib.hid (And.intro hC (And.intro hsk (And.intro e0 (And.intro e3 (And.intro e6 (And.intro e7 (And.intro e10 (And.intro hP (And.intro hnc (And.intro hcm (And.intro hkp (And.intro hslN (And.intro hrs hok))))))))))))); clear hC hsk e0 e3 e6 e7 e10 hP hnc hcm hkp hslN hrs hok
  have hk3 : (k : Int) < 3 := by omega
  have hpk : ∀ w : World, Calls Tryz.prog 21 #[.int .i64 on, .int .i64 3] w fun e w' => e = .returned (.int .i64 (k : Int)) ∧ w = w' := fun w => by
    have := pickW w on 3 (by omega) (by omega)
    rw [HC.out.2.2.2.2.2.2.2.2.2.2.1] at this
    exact this
  have HP := Lib.hid hpk; clear hpk
  cases wide
  · skip
    go_enter Tryz.func9, Tryz.ntmps9
    go_wp2_with (refine wpl_box rfl 43 (.tmp 1) rfl [.int .i64 on, .int .i64 0, .int .i64 to, .slice pp n cap, .int .u8 alg] rfl s0 ?_; intro w1 g s1' _; have s1 : Sat W0 w1 (seg true x 0 C :: seg true g 0 [.int .i64 on, .int .i64 0, .int .i64 to, .slice pp n cap, .int .u8 alg] :: stars (S.map slA) :: row pt ct 1 N (ts.map pieceV) :: row pw cw 1 N (us.map pieceV) :: ownRows ts :: ownRows us :: ledO (some l) rs :: rledO (some m) rs :: bytes false pp P :: L) := (Sat.sub (s1') (by with_reducible repeat first | exact Fr1 | exact Fr2 | (apply Fr3; focus ((repeat (first | exact Tk1 | apply Tk2)); done)) | apply Fr4)); clear s1' s0; have g0 := ((Sat.sub (s1) (by with_reducible repeat first | exact Fr1 | exact Fr2 | (apply Fr3; focus ((repeat (first | exact Tk1 | apply Tk2)); done)) | apply Fr4)) : Sat W0 _ (seg true g 0 [.int .i64 on, .int .i64 0, .int .i64 to, .slice pp n cap, .int .u8 alg] :: [])).at 0 rfl; have gz := ((Sat.sub (s1) (by with_reducible repeat first | exact Fr1 | exact Fr2 | (apply Fr3; focus ((repeat (first | exact Tk1 | apply Tk2)); done)) | apply Fr4)) : Sat W0 _ (seg true g 0 [.int .i64 on, .int .i64 0, .int .i64 to, .slice pp n cap, .int .u8 alg] :: [])).lt (by simp))
    refine (HP.out w1).mono ?_
    rintro e w2 ⟨rfl, rfl⟩
    clear g0 gz
    have g1 := ((Sat.sub (s1) (by with_reducible repeat first | exact Fr1 | exact Fr2 | (apply Fr3; focus ((repeat (first | exact Tk1 | apply Tk2)); done)) | apply Fr4)) : Sat W0 _ (seg true g 0 [.int .i64 on, .int .i64 0, .int .i64 to, .slice pp n cap, .int .u8 alg] :: [])).at 1 rfl
    have g3 := ((Sat.sub (s1) (by with_reducible repeat first | exact Fr1 | exact Fr2 | (apply Fr3; focus ((repeat (first | exact Tk1 | apply Tk2)); done)) | apply Fr4)) : Sat W0 _ (seg true g 0 [.int .i64 on, .int .i64 0, .int .i64 to, .slice pp n cap, .int .u8 alg] :: [])).at 3 rfl
    have gz := ((Sat.sub (s1) (by with_reducible repeat first | exact Fr1 | exact Fr2 | (apply Fr3; focus ((repeat (first | exact Tk1 | apply Tk2)); done)) | apply Fr4)) : Sat W0 _ (seg true g 0 [.int .i64 on, .int .i64 0, .int .i64 to, .slice pp n cap, .int .u8 alg] :: [])).lt (by simp)
    have x0 := s1.at k HC.out.2.2.1
    have x3 := s1.at (3 + k) HC.out.2.2.2.1
    have x6 := s1.at 6 HC.out.2.2.2.2.1
    have x7 := s1.at 7 HC.out.2.2.2.2.2.1
    have xz := s1.lt (by rw [HC.out.2.2.2.2.2.2.1]; omega)
    simp only [slS, slR, ifv] at x0 x3
    have sg := starsGet HC.out.2.1 ((Sat.sub (s1) (by with_reducible repeat first | exact Fr1 | exact Fr2 | (apply Fr3; focus ((repeat (first | exact Tk1 | apply Tk2)); done)) | apply Fr4)) : Sat W0 _ (stars (S.map slA) :: seg true x 0 C :: seg true g 0 [.int .i64 on, .int .i64 0, .int .i64 to, .slice pp n cap, .int .u8 alg] :: row pt ct 1 N (ts.map pieceV) :: row pw cw 1 N (us.map pieceV) :: ownRows ts :: ownRows us :: ledO (some l) rs :: rledO (some m) rs :: bytes false pp P :: L))
    have sh : Sat W0 _ (dst false pb msg :: rs11 false rb msg :: _) := Sat.sepOpen (show Sat W0 _ (sep (dst false pb msg) (rs11 false rb msg) :: _) from sg)
    have s2 : Sat W0 _ (bytes false pp P :: seg true x 0 C :: seg true g 0 [.int .i64 on, .int .i64 0, .int .i64 to, .slice pp n cap, .int .u8 alg] :: row pt ct 1 N (ts.map pieceV) :: row pw cw 1 N (us.map pieceV) :: ownRows ts :: ownRows us :: ledO (some l) rs :: rledO (some m) rs :: dst false pb msg :: rs11 false rb msg :: stars ((S.map slA).eraseIdx k) :: L) := (Sat.sub (sh) (by with_reducible repeat first | exact Fr1 | exact Fr2 | (apply Fr3; focus ((repeat (first | exact Tk1 | apply Tk2)); done)) | apply Fr4))
    clear sg sh s1
    go_wp2_with fail
    refine (lentF P HC.out.2.2.2.2.2.2.2.1 (by omega) s2).mono ?_
    rintro e w3 ⟨q, c, rfl, hc1, hc2, s3⟩
    clear s2 x0 x3 x6 x7 xz g1 g3 gz
    have HW := Lib.hid (And.intro hc1 hc2); clear hc2
    have hc0 : n ≤ c := by omega
    obtain ⟨q2, s4', hj⟩ := bytesSplit (A := P) (B := marks 7 6) (by intro h; have := congrArg List.length h; simp [marks_len] at this) s3
    have s4 : Sat W0 w3 (seg true x 0 C :: seg true g 0 [.int .i64 on, .int .i64 0, .int .i64 to, .slice pp n cap, .int .u8 alg] :: bytes true q P :: bytes true q2 (marks 7 6) :: row pt ct 1 N (ts.map pieceV) :: row pw cw 1 N (us.map pieceV) :: ownRows ts :: ownRows us :: ledO (some l) rs :: rledO (some m) rs :: dst false pb msg :: rs11 false rb msg :: stars ((S.map slA).eraseIdx k) :: bytes false pp P :: L) := (Sat.sub (s4') (by with_reducible repeat first | exact Fr1 | exact Fr2 | (apply Fr3; focus ((repeat (first | exact Tk1 | apply Tk2)); done)) | apply Fr4))
    have HJ := Lib.hid hj; clear hj s3 s4'
    have g1 := ((Sat.sub (s4) (by with_reducible repeat first | exact Fr1 | exact Fr2 | (apply Fr3; focus ((repeat (first | exact Tk1 | apply Tk2)); done)) | apply Fr4)) : Sat W0 _ (seg true g 0 [.int .i64 on, .int .i64 0, .int .i64 to, .slice pp n cap, .int .u8 alg] :: [])).at 1 rfl
    have g3 := ((Sat.sub (s4) (by with_reducible repeat first | exact Fr1 | exact Fr2 | (apply Fr3; focus ((repeat (first | exact Tk1 | apply Tk2)); done)) | apply Fr4)) : Sat W0 _ (seg true g 0 [.int .i64 on, .int .i64 0, .int .i64 to, .slice pp n cap, .int .u8 alg] :: [])).at 3 rfl
    have gz := ((Sat.sub (s4) (by with_reducible repeat first | exact Fr1 | exact Fr2 | (apply Fr3; focus ((repeat (first | exact Tk1 | apply Tk2)); done)) | apply Fr4)) : Sat W0 _ (seg true g 0 [.int .i64 on, .int .i64 0, .int .i64 to, .slice pp n cap, .int .u8 alg] :: [])).lt (by simp)
    have x0 := s4.at k HC.out.2.2.1
    have x3 := s4.at (3 + k) HC.out.2.2.2.1
    have x6 := s4.at 6 HC.out.2.2.2.2.1
    have x7 := s4.at 7 HC.out.2.2.2.2.2.1
    have xz := s4.lt (by rw [HC.out.2.2.2.2.2.2.1]; omega)
    simp only [slS, slR, ifv] at x0 x3
    go_wp2_with fail
    have s4d := s4.drew
    clear x0 x3 x6 x7 xz g1 g3 gz
    refine region_E (fun w' => w'.cell? ⟨x, 6, none⟩ = some (.pointer (some ⟨l, 0, none⟩)) ∧ x < w'.heap.size ∧ w'.cell? ⟨g, 3, none⟩ = some (.slice pp n cap) ∧ g < w'.heap.size) [4, 7] (by kernel_rfl) ?_
    have hHeld := (And.intro (Sat.at ((Sat.sub (s4d) (by with_reducible repeat first | exact Fr1 | exact Fr2 | (apply Fr3; focus ((repeat (first | exact Tk1 | apply Tk2)); done)) | apply Fr4)) : Sat W0 _ (seg true x 0 C :: [])) 6 HC.out.2.2.2.2.1) (And.intro (Sat.lt ((Sat.sub (s4d) (by with_reducible repeat first | exact Fr1 | exact Fr2 | (apply Fr3; focus ((repeat (first | exact Tk1 | apply Tk2)); done)) | apply Fr4)) : Sat W0 _ (seg true x 0 C :: [])) (by rw [HC.out.2.2.2.2.2.2.1]; omega)) (And.intro (((Sat.sub (s4d) (by with_reducible repeat first | exact Fr1 | exact Fr2 | (apply Fr3; focus ((repeat (first | exact Tk1 | apply Tk2)); done)) | apply Fr4)) : Sat W0 _ (seg true g 0 [.int .i64 on, .int .i64 0, .int .i64 to, .slice pp n cap, .int .u8 alg] :: [])).at 3 rfl) (((Sat.sub (s4d) (by with_reducible repeat first | exact Fr1 | exact Fr2 | (apply Fr3; focus ((repeat (first | exact Tk1 | apply Tk2)); done)) | apply Fr4)) : Sat W0 _ (seg true g 0 [.int .i64 on, .int .i64 0, .int .i64 to, .slice pp n cap, .int .u8 alg] :: [])).lt (by simp)))))
    iterate 10
     first | refine autoT hHeld (by rfl) (by rfl) (x := ?_) (v := ?_) ?_ (by kernel_rfl) ?_ ?_ ?_ | refine autoP (by rfl) (x := ?_) (v := ?_) ?_ (by kernel_rfl) ?_ ?_ ?_
     rotate_left 2
     · (simp only [gE1, gE2, gE3]; rfl)
     · exact fun _ _ _ h => h
     · refine Or.inl ⟨by rfl, fun w hSw => ?_⟩
       (try dsimp only at hSw)
       go_simp
       try (with_reducible rfl)
     try simp only [pA1, pA2, pA3, pA4]
    refine anyE_pure (i := 10) (x := ?_) (v := ?_) ?_ (by kernel_rfl) (by kernel_rfl) (by kernel_rfl) ?_ ?_ ?_
    rotate_left 2
    · (simp only [gE1, gE2, gE3]; rfl)
    · exact fun _ _ _ h => h
    · refine Or.inl ⟨by rfl, fun w hSw => ?_⟩
      (try dsimp only at hSw)
      go_simp
      try (with_reducible rfl)
    try simp only [pA1, pA2, pA3, pA4]
    iterate 2
     first | refine autoT hHeld (by rfl) (by rfl) (x := ?_) (v := ?_) ?_ (by kernel_rfl) ?_ ?_ ?_ | refine autoP (by rfl) (x := ?_) (v := ?_) ?_ (by kernel_rfl) ?_ ?_ ?_
     rotate_left 2
     · (simp only [gE1, gE2, gE3]; rfl)
     · exact fun _ _ _ h => h
     · refine Or.inl ⟨by rfl, fun w hSw => ?_⟩
       (try dsimp only at hSw)
       go_simp
       try (with_reducible rfl)
     try simp only [pA1, pA2, pA3, pA4]
    refine anyE_one (i := 13) (x := ?_) ?_ (by kernel_rfl) (fun K hK => ?_)
    rotate_left
    · (simp only [gE1, gE2, gE3]; rfl)
    go_simp
    refine (dWriteF (pv := .pointer (some ⟨l, 0, none⟩)) false (some l) rs msg P HC.out.2.2.2.2.2.2.2.1 rfl (by omega) HW.out.2 (by have := HC.out.2.2.2.2.2.2.2.2.2.2.2.1; have := HC.out.2.2.2.2.2.2.2.2.2.2.2.2.1; simp only [slN] at *; omega) (by have := HC.out.2.2.2.2.2.2.2.2.2.2.2.2.1; omega) ((Sat.sub (s4d) (by with_reducible repeat first | exact Fr1 | exact Fr2 | (apply Fr3; focus ((repeat (first | exact Tk1 | apply Tk2)); done)) | apply Fr4)) : Sat W0 _ (ledO (some l) rs :: bytes true q P :: dst false pb msg :: rs11 false rb msg :: bytes true q2 (marks 7 6) :: rledO (some m) rs :: seg true x 0 C :: seg true g 0 [.int .i64 on, .int .i64 0, .int .i64 to, .slice pp n cap, .int .u8 alg] :: row pt ct 1 N (ts.map pieceV) :: row pw cw 1 N (us.map pieceV) :: ownRows ts :: ownRows us :: stars ((S.map slA).eraseIdx k) :: bytes false pp P :: L))).mono ?_
    rintro e w5 ⟨rfl, s5⟩
    go_wp2_with fail
    have hKp := (And.intro (Sat.at ((Sat.sub (s5) (by with_reducible repeat first | exact Fr1 | exact Fr2 | (apply Fr3; focus ((repeat (first | exact Tk1 | apply Tk2)); done)) | apply Fr4)) : Sat W0 _ (seg true x 0 C :: [])) 6 HC.out.2.2.2.2.1) (And.intro (Sat.lt ((Sat.sub (s5) (by with_reducible repeat first | exact Fr1 | exact Fr2 | (apply Fr3; focus ((repeat (first | exact Tk1 | apply Tk2)); done)) | apply Fr4)) : Sat W0 _ (seg true x 0 C :: [])) (by rw [HC.out.2.2.2.2.2.2.1]; omega)) (And.intro (((Sat.sub (s5) (by with_reducible repeat first | exact Fr1 | exact Fr2 | (apply Fr3; focus ((repeat (first | exact Tk1 | apply Tk2)); done)) | apply Fr4)) : Sat W0 _ (seg true g 0 [.int .i64 on, .int .i64 0, .int .i64 to, .slice pp n cap, .int .u8 alg] :: [])).at 3 rfl) (((Sat.sub (s5) (by with_reducible repeat first | exact Fr1 | exact Fr2 | (apply Fr3; focus ((repeat (first | exact Tk1 | apply Tk2)); done)) | apply Fr4)) : Sat W0 _ (seg true g 0 [.int .i64 on, .int .i64 0, .int .i64 to, .slice pp n cap, .int .u8 alg] :: [])).lt (by simp)))))
    refine hK.out _ _ hKp ?_
    clear hK K hHeld
    have hHeld := hKp
    clear hKp
    try simp only [pA1, pA2, pA3, pA4]
    iterate 1
     first | refine autoT hHeld (by rfl) (by rfl) (x := ?_) (v := ?_) ?_ (by kernel_rfl) ?_ ?_ ?_ | refine autoP (by rfl) (x := ?_) (v := ?_) ?_ (by kernel_rfl) ?_ ?_ ?_
     rotate_left 2
     · (simp only [gE1, gE2, gE3]; rfl)
     · exact fun _ _ _ h => h
     · refine Or.inl ⟨by rfl, fun w hSw => ?_⟩
       (try dsimp only at hSw)
       go_simp
       try (with_reducible rfl)
     try simp only [pA1, pA2, pA3, pA4]
    refine anyE_done (by kernel_rfl) ?_ _
    have dd := 0; clear dd
    have g1 := ((Sat.sub (s5) (by with_reducible repeat first | exact Fr1 | exact Fr2 | (apply Fr3; focus ((repeat (first | exact Tk1 | apply Tk2)); done)) | apply Fr4)) : Sat W0 _ (seg true g 0 [.int .i64 on, .int .i64 0, .int .i64 to, .slice pp n cap, .int .u8 alg] :: [])).at 1 rfl
    have g3 := ((Sat.sub (s5) (by with_reducible repeat first | exact Fr1 | exact Fr2 | (apply Fr3; focus ((repeat (first | exact Tk1 | apply Tk2)); done)) | apply Fr4)) : Sat W0 _ (seg true g 0 [.int .i64 on, .int .i64 0, .int .i64 to, .slice pp n cap, .int .u8 alg] :: [])).at 3 rfl
    have gz := ((Sat.sub (s5) (by with_reducible repeat first | exact Fr1 | exact Fr2 | (apply Fr3; focus ((repeat (first | exact Tk1 | apply Tk2)); done)) | apply Fr4)) : Sat W0 _ (seg true g 0 [.int .i64 on, .int .i64 0, .int .i64 to, .slice pp n cap, .int .u8 alg] :: [])).lt (by simp)
    go_wp2_with fail
    clear g1 g3 gz
    have s5d := s5.drew
    clear s4 s4d
    refine region_E (fun w' => w'.cell? ⟨x, 7, none⟩ = some (.pointer (some ⟨m, 0, none⟩)) ∧ x < w'.heap.size ∧ w'.cell? ⟨g, 3, none⟩ = some (.slice pp n cap) ∧ g < w'.heap.size) [4, 6] (by kernel_rfl) ?_
    have hHeld := (And.intro (Sat.at ((Sat.sub (s5d) (by with_reducible repeat first | exact Fr1 | exact Fr2 | (apply Fr3; focus ((repeat (first | exact Tk1 | apply Tk2)); done)) | apply Fr4)) : Sat W0 _ (seg true x 0 C :: [])) 7 HC.out.2.2.2.2.2.1) (And.intro (Sat.lt ((Sat.sub (s5d) (by with_reducible repeat first | exact Fr1 | exact Fr2 | (apply Fr3; focus ((repeat (first | exact Tk1 | apply Tk2)); done)) | apply Fr4)) : Sat W0 _ (seg true x 0 C :: [])) (by rw [HC.out.2.2.2.2.2.2.1]; omega)) (And.intro (((Sat.sub (s5d) (by with_reducible repeat first | exact Fr1 | exact Fr2 | (apply Fr3; focus ((repeat (first | exact Tk1 | apply Tk2)); done)) | apply Fr4)) : Sat W0 _ (seg true g 0 [.int .i64 on, .int .i64 0, .int .i64 to, .slice pp n cap, .int .u8 alg] :: [])).at 3 rfl) (((Sat.sub (s5d) (by with_reducible repeat first | exact Fr1 | exact Fr2 | (apply Fr3; focus ((repeat (first | exact Tk1 | apply Tk2)); done)) | apply Fr4)) : Sat W0 _ (seg true g 0 [.int .i64 on, .int .i64 0, .int .i64 to, .slice pp n cap, .int .u8 alg] :: [])).lt (by simp)))))
    iterate 7
     first | refine autoT hHeld (by rfl) (by rfl) (x := ?_) (v := ?_) ?_ (by kernel_rfl) ?_ ?_ ?_ | refine autoP (by rfl) (x := ?_) (v := ?_) ?_ (by kernel_rfl) ?_ ?_ ?_
     rotate_left 2
     · (simp only [gE1, gE2, gE3]; rfl)
     · exact fun _ _ _ h => h
     · refine Or.inl ⟨by rfl, fun w hSw => ?_⟩
       (try dsimp only at hSw)
       go_simp
       try (with_reducible rfl)
     try simp only [pA1, pA2, pA3, pA4]
    refine anyE_one (i := 7) (x := ?_) ?_ (by kernel_rfl) (fun K hK => ?_)
    rotate_left
    · (simp only [gE1, gE2, gE3]; rfl)
    go_simp
    refine (rs11Write (pv := .pointer (some ⟨m, 0, none⟩)) false (some m) rs msg P HC.out.2.2.2.2.2.2.2.1 (by omega) (by have := HC.out.2.2.2.2.2.2.2.2.2.2.2.1; simp only [slN] at this; omega) rfl (by have := HC.out.2.2.2.2.2.2.2.2.2.2.2.1; have := HC.out.2.2.2.2.2.2.2.2.2.2.2.2.1; simp only [slN] at *; omega) (by have := HC.out.2.2.2.2.2.2.2.2.2.2.2.2.1; omega) ((Sat.sub (s5d) (by with_reducible repeat first | exact Fr1 | exact Fr2 | (apply Fr3; focus ((repeat (first | exact Tk1 | apply Tk2)); done)) | apply Fr4)) : Sat W0 _ (rledO (some m) rs :: bytes false pp P :: rs11 false rb msg :: dst false pb (msg ++ P) :: bytes true q P :: bytes true q2 (marks 7 6) :: ledO (some l) (noteN rs (evK false) (evS false) ((msg.length + n) / bsz false - msg.length / bsz false)) :: seg true x 0 C :: seg true g 0 [.int .i64 on, .int .i64 0, .int .i64 to, .slice pp n cap, .int .u8 alg] :: row pt ct 1 N (ts.map pieceV) :: row pw cw 1 N (us.map pieceV) :: ownRows ts :: ownRows us :: stars ((S.map slA).eraseIdx k) :: L))).mono ?_
    rintro e w6 ⟨rfl, s6⟩
    go_wp2_with fail
    have hKp := (And.intro (Sat.at ((Sat.sub (s6) (by with_reducible repeat first | exact Fr1 | exact Fr2 | (apply Fr3; focus ((repeat (first | exact Tk1 | apply Tk2)); done)) | apply Fr4)) : Sat W0 _ (seg true x 0 C :: [])) 7 HC.out.2.2.2.2.2.1) (And.intro (Sat.lt ((Sat.sub (s6) (by with_reducible repeat first | exact Fr1 | exact Fr2 | (apply Fr3; focus ((repeat (first | exact Tk1 | apply Tk2)); done)) | apply Fr4)) : Sat W0 _ (seg true x 0 C :: [])) (by rw [HC.out.2.2.2.2.2.2.1]; omega)) (And.intro (((Sat.sub (s6) (by with_reducible repeat first | exact Fr1 | exact Fr2 | (apply Fr3; focus ((repeat (first | exact Tk1 | apply Tk2)); done)) | apply Fr4)) : Sat W0 _ (seg true g 0 [.int .i64 on, .int .i64 0, .int .i64 to, .slice pp n cap, .int .u8 alg] :: [])).at 3 rfl) (((Sat.sub (s6) (by with_reducible repeat first | exact Fr1 | exact Fr2 | (apply Fr3; focus ((repeat (first | exact Tk1 | apply Tk2)); done)) | apply Fr4)) : Sat W0 _ (seg true g 0 [.int .i64 on, .int .i64 0, .int .i64 to, .slice pp n cap, .int .u8 alg] :: [])).lt (by simp)))))
    refine hK.out _ _ hKp ?_
    clear hK K hHeld
    have hHeld := hKp
    clear hKp
    try simp only [pA1, pA2, pA3, pA4]
    iterate 1
     first | refine autoT hHeld (by rfl) (by rfl) (x := ?_) (v := ?_) ?_ (by kernel_rfl) ?_ ?_ ?_ | refine autoP (by rfl) (x := ?_) (v := ?_) ?_ (by kernel_rfl) ?_ ?_ ?_
     rotate_left 2
     · (simp only [gE1, gE2, gE3]; rfl)
     · exact fun _ _ _ h => h
     · refine Or.inl ⟨by rfl, fun w hSw => ?_⟩
       (try dsimp only at hSw)
       go_simp
       try (with_reducible rfl)
     try simp only [pA1, pA2, pA3, pA4]
    refine anyE_done (by kernel_rfl) ?_ _
    clear s5 s5d
    have g1 := ((Sat.sub (s6) (by with_reducible repeat first | exact Fr1 | exact Fr2 | (apply Fr3; focus ((repeat (first | exact Tk1 | apply Tk2)); done)) | apply Fr4)) : Sat W0 _ (seg true g 0 [.int .i64 on, .int .i64 0, .int .i64 to, .slice pp n cap, .int .u8 alg] :: [])).at 1 rfl
    have g3 := ((Sat.sub (s6) (by with_reducible repeat first | exact Fr1 | exact Fr2 | (apply Fr3; focus ((repeat (first | exact Tk1 | apply Tk2)); done)) | apply Fr4)) : Sat W0 _ (seg true g 0 [.int .i64 on, .int .i64 0, .int .i64 to, .slice pp n cap, .int .u8 alg] :: [])).at 3 rfl
    have gz := ((Sat.sub (s6) (by with_reducible repeat first | exact Fr1 | exact Fr2 | (apply Fr3; focus ((repeat (first | exact Tk1 | apply Tk2)); done)) | apply Fr4)) : Sat W0 _ (seg true g 0 [.int .i64 on, .int .i64 0, .int .i64 to, .slice pp n cap, .int .u8 alg] :: [])).lt (by simp)
    go_wp2_with fail
    have s7 : Sat W0 _ (bytes true q (lentB P) :: _) := HJ.out _ _ ((Sat.sub (s6) (by with_reducible repeat first | exact Fr1 | exact Fr2 | (apply Fr3; focus ((repeat (first | exact Tk1 | apply Tk2)); done)) | apply Fr4)) : Sat W0 _ (bytes true q P :: bytes true q2 (marks 7 6) :: bytes false pp P :: rledO (some m) (noteN rs (evK false) (evS false) ((msg.length + n) / bsz false - msg.length / bsz false)) :: rs11 false rb (msg ++ P) :: dst false pb (msg ++ P) :: ledO (some l) (noteN rs (evK false) (evS false) ((msg.length + n) / bsz false - msg.length / bsz false)) :: seg true x 0 C :: seg true g 0 [.int .i64 on, .int .i64 0, .int .i64 to, .slice pp n cap, .int .u8 alg] :: row pt ct 1 N (ts.map pieceV) :: row pw cw 1 N (us.map pieceV) :: ownRows ts :: ownRows us :: stars ((S.map slA).eraseIdx k) :: L))
    refine (keptF P HC.out.2.2.2.2.2.2.2.1 rfl (by omega) ((Sat.sub (s7) (by with_reducible repeat first | exact Fr1 | exact Fr2 | (apply Fr3; focus ((repeat (first | exact Tk1 | apply Tk2)); done)) | apply Fr4)) : Sat W0 _ (bytes true q (lentB P) :: bytes false pp P :: rledO (some m) (noteN rs (evK false) (evS false) ((msg.length + n) / bsz false - msg.length / bsz false)) :: rs11 false rb (msg ++ P) :: dst false pb (msg ++ P) :: ledO (some l) (noteN rs (evK false) (evS false) ((msg.length + n) / bsz false - msg.length / bsz false)) :: seg true x 0 C :: seg true g 0 [.int .i64 on, .int .i64 0, .int .i64 to, .slice pp n cap, .int .u8 alg] :: row pt ct 1 N (ts.map pieceV) :: row pw cw 1 N (us.map pieceV) :: ownRows ts :: ownRows us :: stars ((S.map slA).eraseIdx k) :: L))).mono ?_
    rintro e w8 ⟨rfl, s8⟩
    clear s6 s7 g1 g3 gz
    go_wp2_with fail
    refine (overF (lentB P) (by rw [lentB_len, HC.out.2.2.2.2.2.2.2.1]) (by omega) s8).mono ?_
    rintro e w9 ⟨rfl, s9⟩
    clear s8
    have sk : Sat W0 w9 (slA (.live false (msg ++ P) pb rb) :: _) := Sat.sepShut ((Sat.sub (s9) (by with_reducible repeat first | exact Fr1 | exact Fr2 | (apply Fr3; focus ((repeat (first | exact Tk1 | apply Tk2)); done)) | apply Fr4)) : Sat W0 w9 (dst false pb (msg ++ P) :: rs11 false rb (msg ++ P) :: stars ((S.map slA).eraseIdx k) :: seg true x 0 C :: row pt ct 1 N (ts.map pieceV) :: row pw cw 1 N (us.map pieceV) :: ownRows ts :: ownRows us :: ledO (some l) (noteN rs (evK false) (evS false) ((msg.length + n) / bsz false - msg.length / bsz false)) :: rledO (some m) (noteN rs (evK false) (evS false) ((msg.length + n) / bsz false - msg.length / bsz false)) :: L))
    have si := starsPut HC.out.2.1 sk
    have hset : C = wCells l m (S.set k (.live false (msg ++ P) pb rb)) pt ct N pw cw := by
      rw [← wc_setS HC.out.2.2.2.2.2.2.2.2.2.2.2.2.2.1 k hk (.live false (msg ++ P) pb rb) (.live false (msg ++ P) pb rb)]
      have h1 := HC.out.2.2.1
      have h2 := HC.out.2.2.2.1
      rw [HC.out.1] at h1 h2 ⊢
      obtain ⟨a1, a2⟩ := List.getElem?_eq_some_iff.1 h1
      rw [show slS (.live false (msg ++ P) pb rb) = (wCells l m S pt ct N pw cw)[k] from a2.symm, List.set_getElem_self]
      obtain ⟨b1, b2⟩ := List.getElem?_eq_some_iff.1 h2
      rw [show slR (.live false (msg ++ P) pb rb) = (wCells l m S pt ct N pw cw)[3 + k] from b2.symm, List.set_getElem_self]
    rw [hset] at si
    have sj : Sat W0 w9 (wA x l m (S.set k (.live false (msg ++ P) pb rb)) ts us pt ct pw cw N (noteN rs (evK false) (evS false) ((msg.length + n) / bsz false - msg.length / bsz false)) L) := (Sat.sub (si) (by with_reducible repeat first | exact Fr1 | exact Fr2 | (apply Fr3; focus ((repeat (first | exact Tk1 | apply Tk2)); done)) | apply Fr4))
    have HS := Lib.hid sj; clear s9 sk si sj hset
    go_wp2_with fail
    go_ret
    have ho := HC.out.2.2.2.2.2.2.2.2.2.2.2.2.2
    have hq : (msg.length + n) / bsz false - msg.length / bsz false ≤ 100000 := Nat.le_trans (Nat.sub_le _ _) (Nat.le_trans (Nat.div_le_self _ _) (by have := HC.out.2.2.2.2.2.2.2.2.2.2.2.1; simp only [slN] at this; omega))
    have hl2 := noteN_len rs (evK false) (evS false) ((msg.length + n) / bsz false - msg.length / bsz false)
    exact ⟨rfl, S.set k (.live false (msg ++ P) pb rb), ts, us, pt, ct, pw, cw, N, noteN rs (evK false) (evS false) ((msg.length + n) / bsz false - msg.length / bsz false), ⟨by rw [List.length_set]; exact ho.1, ho.2.1, ho.2.2.1, ho.2.2.2.1, by have := ho.2.2.2.2.1; omega, ho.2.2.2.2.2.1, by rw [tot_noteN]; have := ho.2.2.2.2.2.2.1; omega, by have := ho.2.2.2.2.2.2.2.1; omega, mem_set_le ho.2.2.2.2.2.2.2.2 (by omega) (by have := HC.out.2.2.2.2.2.2.2.2.2.2.2.1; simp only [slN, List.length_append] at *; have := HC.out.2.2.2.2.2.2.2.1; omega)⟩, HS.out⟩
  · skip
    go_enter Tryz.func9, Tryz.ntmps9
    go_wp2_with (refine wpl_box rfl 43 (.tmp 1) rfl [.int .i64 on, .int .i64 0, .int .i64 to, .slice pp n cap, .int .u8 alg] rfl s0 ?_; intro w1 g s1' _; have s1 : Sat W0 w1 (seg true x 0 C :: seg true g 0 [.int .i64 on, .int .i64 0, .int .i64 to, .slice pp n cap, .int .u8 alg] :: stars (S.map slA) :: row pt ct 1 N (ts.map pieceV) :: row pw cw 1 N (us.map pieceV) :: ownRows ts :: ownRows us :: ledO (some l) rs :: rledO (some m) rs :: bytes false pp P :: L) := (Sat.sub (s1') (by with_reducible repeat first | exact Fr1 | exact Fr2 | (apply Fr3; focus ((repeat (first | exact Tk1 | apply Tk2)); done)) | apply Fr4)); clear s1' s0; have g0 := ((Sat.sub (s1) (by with_reducible repeat first | exact Fr1 | exact Fr2 | (apply Fr3; focus ((repeat (first | exact Tk1 | apply Tk2)); done)) | apply Fr4)) : Sat W0 _ (seg true g 0 [.int .i64 on, .int .i64 0, .int .i64 to, .slice pp n cap, .int .u8 alg] :: [])).at 0 rfl; have gz := ((Sat.sub (s1) (by with_reducible repeat first | exact Fr1 | exact Fr2 | (apply Fr3; focus ((repeat (first | exact Tk1 | apply Tk2)); done)) | apply Fr4)) : Sat W0 _ (seg true g 0 [.int .i64 on, .int .i64 0, .int .i64 to, .slice pp n cap, .int .u8 alg] :: [])).lt (by simp))
    refine (HP.out w1).mono ?_
    rintro e w2 ⟨rfl, rfl⟩
    clear g0 gz
    have g1 := ((Sat.sub (s1) (by with_reducible repeat first | exact Fr1 | exact Fr2 | (apply Fr3; focus ((repeat (first | exact Tk1 | apply Tk2)); done)) | apply Fr4)) : Sat W0 _ (seg true g 0 [.int .i64 on, .int .i64 0, .int .i64 to, .slice pp n cap, .int .u8 alg] :: [])).at 1 rfl
    have g3 := ((Sat.sub (s1) (by with_reducible repeat first | exact Fr1 | exact Fr2 | (apply Fr3; focus ((repeat (first | exact Tk1 | apply Tk2)); done)) | apply Fr4)) : Sat W0 _ (seg true g 0 [.int .i64 on, .int .i64 0, .int .i64 to, .slice pp n cap, .int .u8 alg] :: [])).at 3 rfl
    have gz := ((Sat.sub (s1) (by with_reducible repeat first | exact Fr1 | exact Fr2 | (apply Fr3; focus ((repeat (first | exact Tk1 | apply Tk2)); done)) | apply Fr4)) : Sat W0 _ (seg true g 0 [.int .i64 on, .int .i64 0, .int .i64 to, .slice pp n cap, .int .u8 alg] :: [])).lt (by simp)
    have x0 := s1.at k HC.out.2.2.1
    have x3 := s1.at (3 + k) HC.out.2.2.2.1
    have x6 := s1.at 6 HC.out.2.2.2.2.1
    have x7 := s1.at 7 HC.out.2.2.2.2.2.1
    have xz := s1.lt (by rw [HC.out.2.2.2.2.2.2.1]; omega)
    simp only [slS, slR, ifv] at x0 x3
    have sg := starsGet HC.out.2.1 ((Sat.sub (s1) (by with_reducible repeat first | exact Fr1 | exact Fr2 | (apply Fr3; focus ((repeat (first | exact Tk1 | apply Tk2)); done)) | apply Fr4)) : Sat W0 _ (stars (S.map slA) :: seg true x 0 C :: seg true g 0 [.int .i64 on, .int .i64 0, .int .i64 to, .slice pp n cap, .int .u8 alg] :: row pt ct 1 N (ts.map pieceV) :: row pw cw 1 N (us.map pieceV) :: ownRows ts :: ownRows us :: ledO (some l) rs :: rledO (some m) rs :: bytes false pp P :: L))
    have sh : Sat W0 _ (dst true pb msg :: rs11 true rb msg :: _) := Sat.sepOpen (show Sat W0 _ (sep (dst true pb msg) (rs11 true rb msg) :: _) from sg)
    have s2 : Sat W0 _ (bytes false pp P :: seg true x 0 C :: seg true g 0 [.int .i64 on, .int .i64 0, .int .i64 to, .slice pp n cap, .int .u8 alg] :: row pt ct 1 N (ts.map pieceV) :: row pw cw 1 N (us.map pieceV) :: ownRows ts :: ownRows us :: ledO (some l) rs :: rledO (some m) rs :: dst true pb msg :: rs11 true rb msg :: stars ((S.map slA).eraseIdx k) :: L) := (Sat.sub (sh) (by with_reducible repeat first | exact Fr1 | exact Fr2 | (apply Fr3; focus ((repeat (first | exact Tk1 | apply Tk2)); done)) | apply Fr4))
    clear sg sh s1
    go_wp2_with fail
    refine (lentF P HC.out.2.2.2.2.2.2.2.1 (by omega) s2).mono ?_
    rintro e w3 ⟨q, c, rfl, hc1, hc2, s3⟩
    clear s2 x0 x3 x6 x7 xz g1 g3 gz
    have HW := Lib.hid (And.intro hc1 hc2); clear hc2
    have hc0 : n ≤ c := by omega
    obtain ⟨q2, s4', hj⟩ := bytesSplit (A := P) (B := marks 7 6) (by intro h; have := congrArg List.length h; simp [marks_len] at this) s3
    have s4 : Sat W0 w3 (seg true x 0 C :: seg true g 0 [.int .i64 on, .int .i64 0, .int .i64 to, .slice pp n cap, .int .u8 alg] :: bytes true q P :: bytes true q2 (marks 7 6) :: row pt ct 1 N (ts.map pieceV) :: row pw cw 1 N (us.map pieceV) :: ownRows ts :: ownRows us :: ledO (some l) rs :: rledO (some m) rs :: dst true pb msg :: rs11 true rb msg :: stars ((S.map slA).eraseIdx k) :: bytes false pp P :: L) := (Sat.sub (s4') (by with_reducible repeat first | exact Fr1 | exact Fr2 | (apply Fr3; focus ((repeat (first | exact Tk1 | apply Tk2)); done)) | apply Fr4))
    have HJ := Lib.hid hj; clear hj s3 s4'
    have g1 := ((Sat.sub (s4) (by with_reducible repeat first | exact Fr1 | exact Fr2 | (apply Fr3; focus ((repeat (first | exact Tk1 | apply Tk2)); done)) | apply Fr4)) : Sat W0 _ (seg true g 0 [.int .i64 on, .int .i64 0, .int .i64 to, .slice pp n cap, .int .u8 alg] :: [])).at 1 rfl
    have g3 := ((Sat.sub (s4) (by with_reducible repeat first | exact Fr1 | exact Fr2 | (apply Fr3; focus ((repeat (first | exact Tk1 | apply Tk2)); done)) | apply Fr4)) : Sat W0 _ (seg true g 0 [.int .i64 on, .int .i64 0, .int .i64 to, .slice pp n cap, .int .u8 alg] :: [])).at 3 rfl
    have gz := ((Sat.sub (s4) (by with_reducible repeat first | exact Fr1 | exact Fr2 | (apply Fr3; focus ((repeat (first | exact Tk1 | apply Tk2)); done)) | apply Fr4)) : Sat W0 _ (seg true g 0 [.int .i64 on, .int .i64 0, .int .i64 to, .slice pp n cap, .int .u8 alg] :: [])).lt (by simp)
    have x0 := s4.at k HC.out.2.2.1
    have x3 := s4.at (3 + k) HC.out.2.2.2.1
    have x6 := s4.at 6 HC.out.2.2.2.2.1
    have x7 := s4.at 7 HC.out.2.2.2.2.2.1
    have xz := s4.lt (by rw [HC.out.2.2.2.2.2.2.1]; omega)
    simp only [slS, slR, ifv] at x0 x3
    go_wp2_with fail
    have s4d := s4.drew
    clear x0 x3 x6 x7 xz g1 g3 gz
    refine region_E (fun w' => w'.cell? ⟨x, 6, none⟩ = some (.pointer (some ⟨l, 0, none⟩)) ∧ x < w'.heap.size ∧ w'.cell? ⟨g, 3, none⟩ = some (.slice pp n cap) ∧ g < w'.heap.size) [4, 7] (by kernel_rfl) ?_
    have hHeld := (And.intro (Sat.at ((Sat.sub (s4d) (by with_reducible repeat first | exact Fr1 | exact Fr2 | (apply Fr3; focus ((repeat (first | exact Tk1 | apply Tk2)); done)) | apply Fr4)) : Sat W0 _ (seg true x 0 C :: [])) 6 HC.out.2.2.2.2.1) (And.intro (Sat.lt ((Sat.sub (s4d) (by with_reducible repeat first | exact Fr1 | exact Fr2 | (apply Fr3; focus ((repeat (first | exact Tk1 | apply Tk2)); done)) | apply Fr4)) : Sat W0 _ (seg true x 0 C :: [])) (by rw [HC.out.2.2.2.2.2.2.1]; omega)) (And.intro (((Sat.sub (s4d) (by with_reducible repeat first | exact Fr1 | exact Fr2 | (apply Fr3; focus ((repeat (first | exact Tk1 | apply Tk2)); done)) | apply Fr4)) : Sat W0 _ (seg true g 0 [.int .i64 on, .int .i64 0, .int .i64 to, .slice pp n cap, .int .u8 alg] :: [])).at 3 rfl) (((Sat.sub (s4d) (by with_reducible repeat first | exact Fr1 | exact Fr2 | (apply Fr3; focus ((repeat (first | exact Tk1 | apply Tk2)); done)) | apply Fr4)) : Sat W0 _ (seg true g 0 [.int .i64 on, .int .i64 0, .int .i64 to, .slice pp n cap, .int .u8 alg] :: [])).lt (by simp)))))
    iterate 10
     first | refine autoT hHeld (by rfl) (by rfl) (x := ?_) (v := ?_) ?_ (by kernel_rfl) ?_ ?_ ?_ | refine autoP (by rfl) (x := ?_) (v := ?_) ?_ (by kernel_rfl) ?_ ?_ ?_
     rotate_left 2
     · (simp only [gE1, gE2, gE3]; rfl)
     · exact fun _ _ _ h => h
     · refine Or.inl ⟨by rfl, fun w hSw => ?_⟩
       (try dsimp only at hSw)
       go_simp
       try (with_reducible rfl)
     try simp only [pA1, pA2, pA3, pA4]
    refine anyE_pure (i := 10) (x := ?_) (v := ?_) ?_ (by kernel_rfl) (by kernel_rfl) (by kernel_rfl) ?_ ?_ ?_
    rotate_left 2
    · (simp only [gE1, gE2, gE3]; rfl)
    · exact fun _ _ _ h => h
    · refine Or.inl ⟨by rfl, fun w hSw => ?_⟩
      (try dsimp only at hSw)
      go_simp
      try (with_reducible rfl)
    try simp only [pA1, pA2, pA3, pA4]
    iterate 2
     first | refine autoT hHeld (by rfl) (by rfl) (x := ?_) (v := ?_) ?_ (by kernel_rfl) ?_ ?_ ?_ | refine autoP (by rfl) (x := ?_) (v := ?_) ?_ (by kernel_rfl) ?_ ?_ ?_
     rotate_left 2
     · (simp only [gE1, gE2, gE3]; rfl)
     · exact fun _ _ _ h => h
     · refine Or.inl ⟨by rfl, fun w hSw => ?_⟩
       (try dsimp only at hSw)
       go_simp
       try (with_reducible rfl)
     try simp only [pA1, pA2, pA3, pA4]
    refine anyE_one (i := 13) (x := ?_) ?_ (by kernel_rfl) (fun K hK => ?_)
    rotate_left
    · (simp only [gE1, gE2, gE3]; rfl)
    go_simp
    refine (dWriteF (pv := .pointer (some ⟨l, 0, none⟩)) true (some l) rs msg P HC.out.2.2.2.2.2.2.2.1 rfl (by omega) HW.out.2 (by have := HC.out.2.2.2.2.2.2.2.2.2.2.2.1; have := HC.out.2.2.2.2.2.2.2.2.2.2.2.2.1; simp only [slN] at *; omega) (by have := HC.out.2.2.2.2.2.2.2.2.2.2.2.2.1; omega) ((Sat.sub (s4d) (by with_reducible repeat first | exact Fr1 | exact Fr2 | (apply Fr3; focus ((repeat (first | exact Tk1 | apply Tk2)); done)) | apply Fr4)) : Sat W0 _ (ledO (some l) rs :: bytes true q P :: dst true pb msg :: rs11 true rb msg :: bytes true q2 (marks 7 6) :: rledO (some m) rs :: seg true x 0 C :: seg true g 0 [.int .i64 on, .int .i64 0, .int .i64 to, .slice pp n cap, .int .u8 alg] :: row pt ct 1 N (ts.map pieceV) :: row pw cw 1 N (us.map pieceV) :: ownRows ts :: ownRows us :: stars ((S.map slA).eraseIdx k) :: bytes false pp P :: L))).mono ?_
    rintro e w5 ⟨rfl, s5⟩
    go_wp2_with fail
    have hKp := (And.intro (Sat.at ((Sat.sub (s5) (by with_reducible repeat first | exact Fr1 | exact Fr2 | (apply Fr3; focus ((repeat (first | exact Tk1 | apply Tk2)); done)) | apply Fr4)) : Sat W0 _ (seg true x 0 C :: [])) 6 HC.out.2.2.2.2.1) (And.intro (Sat.lt ((Sat.sub (s5) (by with_reducible repeat first | exact Fr1 | exact Fr2 | (apply Fr3; focus ((repeat (first | exact Tk1 | apply Tk2)); done)) | apply Fr4)) : Sat W0 _ (seg true x 0 C :: [])) (by rw [HC.out.2.2.2.2.2.2.1]; omega)) (And.intro (((Sat.sub (s5) (by with_reducible repeat first | exact Fr1 | exact Fr2 | (apply Fr3; focus ((repeat (first | exact Tk1 | apply Tk2)); done)) | apply Fr4)) : Sat W0 _ (seg true g 0 [.int .i64 on, .int .i64 0, .int .i64 to, .slice pp n cap, .int .u8 alg] :: [])).at 3 rfl) (((Sat.sub (s5) (by with_reducible repeat first | exact Fr1 | exact Fr2 | (apply Fr3; focus ((repeat (first | exact Tk1 | apply Tk2)); done)) | apply Fr4)) : Sat W0 _ (seg true g 0 [.int .i64 on, .int .i64 0, .int .i64 to, .slice pp n cap, .int .u8 alg] :: [])).lt (by simp)))))
    refine hK.out _ _ hKp ?_
    clear hK K hHeld
    have hHeld := hKp
    clear hKp
    try simp only [pA1, pA2, pA3, pA4]
    iterate 1
     first | refine autoT hHeld (by rfl) (by rfl) (x := ?_) (v := ?_) ?_ (by kernel_rfl) ?_ ?_ ?_ | refine autoP (by rfl) (x := ?_) (v := ?_) ?_ (by kernel_rfl) ?_ ?_ ?_
     rotate_left 2
     · (simp only [gE1, gE2, gE3]; rfl)
     · exact fun _ _ _ h => h
     · refine Or.inl ⟨by rfl, fun w hSw => ?_⟩
       (try dsimp only at hSw)
       go_simp
       try (with_reducible rfl)
     try simp only [pA1, pA2, pA3, pA4]
    refine anyE_done (by kernel_rfl) ?_ _
    have dd := 0; clear dd
    have g1 := ((Sat.sub (s5) (by with_reducible repeat first | exact Fr1 | exact Fr2 | (apply Fr3; focus ((repeat (first | exact Tk1 | apply Tk2)); done)) | apply Fr4)) : Sat W0 _ (seg true g 0 [.int .i64 on, .int .i64 0, .int .i64 to, .slice pp n cap, .int .u8 alg] :: [])).at 1 rfl
    have g3 := ((Sat.sub (s5) (by with_reducible repeat first | exact Fr1 | exact Fr2 | (apply Fr3; focus ((repeat (first | exact Tk1 | apply Tk2)); done)) | apply Fr4)) : Sat W0 _ (seg true g 0 [.int .i64 on, .int .i64 0, .int .i64 to, .slice pp n cap, .int .u8 alg] :: [])).at 3 rfl
    have gz := ((Sat.sub (s5) (by with_reducible repeat first | exact Fr1 | exact Fr2 | (apply Fr3; focus ((repeat (first | exact Tk1 | apply Tk2)); done)) | apply Fr4)) : Sat W0 _ (seg true g 0 [.int .i64 on, .int .i64 0, .int .i64 to, .slice pp n cap, .int .u8 alg] :: [])).lt (by simp)
    go_wp2_with fail
    clear g1 g3 gz
    have s5d := s5.drew
    clear s4 s4d
    refine region_E (fun w' => w'.cell? ⟨x, 7, none⟩ = some (.pointer (some ⟨m, 0, none⟩)) ∧ x < w'.heap.size ∧ w'.cell? ⟨g, 3, none⟩ = some (.slice pp n cap) ∧ g < w'.heap.size) [4, 6] (by kernel_rfl) ?_
    have hHeld := (And.intro (Sat.at ((Sat.sub (s5d) (by with_reducible repeat first | exact Fr1 | exact Fr2 | (apply Fr3; focus ((repeat (first | exact Tk1 | apply Tk2)); done)) | apply Fr4)) : Sat W0 _ (seg true x 0 C :: [])) 7 HC.out.2.2.2.2.2.1) (And.intro (Sat.lt ((Sat.sub (s5d) (by with_reducible repeat first | exact Fr1 | exact Fr2 | (apply Fr3; focus ((repeat (first | exact Tk1 | apply Tk2)); done)) | apply Fr4)) : Sat W0 _ (seg true x 0 C :: [])) (by rw [HC.out.2.2.2.2.2.2.1]; omega)) (And.intro (((Sat.sub (s5d) (by with_reducible repeat first | exact Fr1 | exact Fr2 | (apply Fr3; focus ((repeat (first | exact Tk1 | apply Tk2)); done)) | apply Fr4)) : Sat W0 _ (seg true g 0 [.int .i64 on, .int .i64 0, .int .i64 to, .slice pp n cap, .int .u8 alg] :: [])).at 3 rfl) (((Sat.sub (s5d) (by with_reducible repeat first | exact Fr1 | exact Fr2 | (apply Fr3; focus ((repeat (first | exact Tk1 | apply Tk2)); done)) | apply Fr4)) : Sat W0 _ (seg true g 0 [.int .i64 on, .int .i64 0, .int .i64 to, .slice pp n cap, .int .u8 alg] :: [])).lt (by simp)))))
    iterate 7
     first | refine autoT hHeld (by rfl) (by rfl) (x := ?_) (v := ?_) ?_ (by kernel_rfl) ?_ ?_ ?_ | refine autoP (by rfl) (x := ?_) (v := ?_) ?_ (by kernel_rfl) ?_ ?_ ?_
     rotate_left 2
     · (simp only [gE1, gE2, gE3]; rfl)
     · exact fun _ _ _ h => h
     · refine Or.inl ⟨by rfl, fun w hSw => ?_⟩
       (try dsimp only at hSw)
       go_simp
       try (with_reducible rfl)
     try simp only [pA1, pA2, pA3, pA4]
    refine anyE_one (i := 7) (x := ?_) ?_ (by kernel_rfl) (fun K hK => ?_)
    rotate_left
    · (simp only [gE1, gE2, gE3]; rfl)
    go_simp
    refine (rs11Write (pv := .pointer (some ⟨m, 0, none⟩)) true (some m) rs msg P HC.out.2.2.2.2.2.2.2.1 (by omega) (by have := HC.out.2.2.2.2.2.2.2.2.2.2.2.1; simp only [slN] at this; omega) rfl (by have := HC.out.2.2.2.2.2.2.2.2.2.2.2.1; have := HC.out.2.2.2.2.2.2.2.2.2.2.2.2.1; simp only [slN] at *; omega) (by have := HC.out.2.2.2.2.2.2.2.2.2.2.2.2.1; omega) ((Sat.sub (s5d) (by with_reducible repeat first | exact Fr1 | exact Fr2 | (apply Fr3; focus ((repeat (first | exact Tk1 | apply Tk2)); done)) | apply Fr4)) : Sat W0 _ (rledO (some m) rs :: bytes false pp P :: rs11 true rb msg :: dst true pb (msg ++ P) :: bytes true q P :: bytes true q2 (marks 7 6) :: ledO (some l) (noteN rs (evK true) (evS true) ((msg.length + n) / bsz true - msg.length / bsz true)) :: seg true x 0 C :: seg true g 0 [.int .i64 on, .int .i64 0, .int .i64 to, .slice pp n cap, .int .u8 alg] :: row pt ct 1 N (ts.map pieceV) :: row pw cw 1 N (us.map pieceV) :: ownRows ts :: ownRows us :: stars ((S.map slA).eraseIdx k) :: L))).mono ?_
    rintro e w6 ⟨rfl, s6⟩
    go_wp2_with fail
    have hKp := (And.intro (Sat.at ((Sat.sub (s6) (by with_reducible repeat first | exact Fr1 | exact Fr2 | (apply Fr3; focus ((repeat (first | exact Tk1 | apply Tk2)); done)) | apply Fr4)) : Sat W0 _ (seg true x 0 C :: [])) 7 HC.out.2.2.2.2.2.1) (And.intro (Sat.lt ((Sat.sub (s6) (by with_reducible repeat first | exact Fr1 | exact Fr2 | (apply Fr3; focus ((repeat (first | exact Tk1 | apply Tk2)); done)) | apply Fr4)) : Sat W0 _ (seg true x 0 C :: [])) (by rw [HC.out.2.2.2.2.2.2.1]; omega)) (And.intro (((Sat.sub (s6) (by with_reducible repeat first | exact Fr1 | exact Fr2 | (apply Fr3; focus ((repeat (first | exact Tk1 | apply Tk2)); done)) | apply Fr4)) : Sat W0 _ (seg true g 0 [.int .i64 on, .int .i64 0, .int .i64 to, .slice pp n cap, .int .u8 alg] :: [])).at 3 rfl) (((Sat.sub (s6) (by with_reducible repeat first | exact Fr1 | exact Fr2 | (apply Fr3; focus ((repeat (first | exact Tk1 | apply Tk2)); done)) | apply Fr4)) : Sat W0 _ (seg true g 0 [.int .i64 on, .int .i64 0, .int .i64 to, .slice pp n cap, .int .u8 alg] :: [])).lt (by simp)))))
    refine hK.out _ _ hKp ?_
    clear hK K hHeld
    have hHeld := hKp
    clear hKp
    try simp only [pA1, pA2, pA3, pA4]
    iterate 1
     first | refine autoT hHeld (by rfl) (by rfl) (x := ?_) (v := ?_) ?_ (by kernel_rfl) ?_ ?_ ?_ | refine autoP (by rfl) (x := ?_) (v := ?_) ?_ (by kernel_rfl) ?_ ?_ ?_
     rotate_left 2
     · (simp only [gE1, gE2, gE3]; rfl)
     · exact fun _ _ _ h => h
     · refine Or.inl ⟨by rfl, fun w hSw => ?_⟩
       (try dsimp only at hSw)
       go_simp
       try (with_reducible rfl)
     try simp only [pA1, pA2, pA3, pA4]
    refine anyE_done (by kernel_rfl) ?_ _
    clear s5 s5d
    have g1 := ((Sat.sub (s6) (by with_reducible repeat first | exact Fr1 | exact Fr2 | (apply Fr3; focus ((repeat (first | exact Tk1 | apply Tk2)); done)) | apply Fr4)) : Sat W0 _ (seg true g 0 [.int .i64 on, .int .i64 0, .int .i64 to, .slice pp n cap, .int .u8 alg] :: [])).at 1 rfl
    have g3 := ((Sat.sub (s6) (by with_reducible repeat first | exact Fr1 | exact Fr2 | (apply Fr3; focus ((repeat (first | exact Tk1 | apply Tk2)); done)) | apply Fr4)) : Sat W0 _ (seg true g 0 [.int .i64 on, .int .i64 0, .int .i64 to, .slice pp n cap, .int .u8 alg] :: [])).at 3 rfl
    have gz := ((Sat.sub (s6) (by with_reducible repeat first | exact Fr1 | exact Fr2 | (apply Fr3; focus ((repeat (first | exact Tk1 | apply Tk2)); done)) | apply Fr4)) : Sat W0 _ (seg true g 0 [.int .i64 on, .int .i64 0, .int .i64 to, .slice pp n cap, .int .u8 alg] :: [])).lt (by simp)
    go_wp2_with fail
    have s7 : Sat W0 _ (bytes true q (lentB P) :: _) := HJ.out _ _ ((Sat.sub (s6) (by with_reducible repeat first | exact Fr1 | exact Fr2 | (apply Fr3; focus ((repeat (first | exact Tk1 | apply Tk2)); done)) | apply Fr4)) : Sat W0 _ (bytes true q P :: bytes true q2 (marks 7 6) :: bytes false pp P :: rledO (some m) (noteN rs (evK true) (evS true) ((msg.length + n) / bsz true - msg.length / bsz true)) :: rs11 true rb (msg ++ P) :: dst true pb (msg ++ P) :: ledO (some l) (noteN rs (evK true) (evS true) ((msg.length + n) / bsz true - msg.length / bsz true)) :: seg true x 0 C :: seg true g 0 [.int .i64 on, .int .i64 0, .int .i64 to, .slice pp n cap, .int .u8 alg] :: row pt ct 1 N (ts.map pieceV) :: row pw cw 1 N (us.map pieceV) :: ownRows ts :: ownRows us :: stars ((S.map slA).eraseIdx k) :: L))
    refine (keptF P HC.out.2.2.2.2.2.2.2.1 rfl (by omega) ((Sat.sub (s7) (by with_reducible repeat first | exact Fr1 | exact Fr2 | (apply Fr3; focus ((repeat (first | exact Tk1 | apply Tk2)); done)) | apply Fr4)) : Sat W0 _ (bytes true q (lentB P) :: bytes false pp P :: rledO (some m) (noteN rs (evK true) (evS true) ((msg.length + n) / bsz true - msg.length / bsz true)) :: rs11 true rb (msg ++ P) :: dst true pb (msg ++ P) :: ledO (some l) (noteN rs (evK true) (evS true) ((msg.length + n) / bsz true - msg.length / bsz true)) :: seg true x 0 C :: seg true g 0 [.int .i64 on, .int .i64 0, .int .i64 to, .slice pp n cap, .int .u8 alg] :: row pt ct 1 N (ts.map pieceV) :: row pw cw 1 N (us.map pieceV) :: ownRows ts :: ownRows us :: stars ((S.map slA).eraseIdx k) :: L))).mono ?_
    rintro e w8 ⟨rfl, s8⟩
    clear s6 s7 g1 g3 gz
    go_wp2_with fail
    refine (overF (lentB P) (by rw [lentB_len, HC.out.2.2.2.2.2.2.2.1]) (by omega) s8).mono ?_
    rintro e w9 ⟨rfl, s9⟩
    clear s8
    have sk : Sat W0 w9 (slA (.live true (msg ++ P) pb rb) :: _) := Sat.sepShut ((Sat.sub (s9) (by with_reducible repeat first | exact Fr1 | exact Fr2 | (apply Fr3; focus ((repeat (first | exact Tk1 | apply Tk2)); done)) | apply Fr4)) : Sat W0 w9 (dst true pb (msg ++ P) :: rs11 true rb (msg ++ P) :: stars ((S.map slA).eraseIdx k) :: seg true x 0 C :: row pt ct 1 N (ts.map pieceV) :: row pw cw 1 N (us.map pieceV) :: ownRows ts :: ownRows us :: ledO (some l) (noteN rs (evK true) (evS true) ((msg.length + n) / bsz true - msg.length / bsz true)) :: rledO (some m) (noteN rs (evK true) (evS true) ((msg.length + n) / bsz true - msg.length / bsz true)) :: L))
    have si := starsPut HC.out.2.1 sk
    have hset : C = wCells l m (S.set k (.live true (msg ++ P) pb rb)) pt ct N pw cw := by
      rw [← wc_setS HC.out.2.2.2.2.2.2.2.2.2.2.2.2.2.1 k hk (.live true (msg ++ P) pb rb) (.live true (msg ++ P) pb rb)]
      have h1 := HC.out.2.2.1
      have h2 := HC.out.2.2.2.1
      rw [HC.out.1] at h1 h2 ⊢
      obtain ⟨a1, a2⟩ := List.getElem?_eq_some_iff.1 h1
      rw [show slS (.live true (msg ++ P) pb rb) = (wCells l m S pt ct N pw cw)[k] from a2.symm, List.set_getElem_self]
      obtain ⟨b1, b2⟩ := List.getElem?_eq_some_iff.1 h2
      rw [show slR (.live true (msg ++ P) pb rb) = (wCells l m S pt ct N pw cw)[3 + k] from b2.symm, List.set_getElem_self]
    rw [hset] at si
    have sj : Sat W0 w9 (wA x l m (S.set k (.live true (msg ++ P) pb rb)) ts us pt ct pw cw N (noteN rs (evK true) (evS true) ((msg.length + n) / bsz true - msg.length / bsz true)) L) := (Sat.sub (si) (by with_reducible repeat first | exact Fr1 | exact Fr2 | (apply Fr3; focus ((repeat (first | exact Tk1 | apply Tk2)); done)) | apply Fr4))
    have HS := Lib.hid sj; clear s9 sk si sj hset
    go_wp2_with fail
    go_ret
    have ho := HC.out.2.2.2.2.2.2.2.2.2.2.2.2.2
    have hq : (msg.length + n) / bsz true - msg.length / bsz true ≤ 100000 := Nat.le_trans (Nat.sub_le _ _) (Nat.le_trans (Nat.div_le_self _ _) (by have := HC.out.2.2.2.2.2.2.2.2.2.2.2.1; simp only [slN] at this; omega))
    have hl2 := noteN_len rs (evK true) (evS true) ((msg.length + n) / bsz true - msg.length / bsz true)
    exact ⟨rfl, S.set k (.live true (msg ++ P) pb rb), ts, us, pt, ct, pw, cw, N, noteN rs (evK true) (evS true) ((msg.length + n) / bsz true - msg.length / bsz true), ⟨by rw [List.length_set]; exact ho.1, ho.2.1, ho.2.2.1, ho.2.2.2.1, by have := ho.2.2.2.2.1; omega, ho.2.2.2.2.2.1, by rw [tot_noteN]; have := ho.2.2.2.2.2.2.1; omega, by have := ho.2.2.2.2.2.2.2.1; omega, mem_set_le ho.2.2.2.2.2.2.2.2 (by omega) (by have := HC.out.2.2.2.2.2.2.2.2.2.2.2.1; simp only [slN, List.length_append] at *; have := HC.out.2.2.2.2.2.2.2.1; omega)⟩, HS.out⟩
end Go.Proofs.YtlmababpmmhhoaaGreat

/- DigestCalls: a call of both: Sum, Form; under the conditions that each names. -/
namespace Go.Proofs.YtlmababpmmhhoaaGreat
open Go.RowKit Go.Sep Go.Bv Go.Sha
set_option linter.unusedVariables false
set_option linter.unusedSimpArgs false
theorem dSumP {W0 w : World} {L : List Assn} {b : Nat} {pv : Value} (wide : Bool) (p : Option Nat) (rs : List Run3) (msg : List Byte) (hp : pv = ptrO p) (hb : tot rs + msg.length + 300 ≤ 2305843009213693952) (hl : rs.length ≤ 1048576) (hs : Sat W0 w (ledO p rs :: dst wide b msg :: L)) :
    Calls Tryz.prog (fSum wide) #[.pointer (some ⟨b, 0, none⟩), pv] w fun e w' => ∃ q c, e = .returned (.tuple #[.slice q (hsz wide) c, .int .i64 0]) ∧ Sat W0 w' (row q c 1 (hsz wide) (u8s (hash wide msg)) :: ledO p (noteN rs (evK wide) (evS wide) (lastN wide msg.length)) :: dst wide b msg :: L) := by
  subst hp; exact dSum wide p rs msg hb hl hs
theorem slotBack {W0 w : World} {L : List Assn} {S : List Sl} {k : Nat} {a : Sl} (hk : S[k]? = some a) (h : Sat W0 w (slA a :: stars ((S.map slA).eraseIdx k) :: L)) : Sat W0 w (stars (S.map slA) :: L) := by
  have := starsPut hk h
  rw [set_same hk] at this
  exact this
theorem okKeep {M i N : Nat} {S : List Sl} {ts us : List Piece} {rs rs' : List Run3} {pa pb : Option Addr} {ca cb M' : Nat} {bs : List Byte} (h : okW M i S ts us N rs) (hM : M ≤ M') (hb : bs.length ≤ 1000) (ht : tot rs' ≤ tot rs + 100000) (hl : rs'.length ≤ rs.length + 1) : okW M' (i + 1) S (ts ++ [(pa, ca, bs)]) (us ++ [(pb, cb, bs)]) (N + 1) rs' := by
  obtain ⟨h1, h2, h3, h4, h5, h6, h7, h8, h9⟩ := h
  refine ⟨h1, by simp [h2], by simp [h3], by simp [h4], by omega, ?_, by omega, by omega, fun s hs => Nat.le_trans (h9 s hs) hM⟩
  intro t ht
  rcases List.mem_append.1 ht with h | h
  · exact h6 t h
  · rw [List.mem_singleton] at h; subst h; exact hb

set_option maxRecDepth 100000 in
set_option maxHeartbeats 8000000 in
theorem act_sum {W0 w : World} {L : List Assn} {x l m M i N k n cap : Nat} {S : List Sl} {ts us : List Piece} {pt pw pp : Option Addr} {ct cw : Nat} {rs : List Run3} {msg P : List Byte} {pb rb : Nat} (wide : Bool) (on to alg : Int) (hok : okW M i S ts us N rs) (hi : i ≤ 60) (hM : M + n ≤ 100000) (hP : P.length = n) (hnc : n ≤ cap) (hcm : cap ≤ maxLen) (hkp : pickM on 3 = k) (hsk : S[k]? = some (.live wide msg pb rb))
    (hs : Sat W0 w (wA x l m S ts us pt ct pw cw N rs (bytes false pp P :: L))) :
    Calls Tryz.prog 9 #[.pointer (some ⟨x, 0, none⟩), .agg #[.int .i64 on, .int .i64 1, .int .i64 to, .slice pp n cap, .int .u8 alg]] w (postA W0 L x l m (M + n) i) := by
  have hk : k < 3 := by rw [← hok.1]; exact (List.getElem?_eq_some_iff.1 hsk).1
  have hslN := hok.2.2.2.2.2.2.2.2 _ (List.mem_of_getElem? hsk)
  obtain ⟨e0, e3⟩ := wc_S (l := l) (m := m) (pt := pt) (pw := pw) (ct := ct) (N := N) (cw := cw) hok.1 k hsk
  obtain ⟨e6, e7, -, -, e10⟩ := wc_at (l := l) (m := m) (pt := pt) (pw := pw) (ct := ct) (N := N) (cw := cw) hok.1
  obtain ⟨C, hC⟩ : ∃ C, C = wCells l m S pt ct N pw cw := ⟨_, rfl⟩
  rw [← hC] at e0 e3 e6 e7 e10
  have s0 : Sat W0 w (seg true x 0 C :: stars (S.map slA) :: row pt ct 1 N (ts.map pieceV) :: row pw cw 1 N (us.map pieceV) :: ownRows ts :: ownRows us :: ledO (some l) rs :: rledO (some m) rs :: bytes false pp P :: L) := by
    rw [hC]; exact (Sat.sub (hs) (by with_reducible repeat first | exact Fr1 | exact Fr2 | (apply Fr3; focus ((repeat (first | exact Tk1 | apply Tk2)); done)) | apply Fr4))
  clear hs
  have hrs : tot rs ≤ 10000000 ∧ rs.length ≤ 1000 := by
    have h1 := hok.2.2.2.2.2.2.1
    have h2 := hok.2.2.2.2.2.2.2.1
    have h3 : 100000 * i ≤ 100000 * 60 := Nat.mul_le_mul_left _ hi
    omega
  have HC := Lib.hid (And.intro hC (And.intro hsk (And.intro e0 (And.intro e3 (And.intro e6 (And.intro e7 (And.intro e10 (And.intro hP (And.intro hnc (And.intro hcm (And.intro hkp (And.intro hslN (And.intro hrs hok))))))))))))); clear hC hsk e0 e3 e6 e7 e10 hP hnc hcm hkp hslN hrs hok
  have hk3 : (k : Int) < 3 := by omega
  have hpk : ∀ w : World, Calls Tryz.prog 21 #[.int .i64 on, .int .i64 3] w fun e w' => e = .returned (.int .i64 (k : Int)) ∧ w = w' := fun w => by
    have := pickW w on 3 (by omega) (by omega)
    rw [HC.out.2.2.2.2.2.2.2.2.2.2.1] at this
    exact this
  have HP := Lib.hid hpk; clear hpk
  cases wide
  · skip
    go_enter Tryz.func9, Tryz.ntmps9
    go_wp2_with (refine wpl_box rfl 43 (.tmp 1) rfl [.int .i64 on, .int .i64 1, .int .i64 to, .slice pp n cap, .int .u8 alg] rfl s0 ?_; intro w1 g s1' _; have s1 : Sat W0 w1 (seg true x 0 C :: seg true g 0 [.int .i64 on, .int .i64 1, .int .i64 to, .slice pp n cap, .int .u8 alg] :: stars (S.map slA) :: row pt ct 1 N (ts.map pieceV) :: row pw cw 1 N (us.map pieceV) :: ownRows ts :: ownRows us :: ledO (some l) rs :: rledO (some m) rs :: bytes false pp P :: L) := (Sat.sub (s1') (by with_reducible repeat first | exact Fr1 | exact Fr2 | (apply Fr3; focus ((repeat (first | exact Tk1 | apply Tk2)); done)) | apply Fr4)); clear s1' s0; have g0 := ((Sat.sub (s1) (by with_reducible repeat first | exact Fr1 | exact Fr2 | (apply Fr3; focus ((repeat (first | exact Tk1 | apply Tk2)); done)) | apply Fr4)) : Sat W0 _ (seg true g 0 [.int .i64 on, .int .i64 1, .int .i64 to, .slice pp n cap, .int .u8 alg] :: [])).at 0 rfl; have gz := ((Sat.sub (s1) (by with_reducible repeat first | exact Fr1 | exact Fr2 | (apply Fr3; focus ((repeat (first | exact Tk1 | apply Tk2)); done)) | apply Fr4)) : Sat W0 _ (seg true g 0 [.int .i64 on, .int .i64 1, .int .i64 to, .slice pp n cap, .int .u8 alg] :: [])).lt (by simp))
    refine (HP.out w1).mono ?_
    rintro e w2 ⟨rfl, rfl⟩
    clear g0 gz
    have g1 := ((Sat.sub (s1) (by with_reducible repeat first | exact Fr1 | exact Fr2 | (apply Fr3; focus ((repeat (first | exact Tk1 | apply Tk2)); done)) | apply Fr4)) : Sat W0 _ (seg true g 0 [.int .i64 on, .int .i64 1, .int .i64 to, .slice pp n cap, .int .u8 alg] :: [])).at 1 rfl
    have g3 := ((Sat.sub (s1) (by with_reducible repeat first | exact Fr1 | exact Fr2 | (apply Fr3; focus ((repeat (first | exact Tk1 | apply Tk2)); done)) | apply Fr4)) : Sat W0 _ (seg true g 0 [.int .i64 on, .int .i64 1, .int .i64 to, .slice pp n cap, .int .u8 alg] :: [])).at 3 rfl
    have gz := ((Sat.sub (s1) (by with_reducible repeat first | exact Fr1 | exact Fr2 | (apply Fr3; focus ((repeat (first | exact Tk1 | apply Tk2)); done)) | apply Fr4)) : Sat W0 _ (seg true g 0 [.int .i64 on, .int .i64 1, .int .i64 to, .slice pp n cap, .int .u8 alg] :: [])).lt (by simp)
    have x0 := s1.at k HC.out.2.2.1
    have x3 := s1.at (3 + k) HC.out.2.2.2.1
    have x6 := s1.at 6 HC.out.2.2.2.2.1
    have x7 := s1.at 7 HC.out.2.2.2.2.2.1
    have xz := s1.lt (by rw [HC.out.2.2.2.2.2.2.1]; omega)
    simp only [slS, slR, ifv] at x0 x3
    have sg := starsGet HC.out.2.1 ((Sat.sub (s1) (by with_reducible repeat first | exact Fr1 | exact Fr2 | (apply Fr3; focus ((repeat (first | exact Tk1 | apply Tk2)); done)) | apply Fr4)) : Sat W0 _ (stars (S.map slA) :: seg true x 0 C :: seg true g 0 [.int .i64 on, .int .i64 1, .int .i64 to, .slice pp n cap, .int .u8 alg] :: row pt ct 1 N (ts.map pieceV) :: row pw cw 1 N (us.map pieceV) :: ownRows ts :: ownRows us :: ledO (some l) rs :: rledO (some m) rs :: bytes false pp P :: L))
    have sh : Sat W0 _ (dst false pb msg :: rs11 false rb msg :: _) := Sat.sepOpen (show Sat W0 _ (sep (dst false pb msg) (rs11 false rb msg) :: _) from sg)
    have s2 : Sat W0 _ (seg true x 0 C :: seg true g 0 [.int .i64 on, .int .i64 1, .int .i64 to, .slice pp n cap, .int .u8 alg] :: row pt ct 1 N (ts.map pieceV) :: row pw cw 1 N (us.map pieceV) :: ownRows ts :: ownRows us :: ledO (some l) rs :: rledO (some m) rs :: dst false pb msg :: rs11 false rb msg :: stars ((S.map slA).eraseIdx k) :: bytes false pp P :: L) := (Sat.sub (sh) (by with_reducible repeat first | exact Fr1 | exact Fr2 | (apply Fr3; focus ((repeat (first | exact Tk1 | apply Tk2)); done)) | apply Fr4))
    clear sg sh s1
    go_wp2_with fail
    have s2d := s2.drew
    clear x0 x3 x6 x7 xz g1 g3 gz
    refine region_E (fun w' => w'.cell? ⟨x, 6, none⟩ = some (.pointer (some ⟨l, 0, none⟩)) ∧ x < w'.heap.size) [4] (by kernel_rfl) ?_
    have hHeld := (And.intro (Sat.at ((Sat.sub (s2d) (by with_reducible repeat first | exact Fr1 | exact Fr2 | (apply Fr3; focus ((repeat (first | exact Tk1 | apply Tk2)); done)) | apply Fr4)) : Sat W0 _ (seg true x 0 C :: [])) 6 HC.out.2.2.2.2.1) (Sat.lt ((Sat.sub (s2d) (by with_reducible repeat first | exact Fr1 | exact Fr2 | (apply Fr3; focus ((repeat (first | exact Tk1 | apply Tk2)); done)) | apply Fr4)) : Sat W0 _ (seg true x 0 C :: [])) (by rw [HC.out.2.2.2.2.2.2.1]; omega)))
    iterate 5
     first | refine autoT hHeld (by rfl) (by rfl) (x := ?_) (v := ?_) ?_ (by kernel_rfl) ?_ ?_ ?_ | refine autoP (by rfl) (x := ?_) (v := ?_) ?_ (by kernel_rfl) ?_ ?_ ?_
     rotate_left 2
     · (simp only [gE1, gE2, gE3]; rfl)
     · exact fun _ _ _ h => h
     · refine Or.inl ⟨by rfl, fun w hSw => ?_⟩
       (try dsimp only at hSw)
       go_simp
       try (with_reducible rfl)
     try simp only [pA1, pA2, pA3, pA4]
    refine anyE_pure (i := 5) (x := ?_) (v := ?_) ?_ (by kernel_rfl) (by kernel_rfl) (by kernel_rfl) ?_ ?_ ?_
    rotate_left 2
    · (simp only [gE1, gE2, gE3]; rfl)
    · exact fun _ _ _ h => h
    · refine Or.inl ⟨by rfl, fun w hSw => ?_⟩
      (try dsimp only at hSw)
      go_simp
      try (with_reducible rfl)
    try simp only [pA1, pA2, pA3, pA4]
    iterate 2
     first | refine autoT hHeld (by rfl) (by rfl) (x := ?_) (v := ?_) ?_ (by kernel_rfl) ?_ ?_ ?_ | refine autoP (by rfl) (x := ?_) (v := ?_) ?_ (by kernel_rfl) ?_ ?_ ?_
     rotate_left 2
     · (simp only [gE1, gE2, gE3]; rfl)
     · exact fun _ _ _ h => h
     · refine Or.inl ⟨by rfl, fun w hSw => ?_⟩
       (try dsimp only at hSw)
       go_simp
       try (with_reducible rfl)
     try simp only [pA1, pA2, pA3, pA4]
    refine anyE_one (i := 8) (x := ?_) ?_ (by kernel_rfl) (fun K hK => ?_)
    rotate_left
    · (simp only [gE1, gE2, gE3]; rfl)
    go_simp
    refine (dSumP (pv := .pointer (some ⟨l, 0, none⟩)) false (some l) rs msg rfl (by have := HC.out.2.2.2.2.2.2.2.2.2.2.2.1; have := HC.out.2.2.2.2.2.2.2.2.2.2.2.2.1; simp only [slN] at *; omega) (by have := HC.out.2.2.2.2.2.2.2.2.2.2.2.2.1; omega) ((Sat.sub (s2d) (by with_reducible repeat first | exact Fr1 | exact Fr2 | (apply Fr3; focus ((repeat (first | exact Tk1 | apply Tk2)); done)) | apply Fr4)) : Sat W0 _ (ledO (some l) rs :: dst false pb msg :: rs11 false rb msg :: rledO (some m) rs :: seg true x 0 C :: seg true g 0 [.int .i64 on, .int .i64 1, .int .i64 to, .slice pp n cap, .int .u8 alg] :: row pt ct 1 N (ts.map pieceV) :: row pw cw 1 N (us.map pieceV) :: ownRows ts :: ownRows us :: stars ((S.map slA).eraseIdx k) :: L))).mono ?_
    rintro e w5 ⟨pa, ca, rfl, s5⟩
    go_wp2_with fail
    have hKp := (And.intro (Sat.at ((Sat.sub (s5) (by with_reducible repeat first | exact Fr1 | exact Fr2 | (apply Fr3; focus ((repeat (first | exact Tk1 | apply Tk2)); done)) | apply Fr4)) : Sat W0 _ (seg true x 0 C :: [])) 6 HC.out.2.2.2.2.1) (Sat.lt ((Sat.sub (s5) (by with_reducible repeat first | exact Fr1 | exact Fr2 | (apply Fr3; focus ((repeat (first | exact Tk1 | apply Tk2)); done)) | apply Fr4)) : Sat W0 _ (seg true x 0 C :: [])) (by rw [HC.out.2.2.2.2.2.2.1]; omega)))
    refine hK.out _ _ hKp ?_
    clear hK K hHeld
    have hHeld := hKp
    clear hKp
    try simp only [pA1, pA2, pA3, pA4]
    iterate 5
     first | refine autoT hHeld (by rfl) (by rfl) (x := ?_) (v := ?_) ?_ (by kernel_rfl) ?_ ?_ ?_ | refine autoP (by rfl) (x := ?_) (v := ?_) ?_ (by kernel_rfl) ?_ ?_ ?_
     rotate_left 2
     · (simp only [gE1, gE2, gE3]; rfl)
     · exact fun _ _ _ h => h
     · refine Or.inl ⟨by rfl, fun w hSw => ?_⟩
       (try dsimp only at hSw)
       go_simp
       try (with_reducible rfl)
     try simp only [pA1, pA2, pA3, pA4]
    refine anyE_done (by kernel_rfl) ?_ _
    clear s2 s2d
    have s5c : Sat W0 _ (seg true x 0 C :: _) := ((Sat.sub (s5) (by with_reducible repeat first | exact Fr1 | exact Fr2 | (apply Fr3; focus ((repeat (first | exact Tk1 | apply Tk2)); done)) | apply Fr4)) : Sat W0 _ (seg true x 0 C :: []))
    have x0 := s5c.at k HC.out.2.2.1
    have x3 := s5c.at (3 + k) HC.out.2.2.2.1
    have x6 := s5c.at 6 HC.out.2.2.2.2.1
    have x7 := s5c.at 7 HC.out.2.2.2.2.2.1
    have xz := s5c.lt (by rw [HC.out.2.2.2.2.2.2.1]; omega)
    clear x0 x3 x6
    go_wp2_with fail
    refine (rs11Sum (pv := .pointer (some ⟨m, 0, none⟩)) false (some m) rs msg rfl (by have := HC.out.2.2.2.2.2.2.2.2.2.2.2.1; simp only [slN] at this; omega) rfl (by have := HC.out.2.2.2.2.2.2.2.2.2.2.2.1; have := HC.out.2.2.2.2.2.2.2.2.2.2.2.2.1; simp only [slN] at *; omega) (by have := HC.out.2.2.2.2.2.2.2.2.2.2.2.2.1; omega) ((Sat.sub (s5) (by with_reducible repeat first | exact Fr1 | exact Fr2 | (apply Fr3; focus ((repeat (first | exact Tk1 | apply Tk2)); done)) | apply Fr4)) : Sat W0 _ (rledO (some m) rs :: rs11 false rb msg :: dst false pb msg :: row pa ca 1 (hsz false) (u8s (hash false msg)) :: ledO (some l) (noteN rs (evK false) (evS false) (lastN false msg.length)) :: seg true x 0 C :: seg true g 0 [.int .i64 on, .int .i64 1, .int .i64 to, .slice pp n cap, .int .u8 alg] :: row pt ct 1 N (ts.map pieceV) :: row pw cw 1 N (us.map pieceV) :: ownRows ts :: ownRows us :: stars ((S.map slA).eraseIdx k) :: L))).mono ?_
    rintro e w6 ⟨pb', cb, rfl, s6⟩
    clear s5 s5c x7 xz
    have sk : Sat W0 _ (slA (.live false msg pb rb) :: _) := Sat.sepShut ((Sat.sub (s6) (by with_reducible repeat first | exact Fr1 | exact Fr2 | (apply Fr3; focus ((repeat (first | exact Tk1 | apply Tk2)); done)) | apply Fr4)) : Sat W0 _ (dst false pb msg :: rs11 false rb msg :: stars ((S.map slA).eraseIdx k) :: row pa ca 1 (hsz false) (u8s (hash false msg)) :: row pb' cb 1 (hsz false) (u8s (hash false msg)) :: seg true x 0 C :: row pt ct 1 N (ts.map pieceV) :: row pw cw 1 N (us.map pieceV) :: ownRows ts :: ownRows us :: ledO (some l) (noteN rs (evK false) (evS false) (lastN false msg.length)) :: rledO (some m) (noteN rs (evK false) (evS false) (lastN false msg.length)) :: L))
    have si := slotBack HC.out.2.1 sk
    have si2 := si
    rw [HC.out.1] at si2
    have sj : Sat W0 _ (row pa ca 1 (hsz false) (u8s (hash false msg)) :: row pb' cb 1 (hsz false) (u8s (hash false msg)) :: wA x l m S ts us pt ct pw cw N (noteN rs (evK false) (evS false) (lastN false msg.length)) L) := (Sat.sub (si2) (by with_reducible repeat first | exact Fr1 | exact Fr2 | (apply Fr3; focus ((repeat (first | exact Tk1 | apply Tk2)); done)) | apply Fr4))
    clear sk si si2
    go_wp2_with fail
    refine (keep11 (n := (hsz false)) HC.out.2.2.2.2.2.2.2.2.2.2.2.2.2.1 (by have := HC.out.2.2.2.2.2.2.2.2.2.2.2.2.2.2.2.2.2.1; omega) (hash false msg) (hash_len false msg) (by simp only [hsz, fsz]; omega) sj).mono ?_
    rintro e w9 ⟨rfl, pt', ct', pw', cw', s9⟩
    have HS := Lib.hid s9; clear s9 sj
    go_wp2_with fail
    go_ret
    have hq := lastN_le false msg.length
    have hl2 := noteN_len rs (evK false) (evS false) (lastN false msg.length)
    exact ⟨rfl, S, ts ++ [(pa, ca, hash false msg)], us ++ [(pb', cb, hash false msg)], pt', ct', pw', cw', N + 1, noteN rs (evK false) (evS false) (lastN false msg.length), okKeep HC.out.2.2.2.2.2.2.2.2.2.2.2.2.2 (by omega) (by rw [hash_len]; simp only [hsz]; omega) (by rw [tot_noteN]; omega) hl2, HS.out⟩
  · skip
    go_enter Tryz.func9, Tryz.ntmps9
    go_wp2_with (refine wpl_box rfl 43 (.tmp 1) rfl [.int .i64 on, .int .i64 1, .int .i64 to, .slice pp n cap, .int .u8 alg] rfl s0 ?_; intro w1 g s1' _; have s1 : Sat W0 w1 (seg true x 0 C :: seg true g 0 [.int .i64 on, .int .i64 1, .int .i64 to, .slice pp n cap, .int .u8 alg] :: stars (S.map slA) :: row pt ct 1 N (ts.map pieceV) :: row pw cw 1 N (us.map pieceV) :: ownRows ts :: ownRows us :: ledO (some l) rs :: rledO (some m) rs :: bytes false pp P :: L) := (Sat.sub (s1') (by with_reducible repeat first | exact Fr1 | exact Fr2 | (apply Fr3; focus ((repeat (first | exact Tk1 | apply Tk2)); done)) | apply Fr4)); clear s1' s0; have g0 := ((Sat.sub (s1) (by with_reducible repeat first | exact Fr1 | exact Fr2 | (apply Fr3; focus ((repeat (first | exact Tk1 | apply Tk2)); done)) | apply Fr4)) : Sat W0 _ (seg true g 0 [.int .i64 on, .int .i64 1, .int .i64 to, .slice pp n cap, .int .u8 alg] :: [])).at 0 rfl; have gz := ((Sat.sub (s1) (by with_reducible repeat first | exact Fr1 | exact Fr2 | (apply Fr3; focus ((repeat (first | exact Tk1 | apply Tk2)); done)) | apply Fr4)) : Sat W0 _ (seg true g 0 [.int .i64 on, .int .i64 1, .int .i64 to, .slice pp n cap, .int .u8 alg] :: [])).lt (by simp))
    refine (HP.out w1).mono ?_
    rintro e w2 ⟨rfl, rfl⟩
    clear g0 gz
    have g1 := ((Sat.sub (s1) (by with_reducible repeat first | exact Fr1 | exact Fr2 | (apply Fr3; focus ((repeat (first | exact Tk1 | apply Tk2)); done)) | apply Fr4)) : Sat W0 _ (seg true g 0 [.int .i64 on, .int .i64 1, .int .i64 to, .slice pp n cap, .int .u8 alg] :: [])).at 1 rfl
    have g3 := ((Sat.sub (s1) (by with_reducible repeat first | exact Fr1 | exact Fr2 | (apply Fr3; focus ((repeat (first | exact Tk1 | apply Tk2)); done)) | apply Fr4)) : Sat W0 _ (seg true g 0 [.int .i64 on, .int .i64 1, .int .i64 to, .slice pp n cap, .int .u8 alg] :: [])).at 3 rfl
    have gz := ((Sat.sub (s1) (by with_reducible repeat first | exact Fr1 | exact Fr2 | (apply Fr3; focus ((repeat (first | exact Tk1 | apply Tk2)); done)) | apply Fr4)) : Sat W0 _ (seg true g 0 [.int .i64 on, .int .i64 1, .int .i64 to, .slice pp n cap, .int .u8 alg] :: [])).lt (by simp)
    have x0 := s1.at k HC.out.2.2.1
    have x3 := s1.at (3 + k) HC.out.2.2.2.1
    have x6 := s1.at 6 HC.out.2.2.2.2.1
    have x7 := s1.at 7 HC.out.2.2.2.2.2.1
    have xz := s1.lt (by rw [HC.out.2.2.2.2.2.2.1]; omega)
    simp only [slS, slR, ifv] at x0 x3
    have sg := starsGet HC.out.2.1 ((Sat.sub (s1) (by with_reducible repeat first | exact Fr1 | exact Fr2 | (apply Fr3; focus ((repeat (first | exact Tk1 | apply Tk2)); done)) | apply Fr4)) : Sat W0 _ (stars (S.map slA) :: seg true x 0 C :: seg true g 0 [.int .i64 on, .int .i64 1, .int .i64 to, .slice pp n cap, .int .u8 alg] :: row pt ct 1 N (ts.map pieceV) :: row pw cw 1 N (us.map pieceV) :: ownRows ts :: ownRows us :: ledO (some l) rs :: rledO (some m) rs :: bytes false pp P :: L))
    have sh : Sat W0 _ (dst true pb msg :: rs11 true rb msg :: _) := Sat.sepOpen (show Sat W0 _ (sep (dst true pb msg) (rs11 true rb msg) :: _) from sg)
    have s2 : Sat W0 _ (seg true x 0 C :: seg true g 0 [.int .i64 on, .int .i64 1, .int .i64 to, .slice pp n cap, .int .u8 alg] :: row pt ct 1 N (ts.map pieceV) :: row pw cw 1 N (us.map pieceV) :: ownRows ts :: ownRows us :: ledO (some l) rs :: rledO (some m) rs :: dst true pb msg :: rs11 true rb msg :: stars ((S.map slA).eraseIdx k) :: bytes false pp P :: L) := (Sat.sub (sh) (by with_reducible repeat first | exact Fr1 | exact Fr2 | (apply Fr3; focus ((repeat (first | exact Tk1 | apply Tk2)); done)) | apply Fr4))
    clear sg sh s1
    go_wp2_with fail
    have s2d := s2.drew
    clear x0 x3 x6 x7 xz g1 g3 gz
    refine region_E (fun w' => w'.cell? ⟨x, 6, none⟩ = some (.pointer (some ⟨l, 0, none⟩)) ∧ x < w'.heap.size) [4] (by kernel_rfl) ?_
    have hHeld := (And.intro (Sat.at ((Sat.sub (s2d) (by with_reducible repeat first | exact Fr1 | exact Fr2 | (apply Fr3; focus ((repeat (first | exact Tk1 | apply Tk2)); done)) | apply Fr4)) : Sat W0 _ (seg true x 0 C :: [])) 6 HC.out.2.2.2.2.1) (Sat.lt ((Sat.sub (s2d) (by with_reducible repeat first | exact Fr1 | exact Fr2 | (apply Fr3; focus ((repeat (first | exact Tk1 | apply Tk2)); done)) | apply Fr4)) : Sat W0 _ (seg true x 0 C :: [])) (by rw [HC.out.2.2.2.2.2.2.1]; omega)))
    iterate 5
     first | refine autoT hHeld (by rfl) (by rfl) (x := ?_) (v := ?_) ?_ (by kernel_rfl) ?_ ?_ ?_ | refine autoP (by rfl) (x := ?_) (v := ?_) ?_ (by kernel_rfl) ?_ ?_ ?_
     rotate_left 2
     · (simp only [gE1, gE2, gE3]; rfl)
     · exact fun _ _ _ h => h
     · refine Or.inl ⟨by rfl, fun w hSw => ?_⟩
       (try dsimp only at hSw)
       go_simp
       try (with_reducible rfl)
     try simp only [pA1, pA2, pA3, pA4]
    refine anyE_pure (i := 5) (x := ?_) (v := ?_) ?_ (by kernel_rfl) (by kernel_rfl) (by kernel_rfl) ?_ ?_ ?_
    rotate_left 2
    · (simp only [gE1, gE2, gE3]; rfl)
    · exact fun _ _ _ h => h
    · refine Or.inl ⟨by rfl, fun w hSw => ?_⟩
      (try dsimp only at hSw)
      go_simp
      try (with_reducible rfl)
    try simp only [pA1, pA2, pA3, pA4]
    iterate 2
     first | refine autoT hHeld (by rfl) (by rfl) (x := ?_) (v := ?_) ?_ (by kernel_rfl) ?_ ?_ ?_ | refine autoP (by rfl) (x := ?_) (v := ?_) ?_ (by kernel_rfl) ?_ ?_ ?_
     rotate_left 2
     · (simp only [gE1, gE2, gE3]; rfl)
     · exact fun _ _ _ h => h
     · refine Or.inl ⟨by rfl, fun w hSw => ?_⟩
       (try dsimp only at hSw)
       go_simp
       try (with_reducible rfl)
     try simp only [pA1, pA2, pA3, pA4]
    refine anyE_one (i := 8) (x := ?_) ?_ (by kernel_rfl) (fun K hK => ?_)
    rotate_left
    · (simp only [gE1, gE2, gE3]; rfl)
    go_simp
    refine (dSumP (pv := .pointer (some ⟨l, 0, none⟩)) true (some l) rs msg rfl (by have := HC.out.2.2.2.2.2.2.2.2.2.2.2.1; have := HC.out.2.2.2.2.2.2.2.2.2.2.2.2.1; simp only [slN] at *; omega) (by have := HC.out.2.2.2.2.2.2.2.2.2.2.2.2.1; omega) ((Sat.sub (s2d) (by with_reducible repeat first | exact Fr1 | exact Fr2 | (apply Fr3; focus ((repeat (first | exact Tk1 | apply Tk2)); done)) | apply Fr4)) : Sat W0 _ (ledO (some l) rs :: dst true pb msg :: rs11 true rb msg :: rledO (some m) rs :: seg true x 0 C :: seg true g 0 [.int .i64 on, .int .i64 1, .int .i64 to, .slice pp n cap, .int .u8 alg] :: row pt ct 1 N (ts.map pieceV) :: row pw cw 1 N (us.map pieceV) :: ownRows ts :: ownRows us :: stars ((S.map slA).eraseIdx k) :: L))).mono ?_
    rintro e w5 ⟨pa, ca, rfl, s5⟩
    go_wp2_with fail
    have hKp := (And.intro (Sat.at ((Sat.sub (s5) (by with_reducible repeat first | exact Fr1 | exact Fr2 | (apply Fr3; focus ((repeat (first | exact Tk1 | apply Tk2)); done)) | apply Fr4)) : Sat W0 _ (seg true x 0 C :: [])) 6 HC.out.2.2.2.2.1) (Sat.lt ((Sat.sub (s5) (by with_reducible repeat first | exact Fr1 | exact Fr2 | (apply Fr3; focus ((repeat (first | exact Tk1 | apply Tk2)); done)) | apply Fr4)) : Sat W0 _ (seg true x 0 C :: [])) (by rw [HC.out.2.2.2.2.2.2.1]; omega)))
    refine hK.out _ _ hKp ?_
    clear hK K hHeld
    have hHeld := hKp
    clear hKp
    try simp only [pA1, pA2, pA3, pA4]
    iterate 5
     first | refine autoT hHeld (by rfl) (by rfl) (x := ?_) (v := ?_) ?_ (by kernel_rfl) ?_ ?_ ?_ | refine autoP (by rfl) (x := ?_) (v := ?_) ?_ (by kernel_rfl) ?_ ?_ ?_
     rotate_left 2
     · (simp only [gE1, gE2, gE3]; rfl)
     · exact fun _ _ _ h => h
     · refine Or.inl ⟨by rfl, fun w hSw => ?_⟩
       (try dsimp only at hSw)
       go_simp
       try (with_reducible rfl)
     try simp only [pA1, pA2, pA3, pA4]
    refine anyE_done (by kernel_rfl) ?_ _
    clear s2 s2d
    have s5c : Sat W0 _ (seg true x 0 C :: _) := ((Sat.sub (s5) (by with_reducible repeat first | exact Fr1 | exact Fr2 | (apply Fr3; focus ((repeat (first | exact Tk1 | apply Tk2)); done)) | apply Fr4)) : Sat W0 _ (seg true x 0 C :: []))
    have x0 := s5c.at k HC.out.2.2.1
    have x3 := s5c.at (3 + k) HC.out.2.2.2.1
    have x6 := s5c.at 6 HC.out.2.2.2.2.1
    have x7 := s5c.at 7 HC.out.2.2.2.2.2.1
    have xz := s5c.lt (by rw [HC.out.2.2.2.2.2.2.1]; omega)
    clear x0 x3 x6
    go_wp2_with fail
    refine (rs11Sum (pv := .pointer (some ⟨m, 0, none⟩)) true (some m) rs msg rfl (by have := HC.out.2.2.2.2.2.2.2.2.2.2.2.1; simp only [slN] at this; omega) rfl (by have := HC.out.2.2.2.2.2.2.2.2.2.2.2.1; have := HC.out.2.2.2.2.2.2.2.2.2.2.2.2.1; simp only [slN] at *; omega) (by have := HC.out.2.2.2.2.2.2.2.2.2.2.2.2.1; omega) ((Sat.sub (s5) (by with_reducible repeat first | exact Fr1 | exact Fr2 | (apply Fr3; focus ((repeat (first | exact Tk1 | apply Tk2)); done)) | apply Fr4)) : Sat W0 _ (rledO (some m) rs :: rs11 true rb msg :: dst true pb msg :: row pa ca 1 (hsz true) (u8s (hash true msg)) :: ledO (some l) (noteN rs (evK true) (evS true) (lastN true msg.length)) :: seg true x 0 C :: seg true g 0 [.int .i64 on, .int .i64 1, .int .i64 to, .slice pp n cap, .int .u8 alg] :: row pt ct 1 N (ts.map pieceV) :: row pw cw 1 N (us.map pieceV) :: ownRows ts :: ownRows us :: stars ((S.map slA).eraseIdx k) :: L))).mono ?_
    rintro e w6 ⟨pb', cb, rfl, s6⟩
    clear s5 s5c x7 xz
    have sk : Sat W0 _ (slA (.live true msg pb rb) :: _) := Sat.sepShut ((Sat.sub (s6) (by with_reducible repeat first | exact Fr1 | exact Fr2 | (apply Fr3; focus ((repeat (first | exact Tk1 | apply Tk2)); done)) | apply Fr4)) : Sat W0 _ (dst true pb msg :: rs11 true rb msg :: stars ((S.map slA).eraseIdx k) :: row pa ca 1 (hsz true) (u8s (hash true msg)) :: row pb' cb 1 (hsz true) (u8s (hash true msg)) :: seg true x 0 C :: row pt ct 1 N (ts.map pieceV) :: row pw cw 1 N (us.map pieceV) :: ownRows ts :: ownRows us :: ledO (some l) (noteN rs (evK true) (evS true) (lastN true msg.length)) :: rledO (some m) (noteN rs (evK true) (evS true) (lastN true msg.length)) :: L))
    have si := slotBack HC.out.2.1 sk
    have si2 := si
    rw [HC.out.1] at si2
    have sj : Sat W0 _ (row pa ca 1 (hsz true) (u8s (hash true msg)) :: row pb' cb 1 (hsz true) (u8s (hash true msg)) :: wA x l m S ts us pt ct pw cw N (noteN rs (evK true) (evS true) (lastN true msg.length)) L) := (Sat.sub (si2) (by with_reducible repeat first | exact Fr1 | exact Fr2 | (apply Fr3; focus ((repeat (first | exact Tk1 | apply Tk2)); done)) | apply Fr4))
    clear sk si si2
    go_wp2_with fail
    refine (keep11 (n := (hsz true)) HC.out.2.2.2.2.2.2.2.2.2.2.2.2.2.1 (by have := HC.out.2.2.2.2.2.2.2.2.2.2.2.2.2.2.2.2.2.1; omega) (hash true msg) (hash_len true msg) (by simp only [hsz, fsz]; omega) sj).mono ?_
    rintro e w9 ⟨rfl, pt', ct', pw', cw', s9⟩
    have HS := Lib.hid s9; clear s9 sj
    go_wp2_with fail
    go_ret
    have hq := lastN_le true msg.length
    have hl2 := noteN_len rs (evK true) (evS true) (lastN true msg.length)
    exact ⟨rfl, S, ts ++ [(pa, ca, hash true msg)], us ++ [(pb', cb, hash true msg)], pt', ct', pw', cw', N + 1, noteN rs (evK true) (evS true) (lastN true msg.length), okKeep HC.out.2.2.2.2.2.2.2.2.2.2.2.2.2 (by omega) (by rw [hash_len]; simp only [hsz]; omega) (by rw [tot_noteN]; omega) hl2, HS.out⟩
set_option maxRecDepth 100000 in
set_option maxHeartbeats 8000000 in
theorem act_sumG {W0 w : World} {L : List Assn} {x l m M i N k n cap : Nat} {S : List Sl} {ts us : List Piece} {pt pw pp : Option Addr} {ct cw : Nat} {rs : List Run3} {msg P : List Byte} {pb rb : Nat} (wide : Bool) (on to alg : Int) (hok : okW M i S ts us N rs) (hi : i ≤ 60) (hM : M + n ≤ 100000) (hP : P.length = n) (hnc : n ≤ cap) (hcm : cap ≤ maxLen) (hkp : pickM on 3 = k) (hsk : S[k]? = some (.gone wide pb rb))
    (hs : Sat W0 w (wA x l m S ts us pt ct pw cw N rs (bytes false pp P :: L))) :
    Calls Tryz.prog 9 #[.pointer (some ⟨x, 0, none⟩), .agg #[.int .i64 on, .int .i64 1, .int .i64 to, .slice pp n cap, .int .u8 alg]] w (postA W0 L x l m (M + n) i) := by
  have hk : k < 3 := by rw [← hok.1]; exact (List.getElem?_eq_some_iff.1 hsk).1
  have hslN := hok.2.2.2.2.2.2.2.2 _ (List.mem_of_getElem? hsk)
  obtain ⟨e0, e3⟩ := wc_S (l := l) (m := m) (pt := pt) (pw := pw) (ct := ct) (N := N) (cw := cw) hok.1 k hsk
  obtain ⟨e6, e7, -, -, e10⟩ := wc_at (l := l) (m := m) (pt := pt) (pw := pw) (ct := ct) (N := N) (cw := cw) hok.1
  obtain ⟨C, hC⟩ : ∃ C, C = wCells l m S pt ct N pw cw := ⟨_, rfl⟩
  rw [← hC] at e0 e3 e6 e7 e10
  have s0 : Sat W0 w (seg true x 0 C :: stars (S.map slA) :: row pt ct 1 N (ts.map pieceV) :: row pw cw 1 N (us.map pieceV) :: ownRows ts :: ownRows us :: ledO (some l) rs :: rledO (some m) rs :: bytes false pp P :: L) := by
    rw [hC]; exact (Sat.sub (hs) (by with_reducible repeat first | exact Fr1 | exact Fr2 | (apply Fr3; focus ((repeat (first | exact Tk1 | apply Tk2)); done)) | apply Fr4))
  clear hs
  have hrs : tot rs ≤ 10000000 ∧ rs.length ≤ 1000 := by
    have h1 := hok.2.2.2.2.2.2.1
    have h2 := hok.2.2.2.2.2.2.2.1
    have h3 : 100000 * i ≤ 100000 * 60 := Nat.mul_le_mul_left _ hi
    omega
  have HC := Lib.hid (And.intro hC (And.intro hsk (And.intro e0 (And.intro e3 (And.intro e6 (And.intro e7 (And.intro e10 (And.intro hP (And.intro hnc (And.intro hcm (And.intro hkp (And.intro hslN (And.intro hrs hok))))))))))))); clear hC hsk e0 e3 e6 e7 e10 hP hnc hcm hkp hslN hrs hok
  have hk3 : (k : Int) < 3 := by omega
  have hpk : ∀ w : World, Calls Tryz.prog 21 #[.int .i64 on, .int .i64 3] w fun e w' => e = .returned (.int .i64 (k : Int)) ∧ w = w' := fun w => by
    have := pickW w on 3 (by omega) (by omega)
    rw [HC.out.2.2.2.2.2.2.2.2.2.2.1] at this
    exact this
  have HP := Lib.hid hpk; clear hpk
  cases wide
  · skip
    go_enter Tryz.func9, Tryz.ntmps9
    go_wp2_with (refine wpl_box rfl 43 (.tmp 1) rfl [.int .i64 on, .int .i64 1, .int .i64 to, .slice pp n cap, .int .u8 alg] rfl s0 ?_; intro w1 g s1' _; have s1 : Sat W0 w1 (seg true x 0 C :: seg true g 0 [.int .i64 on, .int .i64 1, .int .i64 to, .slice pp n cap, .int .u8 alg] :: stars (S.map slA) :: row pt ct 1 N (ts.map pieceV) :: row pw cw 1 N (us.map pieceV) :: ownRows ts :: ownRows us :: ledO (some l) rs :: rledO (some m) rs :: bytes false pp P :: L) := (Sat.sub (s1') (by with_reducible repeat first | exact Fr1 | exact Fr2 | (apply Fr3; focus ((repeat (first | exact Tk1 | apply Tk2)); done)) | apply Fr4)); clear s1' s0; have g0 := ((Sat.sub (s1) (by with_reducible repeat first | exact Fr1 | exact Fr2 | (apply Fr3; focus ((repeat (first | exact Tk1 | apply Tk2)); done)) | apply Fr4)) : Sat W0 _ (seg true g 0 [.int .i64 on, .int .i64 1, .int .i64 to, .slice pp n cap, .int .u8 alg] :: [])).at 0 rfl; have gz := ((Sat.sub (s1) (by with_reducible repeat first | exact Fr1 | exact Fr2 | (apply Fr3; focus ((repeat (first | exact Tk1 | apply Tk2)); done)) | apply Fr4)) : Sat W0 _ (seg true g 0 [.int .i64 on, .int .i64 1, .int .i64 to, .slice pp n cap, .int .u8 alg] :: [])).lt (by simp))
    refine (HP.out w1).mono ?_
    rintro e w2 ⟨rfl, rfl⟩
    clear g0 gz
    have g1 := ((Sat.sub (s1) (by with_reducible repeat first | exact Fr1 | exact Fr2 | (apply Fr3; focus ((repeat (first | exact Tk1 | apply Tk2)); done)) | apply Fr4)) : Sat W0 _ (seg true g 0 [.int .i64 on, .int .i64 1, .int .i64 to, .slice pp n cap, .int .u8 alg] :: [])).at 1 rfl
    have g3 := ((Sat.sub (s1) (by with_reducible repeat first | exact Fr1 | exact Fr2 | (apply Fr3; focus ((repeat (first | exact Tk1 | apply Tk2)); done)) | apply Fr4)) : Sat W0 _ (seg true g 0 [.int .i64 on, .int .i64 1, .int .i64 to, .slice pp n cap, .int .u8 alg] :: [])).at 3 rfl
    have gz := ((Sat.sub (s1) (by with_reducible repeat first | exact Fr1 | exact Fr2 | (apply Fr3; focus ((repeat (first | exact Tk1 | apply Tk2)); done)) | apply Fr4)) : Sat W0 _ (seg true g 0 [.int .i64 on, .int .i64 1, .int .i64 to, .slice pp n cap, .int .u8 alg] :: [])).lt (by simp)
    have x0 := s1.at k HC.out.2.2.1
    have x3 := s1.at (3 + k) HC.out.2.2.2.1
    have x6 := s1.at 6 HC.out.2.2.2.2.1
    have x7 := s1.at 7 HC.out.2.2.2.2.2.1
    have xz := s1.lt (by rw [HC.out.2.2.2.2.2.2.1]; omega)
    simp only [slS, slR, ifv] at x0 x3
    have sg := starsGet HC.out.2.1 ((Sat.sub (s1) (by with_reducible repeat first | exact Fr1 | exact Fr2 | (apply Fr3; focus ((repeat (first | exact Tk1 | apply Tk2)); done)) | apply Fr4)) : Sat W0 _ (stars (S.map slA) :: seg true x 0 C :: seg true g 0 [.int .i64 on, .int .i64 1, .int .i64 to, .slice pp n cap, .int .u8 alg] :: row pt ct 1 N (ts.map pieceV) :: row pw cw 1 N (us.map pieceV) :: ownRows ts :: ownRows us :: ledO (some l) rs :: rledO (some m) rs :: bytes false pp P :: L))
    have sh : Sat W0 _ (gone false pb :: rg11 false rb :: _) := Sat.sepOpen (show Sat W0 _ (sep (gone false pb) (rg11 false rb) :: _) from sg)
    have s2 : Sat W0 _ (seg true x 0 C :: seg true g 0 [.int .i64 on, .int .i64 1, .int .i64 to, .slice pp n cap, .int .u8 alg] :: row pt ct 1 N (ts.map pieceV) :: row pw cw 1 N (us.map pieceV) :: ownRows ts :: ownRows us :: ledO (some l) rs :: rledO (some m) rs :: gone false pb :: rg11 false rb :: stars ((S.map slA).eraseIdx k) :: bytes false pp P :: L) := (Sat.sub (sh) (by with_reducible repeat first | exact Fr1 | exact Fr2 | (apply Fr3; focus ((repeat (first | exact Tk1 | apply Tk2)); done)) | apply Fr4))
    clear sg sh s1
    go_wp2_with fail
    have s2d := s2.drew
    clear x0 x3 x6 x7 xz g1 g3 gz
    refine region_E (fun w' => w'.cell? ⟨x, 6, none⟩ = some (.pointer (some ⟨l, 0, none⟩)) ∧ x < w'.heap.size) [4] (by kernel_rfl) ?_
    have hHeld := (And.intro (Sat.at ((Sat.sub (s2d) (by with_reducible repeat first | exact Fr1 | exact Fr2 | (apply Fr3; focus ((repeat (first | exact Tk1 | apply Tk2)); done)) | apply Fr4)) : Sat W0 _ (seg true x 0 C :: [])) 6 HC.out.2.2.2.2.1) (Sat.lt ((Sat.sub (s2d) (by with_reducible repeat first | exact Fr1 | exact Fr2 | (apply Fr3; focus ((repeat (first | exact Tk1 | apply Tk2)); done)) | apply Fr4)) : Sat W0 _ (seg true x 0 C :: [])) (by rw [HC.out.2.2.2.2.2.2.1]; omega)))
    iterate 5
     first | refine autoT hHeld (by rfl) (by rfl) (x := ?_) (v := ?_) ?_ (by kernel_rfl) ?_ ?_ ?_ | refine autoP (by rfl) (x := ?_) (v := ?_) ?_ (by kernel_rfl) ?_ ?_ ?_
     rotate_left 2
     · (simp only [gE1, gE2, gE3]; rfl)
     · exact fun _ _ _ h => h
     · refine Or.inl ⟨by rfl, fun w hSw => ?_⟩
       (try dsimp only at hSw)
       go_simp
       try (with_reducible rfl)
     try simp only [pA1, pA2, pA3, pA4]
    refine anyE_pure (i := 5) (x := ?_) (v := ?_) ?_ (by kernel_rfl) (by kernel_rfl) (by kernel_rfl) ?_ ?_ ?_
    rotate_left 2
    · (simp only [gE1, gE2, gE3]; rfl)
    · exact fun _ _ _ h => h
    · refine Or.inl ⟨by rfl, fun w hSw => ?_⟩
      (try dsimp only at hSw)
      go_simp
      try (with_reducible rfl)
    try simp only [pA1, pA2, pA3, pA4]
    iterate 2
     first | refine autoT hHeld (by rfl) (by rfl) (x := ?_) (v := ?_) ?_ (by kernel_rfl) ?_ ?_ ?_ | refine autoP (by rfl) (x := ?_) (v := ?_) ?_ (by kernel_rfl) ?_ ?_ ?_
     rotate_left 2
     · (simp only [gE1, gE2, gE3]; rfl)
     · exact fun _ _ _ h => h
     · refine Or.inl ⟨by rfl, fun w hSw => ?_⟩
       (try dsimp only at hSw)
       go_simp
       try (with_reducible rfl)
     try simp only [pA1, pA2, pA3, pA4]
    refine anyE_one (i := 8) (x := ?_) ?_ (by kernel_rfl) (fun K hK => ?_)
    rotate_left
    · (simp only [gE1, gE2, gE3]; rfl)
    go_simp
    refine (gSum false (.pointer (some ⟨l, 0, none⟩)) ((Sat.sub (s2d) (by with_reducible repeat first | exact Fr1 | exact Fr2 | (apply Fr3; focus ((repeat (first | exact Tk1 | apply Tk2)); done)) | apply Fr4)) : Sat W0 _ (gone false pb :: []))).mono ?_
    rintro e w5 ⟨rfl, rfl⟩
    go_wp2_with fail
    have hKp := (And.intro (Sat.at ((Sat.sub (s2d) (by with_reducible repeat first | exact Fr1 | exact Fr2 | (apply Fr3; focus ((repeat (first | exact Tk1 | apply Tk2)); done)) | apply Fr4)) : Sat W0 _ (seg true x 0 C :: [])) 6 HC.out.2.2.2.2.1) (Sat.lt ((Sat.sub (s2d) (by with_reducible repeat first | exact Fr1 | exact Fr2 | (apply Fr3; focus ((repeat (first | exact Tk1 | apply Tk2)); done)) | apply Fr4)) : Sat W0 _ (seg true x 0 C :: [])) (by rw [HC.out.2.2.2.2.2.2.1]; omega)))
    refine hK.out _ _ hKp ?_
    clear hK K hHeld
    have hHeld := hKp
    clear hKp
    try simp only [pA1, pA2, pA3, pA4]
    iterate 5
     first | refine autoT hHeld (by rfl) (by rfl) (x := ?_) (v := ?_) ?_ (by kernel_rfl) ?_ ?_ ?_ | refine autoP (by rfl) (x := ?_) (v := ?_) ?_ (by kernel_rfl) ?_ ?_ ?_
     rotate_left 2
     · (simp only [gE1, gE2, gE3]; rfl)
     · exact fun _ _ _ h => h
     · refine Or.inl ⟨by rfl, fun w hSw => ?_⟩
       (try dsimp only at hSw)
       go_simp
       try (with_reducible rfl)
     try simp only [pA1, pA2, pA3, pA4]
    refine anyE_done (by kernel_rfl) ?_ _
    clear s2
    have s5c : Sat W0 _ (seg true x 0 C :: _) := ((Sat.sub (s2d) (by with_reducible repeat first | exact Fr1 | exact Fr2 | (apply Fr3; focus ((repeat (first | exact Tk1 | apply Tk2)); done)) | apply Fr4)) : Sat W0 _ (seg true x 0 C :: []))
    have x0 := s5c.at k HC.out.2.2.1
    have x3 := s5c.at (3 + k) HC.out.2.2.2.1
    have x6 := s5c.at 6 HC.out.2.2.2.2.1
    have x7 := s5c.at 7 HC.out.2.2.2.2.2.1
    have xz := s5c.lt (by rw [HC.out.2.2.2.2.2.2.1]; omega)
    clear x0 x3 x6
    go_wp2_with fail
    refine (rg11Sum false (.pointer (some ⟨m, 0, none⟩)) ((Sat.sub (s2d) (by with_reducible repeat first | exact Fr1 | exact Fr2 | (apply Fr3; focus ((repeat (first | exact Tk1 | apply Tk2)); done)) | apply Fr4)) : Sat W0 _ (rg11 false rb :: []))).mono ?_
    rintro e w6 ⟨rfl, rfl⟩
    clear s5c x7 xz
    have s6 : Sat W0 _ (row none 0 1 0 (u8s []) :: row none 0 1 0 (u8s []) :: _) := (s2d.rowNil 1).rowNil 1
    clear s2d
    have sk : Sat W0 _ (slA (.gone false pb rb) :: _) := Sat.sepShut ((Sat.sub (s6) (by with_reducible repeat first | exact Fr1 | exact Fr2 | (apply Fr3; focus ((repeat (first | exact Tk1 | apply Tk2)); done)) | apply Fr4)) : Sat W0 _ (gone false pb :: rg11 false rb :: stars ((S.map slA).eraseIdx k) :: row none 0 1 0 (u8s []) :: row none 0 1 0 (u8s []) :: seg true x 0 C :: row pt ct 1 N (ts.map pieceV) :: row pw cw 1 N (us.map pieceV) :: ownRows ts :: ownRows us :: ledO (some l) (rs) :: rledO (some m) (rs) :: L))
    have si := slotBack HC.out.2.1 sk
    have si2 := si
    rw [HC.out.1] at si2
    have sj : Sat W0 _ (row none 0 1 0 (u8s []) :: row none 0 1 0 (u8s []) :: wA x l m S ts us pt ct pw cw N (rs) L) := (Sat.sub (si2) (by with_reducible repeat first | exact Fr1 | exact Fr2 | (apply Fr3; focus ((repeat (first | exact Tk1 | apply Tk2)); done)) | apply Fr4))
    clear sk si si2
    go_wp2_with fail
    refine (keep11 (n := 0) HC.out.2.2.2.2.2.2.2.2.2.2.2.2.2.1 (by have := HC.out.2.2.2.2.2.2.2.2.2.2.2.2.2.2.2.2.2.1; omega) [] rfl (by skip; omega) sj).mono ?_
    rintro e w9 ⟨rfl, pt', ct', pw', cw', s9⟩
    have HS := Lib.hid s9; clear s9 sj
    go_wp2_with fail
    go_ret
    exact ⟨rfl, S, ts ++ [(none, 0, [])], us ++ [(none, 0, [])], pt', ct', pw', cw', N + 1, rs, okKeep HC.out.2.2.2.2.2.2.2.2.2.2.2.2.2 (by omega) (by simp) (by omega) (by omega), HS.out⟩
  · skip
    go_enter Tryz.func9, Tryz.ntmps9
    go_wp2_with (refine wpl_box rfl 43 (.tmp 1) rfl [.int .i64 on, .int .i64 1, .int .i64 to, .slice pp n cap, .int .u8 alg] rfl s0 ?_; intro w1 g s1' _; have s1 : Sat W0 w1 (seg true x 0 C :: seg true g 0 [.int .i64 on, .int .i64 1, .int .i64 to, .slice pp n cap, .int .u8 alg] :: stars (S.map slA) :: row pt ct 1 N (ts.map pieceV) :: row pw cw 1 N (us.map pieceV) :: ownRows ts :: ownRows us :: ledO (some l) rs :: rledO (some m) rs :: bytes false pp P :: L) := (Sat.sub (s1') (by with_reducible repeat first | exact Fr1 | exact Fr2 | (apply Fr3; focus ((repeat (first | exact Tk1 | apply Tk2)); done)) | apply Fr4)); clear s1' s0; have g0 := ((Sat.sub (s1) (by with_reducible repeat first | exact Fr1 | exact Fr2 | (apply Fr3; focus ((repeat (first | exact Tk1 | apply Tk2)); done)) | apply Fr4)) : Sat W0 _ (seg true g 0 [.int .i64 on, .int .i64 1, .int .i64 to, .slice pp n cap, .int .u8 alg] :: [])).at 0 rfl; have gz := ((Sat.sub (s1) (by with_reducible repeat first | exact Fr1 | exact Fr2 | (apply Fr3; focus ((repeat (first | exact Tk1 | apply Tk2)); done)) | apply Fr4)) : Sat W0 _ (seg true g 0 [.int .i64 on, .int .i64 1, .int .i64 to, .slice pp n cap, .int .u8 alg] :: [])).lt (by simp))
    refine (HP.out w1).mono ?_
    rintro e w2 ⟨rfl, rfl⟩
    clear g0 gz
    have g1 := ((Sat.sub (s1) (by with_reducible repeat first | exact Fr1 | exact Fr2 | (apply Fr3; focus ((repeat (first | exact Tk1 | apply Tk2)); done)) | apply Fr4)) : Sat W0 _ (seg true g 0 [.int .i64 on, .int .i64 1, .int .i64 to, .slice pp n cap, .int .u8 alg] :: [])).at 1 rfl
    have g3 := ((Sat.sub (s1) (by with_reducible repeat first | exact Fr1 | exact Fr2 | (apply Fr3; focus ((repeat (first | exact Tk1 | apply Tk2)); done)) | apply Fr4)) : Sat W0 _ (seg true g 0 [.int .i64 on, .int .i64 1, .int .i64 to, .slice pp n cap, .int .u8 alg] :: [])).at 3 rfl
    have gz := ((Sat.sub (s1) (by with_reducible repeat first | exact Fr1 | exact Fr2 | (apply Fr3; focus ((repeat (first | exact Tk1 | apply Tk2)); done)) | apply Fr4)) : Sat W0 _ (seg true g 0 [.int .i64 on, .int .i64 1, .int .i64 to, .slice pp n cap, .int .u8 alg] :: [])).lt (by simp)
    have x0 := s1.at k HC.out.2.2.1
    have x3 := s1.at (3 + k) HC.out.2.2.2.1
    have x6 := s1.at 6 HC.out.2.2.2.2.1
    have x7 := s1.at 7 HC.out.2.2.2.2.2.1
    have xz := s1.lt (by rw [HC.out.2.2.2.2.2.2.1]; omega)
    simp only [slS, slR, ifv] at x0 x3
    have sg := starsGet HC.out.2.1 ((Sat.sub (s1) (by with_reducible repeat first | exact Fr1 | exact Fr2 | (apply Fr3; focus ((repeat (first | exact Tk1 | apply Tk2)); done)) | apply Fr4)) : Sat W0 _ (stars (S.map slA) :: seg true x 0 C :: seg true g 0 [.int .i64 on, .int .i64 1, .int .i64 to, .slice pp n cap, .int .u8 alg] :: row pt ct 1 N (ts.map pieceV) :: row pw cw 1 N (us.map pieceV) :: ownRows ts :: ownRows us :: ledO (some l) rs :: rledO (some m) rs :: bytes false pp P :: L))
    have sh : Sat W0 _ (gone true pb :: rg11 true rb :: _) := Sat.sepOpen (show Sat W0 _ (sep (gone true pb) (rg11 true rb) :: _) from sg)
    have s2 : Sat W0 _ (seg true x 0 C :: seg true g 0 [.int .i64 on, .int .i64 1, .int .i64 to, .slice pp n cap, .int .u8 alg] :: row pt ct 1 N (ts.map pieceV) :: row pw cw 1 N (us.map pieceV) :: ownRows ts :: ownRows us :: ledO (some l) rs :: rledO (some m) rs :: gone true pb :: rg11 true rb :: stars ((S.map slA).eraseIdx k) :: bytes false pp P :: L) := (Sat.sub (sh) (by with_reducible repeat first | exact Fr1 | exact Fr2 | (apply Fr3; focus ((repeat (first | exact Tk1 | apply Tk2)); done)) | apply Fr4))
    clear sg sh s1
    go_wp2_with fail
    have s2d := s2.drew
    clear x0 x3 x6 x7 xz g1 g3 gz
    refine region_E (fun w' => w'.cell? ⟨x, 6, none⟩ = some (.pointer (some ⟨l, 0, none⟩)) ∧ x < w'.heap.size) [4] (by kernel_rfl) ?_
    have hHeld := (And.intro (Sat.at ((Sat.sub (s2d) (by with_reducible repeat first | exact Fr1 | exact Fr2 | (apply Fr3; focus ((repeat (first | exact Tk1 | apply Tk2)); done)) | apply Fr4)) : Sat W0 _ (seg true x 0 C :: [])) 6 HC.out.2.2.2.2.1) (Sat.lt ((Sat.sub (s2d) (by with_reducible repeat first | exact Fr1 | exact Fr2 | (apply Fr3; focus ((repeat (first | exact Tk1 | apply Tk2)); done)) | apply Fr4)) : Sat W0 _ (seg true x 0 C :: [])) (by rw [HC.out.2.2.2.2.2.2.1]; omega)))
    iterate 5
     first | refine autoT hHeld (by rfl) (by rfl) (x := ?_) (v := ?_) ?_ (by kernel_rfl) ?_ ?_ ?_ | refine autoP (by rfl) (x := ?_) (v := ?_) ?_ (by kernel_rfl) ?_ ?_ ?_
     rotate_left 2
     · (simp only [gE1, gE2, gE3]; rfl)
     · exact fun _ _ _ h => h
     · refine Or.inl ⟨by rfl, fun w hSw => ?_⟩
       (try dsimp only at hSw)
       go_simp
       try (with_reducible rfl)
     try simp only [pA1, pA2, pA3, pA4]
    refine anyE_pure (i := 5) (x := ?_) (v := ?_) ?_ (by kernel_rfl) (by kernel_rfl) (by kernel_rfl) ?_ ?_ ?_
    rotate_left 2
    · (simp only [gE1, gE2, gE3]; rfl)
    · exact fun _ _ _ h => h
    · refine Or.inl ⟨by rfl, fun w hSw => ?_⟩
      (try dsimp only at hSw)
      go_simp
      try (with_reducible rfl)
    try simp only [pA1, pA2, pA3, pA4]
    iterate 2
     first | refine autoT hHeld (by rfl) (by rfl) (x := ?_) (v := ?_) ?_ (by kernel_rfl) ?_ ?_ ?_ | refine autoP (by rfl) (x := ?_) (v := ?_) ?_ (by kernel_rfl) ?_ ?_ ?_
     rotate_left 2
     · (simp only [gE1, gE2, gE3]; rfl)
     · exact fun _ _ _ h => h
     · refine Or.inl ⟨by rfl, fun w hSw => ?_⟩
       (try dsimp only at hSw)
       go_simp
       try (with_reducible rfl)
     try simp only [pA1, pA2, pA3, pA4]
    refine anyE_one (i := 8) (x := ?_) ?_ (by kernel_rfl) (fun K hK => ?_)
    rotate_left
    · (simp only [gE1, gE2, gE3]; rfl)
    go_simp
    refine (gSum true (.pointer (some ⟨l, 0, none⟩)) ((Sat.sub (s2d) (by with_reducible repeat first | exact Fr1 | exact Fr2 | (apply Fr3; focus ((repeat (first | exact Tk1 | apply Tk2)); done)) | apply Fr4)) : Sat W0 _ (gone true pb :: []))).mono ?_
    rintro e w5 ⟨rfl, rfl⟩
    go_wp2_with fail
    have hKp := (And.intro (Sat.at ((Sat.sub (s2d) (by with_reducible repeat first | exact Fr1 | exact Fr2 | (apply Fr3; focus ((repeat (first | exact Tk1 | apply Tk2)); done)) | apply Fr4)) : Sat W0 _ (seg true x 0 C :: [])) 6 HC.out.2.2.2.2.1) (Sat.lt ((Sat.sub (s2d) (by with_reducible repeat first | exact Fr1 | exact Fr2 | (apply Fr3; focus ((repeat (first | exact Tk1 | apply Tk2)); done)) | apply Fr4)) : Sat W0 _ (seg true x 0 C :: [])) (by rw [HC.out.2.2.2.2.2.2.1]; omega)))
    refine hK.out _ _ hKp ?_
    clear hK K hHeld
    have hHeld := hKp
    clear hKp
    try simp only [pA1, pA2, pA3, pA4]
    iterate 5
     first | refine autoT hHeld (by rfl) (by rfl) (x := ?_) (v := ?_) ?_ (by kernel_rfl) ?_ ?_ ?_ | refine autoP (by rfl) (x := ?_) (v := ?_) ?_ (by kernel_rfl) ?_ ?_ ?_
     rotate_left 2
     · (simp only [gE1, gE2, gE3]; rfl)
     · exact fun _ _ _ h => h
     · refine Or.inl ⟨by rfl, fun w hSw => ?_⟩
       (try dsimp only at hSw)
       go_simp
       try (with_reducible rfl)
     try simp only [pA1, pA2, pA3, pA4]
    refine anyE_done (by kernel_rfl) ?_ _
    clear s2
    have s5c : Sat W0 _ (seg true x 0 C :: _) := ((Sat.sub (s2d) (by with_reducible repeat first | exact Fr1 | exact Fr2 | (apply Fr3; focus ((repeat (first | exact Tk1 | apply Tk2)); done)) | apply Fr4)) : Sat W0 _ (seg true x 0 C :: []))
    have x0 := s5c.at k HC.out.2.2.1
    have x3 := s5c.at (3 + k) HC.out.2.2.2.1
    have x6 := s5c.at 6 HC.out.2.2.2.2.1
    have x7 := s5c.at 7 HC.out.2.2.2.2.2.1
    have xz := s5c.lt (by rw [HC.out.2.2.2.2.2.2.1]; omega)
    clear x0 x3 x6
    go_wp2_with fail
    refine (rg11Sum true (.pointer (some ⟨m, 0, none⟩)) ((Sat.sub (s2d) (by with_reducible repeat first | exact Fr1 | exact Fr2 | (apply Fr3; focus ((repeat (first | exact Tk1 | apply Tk2)); done)) | apply Fr4)) : Sat W0 _ (rg11 true rb :: []))).mono ?_
    rintro e w6 ⟨rfl, rfl⟩
    clear s5c x7 xz
    have s6 : Sat W0 _ (row none 0 1 0 (u8s []) :: row none 0 1 0 (u8s []) :: _) := (s2d.rowNil 1).rowNil 1
    clear s2d
    have sk : Sat W0 _ (slA (.gone true pb rb) :: _) := Sat.sepShut ((Sat.sub (s6) (by with_reducible repeat first | exact Fr1 | exact Fr2 | (apply Fr3; focus ((repeat (first | exact Tk1 | apply Tk2)); done)) | apply Fr4)) : Sat W0 _ (gone true pb :: rg11 true rb :: stars ((S.map slA).eraseIdx k) :: row none 0 1 0 (u8s []) :: row none 0 1 0 (u8s []) :: seg true x 0 C :: row pt ct 1 N (ts.map pieceV) :: row pw cw 1 N (us.map pieceV) :: ownRows ts :: ownRows us :: ledO (some l) (rs) :: rledO (some m) (rs) :: L))
    have si := slotBack HC.out.2.1 sk
    have si2 := si
    rw [HC.out.1] at si2
    have sj : Sat W0 _ (row none 0 1 0 (u8s []) :: row none 0 1 0 (u8s []) :: wA x l m S ts us pt ct pw cw N (rs) L) := (Sat.sub (si2) (by with_reducible repeat first | exact Fr1 | exact Fr2 | (apply Fr3; focus ((repeat (first | exact Tk1 | apply Tk2)); done)) | apply Fr4))
    clear sk si si2
    go_wp2_with fail
    refine (keep11 (n := 0) HC.out.2.2.2.2.2.2.2.2.2.2.2.2.2.1 (by have := HC.out.2.2.2.2.2.2.2.2.2.2.2.2.2.2.2.2.2.1; omega) [] rfl (by skip; omega) sj).mono ?_
    rintro e w9 ⟨rfl, pt', ct', pw', cw', s9⟩
    have HS := Lib.hid s9; clear s9 sj
    go_wp2_with fail
    go_ret
    exact ⟨rfl, S, ts ++ [(none, 0, [])], us ++ [(none, 0, [])], pt', ct', pw', cw', N + 1, rs, okKeep HC.out.2.2.2.2.2.2.2.2.2.2.2.2.2 (by omega) (by simp) (by omega) (by omega), HS.out⟩
set_option maxRecDepth 100000 in
set_option maxHeartbeats 8000000 in
theorem act_form {W0 w : World} {L : List Assn} {x l m M i N k n cap : Nat} {S : List Sl} {ts us : List Piece} {pt pw pp : Option Addr} {ct cw : Nat} {rs : List Run3} {msg P : List Byte} {pb rb : Nat} (wide : Bool) (on to alg : Int) (hok : okW M i S ts us N rs) (hi : i ≤ 60) (hM : M + n ≤ 100000) (hP : P.length = n) (hnc : n ≤ cap) (hcm : cap ≤ maxLen) (hkp : pickM on 3 = k) (hsk : S[k]? = some (.live wide msg pb rb))
    (hs : Sat W0 w (wA x l m S ts us pt ct pw cw N rs (bytes false pp P :: L))) :
    Calls Tryz.prog 9 #[.pointer (some ⟨x, 0, none⟩), .agg #[.int .i64 on, .int .i64 4, .int .i64 to, .slice pp n cap, .int .u8 alg]] w (postA W0 L x l m (M + n) i) := by
  have hk : k < 3 := by rw [← hok.1]; exact (List.getElem?_eq_some_iff.1 hsk).1
  have hslN := hok.2.2.2.2.2.2.2.2 _ (List.mem_of_getElem? hsk)
  obtain ⟨e0, e3⟩ := wc_S (l := l) (m := m) (pt := pt) (pw := pw) (ct := ct) (N := N) (cw := cw) hok.1 k hsk
  obtain ⟨e6, e7, -, -, e10⟩ := wc_at (l := l) (m := m) (pt := pt) (pw := pw) (ct := ct) (N := N) (cw := cw) hok.1
  obtain ⟨C, hC⟩ : ∃ C, C = wCells l m S pt ct N pw cw := ⟨_, rfl⟩
  rw [← hC] at e0 e3 e6 e7 e10
  have s0 : Sat W0 w (seg true x 0 C :: stars (S.map slA) :: row pt ct 1 N (ts.map pieceV) :: row pw cw 1 N (us.map pieceV) :: ownRows ts :: ownRows us :: ledO (some l) rs :: rledO (some m) rs :: bytes false pp P :: L) := by
    rw [hC]; exact (Sat.sub (hs) (by with_reducible repeat first | exact Fr1 | exact Fr2 | (apply Fr3; focus ((repeat (first | exact Tk1 | apply Tk2)); done)) | apply Fr4))
  clear hs
  have hrs : tot rs ≤ 10000000 ∧ rs.length ≤ 1000 := by
    have h1 := hok.2.2.2.2.2.2.1
    have h2 := hok.2.2.2.2.2.2.2.1
    have h3 : 100000 * i ≤ 100000 * 60 := Nat.mul_le_mul_left _ hi
    omega
  have HC := Lib.hid (And.intro hC (And.intro hsk (And.intro e0 (And.intro e3 (And.intro e6 (And.intro e7 (And.intro e10 (And.intro hP (And.intro hnc (And.intro hcm (And.intro hkp (And.intro hslN (And.intro hrs hok))))))))))))); clear hC hsk e0 e3 e6 e7 e10 hP hnc hcm hkp hslN hrs hok
  have hk3 : (k : Int) < 3 := by omega
  have hpk : ∀ w : World, Calls Tryz.prog 21 #[.int .i64 on, .int .i64 3] w fun e w' => e = .returned (.int .i64 (k : Int)) ∧ w = w' := fun w => by
    have := pickW w on 3 (by omega) (by omega)
    rw [HC.out.2.2.2.2.2.2.2.2.2.2.1] at this
    exact this
  have HP := Lib.hid hpk; clear hpk
  cases wide
  · skip
    go_enter Tryz.func9, Tryz.ntmps9
    go_wp2_with (refine wpl_box rfl 43 (.tmp 1) rfl [.int .i64 on, .int .i64 4, .int .i64 to, .slice pp n cap, .int .u8 alg] rfl s0 ?_; intro w1 g s1' _; have s1 : Sat W0 w1 (seg true x 0 C :: seg true g 0 [.int .i64 on, .int .i64 4, .int .i64 to, .slice pp n cap, .int .u8 alg] :: stars (S.map slA) :: row pt ct 1 N (ts.map pieceV) :: row pw cw 1 N (us.map pieceV) :: ownRows ts :: ownRows us :: ledO (some l) rs :: rledO (some m) rs :: bytes false pp P :: L) := (Sat.sub (s1') (by with_reducible repeat first | exact Fr1 | exact Fr2 | (apply Fr3; focus ((repeat (first | exact Tk1 | apply Tk2)); done)) | apply Fr4)); clear s1' s0; have g0 := ((Sat.sub (s1) (by with_reducible repeat first | exact Fr1 | exact Fr2 | (apply Fr3; focus ((repeat (first | exact Tk1 | apply Tk2)); done)) | apply Fr4)) : Sat W0 _ (seg true g 0 [.int .i64 on, .int .i64 4, .int .i64 to, .slice pp n cap, .int .u8 alg] :: [])).at 0 rfl; have gz := ((Sat.sub (s1) (by with_reducible repeat first | exact Fr1 | exact Fr2 | (apply Fr3; focus ((repeat (first | exact Tk1 | apply Tk2)); done)) | apply Fr4)) : Sat W0 _ (seg true g 0 [.int .i64 on, .int .i64 4, .int .i64 to, .slice pp n cap, .int .u8 alg] :: [])).lt (by simp))
    refine (HP.out w1).mono ?_
    rintro e w2 ⟨rfl, rfl⟩
    clear g0 gz
    have g1 := ((Sat.sub (s1) (by with_reducible repeat first | exact Fr1 | exact Fr2 | (apply Fr3; focus ((repeat (first | exact Tk1 | apply Tk2)); done)) | apply Fr4)) : Sat W0 _ (seg true g 0 [.int .i64 on, .int .i64 4, .int .i64 to, .slice pp n cap, .int .u8 alg] :: [])).at 1 rfl
    have g3 := ((Sat.sub (s1) (by with_reducible repeat first | exact Fr1 | exact Fr2 | (apply Fr3; focus ((repeat (first | exact Tk1 | apply Tk2)); done)) | apply Fr4)) : Sat W0 _ (seg true g 0 [.int .i64 on, .int .i64 4, .int .i64 to, .slice pp n cap, .int .u8 alg] :: [])).at 3 rfl
    have gz := ((Sat.sub (s1) (by with_reducible repeat first | exact Fr1 | exact Fr2 | (apply Fr3; focus ((repeat (first | exact Tk1 | apply Tk2)); done)) | apply Fr4)) : Sat W0 _ (seg true g 0 [.int .i64 on, .int .i64 4, .int .i64 to, .slice pp n cap, .int .u8 alg] :: [])).lt (by simp)
    have x0 := s1.at k HC.out.2.2.1
    have x3 := s1.at (3 + k) HC.out.2.2.2.1
    have x6 := s1.at 6 HC.out.2.2.2.2.1
    have x7 := s1.at 7 HC.out.2.2.2.2.2.1
    have xz := s1.lt (by rw [HC.out.2.2.2.2.2.2.1]; omega)
    simp only [slS, slR, ifv] at x0 x3
    have sg := starsGet HC.out.2.1 ((Sat.sub (s1) (by with_reducible repeat first | exact Fr1 | exact Fr2 | (apply Fr3; focus ((repeat (first | exact Tk1 | apply Tk2)); done)) | apply Fr4)) : Sat W0 _ (stars (S.map slA) :: seg true x 0 C :: seg true g 0 [.int .i64 on, .int .i64 4, .int .i64 to, .slice pp n cap, .int .u8 alg] :: row pt ct 1 N (ts.map pieceV) :: row pw cw 1 N (us.map pieceV) :: ownRows ts :: ownRows us :: ledO (some l) rs :: rledO (some m) rs :: bytes false pp P :: L))
    have sh : Sat W0 _ (dst false pb msg :: rs11 false rb msg :: _) := Sat.sepOpen (show Sat W0 _ (sep (dst false pb msg) (rs11 false rb msg) :: _) from sg)
    have s2 : Sat W0 _ (seg true x 0 C :: seg true g 0 [.int .i64 on, .int .i64 4, .int .i64 to, .slice pp n cap, .int .u8 alg] :: row pt ct 1 N (ts.map pieceV) :: row pw cw 1 N (us.map pieceV) :: ownRows ts :: ownRows us :: ledO (some l) rs :: rledO (some m) rs :: dst false pb msg :: rs11 false rb msg :: stars ((S.map slA).eraseIdx k) :: bytes false pp P :: L) := (Sat.sub (sh) (by with_reducible repeat first | exact Fr1 | exact Fr2 | (apply Fr3; focus ((repeat (first | exact Tk1 | apply Tk2)); done)) | apply Fr4))
    clear sg sh s1
    go_wp2_with fail
    refine (dForm false msg (by have := HC.out.2.2.2.2.2.2.2.2.2.2.2.1; simp only [slN] at this; omega) ((Sat.sub (s2) (by with_reducible repeat first | exact Fr1 | exact Fr2 | (apply Fr3; focus ((repeat (first | exact Tk1 | apply Tk2)); done)) | apply Fr4)) : Sat W0 _ (dst false pb msg :: rs11 false rb msg :: ledO (some l) rs :: rledO (some m) rs :: seg true x 0 C :: row pt ct 1 N (ts.map pieceV) :: row pw cw 1 N (us.map pieceV) :: ownRows ts :: ownRows us :: stars ((S.map slA).eraseIdx k) :: L))).mono ?_
    rintro e w5 ⟨pa, ca, rfl, s5⟩
    clear s2 x0 x3 x6 x7 xz g1 g3 gz
    go_wp2_with fail
    refine (rs11Form false msg (by have := HC.out.2.2.2.2.2.2.2.2.2.2.2.1; simp only [slN] at this; omega) ((Sat.sub (s5) (by with_reducible repeat first | exact Fr1 | exact Fr2 | (apply Fr3; focus ((repeat (first | exact Tk1 | apply Tk2)); done)) | apply Fr4)) : Sat W0 _ (rs11 false rb msg :: dst false pb msg :: row pa ca 1 (fsz false) (u8s (formH false msg)) :: ledO (some l) rs :: rledO (some m) rs :: seg true x 0 C :: row pt ct 1 N (ts.map pieceV) :: row pw cw 1 N (us.map pieceV) :: ownRows ts :: ownRows us :: stars ((S.map slA).eraseIdx k) :: L))).mono ?_
    rintro e w6 ⟨pb', cb, rfl, s6⟩
    clear s5
    obtain ⟨hfl, -, -, -⟩ := rowBytes s6
    have HFL := Lib.hid hfl; clear hfl
    have sk : Sat W0 _ (slA (.live false msg pb rb) :: _) := Sat.sepShut ((Sat.sub (s6) (by with_reducible repeat first | exact Fr1 | exact Fr2 | (apply Fr3; focus ((repeat (first | exact Tk1 | apply Tk2)); done)) | apply Fr4)) : Sat W0 _ (dst false pb msg :: rs11 false rb msg :: stars ((S.map slA).eraseIdx k) :: row pa ca 1 (fsz false) (u8s (formH false msg)) :: row pb' cb 1 (fsz false) (u8s (formH false msg)) :: seg true x 0 C :: row pt ct 1 N (ts.map pieceV) :: row pw cw 1 N (us.map pieceV) :: ownRows ts :: ownRows us :: ledO (some l) (rs) :: rledO (some m) (rs) :: L))
    have si := slotBack HC.out.2.1 sk
    have si2 := si
    rw [HC.out.1] at si2
    have sj : Sat W0 _ (row pa ca 1 (fsz false) (u8s (formH false msg)) :: row pb' cb 1 (fsz false) (u8s (formH false msg)) :: wA x l m S ts us pt ct pw cw N (rs) L) := (Sat.sub (si2) (by with_reducible repeat first | exact Fr1 | exact Fr2 | (apply Fr3; focus ((repeat (first | exact Tk1 | apply Tk2)); done)) | apply Fr4))
    clear sk si si2
    go_wp2_with fail
    refine (keep11 (n := (fsz false)) HC.out.2.2.2.2.2.2.2.2.2.2.2.2.2.1 (by have := HC.out.2.2.2.2.2.2.2.2.2.2.2.2.2.2.2.2.2.1; omega) (formH false msg) HFL.out (by simp only [hsz, fsz]; omega) sj).mono ?_
    rintro e w9 ⟨rfl, pt', ct', pw', cw', s9⟩
    have HS := Lib.hid s9; clear s9 sj
    go_wp2_with fail
    go_ret
    exact ⟨rfl, S, ts ++ [(pa, ca, formH false msg)], us ++ [(pb', cb, formH false msg)], pt', ct', pw', cw', N + 1, rs, okKeep HC.out.2.2.2.2.2.2.2.2.2.2.2.2.2 (by omega) (by rw [HFL.out]; simp only [fsz]; omega) (by omega) (by omega), HS.out⟩
  · skip
    go_enter Tryz.func9, Tryz.ntmps9
    go_wp2_with (refine wpl_box rfl 43 (.tmp 1) rfl [.int .i64 on, .int .i64 4, .int .i64 to, .slice pp n cap, .int .u8 alg] rfl s0 ?_; intro w1 g s1' _; have s1 : Sat W0 w1 (seg true x 0 C :: seg true g 0 [.int .i64 on, .int .i64 4, .int .i64 to, .slice pp n cap, .int .u8 alg] :: stars (S.map slA) :: row pt ct 1 N (ts.map pieceV) :: row pw cw 1 N (us.map pieceV) :: ownRows ts :: ownRows us :: ledO (some l) rs :: rledO (some m) rs :: bytes false pp P :: L) := (Sat.sub (s1') (by with_reducible repeat first | exact Fr1 | exact Fr2 | (apply Fr3; focus ((repeat (first | exact Tk1 | apply Tk2)); done)) | apply Fr4)); clear s1' s0; have g0 := ((Sat.sub (s1) (by with_reducible repeat first | exact Fr1 | exact Fr2 | (apply Fr3; focus ((repeat (first | exact Tk1 | apply Tk2)); done)) | apply Fr4)) : Sat W0 _ (seg true g 0 [.int .i64 on, .int .i64 4, .int .i64 to, .slice pp n cap, .int .u8 alg] :: [])).at 0 rfl; have gz := ((Sat.sub (s1) (by with_reducible repeat first | exact Fr1 | exact Fr2 | (apply Fr3; focus ((repeat (first | exact Tk1 | apply Tk2)); done)) | apply Fr4)) : Sat W0 _ (seg true g 0 [.int .i64 on, .int .i64 4, .int .i64 to, .slice pp n cap, .int .u8 alg] :: [])).lt (by simp))
    refine (HP.out w1).mono ?_
    rintro e w2 ⟨rfl, rfl⟩
    clear g0 gz
    have g1 := ((Sat.sub (s1) (by with_reducible repeat first | exact Fr1 | exact Fr2 | (apply Fr3; focus ((repeat (first | exact Tk1 | apply Tk2)); done)) | apply Fr4)) : Sat W0 _ (seg true g 0 [.int .i64 on, .int .i64 4, .int .i64 to, .slice pp n cap, .int .u8 alg] :: [])).at 1 rfl
    have g3 := ((Sat.sub (s1) (by with_reducible repeat first | exact Fr1 | exact Fr2 | (apply Fr3; focus ((repeat (first | exact Tk1 | apply Tk2)); done)) | apply Fr4)) : Sat W0 _ (seg true g 0 [.int .i64 on, .int .i64 4, .int .i64 to, .slice pp n cap, .int .u8 alg] :: [])).at 3 rfl
    have gz := ((Sat.sub (s1) (by with_reducible repeat first | exact Fr1 | exact Fr2 | (apply Fr3; focus ((repeat (first | exact Tk1 | apply Tk2)); done)) | apply Fr4)) : Sat W0 _ (seg true g 0 [.int .i64 on, .int .i64 4, .int .i64 to, .slice pp n cap, .int .u8 alg] :: [])).lt (by simp)
    have x0 := s1.at k HC.out.2.2.1
    have x3 := s1.at (3 + k) HC.out.2.2.2.1
    have x6 := s1.at 6 HC.out.2.2.2.2.1
    have x7 := s1.at 7 HC.out.2.2.2.2.2.1
    have xz := s1.lt (by rw [HC.out.2.2.2.2.2.2.1]; omega)
    simp only [slS, slR, ifv] at x0 x3
    have sg := starsGet HC.out.2.1 ((Sat.sub (s1) (by with_reducible repeat first | exact Fr1 | exact Fr2 | (apply Fr3; focus ((repeat (first | exact Tk1 | apply Tk2)); done)) | apply Fr4)) : Sat W0 _ (stars (S.map slA) :: seg true x 0 C :: seg true g 0 [.int .i64 on, .int .i64 4, .int .i64 to, .slice pp n cap, .int .u8 alg] :: row pt ct 1 N (ts.map pieceV) :: row pw cw 1 N (us.map pieceV) :: ownRows ts :: ownRows us :: ledO (some l) rs :: rledO (some m) rs :: bytes false pp P :: L))
    have sh : Sat W0 _ (dst true pb msg :: rs11 true rb msg :: _) := Sat.sepOpen (show Sat W0 _ (sep (dst true pb msg) (rs11 true rb msg) :: _) from sg)
    have s2 : Sat W0 _ (seg true x 0 C :: seg true g 0 [.int .i64 on, .int .i64 4, .int .i64 to, .slice pp n cap, .int .u8 alg] :: row pt ct 1 N (ts.map pieceV) :: row pw cw 1 N (us.map pieceV) :: ownRows ts :: ownRows us :: ledO (some l) rs :: rledO (some m) rs :: dst true pb msg :: rs11 true rb msg :: stars ((S.map slA).eraseIdx k) :: bytes false pp P :: L) := (Sat.sub (sh) (by with_reducible repeat first | exact Fr1 | exact Fr2 | (apply Fr3; focus ((repeat (first | exact Tk1 | apply Tk2)); done)) | apply Fr4))
    clear sg sh s1
    go_wp2_with fail
    refine (dForm true msg (by have := HC.out.2.2.2.2.2.2.2.2.2.2.2.1; simp only [slN] at this; omega) ((Sat.sub (s2) (by with_reducible repeat first | exact Fr1 | exact Fr2 | (apply Fr3; focus ((repeat (first | exact Tk1 | apply Tk2)); done)) | apply Fr4)) : Sat W0 _ (dst true pb msg :: rs11 true rb msg :: ledO (some l) rs :: rledO (some m) rs :: seg true x 0 C :: row pt ct 1 N (ts.map pieceV) :: row pw cw 1 N (us.map pieceV) :: ownRows ts :: ownRows us :: stars ((S.map slA).eraseIdx k) :: L))).mono ?_
    rintro e w5 ⟨pa, ca, rfl, s5⟩
    clear s2 x0 x3 x6 x7 xz g1 g3 gz
    go_wp2_with fail
    refine (rs11Form true msg (by have := HC.out.2.2.2.2.2.2.2.2.2.2.2.1; simp only [slN] at this; omega) ((Sat.sub (s5) (by with_reducible repeat first | exact Fr1 | exact Fr2 | (apply Fr3; focus ((repeat (first | exact Tk1 | apply Tk2)); done)) | apply Fr4)) : Sat W0 _ (rs11 true rb msg :: dst true pb msg :: row pa ca 1 (fsz true) (u8s (formH true msg)) :: ledO (some l) rs :: rledO (some m) rs :: seg true x 0 C :: row pt ct 1 N (ts.map pieceV) :: row pw cw 1 N (us.map pieceV) :: ownRows ts :: ownRows us :: stars ((S.map slA).eraseIdx k) :: L))).mono ?_
    rintro e w6 ⟨pb', cb, rfl, s6⟩
    clear s5
    obtain ⟨hfl, -, -, -⟩ := rowBytes s6
    have HFL := Lib.hid hfl; clear hfl
    have sk : Sat W0 _ (slA (.live true msg pb rb) :: _) := Sat.sepShut ((Sat.sub (s6) (by with_reducible repeat first | exact Fr1 | exact Fr2 | (apply Fr3; focus ((repeat (first | exact Tk1 | apply Tk2)); done)) | apply Fr4)) : Sat W0 _ (dst true pb msg :: rs11 true rb msg :: stars ((S.map slA).eraseIdx k) :: row pa ca 1 (fsz true) (u8s (formH true msg)) :: row pb' cb 1 (fsz true) (u8s (formH true msg)) :: seg true x 0 C :: row pt ct 1 N (ts.map pieceV) :: row pw cw 1 N (us.map pieceV) :: ownRows ts :: ownRows us :: ledO (some l) (rs) :: rledO (some m) (rs) :: L))
    have si := slotBack HC.out.2.1 sk
    have si2 := si
    rw [HC.out.1] at si2
    have sj : Sat W0 _ (row pa ca 1 (fsz true) (u8s (formH true msg)) :: row pb' cb 1 (fsz true) (u8s (formH true msg)) :: wA x l m S ts us pt ct pw cw N (rs) L) := (Sat.sub (si2) (by with_reducible repeat first | exact Fr1 | exact Fr2 | (apply Fr3; focus ((repeat (first | exact Tk1 | apply Tk2)); done)) | apply Fr4))
    clear sk si si2
    go_wp2_with fail
    refine (keep11 (n := (fsz true)) HC.out.2.2.2.2.2.2.2.2.2.2.2.2.2.1 (by have := HC.out.2.2.2.2.2.2.2.2.2.2.2.2.2.2.2.2.2.1; omega) (formH true msg) HFL.out (by simp only [hsz, fsz]; omega) sj).mono ?_
    rintro e w9 ⟨rfl, pt', ct', pw', cw', s9⟩
    have HS := Lib.hid s9; clear s9 sj
    go_wp2_with fail
    go_ret
    exact ⟨rfl, S, ts ++ [(pa, ca, formH true msg)], us ++ [(pb', cb, formH true msg)], pt', ct', pw', cw', N + 1, rs, okKeep HC.out.2.2.2.2.2.2.2.2.2.2.2.2.2 (by omega) (by rw [HFL.out]; simp only [fsz]; omega) (by omega) (by omega), HS.out⟩
set_option maxRecDepth 100000 in
set_option maxHeartbeats 8000000 in
theorem act_formG {W0 w : World} {L : List Assn} {x l m M i N k n cap : Nat} {S : List Sl} {ts us : List Piece} {pt pw pp : Option Addr} {ct cw : Nat} {rs : List Run3} {msg P : List Byte} {pb rb : Nat} (wide : Bool) (on to alg : Int) (hok : okW M i S ts us N rs) (hi : i ≤ 60) (hM : M + n ≤ 100000) (hP : P.length = n) (hnc : n ≤ cap) (hcm : cap ≤ maxLen) (hkp : pickM on 3 = k) (hsk : S[k]? = some (.gone wide pb rb))
    (hs : Sat W0 w (wA x l m S ts us pt ct pw cw N rs (bytes false pp P :: L))) :
    Calls Tryz.prog 9 #[.pointer (some ⟨x, 0, none⟩), .agg #[.int .i64 on, .int .i64 4, .int .i64 to, .slice pp n cap, .int .u8 alg]] w (postA W0 L x l m (M + n) i) := by
  have hk : k < 3 := by rw [← hok.1]; exact (List.getElem?_eq_some_iff.1 hsk).1
  have hslN := hok.2.2.2.2.2.2.2.2 _ (List.mem_of_getElem? hsk)
  obtain ⟨e0, e3⟩ := wc_S (l := l) (m := m) (pt := pt) (pw := pw) (ct := ct) (N := N) (cw := cw) hok.1 k hsk
  obtain ⟨e6, e7, -, -, e10⟩ := wc_at (l := l) (m := m) (pt := pt) (pw := pw) (ct := ct) (N := N) (cw := cw) hok.1
  obtain ⟨C, hC⟩ : ∃ C, C = wCells l m S pt ct N pw cw := ⟨_, rfl⟩
  rw [← hC] at e0 e3 e6 e7 e10
  have s0 : Sat W0 w (seg true x 0 C :: stars (S.map slA) :: row pt ct 1 N (ts.map pieceV) :: row pw cw 1 N (us.map pieceV) :: ownRows ts :: ownRows us :: ledO (some l) rs :: rledO (some m) rs :: bytes false pp P :: L) := by
    rw [hC]; exact (Sat.sub (hs) (by with_reducible repeat first | exact Fr1 | exact Fr2 | (apply Fr3; focus ((repeat (first | exact Tk1 | apply Tk2)); done)) | apply Fr4))
  clear hs
  have hrs : tot rs ≤ 10000000 ∧ rs.length ≤ 1000 := by
    have h1 := hok.2.2.2.2.2.2.1
    have h2 := hok.2.2.2.2.2.2.2.1
    have h3 : 100000 * i ≤ 100000 * 60 := Nat.mul_le_mul_left _ hi
    omega
  have HC := Lib.hid (And.intro hC (And.intro hsk (And.intro e0 (And.intro e3 (And.intro e6 (And.intro e7 (And.intro e10 (And.intro hP (And.intro hnc (And.intro hcm (And.intro hkp (And.intro hslN (And.intro hrs hok))))))))))))); clear hC hsk e0 e3 e6 e7 e10 hP hnc hcm hkp hslN hrs hok
  have hk3 : (k : Int) < 3 := by omega
  have hpk : ∀ w : World, Calls Tryz.prog 21 #[.int .i64 on, .int .i64 3] w fun e w' => e = .returned (.int .i64 (k : Int)) ∧ w = w' := fun w => by
    have := pickW w on 3 (by omega) (by omega)
    rw [HC.out.2.2.2.2.2.2.2.2.2.2.1] at this
    exact this
  have HP := Lib.hid hpk; clear hpk
  cases wide
  · skip
    go_enter Tryz.func9, Tryz.ntmps9
    go_wp2_with (refine wpl_box rfl 43 (.tmp 1) rfl [.int .i64 on, .int .i64 4, .int .i64 to, .slice pp n cap, .int .u8 alg] rfl s0 ?_; intro w1 g s1' _; have s1 : Sat W0 w1 (seg true x 0 C :: seg true g 0 [.int .i64 on, .int .i64 4, .int .i64 to, .slice pp n cap, .int .u8 alg] :: stars (S.map slA) :: row pt ct 1 N (ts.map pieceV) :: row pw cw 1 N (us.map pieceV) :: ownRows ts :: ownRows us :: ledO (some l) rs :: rledO (some m) rs :: bytes false pp P :: L) := (Sat.sub (s1') (by with_reducible repeat first | exact Fr1 | exact Fr2 | (apply Fr3; focus ((repeat (first | exact Tk1 | apply Tk2)); done)) | apply Fr4)); clear s1' s0; have g0 := ((Sat.sub (s1) (by with_reducible repeat first | exact Fr1 | exact Fr2 | (apply Fr3; focus ((repeat (first | exact Tk1 | apply Tk2)); done)) | apply Fr4)) : Sat W0 _ (seg true g 0 [.int .i64 on, .int .i64 4, .int .i64 to, .slice pp n cap, .int .u8 alg] :: [])).at 0 rfl; have gz := ((Sat.sub (s1) (by with_reducible repeat first | exact Fr1 | exact Fr2 | (apply Fr3; focus ((repeat (first | exact Tk1 | apply Tk2)); done)) | apply Fr4)) : Sat W0 _ (seg true g 0 [.int .i64 on, .int .i64 4, .int .i64 to, .slice pp n cap, .int .u8 alg] :: [])).lt (by simp))
    refine (HP.out w1).mono ?_
    rintro e w2 ⟨rfl, rfl⟩
    clear g0 gz
    have g1 := ((Sat.sub (s1) (by with_reducible repeat first | exact Fr1 | exact Fr2 | (apply Fr3; focus ((repeat (first | exact Tk1 | apply Tk2)); done)) | apply Fr4)) : Sat W0 _ (seg true g 0 [.int .i64 on, .int .i64 4, .int .i64 to, .slice pp n cap, .int .u8 alg] :: [])).at 1 rfl
    have g3 := ((Sat.sub (s1) (by with_reducible repeat first | exact Fr1 | exact Fr2 | (apply Fr3; focus ((repeat (first | exact Tk1 | apply Tk2)); done)) | apply Fr4)) : Sat W0 _ (seg true g 0 [.int .i64 on, .int .i64 4, .int .i64 to, .slice pp n cap, .int .u8 alg] :: [])).at 3 rfl
    have gz := ((Sat.sub (s1) (by with_reducible repeat first | exact Fr1 | exact Fr2 | (apply Fr3; focus ((repeat (first | exact Tk1 | apply Tk2)); done)) | apply Fr4)) : Sat W0 _ (seg true g 0 [.int .i64 on, .int .i64 4, .int .i64 to, .slice pp n cap, .int .u8 alg] :: [])).lt (by simp)
    have x0 := s1.at k HC.out.2.2.1
    have x3 := s1.at (3 + k) HC.out.2.2.2.1
    have x6 := s1.at 6 HC.out.2.2.2.2.1
    have x7 := s1.at 7 HC.out.2.2.2.2.2.1
    have xz := s1.lt (by rw [HC.out.2.2.2.2.2.2.1]; omega)
    simp only [slS, slR, ifv] at x0 x3
    have sg := starsGet HC.out.2.1 ((Sat.sub (s1) (by with_reducible repeat first | exact Fr1 | exact Fr2 | (apply Fr3; focus ((repeat (first | exact Tk1 | apply Tk2)); done)) | apply Fr4)) : Sat W0 _ (stars (S.map slA) :: seg true x 0 C :: seg true g 0 [.int .i64 on, .int .i64 4, .int .i64 to, .slice pp n cap, .int .u8 alg] :: row pt ct 1 N (ts.map pieceV) :: row pw cw 1 N (us.map pieceV) :: ownRows ts :: ownRows us :: ledO (some l) rs :: rledO (some m) rs :: bytes false pp P :: L))
    have sh : Sat W0 _ (gone false pb :: rg11 false rb :: _) := Sat.sepOpen (show Sat W0 _ (sep (gone false pb) (rg11 false rb) :: _) from sg)
    have s2 : Sat W0 _ (seg true x 0 C :: seg true g 0 [.int .i64 on, .int .i64 4, .int .i64 to, .slice pp n cap, .int .u8 alg] :: row pt ct 1 N (ts.map pieceV) :: row pw cw 1 N (us.map pieceV) :: ownRows ts :: ownRows us :: ledO (some l) rs :: rledO (some m) rs :: gone false pb :: rg11 false rb :: stars ((S.map slA).eraseIdx k) :: bytes false pp P :: L) := (Sat.sub (sh) (by with_reducible repeat first | exact Fr1 | exact Fr2 | (apply Fr3; focus ((repeat (first | exact Tk1 | apply Tk2)); done)) | apply Fr4))
    clear sg sh s1
    go_wp2_with fail
    refine (gForm false ((Sat.sub (s2) (by with_reducible repeat first | exact Fr1 | exact Fr2 | (apply Fr3; focus ((repeat (first | exact Tk1 | apply Tk2)); done)) | apply Fr4)) : Sat W0 _ (gone false pb :: []))).mono ?_
    rintro e w5 ⟨rfl, rfl⟩
    clear x0 x3 x6 x7 xz g1 g3 gz
    go_wp2_with fail
    refine (rg11Form false ((Sat.sub (s2) (by with_reducible repeat first | exact Fr1 | exact Fr2 | (apply Fr3; focus ((repeat (first | exact Tk1 | apply Tk2)); done)) | apply Fr4)) : Sat W0 _ (rg11 false rb :: []))).mono ?_
    rintro e w6 ⟨rfl, rfl⟩
    have s6 : Sat W0 _ (row none 0 1 0 (u8s []) :: row none 0 1 0 (u8s []) :: _) := (s2.rowNil 1).rowNil 1
    clear s2
    have sk : Sat W0 _ (slA (.gone false pb rb) :: _) := Sat.sepShut ((Sat.sub (s6) (by with_reducible repeat first | exact Fr1 | exact Fr2 | (apply Fr3; focus ((repeat (first | exact Tk1 | apply Tk2)); done)) | apply Fr4)) : Sat W0 _ (gone false pb :: rg11 false rb :: stars ((S.map slA).eraseIdx k) :: row none 0 1 0 (u8s []) :: row none 0 1 0 (u8s []) :: seg true x 0 C :: row pt ct 1 N (ts.map pieceV) :: row pw cw 1 N (us.map pieceV) :: ownRows ts :: ownRows us :: ledO (some l) (rs) :: rledO (some m) (rs) :: L))
    have si := slotBack HC.out.2.1 sk
    have si2 := si
    rw [HC.out.1] at si2
    have sj : Sat W0 _ (row none 0 1 0 (u8s []) :: row none 0 1 0 (u8s []) :: wA x l m S ts us pt ct pw cw N (rs) L) := (Sat.sub (si2) (by with_reducible repeat first | exact Fr1 | exact Fr2 | (apply Fr3; focus ((repeat (first | exact Tk1 | apply Tk2)); done)) | apply Fr4))
    clear sk si si2
    go_wp2_with fail
    refine (keep11 (n := 0) HC.out.2.2.2.2.2.2.2.2.2.2.2.2.2.1 (by have := HC.out.2.2.2.2.2.2.2.2.2.2.2.2.2.2.2.2.2.1; omega) [] rfl (by skip; omega) sj).mono ?_
    rintro e w9 ⟨rfl, pt', ct', pw', cw', s9⟩
    have HS := Lib.hid s9; clear s9 sj
    go_wp2_with fail
    go_ret
    exact ⟨rfl, S, ts ++ [(none, 0, [])], us ++ [(none, 0, [])], pt', ct', pw', cw', N + 1, rs, okKeep HC.out.2.2.2.2.2.2.2.2.2.2.2.2.2 (by omega) (by simp) (by omega) (by omega), HS.out⟩
  · skip
    go_enter Tryz.func9, Tryz.ntmps9
    go_wp2_with (refine wpl_box rfl 43 (.tmp 1) rfl [.int .i64 on, .int .i64 4, .int .i64 to, .slice pp n cap, .int .u8 alg] rfl s0 ?_; intro w1 g s1' _; have s1 : Sat W0 w1 (seg true x 0 C :: seg true g 0 [.int .i64 on, .int .i64 4, .int .i64 to, .slice pp n cap, .int .u8 alg] :: stars (S.map slA) :: row pt ct 1 N (ts.map pieceV) :: row pw cw 1 N (us.map pieceV) :: ownRows ts :: ownRows us :: ledO (some l) rs :: rledO (some m) rs :: bytes false pp P :: L) := (Sat.sub (s1') (by with_reducible repeat first | exact Fr1 | exact Fr2 | (apply Fr3; focus ((repeat (first | exact Tk1 | apply Tk2)); done)) | apply Fr4)); clear s1' s0; have g0 := ((Sat.sub (s1) (by with_reducible repeat first | exact Fr1 | exact Fr2 | (apply Fr3; focus ((repeat (first | exact Tk1 | apply Tk2)); done)) | apply Fr4)) : Sat W0 _ (seg true g 0 [.int .i64 on, .int .i64 4, .int .i64 to, .slice pp n cap, .int .u8 alg] :: [])).at 0 rfl; have gz := ((Sat.sub (s1) (by with_reducible repeat first | exact Fr1 | exact Fr2 | (apply Fr3; focus ((repeat (first | exact Tk1 | apply Tk2)); done)) | apply Fr4)) : Sat W0 _ (seg true g 0 [.int .i64 on, .int .i64 4, .int .i64 to, .slice pp n cap, .int .u8 alg] :: [])).lt (by simp))
    refine (HP.out w1).mono ?_
    rintro e w2 ⟨rfl, rfl⟩
    clear g0 gz
    have g1 := ((Sat.sub (s1) (by with_reducible repeat first | exact Fr1 | exact Fr2 | (apply Fr3; focus ((repeat (first | exact Tk1 | apply Tk2)); done)) | apply Fr4)) : Sat W0 _ (seg true g 0 [.int .i64 on, .int .i64 4, .int .i64 to, .slice pp n cap, .int .u8 alg] :: [])).at 1 rfl
    have g3 := ((Sat.sub (s1) (by with_reducible repeat first | exact Fr1 | exact Fr2 | (apply Fr3; focus ((repeat (first | exact Tk1 | apply Tk2)); done)) | apply Fr4)) : Sat W0 _ (seg true g 0 [.int .i64 on, .int .i64 4, .int .i64 to, .slice pp n cap, .int .u8 alg] :: [])).at 3 rfl
    have gz := ((Sat.sub (s1) (by with_reducible repeat first | exact Fr1 | exact Fr2 | (apply Fr3; focus ((repeat (first | exact Tk1 | apply Tk2)); done)) | apply Fr4)) : Sat W0 _ (seg true g 0 [.int .i64 on, .int .i64 4, .int .i64 to, .slice pp n cap, .int .u8 alg] :: [])).lt (by simp)
    have x0 := s1.at k HC.out.2.2.1
    have x3 := s1.at (3 + k) HC.out.2.2.2.1
    have x6 := s1.at 6 HC.out.2.2.2.2.1
    have x7 := s1.at 7 HC.out.2.2.2.2.2.1
    have xz := s1.lt (by rw [HC.out.2.2.2.2.2.2.1]; omega)
    simp only [slS, slR, ifv] at x0 x3
    have sg := starsGet HC.out.2.1 ((Sat.sub (s1) (by with_reducible repeat first | exact Fr1 | exact Fr2 | (apply Fr3; focus ((repeat (first | exact Tk1 | apply Tk2)); done)) | apply Fr4)) : Sat W0 _ (stars (S.map slA) :: seg true x 0 C :: seg true g 0 [.int .i64 on, .int .i64 4, .int .i64 to, .slice pp n cap, .int .u8 alg] :: row pt ct 1 N (ts.map pieceV) :: row pw cw 1 N (us.map pieceV) :: ownRows ts :: ownRows us :: ledO (some l) rs :: rledO (some m) rs :: bytes false pp P :: L))
    have sh : Sat W0 _ (gone true pb :: rg11 true rb :: _) := Sat.sepOpen (show Sat W0 _ (sep (gone true pb) (rg11 true rb) :: _) from sg)
    have s2 : Sat W0 _ (seg true x 0 C :: seg true g 0 [.int .i64 on, .int .i64 4, .int .i64 to, .slice pp n cap, .int .u8 alg] :: row pt ct 1 N (ts.map pieceV) :: row pw cw 1 N (us.map pieceV) :: ownRows ts :: ownRows us :: ledO (some l) rs :: rledO (some m) rs :: gone true pb :: rg11 true rb :: stars ((S.map slA).eraseIdx k) :: bytes false pp P :: L) := (Sat.sub (sh) (by with_reducible repeat first | exact Fr1 | exact Fr2 | (apply Fr3; focus ((repeat (first | exact Tk1 | apply Tk2)); done)) | apply Fr4))
    clear sg sh s1
    go_wp2_with fail
    refine (gForm true ((Sat.sub (s2) (by with_reducible repeat first | exact Fr1 | exact Fr2 | (apply Fr3; focus ((repeat (first | exact Tk1 | apply Tk2)); done)) | apply Fr4)) : Sat W0 _ (gone true pb :: []))).mono ?_
    rintro e w5 ⟨rfl, rfl⟩
    clear x0 x3 x6 x7 xz g1 g3 gz
    go_wp2_with fail
    refine (rg11Form true ((Sat.sub (s2) (by with_reducible repeat first | exact Fr1 | exact Fr2 | (apply Fr3; focus ((repeat (first | exact Tk1 | apply Tk2)); done)) | apply Fr4)) : Sat W0 _ (rg11 true rb :: []))).mono ?_
    rintro e w6 ⟨rfl, rfl⟩
    have s6 : Sat W0 _ (row none 0 1 0 (u8s []) :: row none 0 1 0 (u8s []) :: _) := (s2.rowNil 1).rowNil 1
    clear s2
    have sk : Sat W0 _ (slA (.gone true pb rb) :: _) := Sat.sepShut ((Sat.sub (s6) (by with_reducible repeat first | exact Fr1 | exact Fr2 | (apply Fr3; focus ((repeat (first | exact Tk1 | apply Tk2)); done)) | apply Fr4)) : Sat W0 _ (gone true pb :: rg11 true rb :: stars ((S.map slA).eraseIdx k) :: row none 0 1 0 (u8s []) :: row none 0 1 0 (u8s []) :: seg true x 0 C :: row pt ct 1 N (ts.map pieceV) :: row pw cw 1 N (us.map pieceV) :: ownRows ts :: ownRows us :: ledO (some l) (rs) :: rledO (some m) (rs) :: L))
    have si := slotBack HC.out.2.1 sk
    have si2 := si
    rw [HC.out.1] at si2
    have sj : Sat W0 _ (row none 0 1 0 (u8s []) :: row none 0 1 0 (u8s []) :: wA x l m S ts us pt ct pw cw N (rs) L) := (Sat.sub (si2) (by with_reducible repeat first | exact Fr1 | exact Fr2 | (apply Fr3; focus ((repeat (first | exact Tk1 | apply Tk2)); done)) | apply Fr4))
    clear sk si si2
    go_wp2_with fail
    refine (keep11 (n := 0) HC.out.2.2.2.2.2.2.2.2.2.2.2.2.2.1 (by have := HC.out.2.2.2.2.2.2.2.2.2.2.2.2.2.2.2.2.2.1; omega) [] rfl (by skip; omega) sj).mono ?_
    rintro e w9 ⟨rfl, pt', ct', pw', cw', s9⟩
    have HS := Lib.hid s9; clear s9 sj
    go_wp2_with fail
    go_ret
    exact ⟨rfl, S, ts ++ [(none, 0, [])], us ++ [(none, 0, [])], pt', ct', pw', cw', N + 1, rs, okKeep HC.out.2.2.2.2.2.2.2.2.2.2.2.2.2 (by omega) (by simp) (by omega) (by omega), HS.out⟩
end Go.Proofs.YtlmababpmmhhoaaGreat
