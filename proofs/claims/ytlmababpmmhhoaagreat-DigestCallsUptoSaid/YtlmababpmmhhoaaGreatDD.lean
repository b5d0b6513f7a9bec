/- Dcn, Dcs, Dcz: texts that lie apart elsewhere, as one; each under the conditions that it names. -/
import Derived.Test.YtlmababpmmhhoaaGreatDC
import Derived.Test.YtlmababpmmhhoaaGreatDA

/- DigestCalls: a call of both: any; under the conditions that each names. -/
namespace Go.Proofs.YtlmababpmmhhoaaGreat
open Go.RowKit Go.Sep Go.Bv Go.Sha
set_option linter.unusedVariables false
set_option linter.unusedSimpArgs false
set_option maxRecDepth 100000 in
set_option maxHeartbeats 4000000 in
theorem made11None {W0 w : World} {L : List Assn} {x k : Nat} (a : Int) (h1 : ¬ a = 1) (h2 : ¬ a = 2) (hs : Sat W0 w L) :
    Calls Tryz.prog 8 #[.pointer (some ⟨x, 0, none⟩), .int .i64 (k : Int), .int .u8 a] w fun e w' => e = .returned (.bool true) ∧ Sat W0 w' L := by
  go_enter Tryz.func8, Tryz.ntmps8
  go_wp2_with fail
  refine (dOfNone a h1 h2 hs).mono ?_
  rintro e w1 ⟨rfl, s1⟩
  simp only [hbare]
  have s1a := s1.alloc' (.cells hbare.toArray 63)
  simp only [hbare] at s1a
  go_wp2_with fail
  refine (rOfNone a h1 h2 s1a).mono ?_
  rintro e w2 ⟨rfl, s2⟩
  simp only [rbare]
  have s2a := s2.alloc' (.cells rbare.toArray 67)
  simp only [rbare] at s2a
  have HS := Lib.hid s2a; clear s1 s1a s2 s2a hs
  go_wp2_with fail
  go_ret
  exact ⟨rfl, HS.out⟩
/-- A new state of any algorithm: there is one, or nothing is done. -/
theorem madeAny {W0 w : World} {L : List Assn} {x l m M i N k : Nat} {S : List Sl} {ts us : List Piece} {pt pw : Option Addr} {ct cw : Nat} {rs : List Run3} {M' : Nat} (hok : okW M i S ts us N rs) (hM : M ≤ M') (hk : k < 3) (a : Int)
    (hs : Sat W0 w (wA x l m S ts us pt ct pw cw N rs L)) :
    Calls Tryz.prog 8 #[.pointer (some ⟨x, 0, none⟩), .int .i64 (k : Int), .int .u8 a] w (postA W0 L x l m M' i) := by
  have hle : ∀ s ∈ S, slN s ≤ M' := fun s hs => Nat.le_trans (hok.2.2.2.2.2.2.2.2 s hs) hM
  have two : ∀ wide, a = algN wide → Calls Tryz.prog 8 #[.pointer (some ⟨x, 0, none⟩), .int .i64 (k : Int), .int .u8 a] w (postA W0 L x l m M' i) := fun wide h => by
    refine (made11 hok.1 hk wide (by rw [h]) hs).mono ?_
    rintro e w' ⟨rfl, pb, rb, s⟩
    exact ⟨rfl, S.set k (.live wide [] pb rb), ts, us, pt, ct, pw, cw, N, rs, okSame hok (List.length_set ..) (mem_set_le hok.2.2.2.2.2.2.2.2 hM (Nat.zero_le _)) (by omega) (by omega), s⟩
  by_cases h1 : a = 1
  · exact two false h1
  · by_cases h2 : a = 2
    · exact two true h2
    · refine (made11None a h1 h2 hs).mono ?_
      rintro e w' ⟨rfl, s⟩
      exact ⟨rfl, S, ts, us, pt, ct, pw, cw, N, rs, okSame hok rfl hle (by omega) (by omega), s⟩

set_option maxRecDepth 100000 in
set_option maxHeartbeats 8000000 in
theorem act_low {W0 w : World} {L : List Assn} {x l m M i N k n cap : Nat} {S : List Sl} {ts us : List Piece} {pt pw pp : Option Addr} {ct cw : Nat} {rs : List Run3} {P : List Byte} {sk : Sl} (on to alg : Int) (hok : okW M i S ts us N rs) (hi : i ≤ 60) (hM : M + n ≤ 100000) (hP : P.length = n) (hnc : n ≤ cap) (hcm : cap ≤ maxLen) (hkp : pickM on 3 = k) (hsk : S[k]? = some (sk)) (call : Int) (hlow : call < 0)
    (hs : Sat W0 w (wA x l m S ts us pt ct pw cw N rs (bytes false pp P :: L))) :
    Calls Tryz.prog 9 #[.pointer (some ⟨x, 0, none⟩), .agg #[.int .i64 on, .int .i64 call, .int .i64 to, .slice pp n cap, .int .u8 alg]] w (postA W0 L x l m (M + n) i) := by
  have hk : k < 3 := by rw [← hok.1]; exact (List.getElem?_eq_some_iff.1 hsk).1
  have hslN := hok.2.2.2.2.2.2.2.2 _ (List.mem_of_getElem? hsk)
  obtain ⟨e0, e3⟩ := wc_S (l := l) (m := m) (pt := pt) (pw := pw) (ct := ct) (N := N) (cw := cw) hok.1 k hsk
  obtain ⟨e6, e7, -, -, e10⟩ := wc_at (l := l) (m := m) (pt := pt) (pw := pw) (ct := ct) (N := N) (cw := cw) hok.1
  obtain ⟨C, hC⟩ : ∃ C, C = wCells l m S pt ct N pw cw := ⟨_, rfl⟩
  rw [← hC] at e0 e3 e6 e7 e10
  have s0 : Sat W0 w (seg true x 0 C :: stars (S.map slA) :: row pt ct 1 N (ts.map pieceV) :: row pw cw 1 N (us.map pieceV) :: ownRows ts :: ownRows us :: ledO (some l) rs :: rledO (some m) rs :: bytes false pp P :: L) := by
    rw [hC]; exact (Sat.sub (hs) (by with_reducible repeat first | exact Fr1 | exact Fr2 | (apply Fr3; focus ((repeat (first | exact Tk1 | apply Tk2)); done)) | apply Fr4))
  clear hs
  have hrs : tot rs ≤ 10000000 ∧ rs.length ≤ 1000 := by
    have h1 := hok.2.2.2.2.2.2.1
    have h2 := hok.2.2.2.2.2.2.2.1
    have h3 : 100000 * i ≤ 100000 * 60 := Nat.mul_le_mul_left _ hi
    omega
  have HC := Lib.hid (And.intro hC (And.intro hsk (And.intro e0 (And.intro e3 (And.intro e6 (And.intro e7 (And.intro e10 (And.intro hP (And.intro hnc (And.intro hcm (And.intro hkp (And.intro hslN (And.intro hrs hok))))))))))))); clear hC hsk e0 e3 e6 e7 e10 hP hnc hcm hkp hslN hrs hok
  have hk3 : (k : Int) < 3 := by omega
  have hpk : ∀ w : World, Calls Tryz.prog 21 #[.int .i64 on, .int .i64 3] w fun e w' => e = .returned (.int .i64 (k : Int)) ∧ w = w' := fun w => by
    have := pickW w on 3 (by omega) (by omega)
    rw [HC.out.2.2.2.2.2.2.2.2.2.2.1] at this
    exact this
  have HP := Lib.hid hpk; clear hpk
  have hl1 : (call < 0) = True := by simp [hlow]
  go_enter Tryz.func9, Tryz.ntmps9
  go_wp2_with (refine wpl_box rfl 43 (.tmp 1) rfl [.int .i64 on, .int .i64 call, .int .i64 to, .slice pp n cap, .int .u8 alg] rfl s0 ?_; intro w1 g s1' _; have s1 : Sat W0 w1 (seg true x 0 C :: seg true g 0 [.int .i64 on, .int .i64 call, .int .i64 to, .slice pp n cap, .int .u8 alg] :: stars (S.map slA) :: row pt ct 1 N (ts.map pieceV) :: row pw cw 1 N (us.map pieceV) :: ownRows ts :: ownRows us :: ledO (some l) rs :: rledO (some m) rs :: bytes false pp P :: L) := (Sat.sub (s1') (by with_reducible repeat first | exact Fr1 | exact Fr2 | (apply Fr3; focus ((repeat (first | exact Tk1 | apply Tk2)); done)) | apply Fr4)); clear s1' s0; have g0 := ((Sat.sub (s1) (by with_reducible repeat first | exact Fr1 | exact Fr2 | (apply Fr3; focus ((repeat (first | exact Tk1 | apply Tk2)); done)) | apply Fr4)) : Sat W0 _ (seg true g 0 [.int .i64 on, .int .i64 call, .int .i64 to, .slice pp n cap, .int .u8 alg] :: [])).at 0 rfl; have gz := ((Sat.sub (s1) (by with_reducible repeat first | exact Fr1 | exact Fr2 | (apply Fr3; focus ((repeat (first | exact Tk1 | apply Tk2)); done)) | apply Fr4)) : Sat W0 _ (seg true g 0 [.int .i64 on, .int .i64 call, .int .i64 to, .slice pp n cap, .int .u8 alg] :: [])).lt (by simp))
  refine (HP.out w1).mono ?_
  rintro e w2 ⟨rfl, rfl⟩
  clear g0 gz
  have g1 := ((Sat.sub (s1) (by with_reducible repeat first | exact Fr1 | exact Fr2 | (apply Fr3; focus ((repeat (first | exact Tk1 | apply Tk2)); done)) | apply Fr4)) : Sat W0 _ (seg true g 0 [.int .i64 on, .int .i64 call, .int .i64 to, .slice pp n cap, .int .u8 alg] :: [])).at 1 rfl
  have g3 := ((Sat.sub (s1) (by with_reducible repeat first | exact Fr1 | exact Fr2 | (apply Fr3; focus ((repeat (first | exact Tk1 | apply Tk2)); done)) | apply Fr4)) : Sat W0 _ (seg true g 0 [.int .i64 on, .int .i64 call, .int .i64 to, .slice pp n cap, .int .u8 alg] :: [])).at 3 rfl
  have gz := ((Sat.sub (s1) (by with_reducible repeat first | exact Fr1 | exact Fr2 | (apply Fr3; focus ((repeat (first | exact Tk1 | apply Tk2)); done)) | apply Fr4)) : Sat W0 _ (seg true g 0 [.int .i64 on, .int .i64 call, .int .i64 to, .slice pp n cap, .int .u8 alg] :: [])).lt (by simp)
  have x0 := s1.at k HC.out.2.2.1
  have x3 := s1.at (3 + k) HC.out.2.2.2.1
  have x6 := s1.at 6 HC.out.2.2.2.2.1
  have x7 := s1.at 7 HC.out.2.2.2.2.2.1
  have xz := s1.lt (by rw [HC.out.2.2.2.2.2.2.1]; omega)
  have g4 := ((Sat.sub (s1) (by with_reducible repeat first | exact Fr1 | exact Fr2 | (apply Fr3; focus ((repeat (first | exact Tk1 | apply Tk2)); done)) | apply Fr4)) : Sat W0 _ (seg true g 0 [.int .i64 on, .int .i64 call, .int .i64 to, .slice pp n cap, .int .u8 alg] :: [])).at 4 rfl
  have sj : Sat W0 w1 (wA x l m S ts us pt ct pw cw N rs L) := by
    have s2 := s1
    rw [HC.out.1] at s2
    exact (Sat.sub (s2) (by with_reducible repeat first | exact Fr1 | exact Fr2 | (apply Fr3; focus ((repeat (first | exact Tk1 | apply Tk2)); done)) | apply Fr4))
  have HS := Lib.hid (And.intro sj HC.out.2.2.2.2.2.2.2.2.2.2.2.2.2); clear s1 sj
  go_wp2_with fail
  refine (madeAny (M' := M + n) HS.out.2 (by omega) hk alg HS.out.1).mono ?_
  rintro e w9 ⟨rfl, S', ts', us', pt', ct', pw', cw', N', rs', hok', s9⟩
  have HE := Lib.hid (And.intro hok' s9); clear hok' s9 x0 x3 x6 x7 xz g1 g3 gz g4
  go_wp2_with fail
  go_ret
  exact ⟨rfl, S', ts', us', pt', ct', pw', cw', N', rs', HE.out.1, HE.out.2⟩
set_option maxRecDepth 100000 in
set_option maxHeartbeats 8000000 in
theorem act_high {W0 w : World} {L : List Assn} {x l m M i N k n cap : Nat} {S : List Sl} {ts us : List Piece} {pt pw pp : Option Addr} {ct cw : Nat} {rs : List Run3} {P : List Byte} {sk : Sl} (on to alg : Int) (hok : okW M i S ts us N rs) (hi : i ≤ 60) (hM : M + n ≤ 100000) (hP : P.length = n) (hnc : n ≤ cap) (hcm : cap ≤ maxLen) (hkp : pickM on 3 = k) (hsk : S[k]? = some (sk)) (call : Int) (hhi : 4 < call)
    (hs : Sat W0 w (wA x l m S ts us pt ct pw cw N rs (bytes false pp P :: L))) :
    Calls Tryz.prog 9 #[.pointer (some ⟨x, 0, none⟩), .agg #[.int .i64 on, .int .i64 call, .int .i64 to, .slice pp n cap, .int .u8 alg]] w (postA W0 L x l m (M + n) i) := by
  have hk : k < 3 := by rw [← hok.1]; exact (List.getElem?_eq_some_iff.1 hsk).1
  have hslN := hok.2.2.2.2.2.2.2.2 _ (List.mem_of_getElem? hsk)
  obtain ⟨e0, e3⟩ := wc_S (l := l) (m := m) (pt := pt) (pw := pw) (ct := ct) (N := N) (cw := cw) hok.1 k hsk
  obtain ⟨e6, e7, -, -, e10⟩ := wc_at (l := l) (m := m) (pt := pt) (pw := pw) (ct := ct) (N := N) (cw := cw) hok.1
  obtain ⟨C, hC⟩ : ∃ C, C = wCells l m S pt ct N pw cw := ⟨_, rfl⟩
  rw [← hC] at e0 e3 e6 e7 e10
  have s0 : Sat W0 w (seg true x 0 C :: stars (S.map slA) :: row pt ct 1 N (ts.map pieceV) :: row pw cw 1 N (us.map pieceV) :: ownRows ts :: ownRows us :: ledO (some l) rs :: rledO (some m) rs :: bytes false pp P :: L) := by
    rw [hC]; exact (Sat.sub (hs) (by with_reducible repeat first | exact Fr1 | exact Fr2 | (apply Fr3; focus ((repeat (first | exact Tk1 | apply Tk2)); done)) | apply Fr4))
  clear hs
  have hrs : tot rs ≤ 10000000 ∧ rs.length ≤ 1000 := by
    have h1 := hok.2.2.2.2.2.2.1
    have h2 := hok.2.2.2.2.2.2.2.1
    have h3 : 100000 * i ≤ 100000 * 60 := Nat.mul_le_mul_left _ hi
    omega
  have HC := Lib.hid (And.intro hC (And.intro hsk (And.intro e0 (And.intro e3 (And.intro e6 (And.intro e7 (And.intro e10 (And.intro hP (And.intro hnc (And.intro hcm (And.intro hkp (And.intro hslN (And.intro hrs hok))))))))))))); clear hC hsk e0 e3 e6 e7 e10 hP hnc hcm hkp hslN hrs hok
  have hk3 : (k : Int) < 3 := by omega
  have hpk : ∀ w : World, Calls Tryz.prog 21 #[.int .i64 on, .int .i64 3] w fun e w' => e = .returned (.int .i64 (k : Int)) ∧ w = w' := fun w => by
    have := pickW w on 3 (by omega) (by omega)
    rw [HC.out.2.2.2.2.2.2.2.2.2.2.1] at this
    exact this
  have HP := Lib.hid hpk; clear hpk
  have hl1 : (call < 0) = False := by simp; omega
  have hl2 : ((4 : Int) < call) = True := by simp [hhi]
  go_enter Tryz.func9, Tryz.ntmps9
  go_wp2_with (refine wpl_box rfl 43 (.tmp 1) rfl [.int .i64 on, .int .i64 call, .int .i64 to, .slice pp n cap, .int .u8 alg] rfl s0 ?_; intro w1 g s1' _; have s1 : Sat W0 w1 (seg true x 0 C :: seg true g 0 [.int .i64 on, .int .i64 call, .int .i64 to, .slice pp n cap, .int .u8 alg] :: stars (S.map slA) :: row pt ct 1 N (ts.map pieceV) :: row pw cw 1 N (us.map pieceV) :: ownRows ts :: ownRows us :: ledO (some l) rs :: rledO (some m) rs :: bytes false pp P :: L) := (Sat.sub (s1') (by with_reducible repeat first | exact Fr1 | exact Fr2 | (apply Fr3; focus ((repeat (first | exact Tk1 | apply Tk2)); done)) | apply Fr4)); clear s1' s0; have g0 := ((Sat.sub (s1) (by with_reducible repeat first | exact Fr1 | exact Fr2 | (apply Fr3; focus ((repeat (first | exact Tk1 | apply Tk2)); done)) | apply Fr4)) : Sat W0 _ (seg true g 0 [.int .i64 on, .int .i64 call, .int .i64 to, .slice pp n cap, .int .u8 alg] :: [])).at 0 rfl; have gz := ((Sat.sub (s1) (by with_reducible repeat first | exact Fr1 | exact Fr2 | (apply Fr3; focus ((repeat (first | exact Tk1 | apply Tk2)); done)) | apply Fr4)) : Sat W0 _ (seg true g 0 [.int .i64 on, .int .i64 call, .int .i64 to, .slice pp n cap, .int .u8 alg] :: [])).lt (by simp))
  refine (HP.out w1).mono ?_
  rintro e w2 ⟨rfl, rfl⟩
  clear g0 gz
  have g1 := ((Sat.sub (s1) (by with_reducible repeat first | exact Fr1 | exact Fr2 | (apply Fr3; focus ((repeat (first | exact Tk1 | apply Tk2)); done)) | apply Fr4)) : Sat W0 _ (seg true g 0 [.int .i64 on, .int .i64 call, .int .i64 to, .slice pp n cap, .int .u8 alg] :: [])).at 1 rfl
  have g3 := ((Sat.sub (s1) (by with_reducible repeat first | exact Fr1 | exact Fr2 | (apply Fr3; focus ((repeat (first | exact Tk1 | apply Tk2)); done)) | apply Fr4)) : Sat W0 _ (seg true g 0 [.int .i64 on, .int .i64 call, .int .i64 to, .slice pp n cap, .int .u8 alg] :: [])).at 3 rfl
  have gz := ((Sat.sub (s1) (by with_reducible repeat first | exact Fr1 | exact Fr2 | (apply Fr3; focus ((repeat (first | exact Tk1 | apply Tk2)); done)) | apply Fr4)) : Sat W0 _ (seg true g 0 [.int .i64 on, .int .i64 call, .int .i64 to, .slice pp n cap, .int .u8 alg] :: [])).lt (by simp)
  have x0 := s1.at k HC.out.2.2.1
  have x3 := s1.at (3 + k) HC.out.2.2.2.1
  have x6 := s1.at 6 HC.out.2.2.2.2.1
  have x7 := s1.at 7 HC.out.2.2.2.2.2.1
  have xz := s1.lt (by rw [HC.out.2.2.2.2.2.2.1]; omega)
  have g4 := ((Sat.sub (s1) (by with_reducible repeat first | exact Fr1 | exact Fr2 | (apply Fr3; focus ((repeat (first | exact Tk1 | apply Tk2)); done)) | apply Fr4)) : Sat W0 _ (seg true g 0 [.int .i64 on, .int .i64 call, .int .i64 to, .slice pp n cap, .int .u8 alg] :: [])).at 4 rfl
  have sj : Sat W0 w1 (wA x l m S ts us pt ct pw cw N rs L) := by
    have s2 := s1
    rw [HC.out.1] at s2
    exact (Sat.sub (s2) (by with_reducible repeat first | exact Fr1 | exact Fr2 | (apply Fr3; focus ((repeat (first | exact Tk1 | apply Tk2)); done)) | apply Fr4))
  have HS := Lib.hid (And.intro sj HC.out.2.2.2.2.2.2.2.2.2.2.2.2.2); clear s1 sj
  go_wp2_with fail
  refine (madeAny (M' := M + n) HS.out.2 (by omega) hk alg HS.out.1).mono ?_
  rintro e w9 ⟨rfl, S', ts', us', pt', ct', pw', cw', N', rs', hok', s9⟩
  have HE := Lib.hid (And.intro hok' s9); clear hok' s9 x0 x3 x6 x7 xz g1 g3 gz g4
  go_wp2_with fail
  go_ret
  exact ⟨rfl, S', ts', us', pt', ct', pw', cw', N', rs', HE.out.1, HE.out.2⟩
set_option maxRecDepth 100000 in
set_option maxHeartbeats 8000000 in
theorem act_none {W0 w : World} {L : List Assn} {x l m M i N k n cap : Nat} {S : List Sl} {ts us : List Piece} {pt pw pp : Option Addr} {ct cw : Nat} {rs : List Run3} {P : List Byte} {sk : Sl} (on to alg : Int) (hok : okW M i S ts us N rs) (hi : i ≤ 60) (hM : M + n ≤ 100000) (hP : P.length = n) (hnc : n ≤ cap) (hcm : cap ≤ maxLen) (hkp : pickM on 3 = k) (hsk : S[k]? = some (sk)) (call : Int) (hlo : 0 ≤ call) (hhi : call ≤ 4) (hno : sk = .no)
    (hs : Sat W0 w (wA x l m S ts us pt ct pw cw N rs (bytes false pp P :: L))) :
    Calls Tryz.prog 9 #[.pointer (some ⟨x, 0, none⟩), .agg #[.int .i64 on, .int .i64 call, .int .i64 to, .slice pp n cap, .int .u8 alg]] w (postA W0 L x l m (M + n) i) := by
  have hk : k < 3 := by rw [← hok.1]; exact (List.getElem?_eq_some_iff.1 hsk).1
  have hslN := hok.2.2.2.2.2.2.2.2 _ (List.mem_of_getElem? hsk)
  obtain ⟨e0, e3⟩ := wc_S (l := l) (m := m) (pt := pt) (pw := pw) (ct := ct) (N := N) (cw := cw) hok.1 k hsk
  obtain ⟨e6, e7, -, -, e10⟩ := wc_at (l := l) (m := m) (pt := pt) (pw := pw) (ct := ct) (N := N) (cw := cw) hok.1
  obtain ⟨C, hC⟩ : ∃ C, C = wCells l m S pt ct N pw cw := ⟨_, rfl⟩
  rw [← hC] at e0 e3 e6 e7 e10
  have s0 : Sat W0 w (seg true x 0 C :: stars (S.map slA) :: row pt ct 1 N (ts.map pieceV) :: row pw cw 1 N (us.map pieceV) :: ownRows ts :: ownRows us :: ledO (some l) rs :: rledO (some m) rs :: bytes false pp P :: L) := by
    rw [hC]; exact (Sat.sub (hs) (by with_reducible repeat first | exact Fr1 | exact Fr2 | (apply Fr3; focus ((repeat (first | exact Tk1 | apply Tk2)); done)) | apply Fr4))
  clear hs
  have hrs : tot rs ≤ 10000000 ∧ rs.length ≤ 1000 := by
    have h1 := hok.2.2.2.2.2.2.1
    have h2 := hok.2.2.2.2.2.2.2.1
    have h3 : 100000 * i ≤ 100000 * 60 := Nat.mul_le_mul_left _ hi
    omega
  have HC := Lib.hid (And.intro hC (And.intro hsk (And.intro e0 (And.intro e3 (And.intro e6 (And.intro e7 (And.intro e10 (And.intro hP (And.intro hnc (And.intro hcm (And.intro hkp (And.intro hslN (And.intro hrs hok))))))))))))); clear hC hsk e0 e3 e6 e7 e10 hP hnc hcm hkp hslN hrs hok
  have hk3 : (k : Int) < 3 := by omega
  have hpk : ∀ w : World, Calls Tryz.prog 21 #[.int .i64 on, .int .i64 3] w fun e w' => e = .returned (.int .i64 (k : Int)) ∧ w = w' := fun w => by
    have := pickW w on 3 (by omega) (by omega)
    rw [HC.out.2.2.2.2.2.2.2.2.2.2.1] at this
    exact this
  have HP := Lib.hid hpk; clear hpk
  subst hno
  have hl1 : (call < 0) = False := by simp; omega
  have hl2 : ((4 : Int) < call) = False := by simp; omega
  go_enter Tryz.func9, Tryz.ntmps9
  go_wp2_with (refine wpl_box rfl 43 (.tmp 1) rfl [.int .i64 on, .int .i64 call, .int .i64 to, .slice pp n cap, .int .u8 alg] rfl s0 ?_; intro w1 g s1' _; have s1 : Sat W0 w1 (seg true x 0 C :: seg true g 0 [.int .i64 on, .int .i64 call, .int .i64 to, .slice pp n cap, .int .u8 alg] :: stars (S.map slA) :: row pt ct 1 N (ts.map pieceV) :: row pw cw 1 N (us.map pieceV) :: ownRows ts :: ownRows us :: ledO (some l) rs :: rledO (some m) rs :: bytes false pp P :: L) := (Sat.sub (s1') (by with_reducible repeat first | exact Fr1 | exact Fr2 | (apply Fr3; focus ((repeat (first | exact Tk1 | apply Tk2)); done)) | apply Fr4)); clear s1' s0; have g0 := ((Sat.sub (s1) (by with_reducible repeat first | exact Fr1 | exact Fr2 | (apply Fr3; focus ((repeat (first | exact Tk1 | apply Tk2)); done)) | apply Fr4)) : Sat W0 _ (seg true g 0 [.int .i64 on, .int .i64 call, .int .i64 to, .slice pp n cap, .int .u8 alg] :: [])).at 0 rfl; have gz := ((Sat.sub (s1) (by with_reducible repeat first | exact Fr1 | exact Fr2 | (apply Fr3; focus ((repeat (first | exact Tk1 | apply Tk2)); done)) | apply Fr4)) : Sat W0 _ (seg true g 0 [.int .i64 on, .int .i64 call, .int .i64 to, .slice pp n cap, .int .u8 alg] :: [])).lt (by simp))
  refine (HP.out w1).mono ?_
  rintro e w2 ⟨rfl, rfl⟩
  clear g0 gz
  have g1 := ((Sat.sub (s1) (by with_reducible repeat first | exact Fr1 | exact Fr2 | (apply Fr3; focus ((repeat (first | exact Tk1 | apply Tk2)); done)) | apply Fr4)) : Sat W0 _ (seg true g 0 [.int .i64 on, .int .i64 call, .int .i64 to, .slice pp n cap, .int .u8 alg] :: [])).at 1 rfl
  have g3 := ((Sat.sub (s1) (by with_reducible repeat first | exact Fr1 | exact Fr2 | (apply Fr3; focus ((repeat (first | exact Tk1 | apply Tk2)); done)) | apply Fr4)) : Sat W0 _ (seg true g 0 [.int .i64 on, .int .i64 call, .int .i64 to, .slice pp n cap, .int .u8 alg] :: [])).at 3 rfl
  have gz := ((Sat.sub (s1) (by with_reducible repeat first | exact Fr1 | exact Fr2 | (apply Fr3; focus ((repeat (first | exact Tk1 | apply Tk2)); done)) | apply Fr4)) : Sat W0 _ (seg true g 0 [.int .i64 on, .int .i64 call, .int .i64 to, .slice pp n cap, .int .u8 alg] :: [])).lt (by simp)
  have x0 := s1.at k HC.out.2.2.1
  have x3 := s1.at (3 + k) HC.out.2.2.2.1
  have x6 := s1.at 6 HC.out.2.2.2.2.1
  have x7 := s1.at 7 HC.out.2.2.2.2.2.1
  have xz := s1.lt (by rw [HC.out.2.2.2.2.2.2.1]; omega)
  simp only [slS, slR] at x0 x3
  have g4 := ((Sat.sub (s1) (by with_reducible repeat first | exact Fr1 | exact Fr2 | (apply Fr3; focus ((repeat (first | exact Tk1 | apply Tk2)); done)) | apply Fr4)) : Sat W0 _ (seg true g 0 [.int .i64 on, .int .i64 call, .int .i64 to, .slice pp n cap, .int .u8 alg] :: [])).at 4 rfl
  have sj : Sat W0 w1 (wA x l m S ts us pt ct pw cw N rs L) := by
    have s2 := s1
    rw [HC.out.1] at s2
    exact (Sat.sub (s2) (by with_reducible repeat first | exact Fr1 | exact Fr2 | (apply Fr3; focus ((repeat (first | exact Tk1 | apply Tk2)); done)) | apply Fr4))
  have HS := Lib.hid (And.intro sj HC.out.2.2.2.2.2.2.2.2.2.2.2.2.2); clear s1 sj
  go_wp2_with fail
  refine (madeAny (M' := M + n) HS.out.2 (by omega) hk alg HS.out.1).mono ?_
  rintro e w9 ⟨rfl, S', ts', us', pt', ct', pw', cw', N', rs', hok', s9⟩
  have HE := Lib.hid (And.intro hok' s9); clear hok' s9 x0 x3 x6 x7 xz g1 g3 gz g4
  go_wp2_with fail
  go_ret
  exact ⟨rfl, S', ts', us', pt', ct', pw', cw', N', rs', HE.out.1, HE.out.2⟩
theorem act_any {W0 w : World} {L : List Assn} {x l m M i N n cap : Nat} {S : List Sl} {ts us : List Piece} {pt pw pp : Option Addr} {ct cw : Nat} {rs : List Run3} {P : List Byte} (on call to alg : Int) (hok : okW M i S ts us N rs) (hi : i ≤ 60) (hM : M + n ≤ 100000) (hP : P.length = n) (hnc : n ≤ cap) (hcm : cap ≤ maxLen)
    (hs : Sat W0 w (wA x l m S ts us pt ct pw cw N rs (bytes false pp P :: L))) :
    Calls Tryz.prog 9 #[.pointer (some ⟨x, 0, none⟩), .agg #[.int .i64 on, .int .i64 call, .int .i64 to, .slice pp n cap, .int .u8 alg]] w (postA W0 L x l m (M + n) i) := by
  obtain ⟨k, hkp⟩ : ∃ k, pickM on 3 = k := ⟨_, rfl⟩
  have hk : k < 3 := by rw [← hkp]; exact pickM_lt on 3 (by omega)
  obtain ⟨sk, hsk⟩ : ∃ s, S[k]? = some s := ⟨_, List.getElem?_eq_getElem (by have := hok.1; omega)⟩
  by_cases c1 : call < 0
  · exact act_low on to alg hok hi hM hP hnc hcm hkp hsk call c1 hs
  by_cases c2 : 4 < call
  · exact act_high on to alg hok hi hM hP hnc hcm hkp hsk call c2 hs
  cases sk with
  | no => exact act_none on to alg hok hi hM hP hnc hcm hkp hsk call (by omega) (by omega) rfl hs
  | live wide msg pb rb =>
    obtain rfl | rfl | rfl | rfl | rfl : call = 0 ∨ call = 1 ∨ call = 2 ∨ call = 3 ∨ call = 4 := by omega
    · exact act_write wide on to alg hok hi hM hP hnc hcm hkp hsk hs
    · exact act_sum wide on to alg hok hi hM hP hnc hcm hkp hsk hs
    · exact act_copy wide on to alg hok hi hM hP hnc hcm hkp hsk hs
    · exact act_wipe wide on to alg hok hi hM hP hnc hcm hkp hsk hs
    · exact act_form wide on to alg hok hi hM hP hnc hcm hkp hsk hs
  | gone wide pb rb =>
    obtain rfl | rfl | rfl | rfl | rfl : call = 0 ∨ call = 1 ∨ call = 2 ∨ call = 3 ∨ call = 4 := by omega
    · exact act_writeG (msg := []) wide on to alg hok hi hM hP hnc hcm hkp hsk hs
    · exact act_sumG (msg := []) wide on to alg hok hi hM hP hnc hcm hkp hsk hs
    · exact act_copyG (msg := []) wide on to alg hok hi hM hP hnc hcm hkp hsk hs
    · exact act_wipeG (msg := []) wide on to alg hok hi hM hP hnc hcm hkp hsk hs
    · exact act_formG (msg := []) wide on to alg hok hi hM hP hnc hcm hkp hsk hs
end Go.Proofs.YtlmababpmmhhoaaGreat

/- DigestCalls: whether a script is small; lists that are none lie apart; under the conditions that each names. -/
namespace Go.Proofs.YtlmababpmmhhoaaGreat
open Go.RowKit Go.Sep Go.Bv Go.Sha
set_option linter.unusedVariables false
set_option linter.unusedSimpArgs false
def sumX (xs : List ActX) (i : Nat) : Nat := ((xs.take i).map lenX).sum
theorem sumX_up {xs : List ActX} {i : Nat} {y : ActX} (h : xs[i]? = some y) : sumX xs (i + 1) = sumX xs i + lenX y := by
  unfold sumX
  rw [List.take_add_one, h, List.map_append, List.sum_append]
  simp
theorem sumX_le (xs : List ActX) (i : Nat) : sumX xs i ≤ (xs.map lenX).sum := by
  unfold sumX
  have h : (xs.map lenX).sum = ((xs.take i).map lenX).sum + ((xs.drop i).map lenX).sum := by rw [← List.sum_append, ← List.map_append, List.take_append_drop]
  omega
theorem sumX_all (xs : List ActX) : sumX xs xs.length = (xs.map lenX).sum := by unfold sumX; rw [List.take_length]
set_option maxRecDepth 100000 in
set_option maxHeartbeats 4000000 in
theorem small11 {W0 w : World} {L : List Assn} {p : Option Addr} {len cap : Nat} {xs : List ActX} (hx : IsX W0 p xs) (hl : xs.length = len) (hsum : (xs.map lenX).sum ≤ 1048576) (hlen : len ≤ 9223372036854775807) (hs : Sat W0 w L) :
    Calls Tryz.prog 5 #[.slice p len cap] w fun e w' => e = .returned (.bool (decide (len ≤ 50) && decide ((xs.map lenX).sum ≤ 8192))) ∧ w' = w := by
  have HX := Lib.hid (And.intro hx (And.intro hl (And.intro hsum hs))); clear hx hl hsum hs
  go_enter Tryz.func5, Tryz.ntmps5
  go_wp2
  go_loopw [3, 4] (fun t3 t4 wr => ∃ i : Nat, i ≤ len ∧ t4 = .int .i64 (i : Int) ∧ t3 = .int .i64 ((sumX xs i : Nat) : Int) ∧ wr = w) (fun _ t4 _ => len - (intOf t4).toNat)
  case atStart => exact ⟨0, Nat.zero_le _, rfl, rfl, rfl⟩
  case round =>
    obtain ⟨i, hi, rfl, rfl, rfl⟩ := hrel
    by_cases hlt : i < len
    · obtain ⟨y, hy⟩ : ∃ y, xs[i]? = some y := ⟨_, List.getElem?_eq_getElem (by rw [HX.out.2.1]; exact hlt)⟩
      obtain ⟨-, b, o, rfl, hc⟩ := HX.out.1 i y hy
      have h3 := HX.out.2.2.2.old (hc 3 _ rfl)
      have z3 := World.block_lt_of_cell? wr _ h3
      have hup := sumX_up hy
      have hle := sumX_le xs (i + 1)
      have hb := HX.out.2.2.1
      obtain ⟨T, hT⟩ : ∃ T, T = sumX xs i := ⟨_, rfl⟩
      have hly : lenX y = y.2.2.2.1.2.1 := rfl
      obtain ⟨q, hq⟩ : ∃ q, q = y.2.2.2.1.1 := ⟨_, rfl⟩
      obtain ⟨ny, hny⟩ : ∃ q, q = y.2.2.2.1.2.1 := ⟨_, rfl⟩
      obtain ⟨cy, hcy⟩ : ∃ q, q = y.2.2.2.1.2.2.1 := ⟨_, rfl⟩
      rw [← hq, ← hny, ← hcy] at h3
      rw [hly, ← hny, ← hT] at hup
      rw [← hT]
      rw [hup] at hle
      have hs1 : T + ny ≤ 1048576 := by omega
      have HU := Lib.hid hup; clear hup hle hb hT hly hq hny hcy hy hc
      go_wp2
      go_roundw
      case rel => exact ⟨i + 1, by omega, by go_num, by rw [HU.out, Int.natCast_add], by first | trivial | rfl⟩
      case measure => simp [intOf]; omega
    · obtain rfl : i = len := by omega
      have e1 : sumX xs i = (xs.map lenX).sum := by rw [← HX.out.2.1]; exact sumX_all xs
      rw [e1]
      obtain ⟨T, hT⟩ : ∃ T, T = (xs.map lenX).sum := ⟨_, rfl⟩
      rw [← hT]
      clear e1
      by_cases h50 : i ≤ 50
      · by_cases h8 : T ≤ 8192
        · have a1 : ((i : Int) ≤ 50) = True := by simp; omega
          have a2 : ((T : Int) ≤ 8192) = True := by simp; omega
          have HD := Lib.hid (And.intro h50 (hT ▸ h8)); clear h50 h8 hT
          go_wp2
          go_ret
          exact ⟨by rw [decide_eq_true HD.out.1, decide_eq_true HD.out.2]; rfl, rfl⟩
        · have a1 : ((i : Int) ≤ 50) = True := by simp; omega
          have a2 : ((T : Int) ≤ 8192) = False := by simp; omega
          have HD := Lib.hid (And.intro h50 (hT ▸ h8)); clear h50 h8 hT
          go_wp2
          go_ret
          exact ⟨by rw [decide_eq_true HD.out.1, decide_eq_false HD.out.2]; rfl, rfl⟩
      · have a1 : ((i : Int) ≤ 50) = False := by simp; omega
        have HD := Lib.hid h50; clear h50 hT
        go_wp2
        go_ret
        exact ⟨by rw [decide_eq_false HD.out]; rfl, rfl⟩
set_option maxHeartbeats 2000000 in
theorem apartNone (w : World) (cap : Nat) (p : Option Addr) : Calls Tryz.prog 16 #[.slice p 0 cap] w fun e w' => e = .returned (.bool true) ∧ w' = w := by
  go_enter Tryz.func16, Tryz.ntmps16
  go_wp2
  go_loopw [3] (fun t3 wr => t3 = .int .i64 0 ∧ wr = w) (fun _ _ => 0)
  case atStart => exact ⟨rfl, rfl⟩
  case round =>
    obtain ⟨rfl, rfl⟩ := hrel
    go_wp2
    go_loopw [6] (fun t6 w2 => t6 = .int .i64 0 ∧ w2 = wr) (fun _ _ => 0)
    case atStart => exact ⟨rfl, rfl⟩
    case round =>
      obtain ⟨rfl, rfl⟩ := hrel
      go_wp2
      go_loopw [9] (fun t9 w3 => t9 = .int .i64 0 ∧ w3 = wr) (fun _ _ => 0)
      case atStart => exact ⟨rfl, rfl⟩
      case round =>
        obtain ⟨rfl, rfl⟩ := hrel
        go_wp2
        go_ret
        exact ⟨rfl, rfl⟩
end Go.Proofs.YtlmababpmmhhoaaGreat

/- DigestCalls: the whole walk, where the calls bring no more bytes than a machine has room for. -/
namespace Go.Proofs.YtlmababpmmhhoaaGreat
open Go.RowKit Go.Sep Go.Bv Go.Sha
set_option linter.unusedVariables false
set_option linter.unusedSimpArgs false
theorem rledRunsO {W0 w : World} {L : List Assn} {m : Nat} {rs : List Run3} (hl : rs.length ≤ 1000000000) (hs : Sat W0 w (rledO (some m) rs :: L)) :
    Calls Tryz.prog 15 #[.pointer (some ⟨m, 0, none⟩)] w fun e w' => ∃ q c, e = .returned (.slice q rs.length c) ∧ Sat W0 w' (runsA true q rs :: rledO (some m) rs :: L) := rledRuns hl hs
theorem rledLenO {W0 w : World} {L : List Assn} {m : Nat} {rs : List Run3} (hl : rs.length ≤ 1000000000) (hb : tot rs ≤ 4611686018427387904) (hs : Sat W0 w (rledO (some m) rs :: L)) :
    Calls Tryz.prog 11 #[.pointer (some ⟨m, 0, none⟩)] w fun e w' => e = .returned (.int .i64 (tot rs : Int)) ∧ w' = w := rledLen hl hb hs
theorem ownAt {W0 w : World} {L : List Assn} {ts : List Piece} {i : Nat} {t : Piece} (h : ts[i]? = some t) (s : Sat W0 w (ownRows ts :: L)) : Sat W0 w (row t.1 t.2.1 1 t.2.2.length (u8s t.2.2) :: ownRows (ts.take i ++ ts.drop (i + 1)) :: L) := by
  obtain ⟨hi, rfl⟩ := List.getElem?_eq_some_iff.1 h
  refine ownOpen (a := ts.take i) (b := ts.drop (i + 1)) ?_
  rw [← List.drop_eq_getElem_cons hi, List.take_append_drop]
  exact s
theorem sameRowsN {W0 w : World} {L : List Assn} {ca cb da db n k : Nat} {pa pb : Option Addr} (xs ys : List Byte) (hn : n ≤ 1000000000000) (he : xs = ys) (hs : Sat W0 w (row pa da 1 n (u8s xs) :: row pb db 1 k (u8s ys) :: L)) :
    Calls Tryz.prog 12 #[.slice pa n ca, .slice pb k cb] w fun e w' => e = .returned (.bool true) ∧ ∃ m, w' = w.drewN m := by
  obtain ⟨h1, -, -, s1⟩ := rowBytes hs
  obtain ⟨h2, -, -, s2⟩ := rowBytes (s1.pull 1)
  have h := sameTrue (ca := ca) (cb := cb) xs ys he (by rw [h1]; unfold maxLen; omega) (s2.pull 1)
  rw [h1, h2] at h
  exact h
set_option maxRecDepth 100000 in
set_option maxHeartbeats 16000000 in
theorem calls_walk (W0 : World) {sp : Option Addr} {len cap : Nat} {xs : List ActX} (hx : IsX W0 sp xs) (hl : xs.length = len) (hsum : (xs.map lenX).sum ≤ 1048576) (hlc : len ≤ cap) (hcm : cap ≤ 9223372036854775807) :
    Calls Tryz.prog 3 #[.slice sp len cap] W0 fun e w' => e = .returned (.bool true) ∧ Below W0.heap.size W0 w' := by
  have hsm := fun (w : World) (L : List Assn) (s : Sat W0 w L) => small11 (cap := cap) hx hl hsum (by omega) s
  have HX := Lib.hid (And.intro hx (And.intro hl (And.intro hsum hsm))); clear hx hl hsum hsm
  go_enter Tryz.func3, Tryz.ntmps3
  go_wp2_with fail
  refine (lives11 (Sat.nil W0)).mono ?_
  rintro e w1 ⟨rfl, s1⟩
  go_wp2_with fail
  refine (HX.out.2.2.2 w1 _ s1).mono ?_
  rintro e w2 ⟨rfl, rfl⟩
  by_cases hsmall : len ≤ 50 ∧ (xs.map lenX).sum ≤ 8192
  case neg =>
    have e0 : (decide (len ≤ 50) && decide ((xs.map lenX).sum ≤ 8192)) = false := by
      rw [Bool.and_eq_false_iff]
      by_cases h : len ≤ 50
      · exact .inr (decide_eq_false fun h2 => hsmall ⟨h, h2⟩)
      · exact .inl (decide_eq_false h)
    rw [e0]
    have HS := Lib.hid (And.intro s1 hsmall); clear s1 hsmall e0
    go_wp2_with fail
    go_ret
    exact ⟨rfl, HS.out.1.below⟩
  case pos =>
  have e0 : (decide (len ≤ 50) && decide ((xs.map lenX).sum ≤ 8192)) = true := by rw [decide_eq_true hsmall.1, decide_eq_true hsmall.2]; rfl
  rw [e0]
  have hl50 : len ≤ 50 := hsmall.1
  have H8 := Lib.hid hsmall.2; clear hsmall e0
  have hlen : len ≤ 9223372036854775807 := by omega
  go_wp2_with fail
  refine (ledNewF s1).mono ?_
  rintro e w3 ⟨l, rfl, s3⟩
  clear s1
  go_wp2_with fail
  refine (rledNew s3).mono ?_
  rintro e w4 ⟨m, rfl, s4⟩
  clear s3
  go_wp2_with (refine wpl_box rfl 37 (.tmp 17) rfl [.nilIface, .nilIface, .nilIface, .pointer none, .pointer none, .pointer none, .pointer (some ⟨l, 0, none⟩), .pointer (some ⟨m, 0, none⟩), .slice none 0 0, .slice none 0 0] rfl s4 ?_; intro w5 x s5 _; clear s4)
  have s6 : Sat W0 w5 (wA x l m [.no, .no, .no] [] [] none 0 none 0 0 [] []) := by
    have h1 := ((((((s5.rowNil 1).rowNil 1).addEmp).addEmp).addEmp).addEmp).addEmp
    have h2 : Sat W0 w5 (emp :: emp :: emp :: ownRows [] :: ownRows [] :: row none 0 1 0 (([] : List Piece).map pieceV) :: row none 0 1 0 (([] : List Piece).map pieceV) :: seg true x 0 (wCells l m [.no, .no, .no] none 0 0 none 0) :: rledO (some m) [] :: ledO (some l) [] :: []) := h1
    have h3 : Sat W0 w5 (emp :: stars [] :: emp :: emp :: ownRows [] :: ownRows [] :: row none 0 1 0 (([] : List Piece).map pieceV) :: row none 0 1 0 (([] : List Piece).map pieceV) :: seg true x 0 (wCells l m [.no, .no, .no] none 0 0 none 0) :: rledO (some m) [] :: ledO (some l) [] :: []) := (h2.addEmp).pick [1, 0, 2, 3, 4, 5, 6, 7, 8, 9, 10]
    have h4 := h3.sepShut
    have h5 := (h4.pick [1, 0, 2, 3, 4, 5, 6, 7, 8, 9]).sepShut
    have h6 := (h5.pick [1, 0, 2, 3, 4, 5, 6, 7, 8]).sepShut
    have h7 : Sat W0 w5 (stars (([.no, .no, .no] : List Sl).map slA) :: ownRows [] :: ownRows [] :: row none 0 1 0 (([] : List Piece).map pieceV) :: row none 0 1 0 (([] : List Piece).map pieceV) :: seg true x 0 (wCells l m [.no, .no, .no] none 0 0 none 0) :: rledO (some m) [] :: ledO (some l) [] :: []) := h6
    exact (Sat.sub (h7) (by with_reducible repeat first | exact Fr1 | exact Fr2 | (apply Fr3; focus ((repeat (first | exact Tk1 | apply Tk2)); done)) | apply Fr4))
  clear s5
  refine (made11 (k := 0) rfl (by omega) false rfl s6).mono ?_
  rintro e w6 ⟨rfl, pb0, rb0, s7⟩
  clear s6
  go_wp2_with fail
  refine (made11 (k := 1) (by simp) (by omega) true rfl s7).mono ?_
  rintro e w7 ⟨rfl, pb1, rb1, s8⟩
  clear s7
  obtain ⟨S0, hS0⟩ : ∃ S, S = ([Sl.no, .no, .no].set 0 (.live false [] pb0 rb0)).set 1 (.live true [] pb1 rb1) := ⟨_, rfl⟩
  have ok0 : okW (sumX xs 0) 0 S0 [] [] 0 [] := by
    subst hS0
    refine ⟨rfl, rfl, rfl, rfl, Nat.le_refl _, by simp, Nat.le_refl _, Nat.le_refl _, ?_⟩
    intro s hs
    simp at hs
    rcases hs with rfl | rfl | rfl <;> exact Nat.zero_le _
  rw [← hS0] at s8
  have HS8 := Lib.hid (And.intro s8 ok0); clear s8 ok0 hS0
  go_wp2_with fail
  go_loopw [5] (fun t5 wr => ∃ (i : Nat) (S : List Sl) (ts us : List Piece) (pt : Option Addr) (ct : Nat) (pw : Option Addr) (cw N : Nat) (rs : List Run3), i ≤ len ∧ t5 = .int .i64 (i : Int) ∧ okW (sumX xs i) i S ts us N rs ∧ Sat W0 wr (wA x l m S ts us pt ct pw cw N rs [])) (fun t5 _ => len - (intOf t5).toNat)
  case atStart => exact ⟨0, S0, [], [], none, 0, none, 0, 0, [], Nat.zero_le _, rfl, HS8.out.2, HS8.out.1⟩
  case round =>
    clear HS8
    obtain ⟨i, S, ts, us, pt, ct, pw, cw, N, rs, hi, rfl, hok, s⟩ := hrel
    by_cases hlt : i < len
    · obtain ⟨y, hy⟩ : ∃ y, xs[i]? = some y := ⟨_, List.getElem?_eq_getElem (by rw [HX.out.2.1]; exact hlt)⟩
      obtain ⟨hyb, b, o, rfl, hc⟩ := HX.out.1 i y hy
      have hup := sumX_up hy
      have hle := sumX_le xs (i + 1)
      have h8 := H8.out
      obtain ⟨y0, y1, y2, ⟨yp, yn, yc, yP⟩, y4⟩ := y
      simp only [lenX] at hup
      dsimp only at hyb
      have d0 := s.old (hc 0 _ rfl)
      have d1 := s.old (hc 1 _ rfl)
      have d2 := s.old (hc 2 _ rfl)
      have d3 := s.old (hc 3 _ rfl)
      have d4 := s.old (hc 4 _ rfl)
      have zd := World.block_lt_of_cell? wr _ d0
      simp only [Nat.add_zero] at d0
      have sb := hyb.satW s
      obtain ⟨hb1, hb2, hb3, -⟩ := hyb
      have HU := Lib.hid (And.intro hup (And.intro hle (And.intro h8 (And.intro hb1 (And.intro hb2 (And.intro hb3 (And.intro hok sb))))))); clear hup hle h8 hb1 hb2 hb3 hok sb hy hc s
      have hlt' : (i : Int) < (len : Int) := by omega
      go_wp2_with fail
      refine (act_any (P := yP) y0 y1 y2 y4 HU.out.2.2.2.2.2.2.1 (by omega) (by have := HU.out.1; have := HU.out.2.1; have := HU.out.2.2.1; omega) HU.out.2.2.2.1 HU.out.2.2.2.2.1 HU.out.2.2.2.2.2.1 (by have h := HU.out.2.2.2.2.2.2.2; exact (Sat.sub (h) (by with_reducible repeat first | exact Fr1 | exact Fr2 | (apply Fr3; focus ((repeat (first | exact Tk1 | apply Tk2)); done)) | apply Fr4)))).mono ?_
      rintro e w8 ⟨rfl, S', ts', us', pt', ct', pw', cw', N', rs', hok', s8⟩
      rw [← HU.out.1] at hok'
      clear d0 d1 d2 d3 d4 zd
      obtain ⟨e6, e7, -, -, e10⟩ := wc_at (l := l) (m := m) (pt := pt') (pw := pw') (ct := ct') (N := N') (cw := cw') hok'.1
      obtain ⟨C, hC⟩ : ∃ C, C = wCells l m S' pt' ct' N' pw' cw' := ⟨_, rfl⟩
      have s9 : Sat W0 w8.drew (seg true x 0 C :: ledO (some l) rs' :: rledO (some m) rs' :: row pt' ct' 1 N' (ts'.map pieceV) :: row pw' cw' 1 N' (us'.map pieceV) :: ownRows ts' :: ownRows us' :: stars (S'.map slA) :: []) := by rw [hC]; exact Sat.drew (Sat.sub (s8) (by with_reducible repeat first | exact Fr1 | exact Fr2 | (apply Fr3; focus ((repeat (first | exact Tk1 | apply Tk2)); done)) | apply Fr4))
      rw [← hC] at e6 e7 e10
      have HC := Lib.hid (And.intro hC (And.intro hok' (And.intro e6 (And.intro e7 e10)))); clear hC hok' e6 e7 e10 s8
      go_wp2_with fail
      refine region_E (fun w' => w'.cell? ⟨x, 6, none⟩ = some (.pointer (some ⟨l, 0, none⟩)) ∧ w'.cell? ⟨x, 7, none⟩ = some (.pointer (some ⟨m, 0, none⟩)) ∧ x < w'.heap.size) [6, 11] (by kernel_rfl) ?_
      have hHeld := (And.intro (s9.at 6 HC.out.2.2.1) (And.intro (s9.at 7 HC.out.2.2.2.1) (s9.lt (by rw [HC.out.2.2.2.2]; omega))))
      iterate 11
       first | refine autoT hHeld (by rfl) (by rfl) (x := ?_) (v := ?_) ?_ (by kernel_rfl) ?_ ?_ ?_ | refine autoP (by rfl) (x := ?_) (v := ?_) ?_ (by kernel_rfl) ?_ ?_ ?_
       rotate_left 2
       · (simp only [gE1, gE2, gE3]; rfl)
       · exact fun _ _ _ h => h
       · refine Or.inl ⟨by rfl, fun w hSw => ?_⟩
         (try dsimp only at hSw)
         go_simp
         try (with_reducible rfl)
       try simp only [pA1, pA2, pA3, pA4]
      refine anyE_one (i := 7) (x := ?_) ?_ (by kernel_rfl) (fun K hK => ?_)
      rotate_left
      · (simp only [gE1, gE2, gE3]; rfl)
      go_simp
      refine (ledLenF ((Sat.sub (s9) (by with_reducible repeat first | exact Fr1 | exact Fr2 | (apply Fr3; focus ((repeat (first | exact Tk1 | apply Tk2)); done)) | apply Fr4)) : Sat W0 _ (ledO (some l) rs' :: []))).mono ?_
      rintro e wa ⟨rfl, rfl⟩
      go_wp2_with fail
      have hKp := (And.intro (s9.at 6 HC.out.2.2.1) (And.intro (s9.at 7 HC.out.2.2.2.1) (s9.lt (by rw [HC.out.2.2.2.2]; omega))))
      refine hK.out _ _ hKp ?_
      clear hK K hHeld
      have hHeld := hKp
      clear hKp
      try simp only [pA1, pA2, pA3, pA4]
      refine anyE_one (i := 12) (x := ?_) ?_ (by kernel_rfl) (fun K hK => ?_)
      rotate_left
      · (simp only [gE1, gE2, gE3]; rfl)
      go_simp
      refine (rledLenO (by have := HC.out.2.1.2.2.2.2.2.2.2.1; omega) (by have := HC.out.2.1.2.2.2.2.2.2.1; omega) ((Sat.sub (s9) (by with_reducible repeat first | exact Fr1 | exact Fr2 | (apply Fr3; focus ((repeat (first | exact Tk1 | apply Tk2)); done)) | apply Fr4)) : Sat W0 _ (rledO (some m) rs' :: []))).mono ?_
      rintro e wb ⟨rfl, rfl⟩
      go_wp2_with fail
      have hKp := (And.intro (s9.at 6 HC.out.2.2.1) (And.intro (s9.at 7 HC.out.2.2.2.1) (s9.lt (by rw [HC.out.2.2.2.2]; omega))))
      refine hK.out _ _ hKp ?_
      clear hK K hHeld
      have hHeld := hKp
      clear hKp
      try simp only [pA1, pA2, pA3, pA4]
      iterate 2
       first | refine autoT hHeld (by rfl) (by rfl) (x := ?_) (v := ?_) ?_ (by kernel_rfl) ?_ ?_ ?_ | refine autoP (by rfl) (x := ?_) (v := ?_) ?_ (by kernel_rfl) ?_ ?_ ?_
       rotate_left 2
       · (simp only [gE1, gE2, gE3]; rfl)
       · exact fun _ _ _ h => h
       · refine Or.inl ⟨by rfl, fun w hSw => ?_⟩
         (try dsimp only at hSw)
         go_simp
         try (with_reducible rfl)
       try simp only [pA1, pA2, pA3, pA4]
      refine anyE_done (by kernel_rfl) ?_ _
      go_wp2_with fail
      exact ⟨⟨i + 1, S', ts', us', pt', ct', pw', cw', N', rs', by omega, by go_num, HC.out.2.1, by have h := s9.drew; rw [HC.out.1] at s9; exact (Sat.sub (s9) (by with_reducible repeat first | exact Fr1 | exact Fr2 | (apply Fr3; focus ((repeat (first | exact Tk1 | apply Tk2)); done)) | apply Fr4))⟩, by simp [intOf]; omega⟩
    · obtain rfl : i = len := by omega
      have HT := Lib.hid (And.intro s hok); clear s hok
      have hN : N ≤ 60 := by have := HT.out.2.2.2.2.2.1; omega
      go_wp2_with fail
      go_loopw [7] (fun t7 wr => ∃ j : Nat, j ≤ N ∧ t7 = .int .i64 (j : Int) ∧ Sat W0 wr (wA x l m S ts us pt ct pw cw N rs [])) (fun t7 _ => N - (intOf t7).toNat)
      case atStart => exact ⟨0, Nat.zero_le _, rfl, HT.out.1⟩
      case round =>
        have HO := Lib.hid HT.out.2; clear HT
        obtain ⟨j, hj, rfl, s⟩ := hrel
        obtain ⟨e6, e7, e8, e9, e10⟩ := wc_at (l := l) (m := m) (pt := pt) (pw := pw) (ct := ct) (N := N) (cw := cw) HO.out.1
        have c8 := s.at 8 e8
        have cz := s.lt (by omega)
        by_cases hlt : j < N
        · obtain ⟨⟨tp, tc, tb⟩, ht⟩ : ∃ t, ts[j]? = some t := ⟨_, List.getElem?_eq_getElem (by rw [HO.out.2.1]; exact hlt)⟩
          obtain ⟨⟨up, uc, ub⟩, hu⟩ : ∃ t, us[j]? = some t := ⟨_, List.getElem?_eq_getElem (by rw [HO.out.2.2.1]; exact hlt)⟩
          have hbb : tb = ub := by
            have h1 := congrArg (fun z => z[j]?) HO.out.2.2.2.1
            simp only [List.getElem?_map, ht, hu, Option.map_some, Option.some.injEq] at h1
            exact h1
          subst hbb
          have htl : tb.length ≤ 1000 := HO.out.2.2.2.2.2.1 _ (List.mem_of_getElem? ht)
          obtain ⟨-, ⟨-, -, h0, -, -⟩ | ⟨g1, r1, rfl, -, -, -, -⟩⟩ := ((Sat.sub (s) (by with_reducible repeat first | exact Fr1 | exact Fr2 | (apply Fr3; focus ((repeat (first | exact Tk1 | apply Tk2)); done)) | apply Fr4)) : Sat W0 wr (row pt ct 1 N (ts.map pieceV) :: [])).rowOpen
          · omega
          obtain ⟨-, ⟨-, -, h0, -, -⟩ | ⟨g2, r2, rfl, -, -, -, -⟩⟩ := ((Sat.sub (s) (by with_reducible repeat first | exact Fr1 | exact Fr2 | (apply Fr3; focus ((repeat (first | exact Tk1 | apply Tk2)); done)) | apply Fr4)) : Sat W0 wr (row pw cw 1 N (us.map pieceV) :: [])).rowOpen
          · omega
          have hkeep : ∀ w', Sat W0 w' (wA x l m S ts us (some ⟨g1, 0, none⟩) ct (some ⟨g2, 0, none⟩) cw N rs []) → w'.cell? ⟨x, 8, none⟩ = some (.slice (some ⟨g1, 0, none⟩) N ct) ∧ w'.cell? ⟨x, 9, none⟩ = some (.slice (some ⟨g2, 0, none⟩) N cw) ∧ x < w'.heap.size ∧ w'.cell? ⟨g1, j, none⟩ = some (.slice tp tb.length tc) ∧ g1 < w'.heap.size ∧ w'.cell? ⟨g2, j, none⟩ = some (.slice up tb.length uc) ∧ g2 < w'.heap.size := fun w' h => by
            obtain ⟨h1, q1⟩ := ((Sat.sub (h) (by with_reducible repeat first | exact Fr1 | exact Fr2 | (apply Fr3; focus ((repeat (first | exact Tk1 | apply Tk2)); done)) | apply Fr4)) : Sat W0 w' (row (some ⟨g1, 0, none⟩) ct 1 N (ts.map pieceV) :: [])).rowOpen
            obtain ⟨h2, q2⟩ := ((Sat.sub (h) (by with_reducible repeat first | exact Fr1 | exact Fr2 | (apply Fr3; focus ((repeat (first | exact Tk1 | apply Tk2)); done)) | apply Fr4)) : Sat W0 w' (row (some ⟨g2, 0, none⟩) cw 1 N (us.map pieceV) :: [])).rowOpen
            rcases q1 with ⟨h0, -⟩ | ⟨b1, z1, e1, -, -, -, t1⟩
            · cases h0
            rcases q2 with ⟨h0, -⟩ | ⟨b2, z2, e2, -, -, -, t2⟩
            · cases h0
            cases e1
            cases e2
            have v1 : (ts.map pieceV ++ z1)[j]? = some (.slice tp tb.length tc) := by
              rw [List.getElem?_append_left (by rw [List.length_map, HO.out.2.1]; exact hlt), List.getElem?_map, ht]; rfl
            have v2 : (us.map pieceV ++ z2)[j]? = some (.slice up tb.length uc) := by
              rw [List.getElem?_append_left (by rw [List.length_map, HO.out.2.2.1]; exact hlt), List.getElem?_map, hu]; rfl
            exact ⟨h.at 8 e8, h.at 9 e9, h.lt (by omega), t1.at j v1, t1.lt (Nat.lt_of_le_of_lt (Nat.zero_le _) (List.getElem?_eq_some_iff.1 v1).1), t2.at j v2, t2.lt (Nat.lt_of_le_of_lt (Nat.zero_le _) (List.getElem?_eq_some_iff.1 v2).1)⟩
          have HKEEP := Lib.hid (And.intro hkeep (And.intro ht hu)); clear hkeep e6 e7 e8 e9 e10 ht hu
          have sd := s.drew
          have HS := Lib.hid s; clear s
          have hjN : (j : Int) < (N : Int) := by omega
          go_wp2_with fail
          clear c8 cz
          refine region_E (fun w' => w'.cell? ⟨x, 8, none⟩ = some (.slice (some ⟨g1, 0, none⟩) N ct) ∧ w'.cell? ⟨x, 9, none⟩ = some (.slice (some ⟨g2, 0, none⟩) N cw) ∧ x < w'.heap.size ∧ w'.cell? ⟨g1, j, none⟩ = some (.slice tp tb.length tc) ∧ g1 < w'.heap.size ∧ w'.cell? ⟨g2, j, none⟩ = some (.slice up tb.length uc) ∧ g2 < w'.heap.size) [3, 6, 10, 13] (by kernel_rfl) ?_
          have hHeld := (HKEEP.out.1 _ sd)
          iterate 14
           first | refine autoT hHeld (by rfl) (by rfl) (x := ?_) (v := ?_) ?_ (by kernel_rfl) ?_ ?_ ?_ | refine autoP (by rfl) (x := ?_) (v := ?_) ?_ (by kernel_rfl) ?_ ?_ ?_
           rotate_left 2
           · (simp only [gE1, gE2, gE3]; rfl)
           · exact fun _ _ _ h => h
           · refine Or.inl ⟨by rfl, fun w hSw => ?_⟩
             (try dsimp only at hSw)
             go_simp
             try (with_reducible rfl)
           try simp only [pA1, pA2, pA3, pA4]
          refine anyE_one (i := 14) (x := ?_) ?_ (by kernel_rfl) (fun K hK => ?_)
          rotate_left
          · (simp only [gE1, gE2, gE3]; rfl)
          go_simp
          have so := ownAt HKEEP.out.2.1 ((Sat.sub (sd) (by with_reducible repeat first | exact Fr1 | exact Fr2 | (apply Fr3; focus ((repeat (first | exact Tk1 | apply Tk2)); done)) | apply Fr4)) : Sat W0 _ (ownRows ts :: ownRows us :: []))
          have sp := ownAt HKEEP.out.2.2 ((Sat.sub (so) (by with_reducible repeat first | exact Fr1 | exact Fr2 | (apply Fr3; focus ((repeat (first | exact Tk1 | apply Tk2)); done)) | apply Fr4)) : Sat W0 _ (ownRows us :: row tp tc 1 tb.length (u8s tb) :: []))
          refine (sameRowsN tb tb (by omega) rfl ((Sat.sub (sp) (by with_reducible repeat first | exact Fr1 | exact Fr2 | (apply Fr3; focus ((repeat (first | exact Tk1 | apply Tk2)); done)) | apply Fr4)) : Sat W0 _ (row tp tc 1 tb.length (u8s tb) :: row up uc 1 tb.length (u8s tb) :: []))).mono ?_
          rintro e wa ⟨rfl, mm, rfl⟩
          clear so sp
          go_wp2_with fail
          have hKp := (HKEEP.out.1 _ (sd.drewN mm))
          refine hK.out _ _ hKp ?_
          clear hK K hHeld
          have hHeld := hKp
          clear hKp
          try simp only [pA1, pA2, pA3, pA4]
          iterate 1
           first | refine autoT hHeld (by rfl) (by rfl) (x := ?_) (v := ?_) ?_ (by kernel_rfl) ?_ ?_ ?_ | refine autoP (by rfl) (x := ?_) (v := ?_) ?_ (by kernel_rfl) ?_ ?_ ?_
           rotate_left 2
           · (simp only [gE1, gE2, gE3]; rfl)
           · exact fun _ _ _ h => h
           · refine Or.inl ⟨by rfl, fun w hSw => ?_⟩
             (try dsimp only at hSw)
             go_simp
             try (with_reducible rfl)
           try simp only [pA1, pA2, pA3, pA4]
          refine anyE_done (by kernel_rfl) ?_ _
          clear sd
          go_wp2_with fail
          exact ⟨⟨j + 1, by omega, by go_num, HS.out.drewN _⟩, by simp [intOf]; omega⟩
        · obtain rfl : j = N := by omega
          have hrs : rs.length ≤ 1000 := by have := HO.out.2.2.2.2.2.2.2.1; have h3 : 10 * i ≤ 10 * 50 := Nat.mul_le_mul_left _ hl50; omega
          have hbl : ∀ t ∈ ts, t.2.2.length ≤ 1000000000 := fun t ht => Nat.le_trans (HO.out.2.2.2.2.2.1 t ht) (by omega)
          have HE := Lib.hid (And.intro e6 (And.intro e7 (And.intro e8 (And.intro e10 hbl)))); clear e6 e7 e8 e9 e10 hbl
          have sd := s.drew
          clear s
          by_cases hN0 : j = 0
          · subst hN0
            go_wp2_with fail
            clear c8 cz
            refine region_E (fun w' => w'.cell? ⟨x, 6, none⟩ = some (.pointer (some ⟨l, 0, none⟩)) ∧ w'.cell? ⟨x, 7, none⟩ = some (.pointer (some ⟨m, 0, none⟩)) ∧ w'.cell? ⟨x, 8, none⟩ = some (.slice pt 0 ct) ∧ x < w'.heap.size) [3, 8, 15] (by kernel_rfl) ?_
            have hHeld := (And.intro (((Sat.sub (sd) (by with_reducible repeat first | exact Fr1 | exact Fr2 | (apply Fr3; focus ((repeat (first | exact Tk1 | apply Tk2)); done)) | apply Fr4)) : Sat W0 _ (seg true x 0 (wCells l m S pt ct 0 pw cw) :: [])).at 6 HE.out.1) (And.intro (((Sat.sub (sd) (by with_reducible repeat first | exact Fr1 | exact Fr2 | (apply Fr3; focus ((repeat (first | exact Tk1 | apply Tk2)); done)) | apply Fr4)) : Sat W0 _ (seg true x 0 (wCells l m S pt ct 0 pw cw) :: [])).at 7 HE.out.2.1) (And.intro (((Sat.sub (sd) (by with_reducible repeat first | exact Fr1 | exact Fr2 | (apply Fr3; focus ((repeat (first | exact Tk1 | apply Tk2)); done)) | apply Fr4)) : Sat W0 _ (seg true x 0 (wCells l m S pt ct 0 pw cw) :: [])).at 8 HE.out.2.2.1) (((Sat.sub (sd) (by with_reducible repeat first | exact Fr1 | exact Fr2 | (apply Fr3; focus ((repeat (first | exact Tk1 | apply Tk2)); done)) | apply Fr4)) : Sat W0 _ (seg true x 0 (wCells l m S pt ct 0 pw cw) :: [])).lt (by rw [HE.out.2.2.2.1]; omega)))))
            iterate 8
             first | refine autoT hHeld (by rfl) (by rfl) (x := ?_) (v := ?_) ?_ (by kernel_rfl) ?_ ?_ ?_ | refine autoP (by rfl) (x := ?_) (v := ?_) ?_ (by kernel_rfl) ?_ ?_ ?_
             rotate_left 2
             · (simp only [gE1, gE2, gE3]; rfl)
             · exact fun _ _ _ h => h
             · refine Or.inl ⟨by rfl, fun w hSw => ?_⟩
               (try dsimp only at hSw)
               go_simp
               try (with_reducible rfl)
             try simp only [pA1, pA2, pA3, pA4]
            refine anyE_one (i := 4) (x := ?_) ?_ (by kernel_rfl) (fun K hK => ?_)
            rotate_left
            · (simp only [gE1, gE2, gE3]; rfl)
            go_simp
            refine (ledRunsF (by omega) ((Sat.sub (sd) (by with_reducible repeat first | exact Fr1 | exact Fr2 | (apply Fr3; focus ((repeat (first | exact Tk1 | apply Tk2)); done)) | apply Fr4)) : Sat W0 _ (ledO (some l) rs :: rledO (some m) rs :: seg true x 0 (wCells l m S pt ct 0 pw cw) :: row pt ct 1 0 (ts.map pieceV) :: ownRows ts :: []))).mono ?_
            rintro e wa ⟨q1, d1, rfl, sa⟩
            go_wp2_with fail
            have hKp := (And.intro (((Sat.sub (sa) (by with_reducible repeat first | exact Fr1 | exact Fr2 | (apply Fr3; focus ((repeat (first | exact Tk1 | apply Tk2)); done)) | apply Fr4)) : Sat W0 _ (seg true x 0 (wCells l m S pt ct 0 pw cw) :: [])).at 6 HE.out.1) (And.intro (((Sat.sub (sa) (by with_reducible repeat first | exact Fr1 | exact Fr2 | (apply Fr3; focus ((repeat (first | exact Tk1 | apply Tk2)); done)) | apply Fr4)) : Sat W0 _ (seg true x 0 (wCells l m S pt ct 0 pw cw) :: [])).at 7 HE.out.2.1) (And.intro (((Sat.sub (sa) (by with_reducible repeat first | exact Fr1 | exact Fr2 | (apply Fr3; focus ((repeat (first | exact Tk1 | apply Tk2)); done)) | apply Fr4)) : Sat W0 _ (seg true x 0 (wCells l m S pt ct 0 pw cw) :: [])).at 8 HE.out.2.2.1) (((Sat.sub (sa) (by with_reducible repeat first | exact Fr1 | exact Fr2 | (apply Fr3; focus ((repeat (first | exact Tk1 | apply Tk2)); done)) | apply Fr4)) : Sat W0 _ (seg true x 0 (wCells l m S pt ct 0 pw cw) :: [])).lt (by rw [HE.out.2.2.2.1]; omega)))))
            refine hK.out _ _ hKp ?_
            clear hK K hHeld
            have hHeld := hKp
            clear hKp
            try simp only [pA1, pA2, pA3, pA4]
            refine anyE_one (i := 9) (x := ?_) ?_ (by kernel_rfl) (fun K hK => ?_)
            rotate_left
            · (simp only [gE1, gE2, gE3]; rfl)
            go_simp
            refine (rledRunsO (by omega) ((Sat.sub (sa) (by with_reducible repeat first | exact Fr1 | exact Fr2 | (apply Fr3; focus ((repeat (first | exact Tk1 | apply Tk2)); done)) | apply Fr4)) : Sat W0 _ (rledO (some m) rs :: runsA true q1 rs :: seg true x 0 (wCells l m S pt ct 0 pw cw) :: row pt ct 1 0 (ts.map pieceV) :: ownRows ts :: []))).mono ?_
            rintro e wb ⟨q2, d2, rfl, sb⟩
            go_wp2_with fail
            have hKp := (And.intro (((Sat.sub (sb) (by with_reducible repeat first | exact Fr1 | exact Fr2 | (apply Fr3; focus ((repeat (first | exact Tk1 | apply Tk2)); done)) | apply Fr4)) : Sat W0 _ (seg true x 0 (wCells l m S pt ct 0 pw cw) :: [])).at 6 HE.out.1) (And.intro (((Sat.sub (sb) (by with_reducible repeat first | exact Fr1 | exact Fr2 | (apply Fr3; focus ((repeat (first | exact Tk1 | apply Tk2)); done)) | apply Fr4)) : Sat W0 _ (seg true x 0 (wCells l m S pt ct 0 pw cw) :: [])).at 7 HE.out.2.1) (And.intro (((Sat.sub (sb) (by with_reducible repeat first | exact Fr1 | exact Fr2 | (apply Fr3; focus ((repeat (first | exact Tk1 | apply Tk2)); done)) | apply Fr4)) : Sat W0 _ (seg true x 0 (wCells l m S pt ct 0 pw cw) :: [])).at 8 HE.out.2.2.1) (((Sat.sub (sb) (by with_reducible repeat first | exact Fr1 | exact Fr2 | (apply Fr3; focus ((repeat (first | exact Tk1 | apply Tk2)); done)) | apply Fr4)) : Sat W0 _ (seg true x 0 (wCells l m S pt ct 0 pw cw) :: [])).lt (by rw [HE.out.2.2.2.1]; omega)))))
            refine hK.out _ _ hKp ?_
            clear hK K hHeld
            have hHeld := hKp
            clear hKp
            try simp only [pA1, pA2, pA3, pA4]
            refine anyE_one (i := 10) (x := ?_) ?_ (by kernel_rfl) (fun K hK => ?_)
            rotate_left
            · (simp only [gE1, gE2, gE3]; rfl)
            go_simp
            refine (sameRuns rs rfl rfl (by omega) ((Sat.sub (sb) (by with_reducible repeat first | exact Fr1 | exact Fr2 | (apply Fr3; focus ((repeat (first | exact Tk1 | apply Tk2)); done)) | apply Fr4)) : Sat W0 _ (runsA true q1 rs :: runsA true q2 rs :: seg true x 0 (wCells l m S pt ct 0 pw cw) :: row pt ct 1 0 (ts.map pieceV) :: ownRows ts :: []))).mono ?_
            rintro e wc ⟨rfl, sc⟩
            go_wp2_with fail
            have hKp := (And.intro (((Sat.sub (sc) (by with_reducible repeat first | exact Fr1 | exact Fr2 | (apply Fr3; focus ((repeat (first | exact Tk1 | apply Tk2)); done)) | apply Fr4)) : Sat W0 _ (seg true x 0 (wCells l m S pt ct 0 pw cw) :: [])).at 6 HE.out.1) (And.intro (((Sat.sub (sc) (by with_reducible repeat first | exact Fr1 | exact Fr2 | (apply Fr3; focus ((repeat (first | exact Tk1 | apply Tk2)); done)) | apply Fr4)) : Sat W0 _ (seg true x 0 (wCells l m S pt ct 0 pw cw) :: [])).at 7 HE.out.2.1) (And.intro (((Sat.sub (sc) (by with_reducible repeat first | exact Fr1 | exact Fr2 | (apply Fr3; focus ((repeat (first | exact Tk1 | apply Tk2)); done)) | apply Fr4)) : Sat W0 _ (seg true x 0 (wCells l m S pt ct 0 pw cw) :: [])).at 8 HE.out.2.2.1) (((Sat.sub (sc) (by with_reducible repeat first | exact Fr1 | exact Fr2 | (apply Fr3; focus ((repeat (first | exact Tk1 | apply Tk2)); done)) | apply Fr4)) : Sat W0 _ (seg true x 0 (wCells l m S pt ct 0 pw cw) :: [])).lt (by rw [HE.out.2.2.2.1]; omega)))))
            refine hK.out _ _ hKp ?_
            clear hK K hHeld
            have hHeld := hKp
            clear hKp
            try simp only [pA1, pA2, pA3, pA4]
            iterate 5
             first | refine autoT hHeld (by rfl) (by rfl) (x := ?_) (v := ?_) ?_ (by kernel_rfl) ?_ ?_ ?_ | refine autoP (by rfl) (x := ?_) (v := ?_) ?_ (by kernel_rfl) ?_ ?_ ?_
             rotate_left 2
             · (simp only [gE1, gE2, gE3]; rfl)
             · exact fun _ _ _ h => h
             · refine Or.inl ⟨by rfl, fun w hSw => ?_⟩
               (try dsimp only at hSw)
               go_simp
               try (with_reducible rfl)
             try simp only [pA1, pA2, pA3, pA4]
            refine anyE_one (i := 16) (x := ?_) ?_ (by kernel_rfl) (fun K hK => ?_)
            rotate_left
            · (simp only [gE1, gE2, gE3]; rfl)
            go_simp
            refine (apartNone _ ct pt).mono ?_
            rintro e we ⟨rfl, rfl⟩
            have sf := sc
            go_wp2_with fail
            have hKp := (And.intro (((Sat.sub (sc) (by with_reducible repeat first | exact Fr1 | exact Fr2 | (apply Fr3; focus ((repeat (first | exact Tk1 | apply Tk2)); done)) | apply Fr4)) : Sat W0 _ (seg true x 0 (wCells l m S pt ct 0 pw cw) :: [])).at 6 HE.out.1) (And.intro (((Sat.sub (sc) (by with_reducible repeat first | exact Fr1 | exact Fr2 | (apply Fr3; focus ((repeat (first | exact Tk1 | apply Tk2)); done)) | apply Fr4)) : Sat W0 _ (seg true x 0 (wCells l m S pt ct 0 pw cw) :: [])).at 7 HE.out.2.1) (And.intro (((Sat.sub (sc) (by with_reducible repeat first | exact Fr1 | exact Fr2 | (apply Fr3; focus ((repeat (first | exact Tk1 | apply Tk2)); done)) | apply Fr4)) : Sat W0 _ (seg true x 0 (wCells l m S pt ct 0 pw cw) :: [])).at 8 HE.out.2.2.1) (((Sat.sub (sc) (by with_reducible repeat first | exact Fr1 | exact Fr2 | (apply Fr3; focus ((repeat (first | exact Tk1 | apply Tk2)); done)) | apply Fr4)) : Sat W0 _ (seg true x 0 (wCells l m S pt ct 0 pw cw) :: [])).lt (by rw [HE.out.2.2.2.1]; omega)))))
            refine hK.out _ _ hKp ?_
            clear hK K hHeld
            have hHeld := hKp
            clear hKp
            try simp only [pA1, pA2, pA3, pA4]
            iterate 2
             first | refine autoT hHeld (by rfl) (by rfl) (x := ?_) (v := ?_) ?_ (by kernel_rfl) ?_ ?_ ?_ | refine autoP (by rfl) (x := ?_) (v := ?_) ?_ (by kernel_rfl) ?_ ?_ ?_
             rotate_left 2
             · (simp only [gE1, gE2, gE3]; rfl)
             · exact fun _ _ _ h => h
             · refine Or.inl ⟨by rfl, fun w hSw => ?_⟩
               (try dsimp only at hSw)
               go_simp
               try (with_reducible rfl)
             try simp only [pA1, pA2, pA3, pA4]
            refine anyE_done (by kernel_rfl) ?_ _
            go_wp2_with fail
            go_ret
            exact ⟨rfl, sf.below⟩
          · obtain ⟨-, ⟨-, -, h0, -, -⟩ | ⟨g1, r1, rfl, -, -, -, -⟩⟩ := ((Sat.sub (sd) (by with_reducible repeat first | exact Fr1 | exact Fr2 | (apply Fr3; focus ((repeat (first | exact Tk1 | apply Tk2)); done)) | apply Fr4)) : Sat W0 _ (row pt ct 1 j (ts.map pieceV) :: [])).rowOpen
            · omega
            have hjj : ((j : Int) < (j : Int)) = False := by simp
            go_wp2_with fail
            clear c8 cz
            refine region_E (fun w' => w'.cell? ⟨x, 6, none⟩ = some (.pointer (some ⟨l, 0, none⟩)) ∧ w'.cell? ⟨x, 7, none⟩ = some (.pointer (some ⟨m, 0, none⟩)) ∧ w'.cell? ⟨x, 8, none⟩ = some (.slice (some ⟨g1, 0, none⟩) j ct) ∧ x < w'.heap.size) [3, 8, 15] (by kernel_rfl) ?_
            have hHeld := (And.intro (((Sat.sub (sd) (by with_reducible repeat first | exact Fr1 | exact Fr2 | (apply Fr3; focus ((repeat (first | exact Tk1 | apply Tk2)); done)) | apply Fr4)) : Sat W0 _ (seg true x 0 (wCells l m S (some ⟨g1, 0, none⟩) ct j pw cw) :: [])).at 6 HE.out.1) (And.intro (((Sat.sub (sd) (by with_reducible repeat first | exact Fr1 | exact Fr2 | (apply Fr3; focus ((repeat (first | exact Tk1 | apply Tk2)); done)) | apply Fr4)) : Sat W0 _ (seg true x 0 (wCells l m S (some ⟨g1, 0, none⟩) ct j pw cw) :: [])).at 7 HE.out.2.1) (And.intro (((Sat.sub (sd) (by with_reducible repeat first | exact Fr1 | exact Fr2 | (apply Fr3; focus ((repeat (first | exact Tk1 | apply Tk2)); done)) | apply Fr4)) : Sat W0 _ (seg true x 0 (wCells l m S (some ⟨g1, 0, none⟩) ct j pw cw) :: [])).at 8 HE.out.2.2.1) (((Sat.sub (sd) (by with_reducible repeat first | exact Fr1 | exact Fr2 | (apply Fr3; focus ((repeat (first | exact Tk1 | apply Tk2)); done)) | apply Fr4)) : Sat W0 _ (seg true x 0 (wCells l m S (some ⟨g1, 0, none⟩) ct j pw cw) :: [])).lt (by rw [HE.out.2.2.2.1]; omega)))))
            iterate 8
             first | refine autoT hHeld (by rfl) (by rfl) (x := ?_) (v := ?_) ?_ (by kernel_rfl) ?_ ?_ ?_ | refine autoP (by rfl) (x := ?_) (v := ?_) ?_ (by kernel_rfl) ?_ ?_ ?_
             rotate_left 2
             · (simp only [gE1, gE2, gE3]; rfl)
             · exact fun _ _ _ h => h
             · refine Or.inl ⟨by rfl, fun w hSw => ?_⟩
               (try dsimp only at hSw)
               go_simp
               try (with_reducible rfl)
             try simp only [pA1, pA2, pA3, pA4]
            refine anyE_one (i := 4) (x := ?_) ?_ (by kernel_rfl) (fun K hK => ?_)
            rotate_left
            · (simp only [gE1, gE2, gE3]; rfl)
            go_simp
            refine (ledRunsF (by omega) ((Sat.sub (sd) (by with_reducible repeat first | exact Fr1 | exact Fr2 | (apply Fr3; focus ((repeat (first | exact Tk1 | apply Tk2)); done)) | apply Fr4)) : Sat W0 _ (ledO (some l) rs :: rledO (some m) rs :: seg true x 0 (wCells l m S (some ⟨g1, 0, none⟩) ct j pw cw) :: row (some ⟨g1, 0, none⟩) ct 1 j (ts.map pieceV) :: ownRows ts :: []))).mono ?_
            rintro e wa ⟨q1, d1, rfl, sa⟩
            go_wp2_with fail
            have hKp := (And.intro (((Sat.sub (sa) (by with_reducible repeat first | exact Fr1 | exact Fr2 | (apply Fr3; focus ((repeat (first | exact Tk1 | apply Tk2)); done)) | apply Fr4)) : Sat W0 _ (seg true x 0 (wCells l m S (some ⟨g1, 0, none⟩) ct j pw cw) :: [])).at 6 HE.out.1) (And.intro (((Sat.sub (sa) (by with_reducible repeat first | exact Fr1 | exact Fr2 | (apply Fr3; focus ((repeat (first | exact Tk1 | apply Tk2)); done)) | apply Fr4)) : Sat W0 _ (seg true x 0 (wCells l m S (some ⟨g1, 0, none⟩) ct j pw cw) :: [])).at 7 HE.out.2.1) (And.intro (((Sat.sub (sa) (by with_reducible repeat first | exact Fr1 | exact Fr2 | (apply Fr3; focus ((repeat (first | exact Tk1 | apply Tk2)); done)) | apply Fr4)) : Sat W0 _ (seg true x 0 (wCells l m S (some ⟨g1, 0, none⟩) ct j pw cw) :: [])).at 8 HE.out.2.2.1) (((Sat.sub (sa) (by with_reducible repeat first | exact Fr1 | exact Fr2 | (apply Fr3; focus ((repeat (first | exact Tk1 | apply Tk2)); done)) | apply Fr4)) : Sat W0 _ (seg true x 0 (wCells l m S (some ⟨g1, 0, none⟩) ct j pw cw) :: [])).lt (by rw [HE.out.2.2.2.1]; omega)))))
            refine hK.out _ _ hKp ?_
            clear hK K hHeld
            have hHeld := hKp
            clear hKp
            try simp only [pA1, pA2, pA3, pA4]
            refine anyE_one (i := 9) (x := ?_) ?_ (by kernel_rfl) (fun K hK => ?_)
            rotate_left
            · (simp only [gE1, gE2, gE3]; rfl)
            go_simp
            refine (rledRunsO (by omega) ((Sat.sub (sa) (by with_reducible repeat first | exact Fr1 | exact Fr2 | (apply Fr3; focus ((repeat (first | exact Tk1 | apply Tk2)); done)) | apply Fr4)) : Sat W0 _ (rledO (some m) rs :: runsA true q1 rs :: seg true x 0 (wCells l m S (some ⟨g1, 0, none⟩) ct j pw cw) :: row (some ⟨g1, 0, none⟩) ct 1 j (ts.map pieceV) :: ownRows ts :: []))).mono ?_
            rintro e wb ⟨q2, d2, rfl, sb⟩
            go_wp2_with fail
            have hKp := (And.intro (((Sat.sub (sb) (by with_reducible repeat first | exact Fr1 | exact Fr2 | (apply Fr3; focus ((repeat (first | exact Tk1 | apply Tk2)); done)) | apply Fr4)) : Sat W0 _ (seg true x 0 (wCells l m S (some ⟨g1, 0, none⟩) ct j pw cw) :: [])).at 6 HE.out.1) (And.intro (((Sat.sub (sb) (by with_reducible repeat first | exact Fr1 | exact Fr2 | (apply Fr3; focus ((repeat (first | exact Tk1 | apply Tk2)); done)) | apply Fr4)) : Sat W0 _ (seg true x 0 (wCells l m S (some ⟨g1, 0, none⟩) ct j pw cw) :: [])).at 7 HE.out.2.1) (And.intro (((Sat.sub (sb) (by with_reducible repeat first | exact Fr1 | exact Fr2 | (apply Fr3; focus ((repeat (first | exact Tk1 | apply Tk2)); done)) | apply Fr4)) : Sat W0 _ (seg true x 0 (wCells l m S (some ⟨g1, 0, none⟩) ct j pw cw) :: [])).at 8 HE.out.2.2.1) (((Sat.sub (sb) (by with_reducible repeat first | exact Fr1 | exact Fr2 | (apply Fr3; focus ((repeat (first | exact Tk1 | apply Tk2)); done)) | apply Fr4)) : Sat W0 _ (seg true x 0 (wCells l m S (some ⟨g1, 0, none⟩) ct j pw cw) :: [])).lt (by rw [HE.out.2.2.2.1]; omega)))))
            refine hK.out _ _ hKp ?_
            clear hK K hHeld
            have hHeld := hKp
            clear hKp
            try simp only [pA1, pA2, pA3, pA4]
            refine anyE_one (i := 10) (x := ?_) ?_ (by kernel_rfl) (fun K hK => ?_)
            rotate_left
            · (simp only [gE1, gE2, gE3]; rfl)
            go_simp
            refine (sameRuns rs rfl rfl (by omega) ((Sat.sub (sb) (by with_reducible repeat first | exact Fr1 | exact Fr2 | (apply Fr3; focus ((repeat (first | exact Tk1 | apply Tk2)); done)) | apply Fr4)) : Sat W0 _ (runsA true q1 rs :: runsA true q2 rs :: seg true x 0 (wCells l m S (some ⟨g1, 0, none⟩) ct j pw cw) :: row (some ⟨g1, 0, none⟩) ct 1 j (ts.map pieceV) :: ownRows ts :: []))).mono ?_
            rintro e wc ⟨rfl, sc⟩
            go_wp2_with fail
            have hKp := (And.intro (((Sat.sub (sc) (by with_reducible repeat first | exact Fr1 | exact Fr2 | (apply Fr3; focus ((repeat (first | exact Tk1 | apply Tk2)); done)) | apply Fr4)) : Sat W0 _ (seg true x 0 (wCells l m S (some ⟨g1, 0, none⟩) ct j pw cw) :: [])).at 6 HE.out.1) (And.intro (((Sat.sub (sc) (by with_reducible repeat first | exact Fr1 | exact Fr2 | (apply Fr3; focus ((repeat (first | exact Tk1 | apply Tk2)); done)) | apply Fr4)) : Sat W0 _ (seg true x 0 (wCells l m S (some ⟨g1, 0, none⟩) ct j pw cw) :: [])).at 7 HE.out.2.1) (And.intro (((Sat.sub (sc) (by with_reducible repeat first | exact Fr1 | exact Fr2 | (apply Fr3; focus ((repeat (first | exact Tk1 | apply Tk2)); done)) | apply Fr4)) : Sat W0 _ (seg true x 0 (wCells l m S (some ⟨g1, 0, none⟩) ct j pw cw) :: [])).at 8 HE.out.2.2.1) (((Sat.sub (sc) (by with_reducible repeat first | exact Fr1 | exact Fr2 | (apply Fr3; focus ((repeat (first | exact Tk1 | apply Tk2)); done)) | apply Fr4)) : Sat W0 _ (seg true x 0 (wCells l m S (some ⟨g1, 0, none⟩) ct j pw cw) :: [])).lt (by rw [HE.out.2.2.2.1]; omega)))))
            refine hK.out _ _ hKp ?_
            clear hK K hHeld
            have hHeld := hKp
            clear hKp
            try simp only [pA1, pA2, pA3, pA4]
            iterate 5
             first | refine autoT hHeld (by rfl) (by rfl) (x := ?_) (v := ?_) ?_ (by kernel_rfl) ?_ ?_ ?_ | refine autoP (by rfl) (x := ?_) (v := ?_) ?_ (by kernel_rfl) ?_ ?_ ?_
             rotate_left 2
             · (simp only [gE1, gE2, gE3]; rfl)
             · exact fun _ _ _ h => h
             · refine Or.inl ⟨by rfl, fun w hSw => ?_⟩
               (try dsimp only at hSw)
               go_simp
               try (with_reducible rfl)
             try simp only [pA1, pA2, pA3, pA4]
            refine anyE_one (i := 16) (x := ?_) ?_ (by kernel_rfl) (fun K hK => ?_)
            rotate_left
            · (simp only [gE1, gE2, gE3]; rfl)
            go_simp
            obtain ⟨gq, eg, -, -, sseg⟩ := rowSeg ((Sat.sub (sc) (by with_reducible repeat first | exact Fr1 | exact Fr2 | (apply Fr3; focus ((repeat (first | exact Tk1 | apply Tk2)); done)) | apply Fr4)) : Sat W0 _ (row (some ⟨g1, 0, none⟩) ct 1 j (ts.map pieceV) :: ownRows ts :: seg true x 0 (wCells l m S (some ⟨g1, 0, none⟩) ct j pw cw) :: [])) (by omega)
            cases eg
            refine (apart ts HO.out.2.1 (by omega) HE.out.2.2.2.2 ((Sat.sub (sseg) (by with_reducible repeat first | exact Fr1 | exact Fr2 | (apply Fr3; focus ((repeat (first | exact Tk1 | apply Tk2)); done)) | apply Fr4)) : Sat W0 _ (seg true g1 0 (ts.map pieceV) :: ownRows ts :: seg true x 0 (wCells l m S (some ⟨g1, 0, none⟩) ct j pw cw) :: []))).mono ?_
            rintro e we ⟨rfl, sf⟩
            go_wp2_with fail
            have hKp := (And.intro (((Sat.sub (sf) (by with_reducible repeat first | exact Fr1 | exact Fr2 | (apply Fr3; focus ((repeat (first | exact Tk1 | apply Tk2)); done)) | apply Fr4)) : Sat W0 _ (seg true x 0 (wCells l m S (some ⟨g1, 0, none⟩) ct j pw cw) :: [])).at 6 HE.out.1) (And.intro (((Sat.sub (sf) (by with_reducible repeat first | exact Fr1 | exact Fr2 | (apply Fr3; focus ((repeat (first | exact Tk1 | apply Tk2)); done)) | apply Fr4)) : Sat W0 _ (seg true x 0 (wCells l m S (some ⟨g1, 0, none⟩) ct j pw cw) :: [])).at 7 HE.out.2.1) (And.intro (((Sat.sub (sf) (by with_reducible repeat first | exact Fr1 | exact Fr2 | (apply Fr3; focus ((repeat (first | exact Tk1 | apply Tk2)); done)) | apply Fr4)) : Sat W0 _ (seg true x 0 (wCells l m S (some ⟨g1, 0, none⟩) ct j pw cw) :: [])).at 8 HE.out.2.2.1) (((Sat.sub (sf) (by with_reducible repeat first | exact Fr1 | exact Fr2 | (apply Fr3; focus ((repeat (first | exact Tk1 | apply Tk2)); done)) | apply Fr4)) : Sat W0 _ (seg true x 0 (wCells l m S (some ⟨g1, 0, none⟩) ct j pw cw) :: [])).lt (by rw [HE.out.2.2.2.1]; omega)))))
            refine hK.out _ _ hKp ?_
            clear hK K hHeld
            have hHeld := hKp
            clear hKp
            try simp only [pA1, pA2, pA3, pA4]
            iterate 2
             first | refine autoT hHeld (by rfl) (by rfl) (x := ?_) (v := ?_) ?_ (by kernel_rfl) ?_ ?_ ?_ | refine autoP (by rfl) (x := ?_) (v := ?_) ?_ (by kernel_rfl) ?_ ?_ ?_
             rotate_left 2
             · (simp only [gE1, gE2, gE3]; rfl)
             · exact fun _ _ _ h => h
             · refine Or.inl ⟨by rfl, fun w hSw => ?_⟩
               (try dsimp only at hSw)
               go_simp
               try (with_reducible rfl)
             try simp only [pA1, pA2, pA3, pA4]
            refine anyE_done (by kernel_rfl) ?_ _
            go_wp2_with fail
            go_ret
            exact ⟨rfl, sf.below⟩
end Go.Proofs.YtlmababpmmhhoaaGreat
