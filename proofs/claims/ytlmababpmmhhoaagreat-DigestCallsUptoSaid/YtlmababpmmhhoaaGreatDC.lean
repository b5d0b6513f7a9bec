/- Dcd, Dcc: texts that lie apart elsewhere, as one; each under the conditions that it names. -/
import Derived.Test.YtlmababpmmhhoaaGreatDB

/- DigestCalls: a call of both: Wipe; Write of one that was wiped; under the conditions that each names. -/
namespace Go.Proofs.YtlmababpmmhhoaaGreat
open Go.RowKit Go.Sep Go.Bv Go.Sha
set_option linter.unusedVariables false
set_option linter.unusedSimpArgs false
theorem dWipeP {W0 w : World} {L : List Assn} {b : Nat} {pv : Value} (wide : Bool) (p : Option Nat) (rs : List Run3) (msg : List Byte) (hp : pv = ptrO p) (hb : tot rs + 1 ≤ 4611686018427387904) (hl : rs.length ≤ 4294967296) (hs : Sat W0 w (ledO p rs :: dst wide b msg :: L)) :
    Calls Tryz.prog (fWipe wide) #[.pointer (some ⟨b, 0, none⟩), pv] w fun e w' => e = .returned (.int .i64 0) ∧ Sat W0 w' (ledO p (noteN rs 8 (fsz wide) 1) :: gone wide b :: L) := by
  subst hp; rw [← noteN_one1]; exact dWipe wide p rs msg hb hl hs
theorem sameCells {l m N k : Nat} {S : List Sl} {pt pw : Option Addr} {ct cw : Nat} {C : List Value} {a b : Sl} (h3 : S.length = 3) (hk : k < 3) (hC : C = wCells l m S pt ct N pw cw) (hsk : S[k]? = some a) (hS : slS b = slS a) (hR : slR b = slR a) : C = wCells l m (S.set k b) pt ct N pw cw := by
  subst hC
  obtain ⟨h1, h2⟩ := wc_S (l := l) (m := m) (pt := pt) (pw := pw) (ct := ct) (N := N) (cw := cw) h3 k hsk
  rw [← wc_setS h3 k hk b b]
  obtain ⟨a1, a2⟩ := List.getElem?_eq_some_iff.1 h1
  rw [show slS b = (wCells l m S pt ct N pw cw)[k] from hS.trans a2.symm, List.set_getElem_self]
  obtain ⟨b1, b2⟩ := List.getElem?_eq_some_iff.1 h2
  rw [show slR b = (wCells l m S pt ct N pw cw)[3 + k] from hR.trans b2.symm, List.set_getElem_self]
theorem okSame {M i N : Nat} {S S' : List Sl} {ts us : List Piece} {rs rs' : List Run3} {M' : Nat} (h : okW M i S ts us N rs) (hS : S'.length = S.length) (hM : ∀ s ∈ S', slN s ≤ M') (ht : tot rs' ≤ tot rs + 100000) (hl : rs'.length ≤ rs.length + 1) : okW M' (i + 1) S' ts us N rs' := by
  obtain ⟨h1, h2, h3, h4, h5, h6, h7, h8, h9⟩ := h
  exact ⟨by omega, h2, h3, h4, by omega, h6, by omega, by omega, hM⟩

set_option maxRecDepth 100000 in
set_option maxHeartbeats 8000000 in
theorem act_wipe {W0 w : World} {L : List Assn} {x l m M i N k n cap : Nat} {S : List Sl} {ts us : List Piece} {pt pw pp : Option Addr} {ct cw : Nat} {rs : List Run3} {msg P : List Byte} {pb rb : Nat} (wide : Bool) (on to alg : Int) (hok : okW M i S ts us N rs) (hi : i ≤ 60) (hM : M + n ≤ 100000) (hP : P.length = n) (hnc : n ≤ cap) (hcm : cap ≤ maxLen) (hkp : pickM on 3 = k) (hsk : S[k]? = some (.live wide msg pb rb))
    (hs : Sat W0 w (wA x l m S ts us pt ct pw cw N rs (bytes false pp P :: L))) :
    Calls Tryz.prog 9 #[.pointer (some ⟨x, 0, none⟩), .agg #[.int .i64 on, .int .i64 3, .int .i64 to, .slice pp n cap, .int .u8 alg]] w (postA W0 L x l m (M + n) i) := by
  have hk : k < 3 := by rw [← hok.1]; exact (List.getElem?_eq_some_iff.1 hsk).1
  have hslN := hok.2.2.2.2.2.2.2.2 _ (List.mem_of_getElem? hsk)
  obtain ⟨e0, e3⟩ := wc_S (l := l) (m := m) (pt := pt) (pw := pw) (ct := ct) (N := N) (cw := cw) hok.1 k hsk
  obtain ⟨e6, e7, -, -, e10⟩ := wc_at (l := l) (m := m) (pt := pt) (pw := pw) (ct := ct) (N := N) (cw := cw) hok.1
  obtain ⟨C, hC⟩ : ∃ C, C = wCells l m S pt ct N pw cw := ⟨_, rfl⟩
  rw [← hC] at e0 e3 e6 e7 e10
  have s0 : Sat W0 w (seg true x 0 C :: stars (S.map slA) :: row pt ct 1 N (ts.map pieceV) :: row pw cw 1 N (us.map pieceV) :: ownRows ts :: ownRows us :: ledO (some l) rs :: rledO (some m) rs :: bytes false pp P :: L) := by
    rw [hC]; exact (Sat.sub (hs) (by with_reducible repeat first | exact Fr1 | exact Fr2 | (apply Fr3; focus ((repeat (first | exact Tk1 | apply Tk2)); done)) | apply Fr4))
  clear hs
  have hrs : tot rs ≤ 10000000 ∧ rs.length ≤ 1000 := by
    have h1 := hok.2.2.2.2.2.2.1
    have h2 := hok.2.2.2.2.2.2.2.1
    have h3 : 100000 * i ≤ 100000 * 60 := Nat.mul_le_mul_left _ hi
    omega
  have HC := Lib.hid (And.intro hC (And.intro hsk (And.intro e0 (And.intro e3 (And.intro e6 (And.intro e7 (And.intro e10 (And.intro hP (And.intro hnc (And.intro hcm (And.intro hkp (And.intro hslN (And.intro hrs hok))))))))))))); clear hC hsk e0 e3 e6 e7 e10 hP hnc hcm hkp hslN hrs hok
  have hk3 : (k : Int) < 3 := by omega
  have hpk : ∀ w : World, Calls Tryz.prog 21 #[.int .i64 on, .int .i64 3] w fun e w' => e = .returned (.int .i64 (k : Int)) ∧ w = w' := fun w => by
    have := pickW w on 3 (by omega) (by omega)
    rw [HC.out.2.2.2.2.2.2.2.2.2.2.1] at this
    exact this
  have HP := Lib.hid hpk; clear hpk
  cases wide
  · skip
    go_enter Tryz.func9, Tryz.ntmps9
    go_wp2_with (refine wpl_box rfl 43 (.tmp 1) rfl [.int .i64 on, .int .i64 3, .int .i64 to, .slice pp n cap, .int .u8 alg] rfl s0 ?_; intro w1 g s1' _; have s1 : Sat W0 w1 (seg true x 0 C :: seg true g 0 [.int .i64 on, .int .i64 3, .int .i64 to, .slice pp n cap, .int .u8 alg] :: stars (S.map slA) :: row pt ct 1 N (ts.map pieceV) :: row pw cw 1 N (us.map pieceV) :: ownRows ts :: ownRows us :: ledO (some l) rs :: rledO (some m) rs :: bytes false pp P :: L) := (Sat.sub (s1') (by with_reducible repeat first | exact Fr1 | exact Fr2 | (apply Fr3; focus ((repeat (first | exact Tk1 | apply Tk2)); done)) | apply Fr4)); clear s1' s0; have g0 := ((Sat.sub (s1) (by with_reducible repeat first | exact Fr1 | exact Fr2 | (apply Fr3; focus ((repeat (first | exact Tk1 | apply Tk2)); done)) | apply Fr4)) : Sat W0 _ (seg true g 0 [.int .i64 on, .int .i64 3, .int .i64 to, .slice pp n cap, .int .u8 alg] :: [])).at 0 rfl; have gz := ((Sat.sub (s1) (by with_reducible repeat first | exact Fr1 | exact Fr2 | (apply Fr3; focus ((repeat (first | exact Tk1 | apply Tk2)); done)) | apply Fr4)) : Sat W0 _ (seg true g 0 [.int .i64 on, .int .i64 3, .int .i64 to, .slice pp n cap, .int .u8 alg] :: [])).lt (by simp))
    refine (HP.out w1).mono ?_
    rintro e w2 ⟨rfl, rfl⟩
    clear g0 gz
    have g1 := ((Sat.sub (s1) (by with_reducible repeat first | exact Fr1 | exact Fr2 | (apply Fr3; focus ((repeat (first | exact Tk1 | apply Tk2)); done)) | apply Fr4)) : Sat W0 _ (seg true g 0 [.int .i64 on, .int .i64 3, .int .i64 to, .slice pp n cap, .int .u8 alg] :: [])).at 1 rfl
    have g3 := ((Sat.sub (s1) (by with_reducible repeat first | exact Fr1 | exact Fr2 | (apply Fr3; focus ((repeat (first | exact Tk1 | apply Tk2)); done)) | apply Fr4)) : Sat W0 _ (seg true g 0 [.int .i64 on, .int .i64 3, .int .i64 to, .slice pp n cap, .int .u8 alg] :: [])).at 3 rfl
    have gz := ((Sat.sub (s1) (by with_reducible repeat first | exact Fr1 | exact Fr2 | (apply Fr3; focus ((repeat (first | exact Tk1 | apply Tk2)); done)) | apply Fr4)) : Sat W0 _ (seg true g 0 [.int .i64 on, .int .i64 3, .int .i64 to, .slice pp n cap, .int .u8 alg] :: [])).lt (by simp)
    have x0 := s1.at k HC.out.2.2.1
    have x3 := s1.at (3 + k) HC.out.2.2.2.1
    have x6 := s1.at 6 HC.out.2.2.2.2.1
    have x7 := s1.at 7 HC.out.2.2.2.2.2.1
    have xz := s1.lt (by rw [HC.out.2.2.2.2.2.2.1]; omega)
    simp only [slS, slR, ifv] at x0 x3
    have sg := starsGet HC.out.2.1 ((Sat.sub (s1) (by with_reducible repeat first | exact Fr1 | exact Fr2 | (apply Fr3; focus ((repeat (first | exact Tk1 | apply Tk2)); done)) | apply Fr4)) : Sat W0 _ (stars (S.map slA) :: seg true x 0 C :: seg true g 0 [.int .i64 on, .int .i64 3, .int .i64 to, .slice pp n cap, .int .u8 alg] :: row pt ct 1 N (ts.map pieceV) :: row pw cw 1 N (us.map pieceV) :: ownRows ts :: ownRows us :: ledO (some l) rs :: rledO (some m) rs :: bytes false pp P :: L))
    have sh : Sat W0 _ (dst false pb msg :: rs11 false rb msg :: _) := Sat.sepOpen (show Sat W0 _ (sep (dst false pb msg) (rs11 false rb msg) :: _) from sg)
    have s2 : Sat W0 _ (seg true x 0 C :: seg true g 0 [.int .i64 on, .int .i64 3, .int .i64 to, .slice pp n cap, .int .u8 alg] :: row pt ct 1 N (ts.map pieceV) :: row pw cw 1 N (us.map pieceV) :: ownRows ts :: ownRows us :: ledO (some l) rs :: rledO (some m) rs :: dst false pb msg :: rs11 false rb msg :: stars ((S.map slA).eraseIdx k) :: bytes false pp P :: L) := (Sat.sub (sh) (by with_reducible repeat first | exact Fr1 | exact Fr2 | (apply Fr3; focus ((repeat (first | exact Tk1 | apply Tk2)); done)) | apply Fr4))
    clear sg sh s1
    go_wp2_with fail
    have s2d := s2.drew
    clear x0 x3 x6 x7 xz g1 g3 gz
    refine region_E (fun w' => w'.cell? ⟨x, 6, none⟩ = some (.pointer (some ⟨l, 0, none⟩)) ∧ w'.cell? ⟨x, 7, none⟩ = some (.pointer (some ⟨m, 0, none⟩)) ∧ x < w'.heap.size) [4, 13] (by kernel_rfl) ?_
    have hHeld := (And.intro (Sat.at ((Sat.sub (s2d) (by with_reducible repeat first | exact Fr1 | exact Fr2 | (apply Fr3; focus ((repeat (first | exact Tk1 | apply Tk2)); done)) | apply Fr4)) : Sat W0 _ (seg true x 0 C :: [])) 6 HC.out.2.2.2.2.1) (And.intro (Sat.at ((Sat.sub (s2d) (by with_reducible repeat first | exact Fr1 | exact Fr2 | (apply Fr3; focus ((repeat (first | exact Tk1 | apply Tk2)); done)) | apply Fr4)) : Sat W0 _ (seg true x 0 C :: [])) 7 HC.out.2.2.2.2.2.1) (Sat.lt ((Sat.sub (s2d) (by with_reducible repeat first | exact Fr1 | exact Fr2 | (apply Fr3; focus ((repeat (first | exact Tk1 | apply Tk2)); done)) | apply Fr4)) : Sat W0 _ (seg true x 0 C :: [])) (by rw [HC.out.2.2.2.2.2.2.1]; omega))))
    iterate 5
     first | refine autoT hHeld (by rfl) (by rfl) (x := ?_) (v := ?_) ?_ (by kernel_rfl) ?_ ?_ ?_ | refine autoP (by rfl) (x := ?_) (v := ?_) ?_ (by kernel_rfl) ?_ ?_ ?_
     rotate_left 2
     · (simp only [gE1, gE2, gE3]; rfl)
     · exact fun _ _ _ h => h
     · refine Or.inl ⟨by rfl, fun w hSw => ?_⟩
       (try dsimp only at hSw)
       go_simp
       try (with_reducible rfl)
     try simp only [pA1, pA2, pA3, pA4]
    refine anyE_pure (i := 5) (x := ?_) (v := ?_) ?_ (by kernel_rfl) (by kernel_rfl) (by kernel_rfl) ?_ ?_ ?_
    rotate_left 2
    · (simp only [gE1, gE2, gE3]; rfl)
    · exact fun _ _ _ h => h
    · refine Or.inl ⟨by rfl, fun w hSw => ?_⟩
      (try dsimp only at hSw)
      go_simp
      try (with_reducible rfl)
    try simp only [pA1, pA2, pA3, pA4]
    iterate 7
     first | refine autoT hHeld (by rfl) (by rfl) (x := ?_) (v := ?_) ?_ (by kernel_rfl) ?_ ?_ ?_ | refine autoP (by rfl) (x := ?_) (v := ?_) ?_ (by kernel_rfl) ?_ ?_ ?_
     rotate_left 2
     · (simp only [gE1, gE2, gE3]; rfl)
     · exact fun _ _ _ h => h
     · refine Or.inl ⟨by rfl, fun w hSw => ?_⟩
       (try dsimp only at hSw)
       go_simp
       try (with_reducible rfl)
     try simp only [pA1, pA2, pA3, pA4]
    refine anyE_one (i := 8) (x := ?_) ?_ (by kernel_rfl) (fun K hK => ?_)
    rotate_left
    · (simp only [gE1, gE2, gE3]; rfl)
    go_simp
    refine (dWipeP (pv := .pointer (some ⟨l, 0, none⟩)) false (some l) rs msg rfl (by have := HC.out.2.2.2.2.2.2.2.2.2.2.2.2.1; omega) (by have := HC.out.2.2.2.2.2.2.2.2.2.2.2.2.1; omega) ((Sat.sub (s2d) (by with_reducible repeat first | exact Fr1 | exact Fr2 | (apply Fr3; focus ((repeat (first | exact Tk1 | apply Tk2)); done)) | apply Fr4)) : Sat W0 _ (ledO (some l) rs :: dst false pb msg :: rs11 false rb msg :: rledO (some m) rs :: seg true x 0 C :: row pt ct 1 N (ts.map pieceV) :: row pw cw 1 N (us.map pieceV) :: ownRows ts :: ownRows us :: stars ((S.map slA).eraseIdx k) :: L))).mono ?_
    rintro e w5 ⟨rfl, s5⟩
    go_wp2_with fail
    have hKp := (And.intro (Sat.at ((Sat.sub (s5) (by with_reducible repeat first | exact Fr1 | exact Fr2 | (apply Fr3; focus ((repeat (first | exact Tk1 | apply Tk2)); done)) | apply Fr4)) : Sat W0 _ (seg true x 0 C :: [])) 6 HC.out.2.2.2.2.1) (And.intro (Sat.at ((Sat.sub (s5) (by with_reducible repeat first | exact Fr1 | exact Fr2 | (apply Fr3; focus ((repeat (first | exact Tk1 | apply Tk2)); done)) | apply Fr4)) : Sat W0 _ (seg true x 0 C :: [])) 7 HC.out.2.2.2.2.2.1) (Sat.lt ((Sat.sub (s5) (by with_reducible repeat first | exact Fr1 | exact Fr2 | (apply Fr3; focus ((repeat (first | exact Tk1 | apply Tk2)); done)) | apply Fr4)) : Sat W0 _ (seg true x 0 C :: [])) (by rw [HC.out.2.2.2.2.2.2.1]; omega))))
    refine hK.out _ _ hKp ?_
    clear hK K hHeld
    have hHeld := hKp
    clear hKp
    try simp only [pA1, pA2, pA3, pA4]
    refine anyE_one (i := 14) (x := ?_) ?_ (by kernel_rfl) (fun K hK => ?_)
    rotate_left
    · (simp only [gE1, gE2, gE3]; rfl)
    go_simp
    refine (rs11Wipe (pv := .pointer (some ⟨m, 0, none⟩)) false (some m) rs msg rfl (by have := HC.out.2.2.2.2.2.2.2.2.2.2.2.2.1; omega) (by have := HC.out.2.2.2.2.2.2.2.2.2.2.2.2.1; omega) ((Sat.sub (s5) (by with_reducible repeat first | exact Fr1 | exact Fr2 | (apply Fr3; focus ((repeat (first | exact Tk1 | apply Tk2)); done)) | apply Fr4)) : Sat W0 _ (rledO (some m) rs :: rs11 false rb msg :: gone false pb :: ledO (some l) (noteN rs 8 (fsz false) 1) :: seg true x 0 C :: row pt ct 1 N (ts.map pieceV) :: row pw cw 1 N (us.map pieceV) :: ownRows ts :: ownRows us :: stars ((S.map slA).eraseIdx k) :: L))).mono ?_
    rintro e w6 ⟨rfl, s6⟩
    go_wp2_with fail
    have hKp := (And.intro (Sat.at ((Sat.sub (s6) (by with_reducible repeat first | exact Fr1 | exact Fr2 | (apply Fr3; focus ((repeat (first | exact Tk1 | apply Tk2)); done)) | apply Fr4)) : Sat W0 _ (seg true x 0 C :: [])) 6 HC.out.2.2.2.2.1) (And.intro (Sat.at ((Sat.sub (s6) (by with_reducible repeat first | exact Fr1 | exact Fr2 | (apply Fr3; focus ((repeat (first | exact Tk1 | apply Tk2)); done)) | apply Fr4)) : Sat W0 _ (seg true x 0 C :: [])) 7 HC.out.2.2.2.2.2.1) (Sat.lt ((Sat.sub (s6) (by with_reducible repeat first | exact Fr1 | exact Fr2 | (apply Fr3; focus ((repeat (first | exact Tk1 | apply Tk2)); done)) | apply Fr4)) : Sat W0 _ (seg true x 0 C :: [])) (by rw [HC.out.2.2.2.2.2.2.1]; omega))))
    refine hK.out _ _ hKp ?_
    clear hK K hHeld
    have hHeld := hKp
    clear hKp
    try simp only [pA1, pA2, pA3, pA4]
    iterate 2
     first | refine autoT hHeld (by rfl) (by rfl) (x := ?_) (v := ?_) ?_ (by kernel_rfl) ?_ ?_ ?_ | refine autoP (by rfl) (x := ?_) (v := ?_) ?_ (by kernel_rfl) ?_ ?_ ?_
     rotate_left 2
     · (simp only [gE1, gE2, gE3]; rfl)
     · exact fun _ _ _ h => h
     · refine Or.inl ⟨by rfl, fun w hSw => ?_⟩
       (try dsimp only at hSw)
       go_simp
       try (with_reducible rfl)
     try simp only [pA1, pA2, pA3, pA4]
    refine anyE_done (by kernel_rfl) ?_ _
    clear s2
    have sk : Sat W0 _ (slA (.gone false pb rb) :: _) := Sat.sepShut ((Sat.sub (s6) (by with_reducible repeat first | exact Fr1 | exact Fr2 | (apply Fr3; focus ((repeat (first | exact Tk1 | apply Tk2)); done)) | apply Fr4)) : Sat W0 _ (gone false pb :: rg11 false rb :: stars ((S.map slA).eraseIdx k) :: seg true x 0 C :: row pt ct 1 N (ts.map pieceV) :: row pw cw 1 N (us.map pieceV) :: ownRows ts :: ownRows us :: ledO (some l) (noteN rs 8 (fsz false) 1) :: rledO (some m) (noteN rs 8 (fsz false) 1) :: L))
    have si := starsPut HC.out.2.1 sk
    rw [sameCells (b := .gone false pb rb) HC.out.2.2.2.2.2.2.2.2.2.2.2.2.2.1 hk HC.out.1 HC.out.2.1 rfl rfl] at si
    have sj : Sat W0 _ (wA x l m (S.set k (.gone false pb rb)) ts us pt ct pw cw N (noteN rs 8 (fsz false) 1) L) := (Sat.sub (si) (by with_reducible repeat first | exact Fr1 | exact Fr2 | (apply Fr3; focus ((repeat (first | exact Tk1 | apply Tk2)); done)) | apply Fr4))
    have HS := Lib.hid sj; clear s6 sk si sj
    go_wp2_with fail
    go_ret
    have hl2 := noteN_len rs 8 (fsz false) 1
    exact ⟨rfl, S.set k (.gone false pb rb), ts, us, pt, ct, pw, cw, N, noteN rs 8 (fsz false) 1, okSame HC.out.2.2.2.2.2.2.2.2.2.2.2.2.2 (List.length_set ..) (mem_set_le HC.out.2.2.2.2.2.2.2.2.2.2.2.2.2.2.2.2.2.2.2.2.2 (by omega) (Nat.zero_le _)) (by rw [tot_noteN]; omega) hl2, HS.out⟩
  · skip
    go_enter Tryz.func9, Tryz.ntmps9
    go_wp2_with (refine wpl_box rfl 43 (.tmp 1) rfl [.int .i64 on, .int .i64 3, .int .i64 to, .slice pp n cap, .int .u8 alg] rfl s0 ?_; intro w1 g s1' _; have s1 : Sat W0 w1 (seg true x 0 C :: seg true g 0 [.int .i64 on, .int .i64 3, .int .i64 to, .slice pp n cap, .int .u8 alg] :: stars (S.map slA) :: row pt ct 1 N (ts.map pieceV) :: row pw cw 1 N (us.map pieceV) :: ownRows ts :: ownRows us :: ledO (some l) rs :: rledO (some m) rs :: bytes false pp P :: L) := (Sat.sub (s1') (by with_reducible repeat first | exact Fr1 | exact Fr2 | (apply Fr3; focus ((repeat (first | exact Tk1 | apply Tk2)); done)) | apply Fr4)); clear s1' s0; have g0 := ((Sat.sub (s1) (by with_reducible repeat first | exact Fr1 | exact Fr2 | (apply Fr3; focus ((repeat (first | exact Tk1 | apply Tk2)); done)) | apply Fr4)) : Sat W0 _ (seg true g 0 [.int .i64 on, .int .i64 3, .int .i64 to, .slice pp n cap, .int .u8 alg] :: [])).at 0 rfl; have gz := ((Sat.sub (s1) (by with_reducible repeat first | exact Fr1 | exact Fr2 | (apply Fr3; focus ((repeat (first | exact Tk1 | apply Tk2)); done)) | apply Fr4)) : Sat W0 _ (seg true g 0 [.int .i64 on, .int .i64 3, .int .i64 to, .slice pp n cap, .int .u8 alg] :: [])).lt (by simp))
    refine (HP.out w1).mono ?_
    rintro e w2 ⟨rfl, rfl⟩
    clear g0 gz
    have g1 := ((Sat.sub (s1) (by with_reducible repeat first | exact Fr1 | exact Fr2 | (apply Fr3; focus ((repeat (first | exact Tk1 | apply Tk2)); done)) | apply Fr4)) : Sat W0 _ (seg true g 0 [.int .i64 on, .int .i64 3, .int .i64 to, .slice pp n cap, .int .u8 alg] :: [])).at 1 rfl
    have g3 := ((Sat.sub (s1) (by with_reducible repeat first | exact Fr1 | exact Fr2 | (apply Fr3; focus ((repeat (first | exact Tk1 | apply Tk2)); done)) | apply Fr4)) : Sat W0 _ (seg true g 0 [.int .i64 on, .int .i64 3, .int .i64 to, .slice pp n cap, .int .u8 alg] :: [])).at 3 rfl
    have gz := ((Sat.sub (s1) (by with_reducible repeat first | exact Fr1 | exact Fr2 | (apply Fr3; focus ((repeat (first | exact Tk1 | apply Tk2)); done)) | apply Fr4)) : Sat W0 _ (seg true g 0 [.int .i64 on, .int .i64 3, .int .i64 to, .slice pp n cap, .int .u8 alg] :: [])).lt (by simp)
    have x0 := s1.at k HC.out.2.2.1
    have x3 := s1.at (3 + k) HC.out.2.2.2.1
    have x6 := s1.at 6 HC.out.2.2.2.2.1
    have x7 := s1.at 7 HC.out.2.2.2.2.2.1
    have xz := s1.lt (by rw [HC.out.2.2.2.2.2.2.1]; omega)
    simp only [slS, slR, ifv] at x0 x3
    have sg := starsGet HC.out.2.1 ((Sat.sub (s1) (by with_reducible repeat first | exact Fr1 | exact Fr2 | (apply Fr3; focus ((repeat (first | exact Tk1 | apply Tk2)); done)) | apply Fr4)) : Sat W0 _ (stars (S.map slA) :: seg true x 0 C :: seg true g 0 [.int .i64 on, .int .i64 3, .int .i64 to, .slice pp n cap, .int .u8 alg] :: row pt ct 1 N (ts.map pieceV) :: row pw cw 1 N (us.map pieceV) :: ownRows ts :: ownRows us :: ledO (some l) rs :: rledO (some m) rs :: bytes false pp P :: L))
    have sh : Sat W0 _ (dst true pb msg :: rs11 true rb msg :: _) := Sat.sepOpen (show Sat W0 _ (sep (dst true pb msg) (rs11 true rb msg) :: _) from sg)
    have s2 : Sat W0 _ (seg true x 0 C :: seg true g 0 [.int .i64 on, .int .i64 3, .int .i64 to, .slice pp n cap, .int .u8 alg] :: row pt ct 1 N (ts.map pieceV) :: row pw cw 1 N (us.map pieceV) :: ownRows ts :: ownRows us :: ledO (some l) rs :: rledO (some m) rs :: dst true pb msg :: rs11 true rb msg :: stars ((S.map slA).eraseIdx k) :: bytes false pp P :: L) := (Sat.sub (sh) (by with_reducible repeat first | exact Fr1 | exact Fr2 | (apply Fr3; focus ((repeat (first | exact Tk1 | apply Tk2)); done)) | apply Fr4))
    clear sg sh s1
    go_wp2_with fail
    have s2d := s2.drew
    clear x0 x3 x6 x7 xz g1 g3 gz
    refine region_E (fun w' => w'.cell? ⟨x, 6, none⟩ = some (.pointer (some ⟨l, 0, none⟩)) ∧ w'.cell? ⟨x, 7, none⟩ = some (.pointer (some ⟨m, 0, none⟩)) ∧ x < w'.heap.size) [4, 13] (by kernel_rfl) ?_
    have hHeld := (And.intro (Sat.at ((Sat.sub (s2d) (by with_reducible repeat first | exact Fr1 | exact Fr2 | (apply Fr3; focus ((repeat (first | exact Tk1 | apply Tk2)); done)) | apply Fr4)) : Sat W0 _ (seg true x 0 C :: [])) 6 HC.out.2.2.2.2.1) (And.intro (Sat.at ((Sat.sub (s2d) (by with_reducible repeat first | exact Fr1 | exact Fr2 | (apply Fr3; focus ((repeat (first | exact Tk1 | apply Tk2)); done)) | apply Fr4)) : Sat W0 _ (seg true x 0 C :: [])) 7 HC.out.2.2.2.2.2.1) (Sat.lt ((Sat.sub (s2d) (by with_reducible repeat first | exact Fr1 | exact Fr2 | (apply Fr3; focus ((repeat (first | exact Tk1 | apply Tk2)); done)) | apply Fr4)) : Sat W0 _ (seg true x 0 C :: [])) (by rw [HC.out.2.2.2.2.2.2.1]; omega))))
    iterate 5
     first | refine autoT hHeld (by rfl) (by rfl) (x := ?_) (v := ?_) ?_ (by kernel_rfl) ?_ ?_ ?_ | refine autoP (by rfl) (x := ?_) (v := ?_) ?_ (by kernel_rfl) ?_ ?_ ?_
     rotate_left 2
     · (simp only [gE1, gE2, gE3]; rfl)
     · exact fun _ _ _ h => h
     · refine Or.inl ⟨by rfl, fun w hSw => ?_⟩
       (try dsimp only at hSw)
       go_simp
       try (with_reducible rfl)
     try simp only [pA1, pA2, pA3, pA4]
    refine anyE_pure (i := 5) (x := ?_) (v := ?_) ?_ (by kernel_rfl) (by kernel_rfl) (by kernel_rfl) ?_ ?_ ?_
    rotate_left 2
    · (simp only [gE1, gE2, gE3]; rfl)
    · exact fun _ _ _ h => h
    · refine Or.inl ⟨by rfl, fun w hSw => ?_⟩
      (try dsimp only at hSw)
      go_simp
      try (with_reducible rfl)
    try simp only [pA1, pA2, pA3, pA4]
    iterate 7
     first | refine autoT hHeld (by rfl) (by rfl) (x := ?_) (v := ?_) ?_ (by kernel_rfl) ?_ ?_ ?_ | refine autoP (by rfl) (x := ?_) (v := ?_) ?_ (by kernel_rfl) ?_ ?_ ?_
     rotate_left 2
     · (simp only [gE1, gE2, gE3]; rfl)
     · exact fun _ _ _ h => h
     · refine Or.inl ⟨by rfl, fun w hSw => ?_⟩
       (try dsimp only at hSw)
       go_simp
       try (with_reducible rfl)
     try simp only [pA1, pA2, pA3, pA4]
    refine anyE_one (i := 8) (x := ?_) ?_ (by kernel_rfl) (fun K hK => ?_)
    rotate_left
    · (simp only [gE1, gE2, gE3]; rfl)
    go_simp
    refine (dWipeP (pv := .pointer (some ⟨l, 0, none⟩)) true (some l) rs msg rfl (by have := HC.out.2.2.2.2.2.2.2.2.2.2.2.2.1; omega) (by have := HC.out.2.2.2.2.2.2.2.2.2.2.2.2.1; omega) ((Sat.sub (s2d) (by with_reducible repeat first | exact Fr1 | exact Fr2 | (apply Fr3; focus ((repeat (first | exact Tk1 | apply Tk2)); done)) | apply Fr4)) : Sat W0 _ (ledO (some l) rs :: dst true pb msg :: rs11 true rb msg :: rledO (some m) rs :: seg true x 0 C :: row pt ct 1 N (ts.map pieceV) :: row pw cw 1 N (us.map pieceV) :: ownRows ts :: ownRows us :: stars ((S.map slA).eraseIdx k) :: L))).mono ?_
    rintro e w5 ⟨rfl, s5⟩
    go_wp2_with fail
    have hKp := (And.intro (Sat.at ((Sat.sub (s5) (by with_reducible repeat first | exact Fr1 | exact Fr2 | (apply Fr3; focus ((repeat (first | exact Tk1 | apply Tk2)); done)) | apply Fr4)) : Sat W0 _ (seg true x 0 C :: [])) 6 HC.out.2.2.2.2.1) (And.intro (Sat.at ((Sat.sub (s5) (by with_reducible repeat first | exact Fr1 | exact Fr2 | (apply Fr3; focus ((repeat (first | exact Tk1 | apply Tk2)); done)) | apply Fr4)) : Sat W0 _ (seg true x 0 C :: [])) 7 HC.out.2.2.2.2.2.1) (Sat.lt ((Sat.sub (s5) (by with_reducible repeat first | exact Fr1 | exact Fr2 | (apply Fr3; focus ((repeat (first | exact Tk1 | apply Tk2)); done)) | apply Fr4)) : Sat W0 _ (seg true x 0 C :: [])) (by rw [HC.out.2.2.2.2.2.2.1]; omega))))
    refine hK.out _ _ hKp ?_
    clear hK K hHeld
    have hHeld := hKp
    clear hKp
    try simp only [pA1, pA2, pA3, pA4]
    refine anyE_one (i := 14) (x := ?_) ?_ (by kernel_rfl) (fun K hK => ?_)
    rotate_left
    · (simp only [gE1, gE2, gE3]; rfl)
    go_simp
    refine (rs11Wipe (pv := .pointer (some ⟨m, 0, none⟩)) true (some m) rs msg rfl (by have := HC.out.2.2.2.2.2.2.2.2.2.2.2.2.1; omega) (by have := HC.out.2.2.2.2.2.2.2.2.2.2.2.2.1; omega) ((Sat.sub (s5) (by with_reducible repeat first | exact Fr1 | exact Fr2 | (apply Fr3; focus ((repeat (first | exact Tk1 | apply Tk2)); done)) | apply Fr4)) : Sat W0 _ (rledO (some m) rs :: rs11 true rb msg :: gone true pb :: ledO (some l) (noteN rs 8 (fsz true) 1) :: seg true x 0 C :: row pt ct 1 N (ts.map pieceV) :: row pw cw 1 N (us.map pieceV) :: ownRows ts :: ownRows us :: stars ((S.map slA).eraseIdx k) :: L))).mono ?_
    rintro e w6 ⟨rfl, s6⟩
    go_wp2_with fail
    have hKp := (And.intro (Sat.at ((Sat.sub (s6) (by with_reducible repeat first | exact Fr1 | exact Fr2 | (apply Fr3; focus ((repeat (first | exact Tk1 | apply Tk2)); done)) | apply Fr4)) : Sat W0 _ (seg true x 0 C :: [])) 6 HC.out.2.2.2.2.1) (And.intro (Sat.at ((Sat.sub (s6) (by with_reducible repeat first | exact Fr1 | exact Fr2 | (apply Fr3; focus ((repeat (first | exact Tk1 | apply Tk2)); done)) | apply Fr4)) : Sat W0 _ (seg true x 0 C :: [])) 7 HC.out.2.2.2.2.2.1) (Sat.lt ((Sat.sub (s6) (by with_reducible repeat first | exact Fr1 | exact Fr2 | (apply Fr3; focus ((repeat (first | exact Tk1 | apply Tk2)); done)) | apply Fr4)) : Sat W0 _ (seg true x 0 C :: [])) (by rw [HC.out.2.2.2.2.2.2.1]; omega))))
    refine hK.out _ _ hKp ?_
    clear hK K hHeld
    have hHeld := hKp
    clear hKp
    try simp only [pA1, pA2, pA3, pA4]
    iterate 2
     first | refine autoT hHeld (by rfl) (by rfl) (x := ?_) (v := ?_) ?_ (by kernel_rfl) ?_ ?_ ?_ | refine autoP (by rfl) (x := ?_) (v := ?_) ?_ (by kernel_rfl) ?_ ?_ ?_
     rotate_left 2
     · (simp only [gE1, gE2, gE3]; rfl)
     · exact fun _ _ _ h => h
     · refine Or.inl ⟨by rfl, fun w hSw => ?_⟩
       (try dsimp only at hSw)
       go_simp
       try (with_reducible rfl)
     try simp only [pA1, pA2, pA3, pA4]
    refine anyE_done (by kernel_rfl) ?_ _
    clear s2
    have sk : Sat W0 _ (slA (.gone true pb rb) :: _) := Sat.sepShut ((Sat.sub (s6) (by with_reducible repeat first | exact Fr1 | exact Fr2 | (apply Fr3; focus ((repeat (first | exact Tk1 | apply Tk2)); done)) | apply Fr4)) : Sat W0 _ (gone true pb :: rg11 true rb :: stars ((S.map slA).eraseIdx k) :: seg true x 0 C :: row pt ct 1 N (ts.map pieceV) :: row pw cw 1 N (us.map pieceV) :: ownRows ts :: ownRows us :: ledO (some l) (noteN rs 8 (fsz true) 1) :: rledO (some m) (noteN rs 8 (fsz true) 1) :: L))
    have si := starsPut HC.out.2.1 sk
    rw [sameCells (b := .gone true pb rb) HC.out.2.2.2.2.2.2.2.2.2.2.2.2.2.1 hk HC.out.1 HC.out.2.1 rfl rfl] at si
    have sj : Sat W0 _ (wA x l m (S.set k (.gone true pb rb)) ts us pt ct pw cw N (noteN rs 8 (fsz true) 1) L) := (Sat.sub (si) (by with_reducible repeat first | exact Fr1 | exact Fr2 | (apply Fr3; focus ((repeat (first | exact Tk1 | apply Tk2)); done)) | apply Fr4))
    have HS := Lib.hid sj; clear s6 sk si sj
    go_wp2_with fail
    go_ret
    have hl2 := noteN_len rs 8 (fsz true) 1
    exact ⟨rfl, S.set k (.gone true pb rb), ts, us, pt, ct, pw, cw, N, noteN rs 8 (fsz true) 1, okSame HC.out.2.2.2.2.2.2.2.2.2.2.2.2.2 (List.length_set ..) (mem_set_le HC.out.2.2.2.2.2.2.2.2.2.2.2.2.2.2.2.2.2.2.2.2.2 (by omega) (Nat.zero_le _)) (by rw [tot_noteN]; omega) hl2, HS.out⟩
set_option maxRecDepth 100000 in
set_option maxHeartbeats 8000000 in
theorem act_wipeG {W0 w : World} {L : List Assn} {x l m M i N k n cap : Nat} {S : List Sl} {ts us : List Piece} {pt pw pp : Option Addr} {ct cw : Nat} {rs : List Run3} {msg P : List Byte} {pb rb : Nat} (wide : Bool) (on to alg : Int) (hok : okW M i S ts us N rs) (hi : i ≤ 60) (hM : M + n ≤ 100000) (hP : P.length = n) (hnc : n ≤ cap) (hcm : cap ≤ maxLen) (hkp : pickM on 3 = k) (hsk : S[k]? = some (.gone wide pb rb))
    (hs : Sat W0 w (wA x l m S ts us pt ct pw cw N rs (bytes false pp P :: L))) :
    Calls Tryz.prog 9 #[.pointer (some ⟨x, 0, none⟩), .agg #[.int .i64 on, .int .i64 3, .int .i64 to, .slice pp n cap, .int .u8 alg]] w (postA W0 L x l m (M + n) i) := by
  have hk : k < 3 := by rw [← hok.1]; exact (List.getElem?_eq_some_iff.1 hsk).1
  have hslN := hok.2.2.2.2.2.2.2.2 _ (List.mem_of_getElem? hsk)
  obtain ⟨e0, e3⟩ := wc_S (l := l) (m := m) (pt := pt) (pw := pw) (ct := ct) (N := N) (cw := cw) hok.1 k hsk
  obtain ⟨e6, e7, -, -, e10⟩ := wc_at (l := l) (m := m) (pt := pt) (pw := pw) (ct := ct) (N := N) (cw := cw) hok.1
  obtain ⟨C, hC⟩ : ∃ C, C = wCells l m S pt ct N pw cw := ⟨_, rfl⟩
  rw [← hC] at e0 e3 e6 e7 e10
  have s0 : Sat W0 w (seg true x 0 C :: stars (S.map slA) :: row pt ct 1 N (ts.map pieceV) :: row pw cw 1 N (us.map pieceV) :: ownRows ts :: ownRows us :: ledO (some l) rs :: rledO (some m) rs :: bytes false pp P :: L) := by
    rw [hC]; exact (Sat.sub (hs) (by with_reducible repeat first | exact Fr1 | exact Fr2 | (apply Fr3; focus ((repeat (first | exact Tk1 | apply Tk2)); done)) | apply Fr4))
  clear hs
  have hrs : tot rs ≤ 10000000 ∧ rs.length ≤ 1000 := by
    have h1 := hok.2.2.2.2.2.2.1
    have h2 := hok.2.2.2.2.2.2.2.1
    have h3 : 100000 * i ≤ 100000 * 60 := Nat.mul_le_mul_left _ hi
    omega
  have HC := Lib.hid (And.intro hC (And.intro hsk (And.intro e0 (And.intro e3 (And.intro e6 (And.intro e7 (And.intro e10 (And.intro hP (And.intro hnc (And.intro hcm (And.intro hkp (And.intro hslN (And.intro hrs hok))))))))))))); clear hC hsk e0 e3 e6 e7 e10 hP hnc hcm hkp hslN hrs hok
  have hk3 : (k : Int) < 3 := by omega
  have hpk : ∀ w : World, Calls Tryz.prog 21 #[.int .i64 on, .int .i64 3] w fun e w' => e = .returned (.int .i64 (k : Int)) ∧ w = w' := fun w => by
    have := pickW w on 3 (by omega) (by omega)
    rw [HC.out.2.2.2.2.2.2.2.2.2.2.1] at this
    exact this
  have HP := Lib.hid hpk; clear hpk
  cases wide
  · skip
    go_enter Tryz.func9, Tryz.ntmps9
    go_wp2_with (refine wpl_box rfl 43 (.tmp 1) rfl [.int .i64 on, .int .i64 3, .int .i64 to, .slice pp n cap, .int .u8 alg] rfl s0 ?_; intro w1 g s1' _; have s1 : Sat W0 w1 (seg true x 0 C :: seg true g 0 [.int .i64 on, .int .i64 3, .int .i64 to, .slice pp n cap, .int .u8 alg] :: stars (S.map slA) :: row pt ct 1 N (ts.map pieceV) :: row pw cw 1 N (us.map pieceV) :: ownRows ts :: ownRows us :: ledO (some l) rs :: rledO (some m) rs :: bytes false pp P :: L) := (Sat.sub (s1') (by with_reducible repeat first | exact Fr1 | exact Fr2 | (apply Fr3; focus ((repeat (first | exact Tk1 | apply Tk2)); done)) | apply Fr4)); clear s1' s0; have g0 := ((Sat.sub (s1) (by with_reducible repeat first | exact Fr1 | exact Fr2 | (apply Fr3; focus ((repeat (first | exact Tk1 | apply Tk2)); done)) | apply Fr4)) : Sat W0 _ (seg true g 0 [.int .i64 on, .int .i64 3, .int .i64 to, .slice pp n cap, .int .u8 alg] :: [])).at 0 rfl; have gz := ((Sat.sub (s1) (by with_reducible repeat first | exact Fr1 | exact Fr2 | (apply Fr3; focus ((repeat (first | exact Tk1 | apply Tk2)); done)) | apply Fr4)) : Sat W0 _ (seg true g 0 [.int .i64 on, .int .i64 3, .int .i64 to, .slice pp n cap, .int .u8 alg] :: [])).lt (by simp))
    refine (HP.out w1).mono ?_
    rintro e w2 ⟨rfl, rfl⟩
    clear g0 gz
    have g1 := ((Sat.sub (s1) (by with_reducible repeat first | exact Fr1 | exact Fr2 | (apply Fr3; focus ((repeat (first | exact Tk1 | apply Tk2)); done)) | apply Fr4)) : Sat W0 _ (seg true g 0 [.int .i64 on, .int .i64 3, .int .i64 to, .slice pp n cap, .int .u8 alg] :: [])).at 1 rfl
    have g3 := ((Sat.sub (s1) (by with_reducible repeat first | exact Fr1 | exact Fr2 | (apply Fr3; focus ((repeat (first | exact Tk1 | apply Tk2)); done)) | apply Fr4)) : Sat W0 _ (seg true g 0 [.int .i64 on, .int .i64 3, .int .i64 to, .slice pp n cap, .int .u8 alg] :: [])).at 3 rfl
    have gz := ((Sat.sub (s1) (by with_reducible repeat first | exact Fr1 | exact Fr2 | (apply Fr3; focus ((repeat (first | exact Tk1 | apply Tk2)); done)) | apply Fr4)) : Sat W0 _ (seg true g 0 [.int .i64 on, .int .i64 3, .int .i64 to, .slice pp n cap, .int .u8 alg] :: [])).lt (by simp)
    have x0 := s1.at k HC.out.2.2.1
    have x3 := s1.at (3 + k) HC.out.2.2.2.1
    have x6 := s1.at 6 HC.out.2.2.2.2.1
    have x7 := s1.at 7 HC.out.2.2.2.2.2.1
    have xz := s1.lt (by rw [HC.out.2.2.2.2.2.2.1]; omega)
    simp only [slS, slR, ifv] at x0 x3
    have sg := starsGet HC.out.2.1 ((Sat.sub (s1) (by with_reducible repeat first | exact Fr1 | exact Fr2 | (apply Fr3; focus ((repeat (first | exact Tk1 | apply Tk2)); done)) | apply Fr4)) : Sat W0 _ (stars (S.map slA) :: seg true x 0 C :: seg true g 0 [.int .i64 on, .int .i64 3, .int .i64 to, .slice pp n cap, .int .u8 alg] :: row pt ct 1 N (ts.map pieceV) :: row pw cw 1 N (us.map pieceV) :: ownRows ts :: ownRows us :: ledO (some l) rs :: rledO (some m) rs :: bytes false pp P :: L))
    have sh : Sat W0 _ (gone false pb :: rg11 false rb :: _) := Sat.sepOpen (show Sat W0 _ (sep (gone false pb) (rg11 false rb) :: _) from sg)
    have s2 : Sat W0 _ (seg true x 0 C :: seg true g 0 [.int .i64 on, .int .i64 3, .int .i64 to, .slice pp n cap, .int .u8 alg] :: row pt ct 1 N (ts.map pieceV) :: row pw cw 1 N (us.map pieceV) :: ownRows ts :: ownRows us :: ledO (some l) rs :: rledO (some m) rs :: gone false pb :: rg11 false rb :: stars ((S.map slA).eraseIdx k) :: bytes false pp P :: L) := (Sat.sub (sh) (by with_reducible repeat first | exact Fr1 | exact Fr2 | (apply Fr3; focus ((repeat (first | exact Tk1 | apply Tk2)); done)) | apply Fr4))
    clear sg sh s1
    go_wp2_with fail
    have s2d := s2.drew
    clear x0 x3 x6 x7 xz g1 g3 gz
    refine region_E (fun w' => w'.cell? ⟨x, 6, none⟩ = some (.pointer (some ⟨l, 0, none⟩)) ∧ w'.cell? ⟨x, 7, none⟩ = some (.pointer (some ⟨m, 0, none⟩)) ∧ x < w'.heap.size) [4, 13] (by kernel_rfl) ?_
    have hHeld := (And.intro (Sat.at ((Sat.sub (s2d) (by with_reducible repeat first | exact Fr1 | exact Fr2 | (apply Fr3; focus ((repeat (first | exact Tk1 | apply Tk2)); done)) | apply Fr4)) : Sat W0 _ (seg true x 0 C :: [])) 6 HC.out.2.2.2.2.1) (And.intro (Sat.at ((Sat.sub (s2d) (by with_reducible repeat first | exact Fr1 | exact Fr2 | (apply Fr3; focus ((repeat (first | exact Tk1 | apply Tk2)); done)) | apply Fr4)) : Sat W0 _ (seg true x 0 C :: [])) 7 HC.out.2.2.2.2.2.1) (Sat.lt ((Sat.sub (s2d) (by with_reducible repeat first | exact Fr1 | exact Fr2 | (apply Fr3; focus ((repeat (first | exact Tk1 | apply Tk2)); done)) | apply Fr4)) : Sat W0 _ (seg true x 0 C :: [])) (by rw [HC.out.2.2.2.2.2.2.1]; omega))))
    iterate 5
     first | refine autoT hHeld (by rfl) (by rfl) (x := ?_) (v := ?_) ?_ (by kernel_rfl) ?_ ?_ ?_ | refine autoP (by rfl) (x := ?_) (v := ?_) ?_ (by kernel_rfl) ?_ ?_ ?_
     rotate_left 2
     · (simp only [gE1, gE2, gE3]; rfl)
     · exact fun _ _ _ h => h
     · refine Or.inl ⟨by rfl, fun w hSw => ?_⟩
       (try dsimp only at hSw)
       go_simp
       try (with_reducible rfl)
     try simp only [pA1, pA2, pA3, pA4]
    refine anyE_pure (i := 5) (x := ?_) (v := ?_) ?_ (by kernel_rfl) (by kernel_rfl) (by kernel_rfl) ?_ ?_ ?_
    rotate_left 2
    · (simp only [gE1, gE2, gE3]; rfl)
    · exact fun _ _ _ h => h
    · refine Or.inl ⟨by rfl, fun w hSw => ?_⟩
      (try dsimp only at hSw)
      go_simp
      try (with_reducible rfl)
    try simp only [pA1, pA2, pA3, pA4]
    iterate 7
     first | refine autoT hHeld (by rfl) (by rfl) (x := ?_) (v := ?_) ?_ (by kernel_rfl) ?_ ?_ ?_ | refine autoP (by rfl) (x := ?_) (v := ?_) ?_ (by kernel_rfl) ?_ ?_ ?_
     rotate_left 2
     · (simp only [gE1, gE2, gE3]; rfl)
     · exact fun _ _ _ h => h
     · refine Or.inl ⟨by rfl, fun w hSw => ?_⟩
       (try dsimp only at hSw)
       go_simp
       try (with_reducible rfl)
     try simp only [pA1, pA2, pA3, pA4]
    refine anyE_one (i := 8) (x := ?_) ?_ (by kernel_rfl) (fun K hK => ?_)
    rotate_left
    · (simp only [gE1, gE2, gE3]; rfl)
    go_simp
    refine (gWipe false (.pointer (some ⟨l, 0, none⟩)) ((Sat.sub (s2d) (by with_reducible repeat first | exact Fr1 | exact Fr2 | (apply Fr3; focus ((repeat (first | exact Tk1 | apply Tk2)); done)) | apply Fr4)) : Sat W0 _ (gone false pb :: []))).mono ?_
    rintro e w5 ⟨rfl, rfl⟩
    go_wp2_with fail
    have hKp := (And.intro (Sat.at ((Sat.sub (s2d) (by with_reducible repeat first | exact Fr1 | exact Fr2 | (apply Fr3; focus ((repeat (first | exact Tk1 | apply Tk2)); done)) | apply Fr4)) : Sat W0 _ (seg true x 0 C :: [])) 6 HC.out.2.2.2.2.1) (And.intro (Sat.at ((Sat.sub (s2d) (by with_reducible repeat first | exact Fr1 | exact Fr2 | (apply Fr3; focus ((repeat (first | exact Tk1 | apply Tk2)); done)) | apply Fr4)) : Sat W0 _ (seg true x 0 C :: [])) 7 HC.out.2.2.2.2.2.1) (Sat.lt ((Sat.sub (s2d) (by with_reducible repeat first | exact Fr1 | exact Fr2 | (apply Fr3; focus ((repeat (first | exact Tk1 | apply Tk2)); done)) | apply Fr4)) : Sat W0 _ (seg true x 0 C :: [])) (by rw [HC.out.2.2.2.2.2.2.1]; omega))))
    refine hK.out _ _ hKp ?_
    clear hK K hHeld
    have hHeld := hKp
    clear hKp
    try simp only [pA1, pA2, pA3, pA4]
    refine anyE_one (i := 14) (x := ?_) ?_ (by kernel_rfl) (fun K hK => ?_)
    rotate_left
    · (simp only [gE1, gE2, gE3]; rfl)
    go_simp
    refine (rg11Wipe false (.pointer (some ⟨m, 0, none⟩)) ((Sat.sub (s2d) (by with_reducible repeat first | exact Fr1 | exact Fr2 | (apply Fr3; focus ((repeat (first | exact Tk1 | apply Tk2)); done)) | apply Fr4)) : Sat W0 _ (rg11 false rb :: []))).mono ?_
    rintro e w6 ⟨rfl, rfl⟩
    have s6 := s2d
    go_wp2_with fail
    have hKp := (And.intro (Sat.at ((Sat.sub (s6) (by with_reducible repeat first | exact Fr1 | exact Fr2 | (apply Fr3; focus ((repeat (first | exact Tk1 | apply Tk2)); done)) | apply Fr4)) : Sat W0 _ (seg true x 0 C :: [])) 6 HC.out.2.2.2.2.1) (And.intro (Sat.at ((Sat.sub (s6) (by with_reducible repeat first | exact Fr1 | exact Fr2 | (apply Fr3; focus ((repeat (first | exact Tk1 | apply Tk2)); done)) | apply Fr4)) : Sat W0 _ (seg true x 0 C :: [])) 7 HC.out.2.2.2.2.2.1) (Sat.lt ((Sat.sub (s6) (by with_reducible repeat first | exact Fr1 | exact Fr2 | (apply Fr3; focus ((repeat (first | exact Tk1 | apply Tk2)); done)) | apply Fr4)) : Sat W0 _ (seg true x 0 C :: [])) (by rw [HC.out.2.2.2.2.2.2.1]; omega))))
    refine hK.out _ _ hKp ?_
    clear hK K hHeld
    have hHeld := hKp
    clear hKp
    try simp only [pA1, pA2, pA3, pA4]
    iterate 2
     first | refine autoT hHeld (by rfl) (by rfl) (x := ?_) (v := ?_) ?_ (by kernel_rfl) ?_ ?_ ?_ | refine autoP (by rfl) (x := ?_) (v := ?_) ?_ (by kernel_rfl) ?_ ?_ ?_
     rotate_left 2
     · (simp only [gE1, gE2, gE3]; rfl)
     · exact fun _ _ _ h => h
     · refine Or.inl ⟨by rfl, fun w hSw => ?_⟩
       (try dsimp only at hSw)
       go_simp
       try (with_reducible rfl)
     try simp only [pA1, pA2, pA3, pA4]
    refine anyE_done (by kernel_rfl) ?_ _
    clear s2
    have sk : Sat W0 _ (slA (.gone false pb rb) :: _) := Sat.sepShut ((Sat.sub (s6) (by with_reducible repeat first | exact Fr1 | exact Fr2 | (apply Fr3; focus ((repeat (first | exact Tk1 | apply Tk2)); done)) | apply Fr4)) : Sat W0 _ (gone false pb :: rg11 false rb :: stars ((S.map slA).eraseIdx k) :: seg true x 0 C :: row pt ct 1 N (ts.map pieceV) :: row pw cw 1 N (us.map pieceV) :: ownRows ts :: ownRows us :: ledO (some l) (rs) :: rledO (some m) (rs) :: L))
    have si := starsPut HC.out.2.1 sk
    rw [sameCells (b := .gone false pb rb) HC.out.2.2.2.2.2.2.2.2.2.2.2.2.2.1 hk HC.out.1 HC.out.2.1 rfl rfl] at si
    have sj : Sat W0 _ (wA x l m (S.set k (.gone false pb rb)) ts us pt ct pw cw N (rs) L) := (Sat.sub (si) (by with_reducible repeat first | exact Fr1 | exact Fr2 | (apply Fr3; focus ((repeat (first | exact Tk1 | apply Tk2)); done)) | apply Fr4))
    have HS := Lib.hid sj; clear s6 sk si sj
    go_wp2_with fail
    go_ret
    have hl2 := Nat.le_succ rs.length
    exact ⟨rfl, S.set k (.gone false pb rb), ts, us, pt, ct, pw, cw, N, rs, okSame HC.out.2.2.2.2.2.2.2.2.2.2.2.2.2 (List.length_set ..) (mem_set_le HC.out.2.2.2.2.2.2.2.2.2.2.2.2.2.2.2.2.2.2.2.2.2 (by omega) (Nat.zero_le _)) (by omega) (by omega), HS.out⟩
  · skip
    go_enter Tryz.func9, Tryz.ntmps9
    go_wp2_with (refine wpl_box rfl 43 (.tmp 1) rfl [.int .i64 on, .int .i64 3, .int .i64 to, .slice pp n cap, .int .u8 alg] rfl s0 ?_; intro w1 g s1' _; have s1 : Sat W0 w1 (seg true x 0 C :: seg true g 0 [.int .i64 on, .int .i64 3, .int .i64 to, .slice pp n cap, .int .u8 alg] :: stars (S.map slA) :: row pt ct 1 N (ts.map pieceV) :: row pw cw 1 N (us.map pieceV) :: ownRows ts :: ownRows us :: ledO (some l) rs :: rledO (some m) rs :: bytes false pp P :: L) := (Sat.sub (s1') (by with_reducible repeat first | exact Fr1 | exact Fr2 | (apply Fr3; focus ((repeat (first | exact Tk1 | apply Tk2)); done)) | apply Fr4)); clear s1' s0; have g0 := ((Sat.sub (s1) (by with_reducible repeat first | exact Fr1 | exact Fr2 | (apply Fr3; focus ((repeat (first | exact Tk1 | apply Tk2)); done)) | apply Fr4)) : Sat W0 _ (seg true g 0 [.int .i64 on, .int .i64 3, .int .i64 to, .slice pp n cap, .int .u8 alg] :: [])).at 0 rfl; have gz := ((Sat.sub (s1) (by with_reducible repeat first | exact Fr1 | exact Fr2 | (apply Fr3; focus ((repeat (first | exact Tk1 | apply Tk2)); done)) | apply Fr4)) : Sat W0 _ (seg true g 0 [.int .i64 on, .int .i64 3, .int .i64 to, .slice pp n cap, .int .u8 alg] :: [])).lt (by simp))
    refine (HP.out w1).mono ?_
    rintro e w2 ⟨rfl, rfl⟩
    clear g0 gz
    have g1 := ((Sat.sub (s1) (by with_reducible repeat first | exact Fr1 | exact Fr2 | (apply Fr3; focus ((repeat (first | exact Tk1 | apply Tk2)); done)) | apply Fr4)) : Sat W0 _ (seg true g 0 [.int .i64 on, .int .i64 3, .int .i64 to, .slice pp n cap, .int .u8 alg] :: [])).at 1 rfl
    have g3 := ((Sat.sub (s1) (by with_reducible repeat first | exact Fr1 | exact Fr2 | (apply Fr3; focus ((repeat (first | exact Tk1 | apply Tk2)); done)) | apply Fr4)) : Sat W0 _ (seg true g 0 [.int .i64 on, .int .i64 3, .int .i64 to, .slice pp n cap, .int .u8 alg] :: [])).at 3 rfl
    have gz := ((Sat.sub (s1) (by with_reducible repeat first | exact Fr1 | exact Fr2 | (apply Fr3; focus ((repeat (first | exact Tk1 | apply Tk2)); done)) | apply Fr4)) : Sat W0 _ (seg true g 0 [.int .i64 on, .int .i64 3, .int .i64 to, .slice pp n cap, .int .u8 alg] :: [])).lt (by simp)
    have x0 := s1.at k HC.out.2.2.1
    have x3 := s1.at (3 + k) HC.out.2.2.2.1
    have x6 := s1.at 6 HC.out.2.2.2.2.1
    have x7 := s1.at 7 HC.out.2.2.2.2.2.1
    have xz := s1.lt (by rw [HC.out.2.2.2.2.2.2.1]; omega)
    simp only [slS, slR, ifv] at x0 x3
    have sg := starsGet HC.out.2.1 ((Sat.sub (s1) (by with_reducible repeat first | exact Fr1 | exact Fr2 | (apply Fr3; focus ((repeat (first | exact Tk1 | apply Tk2)); done)) | apply Fr4)) : Sat W0 _ (stars (S.map slA) :: seg true x 0 C :: seg true g 0 [.int .i64 on, .int .i64 3, .int .i64 to, .slice pp n cap, .int .u8 alg] :: row pt ct 1 N (ts.map pieceV) :: row pw cw 1 N (us.map pieceV) :: ownRows ts :: ownRows us :: ledO (some l) rs :: rledO (some m) rs :: bytes false pp P :: L))
    have sh : Sat W0 _ (gone true pb :: rg11 true rb :: _) := Sat.sepOpen (show Sat W0 _ (sep (gone true pb) (rg11 true rb) :: _) from sg)
    have s2 : Sat W0 _ (seg true x 0 C :: seg true g 0 [.int .i64 on, .int .i64 3, .int .i64 to, .slice pp n cap, .int .u8 alg] :: row pt ct 1 N (ts.map pieceV) :: row pw cw 1 N (us.map pieceV) :: ownRows ts :: ownRows us :: ledO (some l) rs :: rledO (some m) rs :: gone true pb :: rg11 true rb :: stars ((S.map slA).eraseIdx k) :: bytes false pp P :: L) := (Sat.sub (sh) (by with_reducible repeat first | exact Fr1 | exact Fr2 | (apply Fr3; focus ((repeat (first | exact Tk1 | apply Tk2)); done)) | apply Fr4))
    clear sg sh s1
    go_wp2_with fail
    have s2d := s2.drew
    clear x0 x3 x6 x7 xz g1 g3 gz
    refine region_E (fun w' => w'.cell? ⟨x, 6, none⟩ = some (.pointer (some ⟨l, 0, none⟩)) ∧ w'.cell? ⟨x, 7, none⟩ = some (.pointer (some ⟨m, 0, none⟩)) ∧ x < w'.heap.size) [4, 13] (by kernel_rfl) ?_
    have hHeld := (And.intro (Sat.at ((Sat.sub (s2d) (by with_reducible repeat first | exact Fr1 | exact Fr2 | (apply Fr3; focus ((repeat (first | exact Tk1 | apply Tk2)); done)) | apply Fr4)) : Sat W0 _ (seg true x 0 C :: [])) 6 HC.out.2.2.2.2.1) (And.intro (Sat.at ((Sat.sub (s2d) (by with_reducible repeat first | exact Fr1 | exact Fr2 | (apply Fr3; focus ((repeat (first | exact Tk1 | apply Tk2)); done)) | apply Fr4)) : Sat W0 _ (seg true x 0 C :: [])) 7 HC.out.2.2.2.2.2.1) (Sat.lt ((Sat.sub (s2d) (by with_reducible repeat first | exact Fr1 | exact Fr2 | (apply Fr3; focus ((repeat (first | exact Tk1 | apply Tk2)); done)) | apply Fr4)) : Sat W0 _ (seg true x 0 C :: [])) (by rw [HC.out.2.2.2.2.2.2.1]; omega))))
    iterate 5
     first | refine autoT hHeld (by rfl) (by rfl) (x := ?_) (v := ?_) ?_ (by kernel_rfl) ?_ ?_ ?_ | refine autoP (by rfl) (x := ?_) (v := ?_) ?_ (by kernel_rfl) ?_ ?_ ?_
     rotate_left 2
     · (simp only [gE1, gE2, gE3]; rfl)
     · exact fun _ _ _ h => h
     · refine Or.inl ⟨by rfl, fun w hSw => ?_⟩
       (try dsimp only at hSw)
       go_simp
       try (with_reducible rfl)
     try simp only [pA1, pA2, pA3, pA4]
    refine anyE_pure (i := 5) (x := ?_) (v := ?_) ?_ (by kernel_rfl) (by kernel_rfl) (by kernel_rfl) ?_ ?_ ?_
    rotate_left 2
    · (simp only [gE1, gE2, gE3]; rfl)
    · exact fun _ _ _ h => h
    · refine Or.inl ⟨by rfl, fun w hSw => ?_⟩
      (try dsimp only at hSw)
      go_simp
      try (with_reducible rfl)
    try simp only [pA1, pA2, pA3, pA4]
    iterate 7
     first | refine autoT hHeld (by rfl) (by rfl) (x := ?_) (v := ?_) ?_ (by kernel_rfl) ?_ ?_ ?_ | refine autoP (by rfl) (x := ?_) (v := ?_) ?_ (by kernel_rfl) ?_ ?_ ?_
     rotate_left 2
     · (simp only [gE1, gE2, gE3]; rfl)
     · exact fun _ _ _ h => h
     · refine Or.inl ⟨by rfl, fun w hSw => ?_⟩
       (try dsimp only at hSw)
       go_simp
       try (with_reducible rfl)
     try simp only [pA1, pA2, pA3, pA4]
    refine anyE_one (i := 8) (x := ?_) ?_ (by kernel_rfl) (fun K hK => ?_)
    rotate_left
    · (simp only [gE1, gE2, gE3]; rfl)
    go_simp
    refine (gWipe true (.pointer (some ⟨l, 0, none⟩)) ((Sat.sub (s2d) (by with_reducible repeat first | exact Fr1 | exact Fr2 | (apply Fr3; focus ((repeat (first | exact Tk1 | apply Tk2)); done)) | apply Fr4)) : Sat W0 _ (gone true pb :: []))).mono ?_
    rintro e w5 ⟨rfl, rfl⟩
    go_wp2_with fail
    have hKp := (And.intro (Sat.at ((Sat.sub (s2d) (by with_reducible repeat first | exact Fr1 | exact Fr2 | (apply Fr3; focus ((repeat (first | exact Tk1 | apply Tk2)); done)) | apply Fr4)) : Sat W0 _ (seg true x 0 C :: [])) 6 HC.out.2.2.2.2.1) (And.intro (Sat.at ((Sat.sub (s2d) (by with_reducible repeat first | exact Fr1 | exact Fr2 | (apply Fr3; focus ((repeat (first | exact Tk1 | apply Tk2)); done)) | apply Fr4)) : Sat W0 _ (seg true x 0 C :: [])) 7 HC.out.2.2.2.2.2.1) (Sat.lt ((Sat.sub (s2d) (by with_reducible repeat first | exact Fr1 | exact Fr2 | (apply Fr3; focus ((repeat (first | exact Tk1 | apply Tk2)); done)) | apply Fr4)) : Sat W0 _ (seg true x 0 C :: [])) (by rw [HC.out.2.2.2.2.2.2.1]; omega))))
    refine hK.out _ _ hKp ?_
    clear hK K hHeld
    have hHeld := hKp
    clear hKp
    try simp only [pA1, pA2, pA3, pA4]
    refine anyE_one (i := 14) (x := ?_) ?_ (by kernel_rfl) (fun K hK => ?_)
    rotate_left
    · (simp only [gE1, gE2, gE3]; rfl)
    go_simp
    refine (rg11Wipe true (.pointer (some ⟨m, 0, none⟩)) ((Sat.sub (s2d) (by with_reducible repeat first | exact Fr1 | exact Fr2 | (apply Fr3; focus ((repeat (first | exact Tk1 | apply Tk2)); done)) | apply Fr4)) : Sat W0 _ (rg11 true rb :: []))).mono ?_
    rintro e w6 ⟨rfl, rfl⟩
    have s6 := s2d
    go_wp2_with fail
    have hKp := (And.intro (Sat.at ((Sat.sub (s6) (by with_reducible repeat first | exact Fr1 | exact Fr2 | (apply Fr3; focus ((repeat (first | exact Tk1 | apply Tk2)); done)) | apply Fr4)) : Sat W0 _ (seg true x 0 C :: [])) 6 HC.out.2.2.2.2.1) (And.intro (Sat.at ((Sat.sub (s6) (by with_reducible repeat first | exact Fr1 | exact Fr2 | (apply Fr3; focus ((repeat (first | exact Tk1 | apply Tk2)); done)) | apply Fr4)) : Sat W0 _ (seg true x 0 C :: [])) 7 HC.out.2.2.2.2.2.1) (Sat.lt ((Sat.sub (s6) (by with_reducible repeat first | exact Fr1 | exact Fr2 | (apply Fr3; focus ((repeat (first | exact Tk1 | apply Tk2)); done)) | apply Fr4)) : Sat W0 _ (seg true x 0 C :: [])) (by rw [HC.out.2.2.2.2.2.2.1]; omega))))
    refine hK.out _ _ hKp ?_
    clear hK K hHeld
    have hHeld := hKp
    clear hKp
    try simp only [pA1, pA2, pA3, pA4]
    iterate 2
     first | refine autoT hHeld (by rfl) (by rfl) (x := ?_) (v := ?_) ?_ (by kernel_rfl) ?_ ?_ ?_ | refine autoP (by rfl) (x := ?_) (v := ?_) ?_ (by kernel_rfl) ?_ ?_ ?_
     rotate_left 2
     · (simp only [gE1, gE2, gE3]; rfl)
     · exact fun _ _ _ h => h
     · refine Or.inl ⟨by rfl, fun w hSw => ?_⟩
       (try dsimp only at hSw)
       go_simp
       try (with_reducible rfl)
     try simp only [pA1, pA2, pA3, pA4]
    refine anyE_done (by kernel_rfl) ?_ _
    clear s2
    have sk : Sat W0 _ (slA (.gone true pb rb) :: _) := Sat.sepShut ((Sat.sub (s6) (by with_reducible repeat first | exact Fr1 | exact Fr2 | (apply Fr3; focus ((repeat (first | exact Tk1 | apply Tk2)); done)) | apply Fr4)) : Sat W0 _ (gone true pb :: rg11 true rb :: stars ((S.map slA).eraseIdx k) :: seg true x 0 C :: row pt ct 1 N (ts.map pieceV) :: row pw cw 1 N (us.map pieceV) :: ownRows ts :: ownRows us :: ledO (some l) (rs) :: rledO (some m) (rs) :: L))
    have si := starsPut HC.out.2.1 sk
    rw [sameCells (b := .gone true pb rb) HC.out.2.2.2.2.2.2.2.2.2.2.2.2.2.1 hk HC.out.1 HC.out.2.1 rfl rfl] at si
    have sj : Sat W0 _ (wA x l m (S.set k (.gone true pb rb)) ts us pt ct pw cw N (rs) L) := (Sat.sub (si) (by with_reducible repeat first | exact Fr1 | exact Fr2 | (apply Fr3; focus ((repeat (first | exact Tk1 | apply Tk2)); done)) | apply Fr4))
    have HS := Lib.hid sj; clear s6 sk si sj
    go_wp2_with fail
    go_ret
    have hl2 := Nat.le_succ rs.length
    exact ⟨rfl, S.set k (.gone true pb rb), ts, us, pt, ct, pw, cw, N, rs, okSame HC.out.2.2.2.2.2.2.2.2.2.2.2.2.2 (List.length_set ..) (mem_set_le HC.out.2.2.2.2.2.2.2.2.2.2.2.2.2.2.2.2.2.2.2.2.2 (by omega) (Nat.zero_le _)) (by omega) (by omega), HS.out⟩
set_option maxRecDepth 100000 in
set_option maxHeartbeats 8000000 in
theorem act_writeG {W0 w : World} {L : List Assn} {x l m M i N k n cap : Nat} {S : List Sl} {ts us : List Piece} {pt pw pp : Option Addr} {ct cw : Nat} {rs : List Run3} {msg P : List Byte} {pb rb : Nat} (wide : Bool) (on to alg : Int) (hok : okW M i S ts us N rs) (hi : i ≤ 60) (hM : M + n ≤ 100000) (hP : P.length = n) (hnc : n ≤ cap) (hcm : cap ≤ maxLen) (hkp : pickM on 3 = k) (hsk : S[k]? = some (.gone wide pb rb))
    (hs : Sat W0 w (wA x l m S ts us pt ct pw cw N rs (bytes false pp P :: L))) :
    Calls Tryz.prog 9 #[.pointer (some ⟨x, 0, none⟩), .agg #[.int .i64 on, .int .i64 0, .int .i64 to, .slice pp n cap, .int .u8 alg]] w (postA W0 L x l m (M + n) i) := by
  have hk : k < 3 := by rw [← hok.1]; exact (List.getElem?_eq_some_iff.1 hsk).1
  have hslN := hok.2.2.2.2.2.2.2.2 _ (List.mem_of_getElem? hsk)
  obtain ⟨e0, e3⟩ := wc_S (l := l) (m := m) (pt := pt) (pw := pw) (ct := ct) (N := N) (cw := cw) hok.1 k hsk
  obtain ⟨e6, e7, -, -, e10⟩ := wc_at (l := l) (m := m) (pt := pt) (pw := pw) (ct := ct) (N := N) (cw := cw) hok.1
  obtain ⟨C, hC⟩ : ∃ C, C = wCells l m S pt ct N pw cw := ⟨_, rfl⟩
  rw [← hC] at e0 e3 e6 e7 e10
  have s0 : Sat W0 w (seg true x 0 C :: stars (S.map slA) :: row pt ct 1 N (ts.map pieceV) :: row pw cw 1 N (us.map pieceV) :: ownRows ts :: ownRows us :: ledO (some l) rs :: rledO (some m) rs :: bytes false pp P :: L) := by
    rw [hC]; exact (Sat.sub (hs) (by with_reducible repeat first | exact Fr1 | exact Fr2 | (apply Fr3; focus ((repeat (first | exact Tk1 | apply Tk2)); done)) | apply Fr4))
  clear hs
  have hrs : tot rs ≤ 10000000 ∧ rs.length ≤ 1000 := by
    have h1 := hok.2.2.2.2.2.2.1
    have h2 := hok.2.2.2.2.2.2.2.1
    have h3 : 100000 * i ≤ 100000 * 60 := Nat.mul_le_mul_left _ hi
    omega
  have HC := Lib.hid (And.intro hC (And.intro hsk (And.intro e0 (And.intro e3 (And.intro e6 (And.intro e7 (And.intro e10 (And.intro hP (And.intro hnc (And.intro hcm (And.intro hkp (And.intro hslN (And.intro hrs hok))))))))))))); clear hC hsk e0 e3 e6 e7 e10 hP hnc hcm hkp hslN hrs hok
  have hk3 : (k : Int) < 3 := by omega
  have hpk : ∀ w : World, Calls Tryz.prog 21 #[.int .i64 on, .int .i64 3] w fun e w' => e = .returned (.int .i64 (k : Int)) ∧ w = w' := fun w => by
    have := pickW w on 3 (by omega) (by omega)
    rw [HC.out.2.2.2.2.2.2.2.2.2.2.1] at this
    exact this
  have HP := Lib.hid hpk; clear hpk
  cases wide
  · skip
    go_enter Tryz.func9, Tryz.ntmps9
    go_wp2_with (refine wpl_box rfl 43 (.tmp 1) rfl [.int .i64 on, .int .i64 0, .int .i64 to, .slice pp n cap, .int .u8 alg] rfl s0 ?_; intro w1 g s1' _; have s1 : Sat W0 w1 (seg true x 0 C :: seg true g 0 [.int .i64 on, .int .i64 0, .int .i64 to, .slice pp n cap, .int .u8 alg] :: stars (S.map slA) :: row pt ct 1 N (ts.map pieceV) :: row pw cw 1 N (us.map pieceV) :: ownRows ts :: ownRows us :: ledO (some l) rs :: rledO (some m) rs :: bytes false pp P :: L) := (Sat.sub (s1') (by with_reducible repeat first | exact Fr1 | exact Fr2 | (apply Fr3; focus ((repeat (first | exact Tk1 | apply Tk2)); done)) | apply Fr4)); clear s1' s0; have g0 := ((Sat.sub (s1) (by with_reducible repeat first | exact Fr1 | exact Fr2 | (apply Fr3; focus ((repeat (first | exact Tk1 | apply Tk2)); done)) | apply Fr4)) : Sat W0 _ (seg true g 0 [.int .i64 on, .int .i64 0, .int .i64 to, .slice pp n cap, .int .u8 alg] :: [])).at 0 rfl; have gz := ((Sat.sub (s1) (by with_reducible repeat first | exact Fr1 | exact Fr2 | (apply Fr3; focus ((repeat (first | exact Tk1 | apply Tk2)); done)) | apply Fr4)) : Sat W0 _ (seg true g 0 [.int .i64 on, .int .i64 0, .int .i64 to, .slice pp n cap, .int .u8 alg] :: [])).lt (by simp))
    refine (HP.out w1).mono ?_
    rintro e w2 ⟨rfl, rfl⟩
    clear g0 gz
    have g1 := ((Sat.sub (s1) (by with_reducible repeat first | exact Fr1 | exact Fr2 | (apply Fr3; focus ((repeat (first | exact Tk1 | apply Tk2)); done)) | apply Fr4)) : Sat W0 _ (seg true g 0 [.int .i64 on, .int .i64 0, .int .i64 to, .slice pp n cap, .int .u8 alg] :: [])).at 1 rfl
    have g3 := ((Sat.sub (s1) (by with_reducible repeat first | exact Fr1 | exact Fr2 | (apply Fr3; focus ((repeat (first | exact Tk1 | apply Tk2)); done)) | apply Fr4)) : Sat W0 _ (seg true g 0 [.int .i64 on, .int .i64 0, .int .i64 to, .slice pp n cap, .int .u8 alg] :: [])).at 3 rfl
    have gz := ((Sat.sub (s1) (by with_reducible repeat first | exact Fr1 | exact Fr2 | (apply Fr3; focus ((repeat (first | exact Tk1 | apply Tk2)); done)) | apply Fr4)) : Sat W0 _ (seg true g 0 [.int .i64 on, .int .i64 0, .int .i64 to, .slice pp n cap, .int .u8 alg] :: [])).lt (by simp)
    have x0 := s1.at k HC.out.2.2.1
    have x3 := s1.at (3 + k) HC.out.2.2.2.1
    have x6 := s1.at 6 HC.out.2.2.2.2.1
    have x7 := s1.at 7 HC.out.2.2.2.2.2.1
    have xz := s1.lt (by rw [HC.out.2.2.2.2.2.2.1]; omega)
    simp only [slS, slR, ifv] at x0 x3
    have sg := starsGet HC.out.2.1 ((Sat.sub (s1) (by with_reducible repeat first | exact Fr1 | exact Fr2 | (apply Fr3; focus ((repeat (first | exact Tk1 | apply Tk2)); done)) | apply Fr4)) : Sat W0 _ (stars (S.map slA) :: seg true x 0 C :: seg true g 0 [.int .i64 on, .int .i64 0, .int .i64 to, .slice pp n cap, .int .u8 alg] :: row pt ct 1 N (ts.map pieceV) :: row pw cw 1 N (us.map pieceV) :: ownRows ts :: ownRows us :: ledO (some l) rs :: rledO (some m) rs :: bytes false pp P :: L))
    have sh : Sat W0 _ (gone false pb :: rg11 false rb :: _) := Sat.sepOpen (show Sat W0 _ (sep (gone false pb) (rg11 false rb) :: _) from sg)
    have s2 : Sat W0 _ (bytes false pp P :: seg true x 0 C :: seg true g 0 [.int .i64 on, .int .i64 0, .int .i64 to, .slice pp n cap, .int .u8 alg] :: row pt ct 1 N (ts.map pieceV) :: row pw cw 1 N (us.map pieceV) :: ownRows ts :: ownRows us :: ledO (some l) rs :: rledO (some m) rs :: gone false pb :: rg11 false rb :: stars ((S.map slA).eraseIdx k) :: L) := (Sat.sub (sh) (by with_reducible repeat first | exact Fr1 | exact Fr2 | (apply Fr3; focus ((repeat (first | exact Tk1 | apply Tk2)); done)) | apply Fr4))
    clear sg sh s1
    go_wp2_with fail
    refine (lentF P HC.out.2.2.2.2.2.2.2.1 (by omega) s2).mono ?_
    rintro e w3 ⟨q, c, rfl, hc1, hc2, s3⟩
    clear s2 x0 x3 x6 x7 xz g1 g3 gz
    have HW := Lib.hid (And.intro hc1 hc2); clear hc2
    have hc0 : n ≤ c := by omega
    obtain ⟨q2, s4', hj⟩ := bytesSplit (A := P) (B := marks 7 6) (by intro h; have := congrArg List.length h; simp [marks_len] at this) s3
    have s4 : Sat W0 w3 (seg true x 0 C :: seg true g 0 [.int .i64 on, .int .i64 0, .int .i64 to, .slice pp n cap, .int .u8 alg] :: bytes true q P :: bytes true q2 (marks 7 6) :: row pt ct 1 N (ts.map pieceV) :: row pw cw 1 N (us.map pieceV) :: ownRows ts :: ownRows us :: ledO (some l) rs :: rledO (some m) rs :: gone false pb :: rg11 false rb :: stars ((S.map slA).eraseIdx k) :: bytes false pp P :: L) := (Sat.sub (s4') (by with_reducible repeat first | exact Fr1 | exact Fr2 | (apply Fr3; focus ((repeat (first | exact Tk1 | apply Tk2)); done)) | apply Fr4))
    have HJ := Lib.hid hj; clear hj s3 s4'
    have g1 := ((Sat.sub (s4) (by with_reducible repeat first | exact Fr1 | exact Fr2 | (apply Fr3; focus ((repeat (first | exact Tk1 | apply Tk2)); done)) | apply Fr4)) : Sat W0 _ (seg true g 0 [.int .i64 on, .int .i64 0, .int .i64 to, .slice pp n cap, .int .u8 alg] :: [])).at 1 rfl
    have g3 := ((Sat.sub (s4) (by with_reducible repeat first | exact Fr1 | exact Fr2 | (apply Fr3; focus ((repeat (first | exact Tk1 | apply Tk2)); done)) | apply Fr4)) : Sat W0 _ (seg true g 0 [.int .i64 on, .int .i64 0, .int .i64 to, .slice pp n cap, .int .u8 alg] :: [])).at 3 rfl
    have gz := ((Sat.sub (s4) (by with_reducible repeat first | exact Fr1 | exact Fr2 | (apply Fr3; focus ((repeat (first | exact Tk1 | apply Tk2)); done)) | apply Fr4)) : Sat W0 _ (seg true g 0 [.int .i64 on, .int .i64 0, .int .i64 to, .slice pp n cap, .int .u8 alg] :: [])).lt (by simp)
    have x0 := s4.at k HC.out.2.2.1
    have x3 := s4.at (3 + k) HC.out.2.2.2.1
    have x6 := s4.at 6 HC.out.2.2.2.2.1
    have x7 := s4.at 7 HC.out.2.2.2.2.2.1
    have xz := s4.lt (by rw [HC.out.2.2.2.2.2.2.1]; omega)
    simp only [slS, slR, ifv] at x0 x3
    go_wp2_with fail
    have s4d := s4.drew
    clear x0 x3 x6 x7 xz g1 g3 gz
    refine region_E (fun w' => w'.cell? ⟨x, 6, none⟩ = some (.pointer (some ⟨l, 0, none⟩)) ∧ x < w'.heap.size ∧ w'.cell? ⟨g, 3, none⟩ = some (.slice pp n cap) ∧ g < w'.heap.size) [4, 7] (by kernel_rfl) ?_
    have hHeld := (And.intro (Sat.at ((Sat.sub (s4d) (by with_reducible repeat first | exact Fr1 | exact Fr2 | (apply Fr3; focus ((repeat (first | exact Tk1 | apply Tk2)); done)) | apply Fr4)) : Sat W0 _ (seg true x 0 C :: [])) 6 HC.out.2.2.2.2.1) (And.intro (Sat.lt ((Sat.sub (s4d) (by with_reducible repeat first | exact Fr1 | exact Fr2 | (apply Fr3; focus ((repeat (first | exact Tk1 | apply Tk2)); done)) | apply Fr4)) : Sat W0 _ (seg true x 0 C :: [])) (by rw [HC.out.2.2.2.2.2.2.1]; omega)) (And.intro (((Sat.sub (s4d) (by with_reducible repeat first | exact Fr1 | exact Fr2 | (apply Fr3; focus ((repeat (first | exact Tk1 | apply Tk2)); done)) | apply Fr4)) : Sat W0 _ (seg true g 0 [.int .i64 on, .int .i64 0, .int .i64 to, .slice pp n cap, .int .u8 alg] :: [])).at 3 rfl) (((Sat.sub (s4d) (by with_reducible repeat first | exact Fr1 | exact Fr2 | (apply Fr3; focus ((repeat (first | exact Tk1 | apply Tk2)); done)) | apply Fr4)) : Sat W0 _ (seg true g 0 [.int .i64 on, .int .i64 0, .int .i64 to, .slice pp n cap, .int .u8 alg] :: [])).lt (by simp)))))
    iterate 10
     first | refine autoT hHeld (by rfl) (by rfl) (x := ?_) (v := ?_) ?_ (by kernel_rfl) ?_ ?_ ?_ | refine autoP (by rfl) (x := ?_) (v := ?_) ?_ (by kernel_rfl) ?_ ?_ ?_
     rotate_left 2
     · (simp only [gE1, gE2, gE3]; rfl)
     · exact fun _ _ _ h => h
     · refine Or.inl ⟨by rfl, fun w hSw => ?_⟩
       (try dsimp only at hSw)
       go_simp
       try (with_reducible rfl)
     try simp only [pA1, pA2, pA3, pA4]
    refine anyE_pure (i := 10) (x := ?_) (v := ?_) ?_ (by kernel_rfl) (by kernel_rfl) (by kernel_rfl) ?_ ?_ ?_
    rotate_left 2
    · (simp only [gE1, gE2, gE3]; rfl)
    · exact fun _ _ _ h => h
    · refine Or.inl ⟨by rfl, fun w hSw => ?_⟩
      (try dsimp only at hSw)
      go_simp
      try (with_reducible rfl)
    try simp only [pA1, pA2, pA3, pA4]
    iterate 2
     first | refine autoT hHeld (by rfl) (by rfl) (x := ?_) (v := ?_) ?_ (by kernel_rfl) ?_ ?_ ?_ | refine autoP (by rfl) (x := ?_) (v := ?_) ?_ (by kernel_rfl) ?_ ?_ ?_
     rotate_left 2
     · (simp only [gE1, gE2, gE3]; rfl)
     · exact fun _ _ _ h => h
     · refine Or.inl ⟨by rfl, fun w hSw => ?_⟩
       (try dsimp only at hSw)
       go_simp
       try (with_reducible rfl)
     try simp only [pA1, pA2, pA3, pA4]
    refine anyE_one (i := 13) (x := ?_) ?_ (by kernel_rfl) (fun K hK => ?_)
    rotate_left
    · (simp only [gE1, gE2, gE3]; rfl)
    go_simp
    refine (gWrite false (.pointer (some ⟨l, 0, none⟩)) _ ((Sat.sub (s4d) (by with_reducible repeat first | exact Fr1 | exact Fr2 | (apply Fr3; focus ((repeat (first | exact Tk1 | apply Tk2)); done)) | apply Fr4)) : Sat W0 _ (gone false pb :: []))).mono ?_
    rintro e w5 ⟨rfl, rfl⟩
    go_wp2_with fail
    have hKp := (And.intro (Sat.at ((Sat.sub (s4d) (by with_reducible repeat first | exact Fr1 | exact Fr2 | (apply Fr3; focus ((repeat (first | exact Tk1 | apply Tk2)); done)) | apply Fr4)) : Sat W0 _ (seg true x 0 C :: [])) 6 HC.out.2.2.2.2.1) (And.intro (Sat.lt ((Sat.sub (s4d) (by with_reducible repeat first | exact Fr1 | exact Fr2 | (apply Fr3; focus ((repeat (first | exact Tk1 | apply Tk2)); done)) | apply Fr4)) : Sat W0 _ (seg true x 0 C :: [])) (by rw [HC.out.2.2.2.2.2.2.1]; omega)) (And.intro (((Sat.sub (s4d) (by with_reducible repeat first | exact Fr1 | exact Fr2 | (apply Fr3; focus ((repeat (first | exact Tk1 | apply Tk2)); done)) | apply Fr4)) : Sat W0 _ (seg true g 0 [.int .i64 on, .int .i64 0, .int .i64 to, .slice pp n cap, .int .u8 alg] :: [])).at 3 rfl) (((Sat.sub (s4d) (by with_reducible repeat first | exact Fr1 | exact Fr2 | (apply Fr3; focus ((repeat (first | exact Tk1 | apply Tk2)); done)) | apply Fr4)) : Sat W0 _ (seg true g 0 [.int .i64 on, .int .i64 0, .int .i64 to, .slice pp n cap, .int .u8 alg] :: [])).lt (by simp)))))
    refine hK.out _ _ hKp ?_
    clear hK K hHeld
    have hHeld := hKp
    clear hKp
    try simp only [pA1, pA2, pA3, pA4]
    iterate 1
     first | refine autoT hHeld (by rfl) (by rfl) (x := ?_) (v := ?_) ?_ (by kernel_rfl) ?_ ?_ ?_ | refine autoP (by rfl) (x := ?_) (v := ?_) ?_ (by kernel_rfl) ?_ ?_ ?_
     rotate_left 2
     · (simp only [gE1, gE2, gE3]; rfl)
     · exact fun _ _ _ h => h
     · refine Or.inl ⟨by rfl, fun w hSw => ?_⟩
       (try dsimp only at hSw)
       go_simp
       try (with_reducible rfl)
     try simp only [pA1, pA2, pA3, pA4]
    refine anyE_done (by kernel_rfl) ?_ _
    clear s4
    have g1 := ((Sat.sub (s4d) (by with_reducible repeat first | exact Fr1 | exact Fr2 | (apply Fr3; focus ((repeat (first | exact Tk1 | apply Tk2)); done)) | apply Fr4)) : Sat W0 _ (seg true g 0 [.int .i64 on, .int .i64 0, .int .i64 to, .slice pp n cap, .int .u8 alg] :: [])).at 1 rfl
    have g3 := ((Sat.sub (s4d) (by with_reducible repeat first | exact Fr1 | exact Fr2 | (apply Fr3; focus ((repeat (first | exact Tk1 | apply Tk2)); done)) | apply Fr4)) : Sat W0 _ (seg true g 0 [.int .i64 on, .int .i64 0, .int .i64 to, .slice pp n cap, .int .u8 alg] :: [])).at 3 rfl
    have gz := ((Sat.sub (s4d) (by with_reducible repeat first | exact Fr1 | exact Fr2 | (apply Fr3; focus ((repeat (first | exact Tk1 | apply Tk2)); done)) | apply Fr4)) : Sat W0 _ (seg true g 0 [.int .i64 on, .int .i64 0, .int .i64 to, .slice pp n cap, .int .u8 alg] :: [])).lt (by simp)
    go_wp2_with fail
    clear g1 g3 gz
    have s5d := s4d.drew
    refine region_E (fun w' => w'.cell? ⟨x, 7, none⟩ = some (.pointer (some ⟨m, 0, none⟩)) ∧ x < w'.heap.size ∧ w'.cell? ⟨g, 3, none⟩ = some (.slice pp n cap) ∧ g < w'.heap.size) [4, 6] (by kernel_rfl) ?_
    have hHeld := (And.intro (Sat.at ((Sat.sub (s5d) (by with_reducible repeat first | exact Fr1 | exact Fr2 | (apply Fr3; focus ((repeat (first | exact Tk1 | apply Tk2)); done)) | apply Fr4)) : Sat W0 _ (seg true x 0 C :: [])) 7 HC.out.2.2.2.2.2.1) (And.intro (Sat.lt ((Sat.sub (s5d) (by with_reducible repeat first | exact Fr1 | exact Fr2 | (apply Fr3; focus ((repeat (first | exact Tk1 | apply Tk2)); done)) | apply Fr4)) : Sat W0 _ (seg true x 0 C :: [])) (by rw [HC.out.2.2.2.2.2.2.1]; omega)) (And.intro (((Sat.sub (s5d) (by with_reducible repeat first | exact Fr1 | exact Fr2 | (apply Fr3; focus ((repeat (first | exact Tk1 | apply Tk2)); done)) | apply Fr4)) : Sat W0 _ (seg true g 0 [.int .i64 on, .int .i64 0, .int .i64 to, .slice pp n cap, .int .u8 alg] :: [])).at 3 rfl) (((Sat.sub (s5d) (by with_reducible repeat first | exact Fr1 | exact Fr2 | (apply Fr3; focus ((repeat (first | exact Tk1 | apply Tk2)); done)) | apply Fr4)) : Sat W0 _ (seg true g 0 [.int .i64 on, .int .i64 0, .int .i64 to, .slice pp n cap, .int .u8 alg] :: [])).lt (by simp)))))
    iterate 7
     first | refine autoT hHeld (by rfl) (by rfl) (x := ?_) (v := ?_) ?_ (by kernel_rfl) ?_ ?_ ?_ | refine autoP (by rfl) (x := ?_) (v := ?_) ?_ (by kernel_rfl) ?_ ?_ ?_
     rotate_left 2
     · (simp only [gE1, gE2, gE3]; rfl)
     · exact fun _ _ _ h => h
     · refine Or.inl ⟨by rfl, fun w hSw => ?_⟩
       (try dsimp only at hSw)
       go_simp
       try (with_reducible rfl)
     try simp only [pA1, pA2, pA3, pA4]
    refine anyE_one (i := 7) (x := ?_) ?_ (by kernel_rfl) (fun K hK => ?_)
    rotate_left
    · (simp only [gE1, gE2, gE3]; rfl)
    go_simp
    refine (rg11Write false (.pointer (some ⟨m, 0, none⟩)) _ ((Sat.sub (s5d) (by with_reducible repeat first | exact Fr1 | exact Fr2 | (apply Fr3; focus ((repeat (first | exact Tk1 | apply Tk2)); done)) | apply Fr4)) : Sat W0 _ (rg11 false rb :: []))).mono ?_
    rintro e w6 ⟨rfl, rfl⟩
    have s6 := s5d
    go_wp2_with fail
    have hKp := (And.intro (Sat.at ((Sat.sub (s6) (by with_reducible repeat first | exact Fr1 | exact Fr2 | (apply Fr3; focus ((repeat (first | exact Tk1 | apply Tk2)); done)) | apply Fr4)) : Sat W0 _ (seg true x 0 C :: [])) 7 HC.out.2.2.2.2.2.1) (And.intro (Sat.lt ((Sat.sub (s6) (by with_reducible repeat first | exact Fr1 | exact Fr2 | (apply Fr3; focus ((repeat (first | exact Tk1 | apply Tk2)); done)) | apply Fr4)) : Sat W0 _ (seg true x 0 C :: [])) (by rw [HC.out.2.2.2.2.2.2.1]; omega)) (And.intro (((Sat.sub (s6) (by with_reducible repeat first | exact Fr1 | exact Fr2 | (apply Fr3; focus ((repeat (first | exact Tk1 | apply Tk2)); done)) | apply Fr4)) : Sat W0 _ (seg true g 0 [.int .i64 on, .int .i64 0, .int .i64 to, .slice pp n cap, .int .u8 alg] :: [])).at 3 rfl) (((Sat.sub (s6) (by with_reducible repeat first | exact Fr1 | exact Fr2 | (apply Fr3; focus ((repeat (first | exact Tk1 | apply Tk2)); done)) | apply Fr4)) : Sat W0 _ (seg true g 0 [.int .i64 on, .int .i64 0, .int .i64 to, .slice pp n cap, .int .u8 alg] :: [])).lt (by simp)))))
    refine hK.out _ _ hKp ?_
    clear hK K hHeld
    have hHeld := hKp
    clear hKp
    try simp only [pA1, pA2, pA3, pA4]
    iterate 1
     first | refine autoT hHeld (by rfl) (by rfl) (x := ?_) (v := ?_) ?_ (by kernel_rfl) ?_ ?_ ?_ | refine autoP (by rfl) (x := ?_) (v := ?_) ?_ (by kernel_rfl) ?_ ?_ ?_
     rotate_left 2
     · (simp only [gE1, gE2, gE3]; rfl)
     · exact fun _ _ _ h => h
     · refine Or.inl ⟨by rfl, fun w hSw => ?_⟩
       (try dsimp only at hSw)
       go_simp
       try (with_reducible rfl)
     try simp only [pA1, pA2, pA3, pA4]
    refine anyE_done (by kernel_rfl) ?_ _
    clear s4d s5d
    have g1 := ((Sat.sub (s6) (by with_reducible repeat first | exact Fr1 | exact Fr2 | (apply Fr3; focus ((repeat (first | exact Tk1 | apply Tk2)); done)) | apply Fr4)) : Sat W0 _ (seg true g 0 [.int .i64 on, .int .i64 0, .int .i64 to, .slice pp n cap, .int .u8 alg] :: [])).at 1 rfl
    have g3 := ((Sat.sub (s6) (by with_reducible repeat first | exact Fr1 | exact Fr2 | (apply Fr3; focus ((repeat (first | exact Tk1 | apply Tk2)); done)) | apply Fr4)) : Sat W0 _ (seg true g 0 [.int .i64 on, .int .i64 0, .int .i64 to, .slice pp n cap, .int .u8 alg] :: [])).at 3 rfl
    have gz := ((Sat.sub (s6) (by with_reducible repeat first | exact Fr1 | exact Fr2 | (apply Fr3; focus ((repeat (first | exact Tk1 | apply Tk2)); done)) | apply Fr4)) : Sat W0 _ (seg true g 0 [.int .i64 on, .int .i64 0, .int .i64 to, .slice pp n cap, .int .u8 alg] :: [])).lt (by simp)
    go_wp2_with fail
    have s7 : Sat W0 _ (bytes true q (lentB P) :: _) := HJ.out _ _ ((Sat.sub (s6) (by with_reducible repeat first | exact Fr1 | exact Fr2 | (apply Fr3; focus ((repeat (first | exact Tk1 | apply Tk2)); done)) | apply Fr4)) : Sat W0 _ (bytes true q P :: bytes true q2 (marks 7 6) :: bytes false pp P :: rledO (some m) rs :: gone false pb :: rg11 false rb :: ledO (some l) rs :: seg true x 0 C :: seg true g 0 [.int .i64 on, .int .i64 0, .int .i64 to, .slice pp n cap, .int .u8 alg] :: row pt ct 1 N (ts.map pieceV) :: row pw cw 1 N (us.map pieceV) :: ownRows ts :: ownRows us :: stars ((S.map slA).eraseIdx k) :: L))
    refine (keptF P HC.out.2.2.2.2.2.2.2.1 rfl (by omega) ((Sat.sub (s7) (by with_reducible repeat first | exact Fr1 | exact Fr2 | (apply Fr3; focus ((repeat (first | exact Tk1 | apply Tk2)); done)) | apply Fr4)) : Sat W0 _ (bytes true q (lentB P) :: bytes false pp P :: rledO (some m) rs :: gone false pb :: rg11 false rb :: ledO (some l) rs :: seg true x 0 C :: seg true g 0 [.int .i64 on, .int .i64 0, .int .i64 to, .slice pp n cap, .int .u8 alg] :: row pt ct 1 N (ts.map pieceV) :: row pw cw 1 N (us.map pieceV) :: ownRows ts :: ownRows us :: stars ((S.map slA).eraseIdx k) :: L))).mono ?_
    rintro e w8 ⟨rfl, s8⟩
    clear s6 s7 g1 g3 gz
    go_wp2_with fail
    refine (overF (lentB P) (by rw [lentB_len, HC.out.2.2.2.2.2.2.2.1]) (by omega) s8).mono ?_
    rintro e w9 ⟨rfl, s9⟩
    clear s8
    have sk : Sat W0 w9 (slA (.gone false pb rb) :: _) := Sat.sepShut ((Sat.sub (s9) (by with_reducible repeat first | exact Fr1 | exact Fr2 | (apply Fr3; focus ((repeat (first | exact Tk1 | apply Tk2)); done)) | apply Fr4)) : Sat W0 w9 (gone false pb :: rg11 false rb :: stars ((S.map slA).eraseIdx k) :: seg true x 0 C :: row pt ct 1 N (ts.map pieceV) :: row pw cw 1 N (us.map pieceV) :: ownRows ts :: ownRows us :: ledO (some l) rs :: rledO (some m) rs :: L))
    have si := slotBack HC.out.2.1 sk
    have si2 := si
    rw [HC.out.1] at si2
    have sj : Sat W0 w9 (wA x l m S ts us pt ct pw cw N rs L) := (Sat.sub (si2) (by with_reducible repeat first | exact Fr1 | exact Fr2 | (apply Fr3; focus ((repeat (first | exact Tk1 | apply Tk2)); done)) | apply Fr4))
    have HS := Lib.hid sj; clear s9 sk si sj si2
    go_wp2_with fail
    go_ret
    exact ⟨rfl, S, ts, us, pt, ct, pw, cw, N, rs, okSame HC.out.2.2.2.2.2.2.2.2.2.2.2.2.2 rfl (fun s hs => Nat.le_trans (HC.out.2.2.2.2.2.2.2.2.2.2.2.2.2.2.2.2.2.2.2.2.2 s hs) (by omega)) (by omega) (by omega), HS.out⟩
  · skip
    go_enter Tryz.func9, Tryz.ntmps9
    go_wp2_with (refine wpl_box rfl 43 (.tmp 1) rfl [.int .i64 on, .int .i64 0, .int .i64 to, .slice pp n cap, .int .u8 alg] rfl s0 ?_; intro w1 g s1' _; have s1 : Sat W0 w1 (seg true x 0 C :: seg true g 0 [.int .i64 on, .int .i64 0, .int .i64 to, .slice pp n cap, .int .u8 alg] :: stars (S.map slA) :: row pt ct 1 N (ts.map pieceV) :: row pw cw 1 N (us.map pieceV) :: ownRows ts :: ownRows us :: ledO (some l) rs :: rledO (some m) rs :: bytes false pp P :: L) := (Sat.sub (s1') (by with_reducible repeat first | exact Fr1 | exact Fr2 | (apply Fr3; focus ((repeat (first | exact Tk1 | apply Tk2)); done)) | apply Fr4)); clear s1' s0; have g0 := ((Sat.sub (s1) (by with_reducible repeat first | exact Fr1 | exact Fr2 | (apply Fr3; focus ((repeat (first | exact Tk1 | apply Tk2)); done)) | apply Fr4)) : Sat W0 _ (seg true g 0 [.int .i64 on, .int .i64 0, .int .i64 to, .slice pp n cap, .int .u8 alg] :: [])).at 0 rfl; have gz := ((Sat.sub (s1) (by with_reducible repeat first | exact Fr1 | exact Fr2 | (apply Fr3; focus ((repeat (first | exact Tk1 | apply Tk2)); done)) | apply Fr4)) : Sat W0 _ (seg true g 0 [.int .i64 on, .int .i64 0, .int .i64 to, .slice pp n cap, .int .u8 alg] :: [])).lt (by simp))
    refine (HP.out w1).mono ?_
    rintro e w2 ⟨rfl, rfl⟩
    clear g0 gz
    have g1 := ((Sat.sub (s1) (by with_reducible repeat first | exact Fr1 | exact Fr2 | (apply Fr3; focus ((repeat (first | exact Tk1 | apply Tk2)); done)) | apply Fr4)) : Sat W0 _ (seg true g 0 [.int .i64 on, .int .i64 0, .int .i64 to, .slice pp n cap, .int .u8 alg] :: [])).at 1 rfl
    have g3 := ((Sat.sub (s1) (by with_reducible repeat first | exact Fr1 | exact Fr2 | (apply Fr3; focus ((repeat (first | exact Tk1 | apply Tk2)); done)) | apply Fr4)) : Sat W0 _ (seg true g 0 [.int .i64 on, .int .i64 0, .int .i64 to, .slice pp n cap, .int .u8 alg] :: [])).at 3 rfl
    have gz := ((Sat.sub (s1) (by with_reducible repeat first | exact Fr1 | exact Fr2 | (apply Fr3; focus ((repeat (first | exact Tk1 | apply Tk2)); done)) | apply Fr4)) : Sat W0 _ (seg true g 0 [.int .i64 on, .int .i64 0, .int .i64 to, .slice pp n cap, .int .u8 alg] :: [])).lt (by simp)
    have x0 := s1.at k HC.out.2.2.1
    have x3 := s1.at (3 + k) HC.out.2.2.2.1
    have x6 := s1.at 6 HC.out.2.2.2.2.1
    have x7 := s1.at 7 HC.out.2.2.2.2.2.1
    have xz := s1.lt (by rw [HC.out.2.2.2.2.2.2.1]; omega)
    simp only [slS, slR, ifv] at x0 x3
    have sg := starsGet HC.out.2.1 ((Sat.sub (s1) (by with_reducible repeat first | exact Fr1 | exact Fr2 | (apply Fr3; focus ((repeat (first | exact Tk1 | apply Tk2)); done)) | apply Fr4)) : Sat W0 _ (stars (S.map slA) :: seg true x 0 C :: seg true g 0 [.int .i64 on, .int .i64 0, .int .i64 to, .slice pp n cap, .int .u8 alg] :: row pt ct 1 N (ts.map pieceV) :: row pw cw 1 N (us.map pieceV) :: ownRows ts :: ownRows us :: ledO (some l) rs :: rledO (some m) rs :: bytes false pp P :: L))
    have sh : Sat W0 _ (gone true pb :: rg11 true rb :: _) := Sat.sepOpen (show Sat W0 _ (sep (gone true pb) (rg11 true rb) :: _) from sg)
    have s2 : Sat W0 _ (bytes false pp P :: seg true x 0 C :: seg true g 0 [.int .i64 on, .int .i64 0, .int .i64 to, .slice pp n cap, .int .u8 alg] :: row pt ct 1 N (ts.map pieceV) :: row pw cw 1 N (us.map pieceV) :: ownRows ts :: ownRows us :: ledO (some l) rs :: rledO (some m) rs :: gone true pb :: rg11 true rb :: stars ((S.map slA).eraseIdx k) :: L) := (Sat.sub (sh) (by with_reducible repeat first | exact Fr1 | exact Fr2 | (apply Fr3; focus ((repeat (first | exact Tk1 | apply Tk2)); done)) | apply Fr4))
    clear sg sh s1
    go_wp2_with fail
    refine (lentF P HC.out.2.2.2.2.2.2.2.1 (by omega) s2).mono ?_
    rintro e w3 ⟨q, c, rfl, hc1, hc2, s3⟩
    clear s2 x0 x3 x6 x7 xz g1 g3 gz
    have HW := Lib.hid (And.intro hc1 hc2); clear hc2
    have hc0 : n ≤ c := by omega
    obtain ⟨q2, s4', hj⟩ := bytesSplit (A := P) (B := marks 7 6) (by intro h; have := congrArg List.length h; simp [marks_len] at this) s3
    have s4 : Sat W0 w3 (seg true x 0 C :: seg true g 0 [.int .i64 on, .int .i64 0, .int .i64 to, .slice pp n cap, .int .u8 alg] :: bytes true q P :: bytes true q2 (marks 7 6) :: row pt ct 1 N (ts.map pieceV) :: row pw cw 1 N (us.map pieceV) :: ownRows ts :: ownRows us :: ledO (some l) rs :: rledO (some m) rs :: gone true pb :: rg11 true rb :: stars ((S.map slA).eraseIdx k) :: bytes false pp P :: L) := (Sat.sub (s4') (by with_reducible repeat first | exact Fr1 | exact Fr2 | (apply Fr3; focus ((repeat (first | exact Tk1 | apply Tk2)); done)) | apply Fr4))
    have HJ := Lib.hid hj; clear hj s3 s4'
    have g1 := ((Sat.sub (s4) (by with_reducible repeat first | exact Fr1 | exact Fr2 | (apply Fr3; focus ((repeat (first | exact Tk1 | apply Tk2)); done)) | apply Fr4)) : Sat W0 _ (seg true g 0 [.int .i64 on, .int .i64 0, .int .i64 to, .slice pp n cap, .int .u8 alg] :: [])).at 1 rfl
    have g3 := ((Sat.sub (s4) (by with_reducible repeat first | exact Fr1 | exact Fr2 | (apply Fr3; focus ((repeat (first | exact Tk1 | apply Tk2)); done)) | apply Fr4)) : Sat W0 _ (seg true g 0 [.int .i64 on, .int .i64 0, .int .i64 to, .slice pp n cap, .int .u8 alg] :: [])).at 3 rfl
    have gz := ((Sat.sub (s4) (by with_reducible repeat first | exact Fr1 | exact Fr2 | (apply Fr3; focus ((repeat (first | exact Tk1 | apply Tk2)); done)) | apply Fr4)) : Sat W0 _ (seg true g 0 [.int .i64 on, .int .i64 0, .int .i64 to, .slice pp n cap, .int .u8 alg] :: [])).lt (by simp)
    have x0 := s4.at k HC.out.2.2.1
    have x3 := s4.at (3 + k) HC.out.2.2.2.1
    have x6 := s4.at 6 HC.out.2.2.2.2.1
    have x7 := s4.at 7 HC.out.2.2.2.2.2.1
    have xz := s4.lt (by rw [HC.out.2.2.2.2.2.2.1]; omega)
    simp only [slS, slR, ifv] at x0 x3
    go_wp2_with fail
    have s4d := s4.drew
    clear x0 x3 x6 x7 xz g1 g3 gz
    refine region_E (fun w' => w'.cell? ⟨x, 6, none⟩ = some (.pointer (some ⟨l, 0, none⟩)) ∧ x < w'.heap.size ∧ w'.cell? ⟨g, 3, none⟩ = some (.slice pp n cap) ∧ g < w'.heap.size) [4, 7] (by kernel_rfl) ?_
    have hHeld := (And.intro (Sat.at ((Sat.sub (s4d) (by with_reducible repeat first | exact Fr1 | exact Fr2 | (apply Fr3; focus ((repeat (first | exact Tk1 | apply Tk2)); done)) | apply Fr4)) : Sat W0 _ (seg true x 0 C :: [])) 6 HC.out.2.2.2.2.1) (And.intro (Sat.lt ((Sat.sub (s4d) (by with_reducible repeat first | exact Fr1 | exact Fr2 | (apply Fr3; focus ((repeat (first | exact Tk1 | apply Tk2)); done)) | apply Fr4)) : Sat W0 _ (seg true x 0 C :: [])) (by rw [HC.out.2.2.2.2.2.2.1]; omega)) (And.intro (((Sat.sub (s4d) (by with_reducible repeat first | exact Fr1 | exact Fr2 | (apply Fr3; focus ((repeat (first | exact Tk1 | apply Tk2)); done)) | apply Fr4)) : Sat W0 _ (seg true g 0 [.int .i64 on, .int .i64 0, .int .i64 to, .slice pp n cap, .int .u8 alg] :: [])).at 3 rfl) (((Sat.sub (s4d) (by with_reducible repeat first | exact Fr1 | exact Fr2 | (apply Fr3; focus ((repeat (first | exact Tk1 | apply Tk2)); done)) | apply Fr4)) : Sat W0 _ (seg true g 0 [.int .i64 on, .int .i64 0, .int .i64 to, .slice pp n cap, .int .u8 alg] :: [])).lt (by simp)))))
    iterate 10
     first | refine autoT hHeld (by rfl) (by rfl) (x := ?_) (v := ?_) ?_ (by kernel_rfl) ?_ ?_ ?_ | refine autoP (by rfl) (x := ?_) (v := ?_) ?_ (by kernel_rfl) ?_ ?_ ?_
     rotate_left 2
     · (simp only [gE1, gE2, gE3]; rfl)
     · exact fun _ _ _ h => h
     · refine Or.inl ⟨by rfl, fun w hSw => ?_⟩
       (try dsimp only at hSw)
       go_simp
       try (with_reducible rfl)
     try simp only [pA1, pA2, pA3, pA4]
    refine anyE_pure (i := 10) (x := ?_) (v := ?_) ?_ (by kernel_rfl) (by kernel_rfl) (by kernel_rfl) ?_ ?_ ?_
    rotate_left 2
    · (simp only [gE1, gE2, gE3]; rfl)
    · exact fun _ _ _ h => h
    · refine Or.inl ⟨by rfl, fun w hSw => ?_⟩
      (try dsimp only at hSw)
      go_simp
      try (with_reducible rfl)
    try simp only [pA1, pA2, pA3, pA4]
    iterate 2
     first | refine autoT hHeld (by rfl) (by rfl) (x := ?_) (v := ?_) ?_ (by kernel_rfl) ?_ ?_ ?_ | refine autoP (by rfl) (x := ?_) (v := ?_) ?_ (by kernel_rfl) ?_ ?_ ?_
     rotate_left 2
     · (simp only [gE1, gE2, gE3]; rfl)
     · exact fun _ _ _ h => h
     · refine Or.inl ⟨by rfl, fun w hSw => ?_⟩
       (try dsimp only at hSw)
       go_simp
       try (with_reducible rfl)
     try simp only [pA1, pA2, pA3, pA4]
    refine anyE_one (i := 13) (x := ?_) ?_ (by kernel_rfl) (fun K hK => ?_)
    rotate_left
    · (simp only [gE1, gE2, gE3]; rfl)
    go_simp
    refine (gWrite true (.pointer (some ⟨l, 0, none⟩)) _ ((Sat.sub (s4d) (by with_reducible repeat first | exact Fr1 | exact Fr2 | (apply Fr3; focus ((repeat (first | exact Tk1 | apply Tk2)); done)) | apply Fr4)) : Sat W0 _ (gone true pb :: []))).mono ?_
    rintro e w5 ⟨rfl, rfl⟩
    go_wp2_with fail
    have hKp := (And.intro (Sat.at ((Sat.sub (s4d) (by with_reducible repeat first | exact Fr1 | exact Fr2 | (apply Fr3; focus ((repeat (first | exact Tk1 | apply Tk2)); done)) | apply Fr4)) : Sat W0 _ (seg true x 0 C :: [])) 6 HC.out.2.2.2.2.1) (And.intro (Sat.lt ((Sat.sub (s4d) (by with_reducible repeat first | exact Fr1 | exact Fr2 | (apply Fr3; focus ((repeat (first | exact Tk1 | apply Tk2)); done)) | apply Fr4)) : Sat W0 _ (seg true x 0 C :: [])) (by rw [HC.out.2.2.2.2.2.2.1]; omega)) (And.intro (((Sat.sub (s4d) (by with_reducible repeat first | exact Fr1 | exact Fr2 | (apply Fr3; focus ((repeat (first | exact Tk1 | apply Tk2)); done)) | apply Fr4)) : Sat W0 _ (seg true g 0 [.int .i64 on, .int .i64 0, .int .i64 to, .slice pp n cap, .int .u8 alg] :: [])).at 3 rfl) (((Sat.sub (s4d) (by with_reducible repeat first | exact Fr1 | exact Fr2 | (apply Fr3; focus ((repeat (first | exact Tk1 | apply Tk2)); done)) | apply Fr4)) : Sat W0 _ (seg true g 0 [.int .i64 on, .int .i64 0, .int .i64 to, .slice pp n cap, .int .u8 alg] :: [])).lt (by simp)))))
    refine hK.out _ _ hKp ?_
    clear hK K hHeld
    have hHeld := hKp
    clear hKp
    try simp only [pA1, pA2, pA3, pA4]
    iterate 1
     first | refine autoT hHeld (by rfl) (by rfl) (x := ?_) (v := ?_) ?_ (by kernel_rfl) ?_ ?_ ?_ | refine autoP (by rfl) (x := ?_) (v := ?_) ?_ (by kernel_rfl) ?_ ?_ ?_
     rotate_left 2
     · (simp only [gE1, gE2, gE3]; rfl)
     · exact fun _ _ _ h => h
     · refine Or.inl ⟨by rfl, fun w hSw => ?_⟩
       (try dsimp only at hSw)
       go_simp
       try (with_reducible rfl)
     try simp only [pA1, pA2, pA3, pA4]
    refine anyE_done (by kernel_rfl) ?_ _
    clear s4
    have g1 := ((Sat.sub (s4d) (by with_reducible repeat first | exact Fr1 | exact Fr2 | (apply Fr3; focus ((repeat (first | exact Tk1 | apply Tk2)); done)) | apply Fr4)) : Sat W0 _ (seg true g 0 [.int .i64 on, .int .i64 0, .int .i64 to, .slice pp n cap, .int .u8 alg] :: [])).at 1 rfl
    have g3 := ((Sat.sub (s4d) (by with_reducible repeat first | exact Fr1 | exact Fr2 | (apply Fr3; focus ((repeat (first | exact Tk1 | apply Tk2)); done)) | apply Fr4)) : Sat W0 _ (seg true g 0 [.int .i64 on, .int .i64 0, .int .i64 to, .slice pp n cap, .int .u8 alg] :: [])).at 3 rfl
    have gz := ((Sat.sub (s4d) (by with_reducible repeat first | exact Fr1 | exact Fr2 | (apply Fr3; focus ((repeat (first | exact Tk1 | apply Tk2)); done)) | apply Fr4)) : Sat W0 _ (seg true g 0 [.int .i64 on, .int .i64 0, .int .i64 to, .slice pp n cap, .int .u8 alg] :: [])).lt (by simp)
    go_wp2_with fail
    clear g1 g3 gz
    have s5d := s4d.drew
    refine region_E (fun w' => w'.cell? ⟨x, 7, none⟩ = some (.pointer (some ⟨m, 0, none⟩)) ∧ x < w'.heap.size ∧ w'.cell? ⟨g, 3, none⟩ = some (.slice pp n cap) ∧ g < w'.heap.size) [4, 6] (by kernel_rfl) ?_
    have hHeld := (And.intro (Sat.at ((Sat.sub (s5d) (by with_reducible repeat first | exact Fr1 | exact Fr2 | (apply Fr3; focus ((repeat (first | exact Tk1 | apply Tk2)); done)) | apply Fr4)) : Sat W0 _ (seg true x 0 C :: [])) 7 HC.out.2.2.2.2.2.1) (And.intro (Sat.lt ((Sat.sub (s5d) (by with_reducible repeat first | exact Fr1 | exact Fr2 | (apply Fr3; focus ((repeat (first | exact Tk1 | apply Tk2)); done)) | apply Fr4)) : Sat W0 _ (seg true x 0 C :: [])) (by rw [HC.out.2.2.2.2.2.2.1]; omega)) (And.intro (((Sat.sub (s5d) (by with_reducible repeat first | exact Fr1 | exact Fr2 | (apply Fr3; focus ((repeat (first | exact Tk1 | apply Tk2)); done)) | apply Fr4)) : Sat W0 _ (seg true g 0 [.int .i64 on, .int .i64 0, .int .i64 to, .slice pp n cap, .int .u8 alg] :: [])).at 3 rfl) (((Sat.sub (s5d) (by with_reducible repeat first | exact Fr1 | exact Fr2 | (apply Fr3; focus ((repeat (first | exact Tk1 | apply Tk2)); done)) | apply Fr4)) : Sat W0 _ (seg true g 0 [.int .i64 on, .int .i64 0, .int .i64 to, .slice pp n cap, .int .u8 alg] :: [])).lt (by simp)))))
    iterate 7
     first | refine autoT hHeld (by rfl) (by rfl) (x := ?_) (v := ?_) ?_ (by kernel_rfl) ?_ ?_ ?_ | refine autoP (by rfl) (x := ?_) (v := ?_) ?_ (by kernel_rfl) ?_ ?_ ?_
     rotate_left 2
     · (simp only [gE1, gE2, gE3]; rfl)
     · exact fun _ _ _ h => h
     · refine Or.inl ⟨by rfl, fun w hSw => ?_⟩
       (try dsimp only at hSw)
       go_simp
       try (with_reducible rfl)
     try simp only [pA1, pA2, pA3, pA4]
    refine anyE_one (i := 7) (x := ?_) ?_ (by kernel_rfl) (fun K hK => ?_)
    rotate_left
    · (simp only [gE1, gE2, gE3]; rfl)
    go_simp
    refine (rg11Write true (.pointer (some ⟨m, 0, none⟩)) _ ((Sat.sub (s5d) (by with_reducible repeat first | exact Fr1 | exact Fr2 | (apply Fr3; focus ((repeat (first | exact Tk1 | apply Tk2)); done)) | apply Fr4)) : Sat W0 _ (rg11 true rb :: []))).mono ?_
    rintro e w6 ⟨rfl, rfl⟩
    have s6 := s5d
    go_wp2_with fail
    have hKp := (And.intro (Sat.at ((Sat.sub (s6) (by with_reducible repeat first | exact Fr1 | exact Fr2 | (apply Fr3; focus ((repeat (first | exact Tk1 | apply Tk2)); done)) | apply Fr4)) : Sat W0 _ (seg true x 0 C :: [])) 7 HC.out.2.2.2.2.2.1) (And.intro (Sat.lt ((Sat.sub (s6) (by with_reducible repeat first | exact Fr1 | exact Fr2 | (apply Fr3; focus ((repeat (first | exact Tk1 | apply Tk2)); done)) | apply Fr4)) : Sat W0 _ (seg true x 0 C :: [])) (by rw [HC.out.2.2.2.2.2.2.1]; omega)) (And.intro (((Sat.sub (s6) (by with_reducible repeat first | exact Fr1 | exact Fr2 | (apply Fr3; focus ((repeat (first | exact Tk1 | apply Tk2)); done)) | apply Fr4)) : Sat W0 _ (seg true g 0 [.int .i64 on, .int .i64 0, .int .i64 to, .slice pp n cap, .int .u8 alg] :: [])).at 3 rfl) (((Sat.sub (s6) (by with_reducible repeat first | exact Fr1 | exact Fr2 | (apply Fr3; focus ((repeat (first | exact Tk1 | apply Tk2)); done)) | apply Fr4)) : Sat W0 _ (seg true g 0 [.int .i64 on, .int .i64 0, .int .i64 to, .slice pp n cap, .int .u8 alg] :: [])).lt (by simp)))))
    refine hK.out _ _ hKp ?_
    clear hK K hHeld
    have hHeld := hKp
    clear hKp
    try simp only [pA1, pA2, pA3, pA4]
    iterate 1
     first | refine autoT hHeld (by rfl) (by rfl) (x := ?_) (v := ?_) ?_ (by kernel_rfl) ?_ ?_ ?_ | refine autoP (by rfl) (x := ?_) (v := ?_) ?_ (by kernel_rfl) ?_ ?_ ?_
     rotate_left 2
     · (simp only [gE1, gE2, gE3]; rfl)
     · exact fun _ _ _ h => h
     · refine Or.inl ⟨by rfl, fun w hSw => ?_⟩
       (try dsimp only at hSw)
       go_simp
       try (with_reducible rfl)
     try simp only [pA1, pA2, pA3, pA4]
    refine anyE_done (by kernel_rfl) ?_ _
    clear s4d s5d
    have g1 := ((Sat.sub (s6) (by with_reducible repeat first | exact Fr1 | exact Fr2 | (apply Fr3; focus ((repeat (first | exact Tk1 | apply Tk2)); done)) | apply Fr4)) : Sat W0 _ (seg true g 0 [.int .i64 on, .int .i64 0, .int .i64 to, .slice pp n cap, .int .u8 alg] :: [])).at 1 rfl
    have g3 := ((Sat.sub (s6) (by with_reducible repeat first | exact Fr1 | exact Fr2 | (apply Fr3; focus ((repeat (first | exact Tk1 | apply Tk2)); done)) | apply Fr4)) : Sat W0 _ (seg true g 0 [.int .i64 on, .int .i64 0, .int .i64 to, .slice pp n cap, .int .u8 alg] :: [])).at 3 rfl
    have gz := ((Sat.sub (s6) (by with_reducible repeat first | exact Fr1 | exact Fr2 | (apply Fr3; focus ((repeat (first | exact Tk1 | apply Tk2)); done)) | apply Fr4)) : Sat W0 _ (seg true g 0 [.int .i64 on, .int .i64 0, .int .i64 to, .slice pp n cap, .int .u8 alg] :: [])).lt (by simp)
    go_wp2_with fail
    have s7 : Sat W0 _ (bytes true q (lentB P) :: _) := HJ.out _ _ ((Sat.sub (s6) (by with_reducible repeat first | exact Fr1 | exact Fr2 | (apply Fr3; focus ((repeat (first | exact Tk1 | apply Tk2)); done)) | apply Fr4)) : Sat W0 _ (bytes true q P :: bytes true q2 (marks 7 6) :: bytes false pp P :: rledO (some m) rs :: gone true pb :: rg11 true rb :: ledO (some l) rs :: seg true x 0 C :: seg true g 0 [.int .i64 on, .int .i64 0, .int .i64 to, .slice pp n cap, .int .u8 alg] :: row pt ct 1 N (ts.map pieceV) :: row pw cw 1 N (us.map pieceV) :: ownRows ts :: ownRows us :: stars ((S.map slA).eraseIdx k) :: L))
    refine (keptF P HC.out.2.2.2.2.2.2.2.1 rfl (by omega) ((Sat.sub (s7) (by with_reducible repeat first | exact Fr1 | exact Fr2 | (apply Fr3; focus ((repeat (first | exact Tk1 | apply Tk2)); done)) | apply Fr4)) : Sat W0 _ (bytes true q (lentB P) :: bytes false pp P :: rledO (some m) rs :: gone true pb :: rg11 true rb :: ledO (some l) rs :: seg true x 0 C :: seg true g 0 [.int .i64 on, .int .i64 0, .int .i64 to, .slice pp n cap, .int .u8 alg] :: row pt ct 1 N (ts.map pieceV) :: row pw cw 1 N (us.map pieceV) :: ownRows ts :: ownRows us :: stars ((S.map slA).eraseIdx k) :: L))).mono ?_
    rintro e w8 ⟨rfl, s8⟩
    clear s6 s7 g1 g3 gz
    go_wp2_with fail
    refine (overF (lentB P) (by rw [lentB_len, HC.out.2.2.2.2.2.2.2.1]) (by omega) s8).mono ?_
    rintro e w9 ⟨rfl, s9⟩
    clear s8
    have sk : Sat W0 w9 (slA (.gone true pb rb) :: _) := Sat.sepShut ((Sat.sub (s9) (by with_reducible repeat first | exact Fr1 | exact Fr2 | (apply Fr3; focus ((repeat (first | exact Tk1 | apply Tk2)); done)) | apply Fr4)) : Sat W0 w9 (gone true pb :: rg11 true rb :: stars ((S.map slA).eraseIdx k) :: seg true x 0 C :: row pt ct 1 N (ts.map pieceV) :: row pw cw 1 N (us.map pieceV) :: ownRows ts :: ownRows us :: ledO (some l) rs :: rledO (some m) rs :: L))
    have si := slotBack HC.out.2.1 sk
    have si2 := si
    rw [HC.out.1] at si2
    have sj : Sat W0 w9 (wA x l m S ts us pt ct pw cw N rs L) := (Sat.sub (si2) (by with_reducible repeat first | exact Fr1 | exact Fr2 | (apply Fr3; focus ((repeat (first | exact Tk1 | apply Tk2)); done)) | apply Fr4))
    have HS := Lib.hid sj; clear s9 sk si sj si2
    go_wp2_with fail
    go_ret
    exact ⟨rfl, S, ts, us, pt, ct, pw, cw, N, rs, okSame HC.out.2.2.2.2.2.2.2.2.2.2.2.2.2 rfl (fun s hs => Nat.le_trans (HC.out.2.2.2.2.2.2.2.2.2.2.2.2.2.2.2.2.2.2.2.2.2 s hs) (by omega)) (by omega) (by omega), HS.out⟩
end Go.Proofs.YtlmababpmmhhoaaGreat

/- DigestCalls: a call of both: Copy; under the conditions that each names. -/
namespace Go.Proofs.YtlmababpmmhhoaaGreat
open Go.RowKit Go.Sep Go.Bv Go.Sha
set_option linter.unusedVariables false
set_option linter.unusedSimpArgs false

set_option maxRecDepth 100000 in
set_option maxHeartbeats 8000000 in
theorem act_copy {W0 w : World} {L : List Assn} {x l m M i N k n cap : Nat} {S : List Sl} {ts us : List Piece} {pt pw pp : Option Addr} {ct cw : Nat} {rs : List Run3} {msg P : List Byte} {pb rb : Nat} (wide : Bool) (on to alg : Int) (hok : okW M i S ts us N rs) (hi : i ≤ 60) (hM : M + n ≤ 100000) (hP : P.length = n) (hnc : n ≤ cap) (hcm : cap ≤ maxLen) (hkp : pickM on 3 = k) (hsk : S[k]? = some (.live wide msg pb rb))
    (hs : Sat W0 w (wA x l m S ts us pt ct pw cw N rs (bytes false pp P :: L))) :
    Calls Tryz.prog 9 #[.pointer (some ⟨x, 0, none⟩), .agg #[.int .i64 on, .int .i64 2, .int .i64 to, .slice pp n cap, .int .u8 alg]] w (postA W0 L x l m (M + n) i) := by
  have hk : k < 3 := by rw [← hok.1]; exact (List.getElem?_eq_some_iff.1 hsk).1
  have hslN := hok.2.2.2.2.2.2.2.2 _ (List.mem_of_getElem? hsk)
  obtain ⟨e0, e3⟩ := wc_S (l := l) (m := m) (pt := pt) (pw := pw) (ct := ct) (N := N) (cw := cw) hok.1 k hsk
  obtain ⟨e6, e7, -, -, e10⟩ := wc_at (l := l) (m := m) (pt := pt) (pw := pw) (ct := ct) (N := N) (cw := cw) hok.1
  obtain ⟨C, hC⟩ : ∃ C, C = wCells l m S pt ct N pw cw := ⟨_, rfl⟩
  rw [← hC] at e0 e3 e6 e7 e10
  have s0 : Sat W0 w (seg true x 0 C :: stars (S.map slA) :: row pt ct 1 N (ts.map pieceV) :: row pw cw 1 N (us.map pieceV) :: ownRows ts :: ownRows us :: ledO (some l) rs :: rledO (some m) rs :: bytes false pp P :: L) := by
    rw [hC]; exact (Sat.sub (hs) (by with_reducible repeat first | exact Fr1 | exact Fr2 | (apply Fr3; focus ((repeat (first | exact Tk1 | apply Tk2)); done)) | apply Fr4))
  clear hs
  have hrs : tot rs ≤ 10000000 ∧ rs.length ≤ 1000 := by
    have h1 := hok.2.2.2.2.2.2.1
    have h2 := hok.2.2.2.2.2.2.2.1
    have h3 : 100000 * i ≤ 100000 * 60 := Nat.mul_le_mul_left _ hi
    omega
  have HC := Lib.hid (And.intro hC (And.intro hsk (And.intro e0 (And.intro e3 (And.intro e6 (And.intro e7 (And.intro e10 (And.intro hP (And.intro hnc (And.intro hcm (And.intro hkp (And.intro hslN (And.intro hrs hok))))))))))))); clear hC hsk e0 e3 e6 e7 e10 hP hnc hcm hkp hslN hrs hok
  have hk3 : (k : Int) < 3 := by omega
  have hpk : ∀ w : World, Calls Tryz.prog 21 #[.int .i64 on, .int .i64 3] w fun e w' => e = .returned (.int .i64 (k : Int)) ∧ w = w' := fun w => by
    have := pickW w on 3 (by omega) (by omega)
    rw [HC.out.2.2.2.2.2.2.2.2.2.2.1] at this
    exact this
  have HP := Lib.hid hpk; clear hpk
  cases wide
  · skip
    go_enter Tryz.func9, Tryz.ntmps9
    go_wp2_with (refine wpl_box rfl 43 (.tmp 1) rfl [.int .i64 on, .int .i64 2, .int .i64 to, .slice pp n cap, .int .u8 alg] rfl s0 ?_; intro w1 g s1' _; have s1 : Sat W0 w1 (seg true x 0 C :: seg true g 0 [.int .i64 on, .int .i64 2, .int .i64 to, .slice pp n cap, .int .u8 alg] :: stars (S.map slA) :: row pt ct 1 N (ts.map pieceV) :: row pw cw 1 N (us.map pieceV) :: ownRows ts :: ownRows us :: ledO (some l) rs :: rledO (some m) rs :: bytes false pp P :: L) := (Sat.sub (s1') (by with_reducible repeat first | exact Fr1 | exact Fr2 | (apply Fr3; focus ((repeat (first | exact Tk1 | apply Tk2)); done)) | apply Fr4)); clear s1' s0; have g0 := ((Sat.sub (s1) (by with_reducible repeat first | exact Fr1 | exact Fr2 | (apply Fr3; focus ((repeat (first | exact Tk1 | apply Tk2)); done)) | apply Fr4)) : Sat W0 _ (seg true g 0 [.int .i64 on, .int .i64 2, .int .i64 to, .slice pp n cap, .int .u8 alg] :: [])).at 0 rfl; have gz := ((Sat.sub (s1) (by with_reducible repeat first | exact Fr1 | exact Fr2 | (apply Fr3; focus ((repeat (first | exact Tk1 | apply Tk2)); done)) | apply Fr4)) : Sat W0 _ (seg true g 0 [.int .i64 on, .int .i64 2, .int .i64 to, .slice pp n cap, .int .u8 alg] :: [])).lt (by simp))
    refine (HP.out w1).mono ?_
    rintro e w2 ⟨rfl, rfl⟩
    clear g0 gz
    have g1 := ((Sat.sub (s1) (by with_reducible repeat first | exact Fr1 | exact Fr2 | (apply Fr3; focus ((repeat (first | exact Tk1 | apply Tk2)); done)) | apply Fr4)) : Sat W0 _ (seg true g 0 [.int .i64 on, .int .i64 2, .int .i64 to, .slice pp n cap, .int .u8 alg] :: [])).at 1 rfl
    have g3 := ((Sat.sub (s1) (by with_reducible repeat first | exact Fr1 | exact Fr2 | (apply Fr3; focus ((repeat (first | exact Tk1 | apply Tk2)); done)) | apply Fr4)) : Sat W0 _ (seg true g 0 [.int .i64 on, .int .i64 2, .int .i64 to, .slice pp n cap, .int .u8 alg] :: [])).at 3 rfl
    have gz := ((Sat.sub (s1) (by with_reducible repeat first | exact Fr1 | exact Fr2 | (apply Fr3; focus ((repeat (first | exact Tk1 | apply Tk2)); done)) | apply Fr4)) : Sat W0 _ (seg true g 0 [.int .i64 on, .int .i64 2, .int .i64 to, .slice pp n cap, .int .u8 alg] :: [])).lt (by simp)
    have x0 := s1.at k HC.out.2.2.1
    have x3 := s1.at (3 + k) HC.out.2.2.2.1
    have x6 := s1.at 6 HC.out.2.2.2.2.1
    have x7 := s1.at 7 HC.out.2.2.2.2.2.1
    have xz := s1.lt (by rw [HC.out.2.2.2.2.2.2.1]; omega)
    simp only [slS, slR, ifv] at x0 x3
    have sg := starsGet HC.out.2.1 ((Sat.sub (s1) (by with_reducible repeat first | exact Fr1 | exact Fr2 | (apply Fr3; focus ((repeat (first | exact Tk1 | apply Tk2)); done)) | apply Fr4)) : Sat W0 _ (stars (S.map slA) :: seg true x 0 C :: seg true g 0 [.int .i64 on, .int .i64 2, .int .i64 to, .slice pp n cap, .int .u8 alg] :: row pt ct 1 N (ts.map pieceV) :: row pw cw 1 N (us.map pieceV) :: ownRows ts :: ownRows us :: ledO (some l) rs :: rledO (some m) rs :: bytes false pp P :: L))
    have sh : Sat W0 _ (dst false pb msg :: rs11 false rb msg :: _) := Sat.sepOpen (show Sat W0 _ (sep (dst false pb msg) (rs11 false rb msg) :: _) from sg)
    have s2 : Sat W0 _ (seg true x 0 C :: seg true g 0 [.int .i64 on, .int .i64 2, .int .i64 to, .slice pp n cap, .int .u8 alg] :: row pt ct 1 N (ts.map pieceV) :: row pw cw 1 N (us.map pieceV) :: ownRows ts :: ownRows us :: ledO (some l) rs :: rledO (some m) rs :: dst false pb msg :: rs11 false rb msg :: stars ((S.map slA).eraseIdx k) :: bytes false pp P :: L) := (Sat.sub (sh) (by with_reducible repeat first | exact Fr1 | exact Fr2 | (apply Fr3; focus ((repeat (first | exact Tk1 | apply Tk2)); done)) | apply Fr4))
    clear sg sh s1
    obtain ⟨k2, hk2e⟩ : ∃ k2, k2 = pickM to 3 := ⟨_, rfl⟩
    have hk2 : k2 < 3 := by rw [hk2e]; exact pickM_lt to 3 (by omega)
    have hq2 : ∀ w : World, Calls Tryz.prog 21 #[.int .i64 to, .int .i64 3] w fun e w' => e = .returned (.int .i64 (k2 : Int)) ∧ w = w' := fun w => by
      have := pickW w to 3 (by omega) (by omega)
      rw [← hk2e] at this
      exact this
    obtain ⟨s2k, hs2k⟩ : ∃ s, S[k2]? = some s := ⟨_, List.getElem?_eq_getElem (by have := HC.out.2.2.2.2.2.2.2.2.2.2.2.2.2.1; omega)⟩
    obtain ⟨f0, f3⟩ := wc_S (l := l) (m := m) (pt := pt) (pw := pw) (ct := ct) (N := N) (cw := cw) HC.out.2.2.2.2.2.2.2.2.2.2.2.2.2.1 k2 hs2k
    rw [← HC.out.1] at f0 f3
    have HT := Lib.hid (And.intro f0 (And.intro f3 hs2k)); clear f0 f3 hs2k
    have HQ := Lib.hid hq2; clear hq2 hk2e
    have hk23 : (k2 : Int) < 3 := by omega
    go_wp2_with fail
    refine (dCopy false msg ((Sat.sub (s2) (by with_reducible repeat first | exact Fr1 | exact Fr2 | (apply Fr3; focus ((repeat (first | exact Tk1 | apply Tk2)); done)) | apply Fr4)) : Sat W0 _ (dst false pb msg :: rs11 false rb msg :: ledO (some l) rs :: rledO (some m) rs :: seg true x 0 C :: seg true g 0 [.int .i64 on, .int .i64 2, .int .i64 to, .slice pp n cap, .int .u8 alg] :: row pt ct 1 N (ts.map pieceV) :: row pw cw 1 N (us.map pieceV) :: ownRows ts :: ownRows us :: stars ((S.map slA).eraseIdx k) :: L))).mono ?_
    rintro e w5 ⟨c, rfl, s5⟩
    clear s2 x0 x3 x6 x7 xz g1 g3 gz
    go_wp2_with fail
    refine (rs11Copy false msg (by have := HC.out.2.2.2.2.2.2.2.2.2.2.2.1; simp only [slN] at this; omega) ((Sat.sub (s5) (by with_reducible repeat first | exact Fr1 | exact Fr2 | (apply Fr3; focus ((repeat (first | exact Tk1 | apply Tk2)); done)) | apply Fr4)) : Sat W0 _ (rs11 false rb msg :: dst false c msg :: dst false pb msg :: ledO (some l) rs :: rledO (some m) rs :: seg true x 0 C :: seg true g 0 [.int .i64 on, .int .i64 2, .int .i64 to, .slice pp n cap, .int .u8 alg] :: row pt ct 1 N (ts.map pieceV) :: row pw cw 1 N (us.map pieceV) :: ownRows ts :: ownRows us :: stars ((S.map slA).eraseIdx k) :: L))).mono ?_
    rintro e w6 ⟨d, rfl, s6⟩
    clear s5
    simp only [ifv]
    go_wp2_with fail
    have s6d : Sat W0 _ (seg true x 0 C :: seg true g 0 [.int .i64 on, .int .i64 2, .int .i64 to, .slice pp n cap, .int .u8 alg] :: dst false c msg :: rs11 false d msg :: dst false pb msg :: rs11 false rb msg :: ledO (some l) rs :: rledO (some m) rs :: row pt ct 1 N (ts.map pieceV) :: row pw cw 1 N (us.map pieceV) :: ownRows ts :: ownRows us :: stars ((S.map slA).eraseIdx k) :: L) := Sat.drew (Sat.sub (s6) (by with_reducible repeat first | exact Fr1 | exact Fr2 | (apply Fr3; focus ((repeat (first | exact Tk1 | apply Tk2)); done)) | apply Fr4))
    refine region_E (fun w' => w'.cell? ⟨g, 2, none⟩ = some (.int .i64 to) ∧ g < w'.heap.size) [2] (by kernel_rfl) ?_
    have hHeld := (And.intro (((Sat.sub (s6d) (by with_reducible repeat first | exact Fr1 | exact Fr2 | (apply Fr3; focus ((repeat (first | exact Tk1 | apply Tk2)); done)) | apply Fr4)) : Sat W0 _ (seg true g 0 [.int .i64 on, .int .i64 2, .int .i64 to, .slice pp n cap, .int .u8 alg] :: [])).at 2 rfl) (((Sat.sub (s6d) (by with_reducible repeat first | exact Fr1 | exact Fr2 | (apply Fr3; focus ((repeat (first | exact Tk1 | apply Tk2)); done)) | apply Fr4)) : Sat W0 _ (seg true g 0 [.int .i64 on, .int .i64 2, .int .i64 to, .slice pp n cap, .int .u8 alg] :: [])).lt (by simp)))
    iterate 6
     first | refine autoT hHeld (by rfl) (by rfl) (x := ?_) (v := ?_) ?_ (by kernel_rfl) ?_ ?_ ?_ | refine autoP (by rfl) (x := ?_) (v := ?_) ?_ (by kernel_rfl) ?_ ?_ ?_
     rotate_left 2
     · (simp only [gE1, gE2, gE3]; rfl)
     · exact fun _ _ _ h => h
     · refine Or.inl ⟨by rfl, fun w hSw => ?_⟩
       (try dsimp only at hSw)
       go_simp
       try (with_reducible rfl)
     try simp only [pA1, pA2, pA3, pA4]
    refine anyE_one (i := 3) (x := ?_) ?_ (by kernel_rfl) (fun K hK => ?_)
    rotate_left
    · (simp only [gE1, gE2, gE3]; rfl)
    go_simp
    refine (HQ.out _).mono ?_
    rintro e w7 ⟨rfl, hw7⟩
    have s7d : Sat W0 w7 (seg true x 0 C :: seg true g 0 [.int .i64 on, .int .i64 2, .int .i64 to, .slice pp n cap, .int .u8 alg] :: dst false c msg :: rs11 false d msg :: dst false pb msg :: rs11 false rb msg :: ledO (some l) rs :: rledO (some m) rs :: row pt ct 1 N (ts.map pieceV) :: row pw cw 1 N (us.map pieceV) :: ownRows ts :: ownRows us :: stars ((S.map slA).eraseIdx k) :: L) := by rw [← hw7]; exact s6d
    clear hw7
    go_wp2_with fail
    have hKp := (And.intro (((Sat.sub (s7d) (by with_reducible repeat first | exact Fr1 | exact Fr2 | (apply Fr3; focus ((repeat (first | exact Tk1 | apply Tk2)); done)) | apply Fr4)) : Sat W0 _ (seg true g 0 [.int .i64 on, .int .i64 2, .int .i64 to, .slice pp n cap, .int .u8 alg] :: [])).at 2 rfl) (((Sat.sub (s7d) (by with_reducible repeat first | exact Fr1 | exact Fr2 | (apply Fr3; focus ((repeat (first | exact Tk1 | apply Tk2)); done)) | apply Fr4)) : Sat W0 _ (seg true g 0 [.int .i64 on, .int .i64 2, .int .i64 to, .slice pp n cap, .int .u8 alg] :: [])).lt (by simp)))
    refine hK.out _ _ hKp ?_
    clear hK K hHeld
    have hHeld := hKp
    clear hKp
    try simp only [pA1, pA2, pA3, pA4]
    have y0 := s7d.at k2 HT.out.1
    have yf := s7d.fr k2 (by rw [HC.out.2.2.2.2.2.2.1]; omega)
    have yz := s7d.lt (by rw [HC.out.2.2.2.2.2.2.1]; omega)
    iterate 1
     first | refine autoT hHeld (by rfl) (by rfl) (x := ?_) (v := ?_) ?_ (by kernel_rfl) ?_ ?_ ?_ | refine autoP (by rfl) (x := ?_) (v := ?_) ?_ (by kernel_rfl) ?_ ?_ ?_
     rotate_left 2
     · (simp only [gE1, gE2, gE3]; rfl)
     · exact fun _ _ _ h => h
     · refine Or.inl ⟨by rfl, fun w hSw => ?_⟩
       (try dsimp only at hSw)
       go_simp
       try (with_reducible rfl)
     try simp only [pA1, pA2, pA3, pA4]
    refine anyE_last (i := 8) (x := ?_) ?_ (by kernel_rfl) (by kernel_rfl) (fun K hK => ?_)
    rotate_left
    · (simp only [gE1, gE2, gE3]; rfl)
    go_simp
    refine hK.out _ _ ?_
    clear hK K
    try simp only [pA1, pA2, pA3, pA4]
    have s8 : Sat W0 _ (seg true x 0 (C.set k2 (ifv false c)) :: seg true g 0 [.int .i64 on, .int .i64 2, .int .i64 to, .slice pp n cap, .int .u8 alg] :: dst false c msg :: rs11 false d msg :: dst false pb msg :: rs11 false rb msg :: ledO (some l) rs :: rledO (some m) rs :: row pt ct 1 N (ts.map pieceV) :: row pw cw 1 N (us.map pieceV) :: ownRows ts :: ownRows us :: stars ((S.map slA).eraseIdx k) :: L) := s7d.store (i := k2) (by rw [HC.out.2.2.2.2.2.2.1]; omega) (ifv false c) (q := k2) (by simp)
    clear s6 s6d s7d y0 yf yz
    refine anyE_done (by kernel_rfl) ?_ _
    go_wp2_with fail
    have s8d := s8.drew
    refine region_E (fun w' => w'.cell? ⟨g, 2, none⟩ = some (.int .i64 to) ∧ g < w'.heap.size) [2] (by kernel_rfl) ?_
    have hHeld := (And.intro (((Sat.sub (s8d) (by with_reducible repeat first | exact Fr1 | exact Fr2 | (apply Fr3; focus ((repeat (first | exact Tk1 | apply Tk2)); done)) | apply Fr4)) : Sat W0 _ (seg true g 0 [.int .i64 on, .int .i64 2, .int .i64 to, .slice pp n cap, .int .u8 alg] :: [])).at 2 rfl) (((Sat.sub (s8d) (by with_reducible repeat first | exact Fr1 | exact Fr2 | (apply Fr3; focus ((repeat (first | exact Tk1 | apply Tk2)); done)) | apply Fr4)) : Sat W0 _ (seg true g 0 [.int .i64 on, .int .i64 2, .int .i64 to, .slice pp n cap, .int .u8 alg] :: [])).lt (by simp)))
    iterate 6
     first | refine autoT hHeld (by rfl) (by rfl) (x := ?_) (v := ?_) ?_ (by kernel_rfl) ?_ ?_ ?_ | refine autoP (by rfl) (x := ?_) (v := ?_) ?_ (by kernel_rfl) ?_ ?_ ?_
     rotate_left 2
     · (simp only [gE1, gE2, gE3]; rfl)
     · exact fun _ _ _ h => h
     · refine Or.inl ⟨by rfl, fun w hSw => ?_⟩
       (try dsimp only at hSw)
       go_simp
       try (with_reducible rfl)
     try simp only [pA1, pA2, pA3, pA4]
    refine anyE_one (i := 3) (x := ?_) ?_ (by kernel_rfl) (fun K hK => ?_)
    rotate_left
    · (simp only [gE1, gE2, gE3]; rfl)
    go_simp
    refine (HQ.out _).mono ?_
    rintro e w9 ⟨rfl, hw9⟩
    have s9d : Sat W0 w9 (seg true x 0 (C.set k2 (ifv false c)) :: seg true g 0 [.int .i64 on, .int .i64 2, .int .i64 to, .slice pp n cap, .int .u8 alg] :: dst false c msg :: rs11 false d msg :: dst false pb msg :: rs11 false rb msg :: ledO (some l) rs :: rledO (some m) rs :: row pt ct 1 N (ts.map pieceV) :: row pw cw 1 N (us.map pieceV) :: ownRows ts :: ownRows us :: stars ((S.map slA).eraseIdx k) :: L) := by rw [← hw9]; exact s8d
    clear hw9
    go_wp2_with fail
    have hKp := (And.intro (((Sat.sub (s9d) (by with_reducible repeat first | exact Fr1 | exact Fr2 | (apply Fr3; focus ((repeat (first | exact Tk1 | apply Tk2)); done)) | apply Fr4)) : Sat W0 _ (seg true g 0 [.int .i64 on, .int .i64 2, .int .i64 to, .slice pp n cap, .int .u8 alg] :: [])).at 2 rfl) (((Sat.sub (s9d) (by with_reducible repeat first | exact Fr1 | exact Fr2 | (apply Fr3; focus ((repeat (first | exact Tk1 | apply Tk2)); done)) | apply Fr4)) : Sat W0 _ (seg true g 0 [.int .i64 on, .int .i64 2, .int .i64 to, .slice pp n cap, .int .u8 alg] :: [])).lt (by simp)))
    refine hK.out _ _ hKp ?_
    clear hK K hHeld
    have hHeld := hKp
    clear hKp
    try simp only [pA1, pA2, pA3, pA4]
    have y0 := s9d.at (3 + k2) (by rw [List.getElem?_set_ne (by omega)]; exact HT.out.2.1)
    have yf := s9d.fr (3 + k2) (by rw [List.length_set, HC.out.2.2.2.2.2.2.1]; omega)
    have yz := s9d.lt (by rw [List.length_set, HC.out.2.2.2.2.2.2.1]; omega)
    iterate 1
     first | refine autoT hHeld (by rfl) (by rfl) (x := ?_) (v := ?_) ?_ (by kernel_rfl) ?_ ?_ ?_ | refine autoP (by rfl) (x := ?_) (v := ?_) ?_ (by kernel_rfl) ?_ ?_ ?_
     rotate_left 2
     · (simp only [gE1, gE2, gE3]; rfl)
     · exact fun _ _ _ h => h
     · refine Or.inl ⟨by rfl, fun w hSw => ?_⟩
       (try dsimp only at hSw)
       go_simp
       try (with_reducible rfl)
     try simp only [pA1, pA2, pA3, pA4]
    refine anyE_last (i := 8) (x := ?_) ?_ (by kernel_rfl) (by kernel_rfl) (fun K hK => ?_)
    rotate_left
    · (simp only [gE1, gE2, gE3]; rfl)
    go_simp
    refine hK.out _ _ ?_
    clear hK K
    try simp only [pA1, pA2, pA3, pA4]
    have s9 : Sat W0 _ (seg true x 0 ((C.set k2 (ifv false c)).set (3 + k2) (.pointer (some ⟨d, 0, none⟩))) :: seg true g 0 [.int .i64 on, .int .i64 2, .int .i64 to, .slice pp n cap, .int .u8 alg] :: dst false c msg :: rs11 false d msg :: dst false pb msg :: rs11 false rb msg :: ledO (some l) rs :: rledO (some m) rs :: row pt ct 1 N (ts.map pieceV) :: row pw cw 1 N (us.map pieceV) :: ownRows ts :: ownRows us :: stars ((S.map slA).eraseIdx k) :: L) := s9d.store (i := 3 + k2) (by rw [List.length_set, HC.out.2.2.2.2.2.2.1]; omega) (.pointer (some ⟨d, 0, none⟩)) (q := 3 + k2) (by simp)
    clear s8 s8d s9d y0 yf yz
    refine anyE_done (by kernel_rfl) ?_ _
    have sk : Sat W0 _ (slA (.live false msg pb rb) :: _) := Sat.sepShut ((Sat.sub (s9) (by with_reducible repeat first | exact Fr1 | exact Fr2 | (apply Fr3; focus ((repeat (first | exact Tk1 | apply Tk2)); done)) | apply Fr4)) : Sat W0 _ (dst false pb msg :: rs11 false rb msg :: stars ((S.map slA).eraseIdx k) :: dst false c msg :: rs11 false d msg :: seg true x 0 ((C.set k2 (ifv false c)).set (3 + k2) (.pointer (some ⟨d, 0, none⟩))) :: ledO (some l) rs :: rledO (some m) rs :: row pt ct 1 N (ts.map pieceV) :: row pw cw 1 N (us.map pieceV) :: ownRows ts :: ownRows us :: L))
    have si := slotBack HC.out.2.1 sk
    have sm : Sat W0 _ (slA (.live false msg c d) :: _) := Sat.sepShut ((Sat.sub (si) (by with_reducible repeat first | exact Fr1 | exact Fr2 | (apply Fr3; focus ((repeat (first | exact Tk1 | apply Tk2)); done)) | apply Fr4)) : Sat W0 _ (dst false c msg :: rs11 false d msg :: stars (S.map slA) :: seg true x 0 ((C.set k2 (ifv false c)).set (3 + k2) (.pointer (some ⟨d, 0, none⟩))) :: ledO (some l) rs :: rledO (some m) rs :: row pt ct 1 N (ts.map pieceV) :: row pw cw 1 N (us.map pieceV) :: ownRows ts :: ownRows us :: L))
    have sn := starsGet HT.out.2.2 ((Sat.sub (sm) (by with_reducible repeat first | exact Fr1 | exact Fr2 | (apply Fr3; focus ((repeat (first | exact Tk1 | apply Tk2)); done)) | apply Fr4)) : Sat W0 _ (stars (S.map slA) :: slA (.live false msg c d) :: seg true x 0 ((C.set k2 (ifv false c)).set (3 + k2) (.pointer (some ⟨d, 0, none⟩))) :: ledO (some l) rs :: rledO (some m) rs :: row pt ct 1 N (ts.map pieceV) :: row pw cw 1 N (us.map pieceV) :: ownRows ts :: ownRows us :: L))
    have so := starsPut (b := .live false msg c d) HT.out.2.2 ((Sat.sub (sn) (by with_reducible repeat first | exact Fr1 | exact Fr2 | (apply Fr3; focus ((repeat (first | exact Tk1 | apply Tk2)); done)) | apply Fr4)) : Sat W0 _ (slA (.live false msg c d) :: stars ((S.map slA).eraseIdx k2) :: seg true x 0 ((C.set k2 (ifv false c)).set (3 + k2) (.pointer (some ⟨d, 0, none⟩))) :: ledO (some l) rs :: rledO (some m) rs :: row pt ct 1 N (ts.map pieceV) :: row pw cw 1 N (us.map pieceV) :: ownRows ts :: ownRows us :: L))
    have hset : ((C.set k2 (ifv false c)).set (3 + k2) (.pointer (some ⟨d, 0, none⟩))) = wCells l m (S.set k2 (.live false msg c d)) pt ct N pw cw := by
      rw [HC.out.1]; exact wc_setS HC.out.2.2.2.2.2.2.2.2.2.2.2.2.2.1 k2 hk2 (.live false msg c d) (.live false msg c d)
    rw [hset] at so
    have sj : Sat W0 _ (wA x l m (S.set k2 (.live false msg c d)) ts us pt ct pw cw N rs L) := (Sat.sub (so) (by with_reducible repeat first | exact Fr1 | exact Fr2 | (apply Fr3; focus ((repeat (first | exact Tk1 | apply Tk2)); done)) | apply Fr4))
    have HS := Lib.hid sj; clear s9 sk si sn sm so sj hset
    go_wp2_with fail
    go_ret
    exact ⟨rfl, S.set k2 (.live false msg c d), ts, us, pt, ct, pw, cw, N, rs, okSame HC.out.2.2.2.2.2.2.2.2.2.2.2.2.2 (List.length_set ..) (mem_set_le HC.out.2.2.2.2.2.2.2.2.2.2.2.2.2.2.2.2.2.2.2.2.2 (by omega) (Nat.le_trans HC.out.2.2.2.2.2.2.2.2.2.2.2.1 (Nat.le_add_right _ _))) (by omega) (by omega), HS.out⟩
  · skip
    go_enter Tryz.func9, Tryz.ntmps9
    go_wp2_with (refine wpl_box rfl 43 (.tmp 1) rfl [.int .i64 on, .int .i64 2, .int .i64 to, .slice pp n cap, .int .u8 alg] rfl s0 ?_; intro w1 g s1' _; have s1 : Sat W0 w1 (seg true x 0 C :: seg true g 0 [.int .i64 on, .int .i64 2, .int .i64 to, .slice pp n cap, .int .u8 alg] :: stars (S.map slA) :: row pt ct 1 N (ts.map pieceV) :: row pw cw 1 N (us.map pieceV) :: ownRows ts :: ownRows us :: ledO (some l) rs :: rledO (some m) rs :: bytes false pp P :: L) := (Sat.sub (s1') (by with_reducible repeat first | exact Fr1 | exact Fr2 | (apply Fr3; focus ((repeat (first | exact Tk1 | apply Tk2)); done)) | apply Fr4)); clear s1' s0; have g0 := ((Sat.sub (s1) (by with_reducible repeat first | exact Fr1 | exact Fr2 | (apply Fr3; focus ((repeat (first | exact Tk1 | apply Tk2)); done)) | apply Fr4)) : Sat W0 _ (seg true g 0 [.int .i64 on, .int .i64 2, .int .i64 to, .slice pp n cap, .int .u8 alg] :: [])).at 0 rfl; have gz := ((Sat.sub (s1) (by with_reducible repeat first | exact Fr1 | exact Fr2 | (apply Fr3; focus ((repeat (first | exact Tk1 | apply Tk2)); done)) | apply Fr4)) : Sat W0 _ (seg true g 0 [.int .i64 on, .int .i64 2, .int .i64 to, .slice pp n cap, .int .u8 alg] :: [])).lt (by simp))
    refine (HP.out w1).mono ?_
    rintro e w2 ⟨rfl, rfl⟩
    clear g0 gz
    have g1 := ((Sat.sub (s1) (by with_reducible repeat first | exact Fr1 | exact Fr2 | (apply Fr3; focus ((repeat (first | exact Tk1 | apply Tk2)); done)) | apply Fr4)) : Sat W0 _ (seg true g 0 [.int .i64 on, .int .i64 2, .int .i64 to, .slice pp n cap, .int .u8 alg] :: [])).at 1 rfl
    have g3 := ((Sat.sub (s1) (by with_reducible repeat first | exact Fr1 | exact Fr2 | (apply Fr3; focus ((repeat (first | exact Tk1 | apply Tk2)); done)) | apply Fr4)) : Sat W0 _ (seg true g 0 [.int .i64 on, .int .i64 2, .int .i64 to, .slice pp n cap, .int .u8 alg] :: [])).at 3 rfl
    have gz := ((Sat.sub (s1) (by with_reducible repeat first | exact Fr1 | exact Fr2 | (apply Fr3; focus ((repeat (first | exact Tk1 | apply Tk2)); done)) | apply Fr4)) : Sat W0 _ (seg true g 0 [.int .i64 on, .int .i64 2, .int .i64 to, .slice pp n cap, .int .u8 alg] :: [])).lt (by simp)
    have x0 := s1.at k HC.out.2.2.1
    have x3 := s1.at (3 + k) HC.out.2.2.2.1
    have x6 := s1.at 6 HC.out.2.2.2.2.1
    have x7 := s1.at 7 HC.out.2.2.2.2.2.1
    have xz := s1.lt (by rw [HC.out.2.2.2.2.2.2.1]; omega)
    simp only [slS, slR, ifv] at x0 x3
    have sg := starsGet HC.out.2.1 ((Sat.sub (s1) (by with_reducible repeat first | exact Fr1 | exact Fr2 | (apply Fr3; focus ((repeat (first | exact Tk1 | apply Tk2)); done)) | apply Fr4)) : Sat W0 _ (stars (S.map slA) :: seg true x 0 C :: seg true g 0 [.int .i64 on, .int .i64 2, .int .i64 to, .slice pp n cap, .int .u8 alg] :: row pt ct 1 N (ts.map pieceV) :: row pw cw 1 N (us.map pieceV) :: ownRows ts :: ownRows us :: ledO (some l) rs :: rledO (some m) rs :: bytes false pp P :: L))
    have sh : Sat W0 _ (dst true pb msg :: rs11 true rb msg :: _) := Sat.sepOpen (show Sat W0 _ (sep (dst true pb msg) (rs11 true rb msg) :: _) from sg)
    have s2 : Sat W0 _ (seg true x 0 C :: seg true g 0 [.int .i64 on, .int .i64 2, .int .i64 to, .slice pp n cap, .int .u8 alg] :: row pt ct 1 N (ts.map pieceV) :: row pw cw 1 N (us.map pieceV) :: ownRows ts :: ownRows us :: ledO (some l) rs :: rledO (some m) rs :: dst true pb msg :: rs11 true rb msg :: stars ((S.map slA).eraseIdx k) :: bytes false pp P :: L) := (Sat.sub (sh) (by with_reducible repeat first | exact Fr1 | exact Fr2 | (apply Fr3; focus ((repeat (first | exact Tk1 | apply Tk2)); done)) | apply Fr4))
    clear sg sh s1
    obtain ⟨k2, hk2e⟩ : ∃ k2, k2 = pickM to 3 := ⟨_, rfl⟩
    have hk2 : k2 < 3 := by rw [hk2e]; exact pickM_lt to 3 (by omega)
    have hq2 : ∀ w : World, Calls Tryz.prog 21 #[.int .i64 to, .int .i64 3] w fun e w' => e = .returned (.int .i64 (k2 : Int)) ∧ w = w' := fun w => by
      have := pickW w to 3 (by omega) (by omega)
      rw [← hk2e] at this
      exact this
    obtain ⟨s2k, hs2k⟩ : ∃ s, S[k2]? = some s := ⟨_, List.getElem?_eq_getElem (by have := HC.out.2.2.2.2.2.2.2.2.2.2.2.2.2.1; omega)⟩
    obtain ⟨f0, f3⟩ := wc_S (l := l) (m := m) (pt := pt) (pw := pw) (ct := ct) (N := N) (cw := cw) HC.out.2.2.2.2.2.2.2.2.2.2.2.2.2.1 k2 hs2k
    rw [← HC.out.1] at f0 f3
    have HT := Lib.hid (And.intro f0 (And.intro f3 hs2k)); clear f0 f3 hs2k
    have HQ := Lib.hid hq2; clear hq2 hk2e
    have hk23 : (k2 : Int) < 3 := by omega
    go_wp2_with fail
    refine (dCopy true msg ((Sat.sub (s2) (by with_reducible repeat first | exact Fr1 | exact Fr2 | (apply Fr3; focus ((repeat (first | exact Tk1 | apply Tk2)); done)) | apply Fr4)) : Sat W0 _ (dst true pb msg :: rs11 true rb msg :: ledO (some l) rs :: rledO (some m) rs :: seg true x 0 C :: seg true g 0 [.int .i64 on, .int .i64 2, .int .i64 to, .slice pp n cap, .int .u8 alg] :: row pt ct 1 N (ts.map pieceV) :: row pw cw 1 N (us.map pieceV) :: ownRows ts :: ownRows us :: stars ((S.map slA).eraseIdx k) :: L))).mono ?_
    rintro e w5 ⟨c, rfl, s5⟩
    clear s2 x0 x3 x6 x7 xz g1 g3 gz
    go_wp2_with fail
    refine (rs11Copy true msg (by have := HC.out.2.2.2.2.2.2.2.2.2.2.2.1; simp only [slN] at this; omega) ((Sat.sub (s5) (by with_reducible repeat first | exact Fr1 | exact Fr2 | (apply Fr3; focus ((repeat (first | exact Tk1 | apply Tk2)); done)) | apply Fr4)) : Sat W0 _ (rs11 true rb msg :: dst true c msg :: dst true pb msg :: ledO (some l) rs :: rledO (some m) rs :: seg true x 0 C :: seg true g 0 [.int .i64 on, .int .i64 2, .int .i64 to, .slice pp n cap, .int .u8 alg] :: row pt ct 1 N (ts.map pieceV) :: row pw cw 1 N (us.map pieceV) :: ownRows ts :: ownRows us :: stars ((S.map slA).eraseIdx k) :: L))).mono ?_
    rintro e w6 ⟨d, rfl, s6⟩
    clear s5
    simp only [ifv]
    go_wp2_with fail
    have s6d : Sat W0 _ (seg true x 0 C :: seg true g 0 [.int .i64 on, .int .i64 2, .int .i64 to, .slice pp n cap, .int .u8 alg] :: dst true c msg :: rs11 true d msg :: dst true pb msg :: rs11 true rb msg :: ledO (some l) rs :: rledO (some m) rs :: row pt ct 1 N (ts.map pieceV) :: row pw cw 1 N (us.map pieceV) :: ownRows ts :: ownRows us :: stars ((S.map slA).eraseIdx k) :: L) := Sat.drew (Sat.sub (s6) (by with_reducible repeat first | exact Fr1 | exact Fr2 | (apply Fr3; focus ((repeat (first | exact Tk1 | apply Tk2)); done)) | apply Fr4))
    refine region_E (fun w' => w'.cell? ⟨g, 2, none⟩ = some (.int .i64 to) ∧ g < w'.heap.size) [2] (by kernel_rfl) ?_
    have hHeld := (And.intro (((Sat.sub (s6d) (by with_reducible repeat first | exact Fr1 | exact Fr2 | (apply Fr3; focus ((repeat (first | exact Tk1 | apply Tk2)); done)) | apply Fr4)) : Sat W0 _ (seg true g 0 [.int .i64 on, .int .i64 2, .int .i64 to, .slice pp n cap, .int .u8 alg] :: [])).at 2 rfl) (((Sat.sub (s6d) (by with_reducible repeat first | exact Fr1 | exact Fr2 | (apply Fr3; focus ((repeat (first | exact Tk1 | apply Tk2)); done)) | apply Fr4)) : Sat W0 _ (seg true g 0 [.int .i64 on, .int .i64 2, .int .i64 to, .slice pp n cap, .int .u8 alg] :: [])).lt (by simp)))
    iterate 6
     first | refine autoT hHeld (by rfl) (by rfl) (x := ?_) (v := ?_) ?_ (by kernel_rfl) ?_ ?_ ?_ | refine autoP (by rfl) (x := ?_) (v := ?_) ?_ (by kernel_rfl) ?_ ?_ ?_
     rotate_left 2
     · (simp only [gE1, gE2, gE3]; rfl)
     · exact fun _ _ _ h => h
     · refine Or.inl ⟨by rfl, fun w hSw => ?_⟩
       (try dsimp only at hSw)
       go_simp
       try (with_reducible rfl)
     try simp only [pA1, pA2, pA3, pA4]
    refine anyE_one (i := 3) (x := ?_) ?_ (by kernel_rfl) (fun K hK => ?_)
    rotate_left
    · (simp only [gE1, gE2, gE3]; rfl)
    go_simp
    refine (HQ.out _).mono ?_
    rintro e w7 ⟨rfl, hw7⟩
    have s7d : Sat W0 w7 (seg true x 0 C :: seg true g 0 [.int .i64 on, .int .i64 2, .int .i64 to, .slice pp n cap, .int .u8 alg] :: dst true c msg :: rs11 true d msg :: dst true pb msg :: rs11 true rb msg :: ledO (some l) rs :: rledO (some m) rs :: row pt ct 1 N (ts.map pieceV) :: row pw cw 1 N (us.map pieceV) :: ownRows ts :: ownRows us :: stars ((S.map slA).eraseIdx k) :: L) := by rw [← hw7]; exact s6d
    clear hw7
    go_wp2_with fail
    have hKp := (And.intro (((Sat.sub (s7d) (by with_reducible repeat first | exact Fr1 | exact Fr2 | (apply Fr3; focus ((repeat (first | exact Tk1 | apply Tk2)); done)) | apply Fr4)) : Sat W0 _ (seg true g 0 [.int .i64 on, .int .i64 2, .int .i64 to, .slice pp n cap, .int .u8 alg] :: [])).at 2 rfl) (((Sat.sub (s7d) (by with_reducible repeat first | exact Fr1 | exact Fr2 | (apply Fr3; focus ((repeat (first | exact Tk1 | apply Tk2)); done)) | apply Fr4)) : Sat W0 _ (seg true g 0 [.int .i64 on, .int .i64 2, .int .i64 to, .slice pp n cap, .int .u8 alg] :: [])).lt (by simp)))
    refine hK.out _ _ hKp ?_
    clear hK K hHeld
    have hHeld := hKp
    clear hKp
    try simp only [pA1, pA2, pA3, pA4]
    have y0 := s7d.at k2 HT.out.1
    have yf := s7d.fr k2 (by rw [HC.out.2.2.2.2.2.2.1]; omega)
    have yz := s7d.lt (by rw [HC.out.2.2.2.2.2.2.1]; omega)
    iterate 1
     first | refine autoT hHeld (by rfl) (by rfl) (x := ?_) (v := ?_) ?_ (by kernel_rfl) ?_ ?_ ?_ | refine autoP (by rfl) (x := ?_) (v := ?_) ?_ (by kernel_rfl) ?_ ?_ ?_
     rotate_left 2
     · (simp only [gE1, gE2, gE3]; rfl)
     · exact fun _ _ _ h => h
     · refine Or.inl ⟨by rfl, fun w hSw => ?_⟩
       (try dsimp only at hSw)
       go_simp
       try (with_reducible rfl)
     try simp only [pA1, pA2, pA3, pA4]
    refine anyE_last (i := 8) (x := ?_) ?_ (by kernel_rfl) (by kernel_rfl) (fun K hK => ?_)
    rotate_left
    · (simp only [gE1, gE2, gE3]; rfl)
    go_simp
    refine hK.out _ _ ?_
    clear hK K
    try simp only [pA1, pA2, pA3, pA4]
    have s8 : Sat W0 _ (seg true x 0 (C.set k2 (ifv true c)) :: seg true g 0 [.int .i64 on, .int .i64 2, .int .i64 to, .slice pp n cap, .int .u8 alg] :: dst true c msg :: rs11 true d msg :: dst true pb msg :: rs11 true rb msg :: ledO (some l) rs :: rledO (some m) rs :: row pt ct 1 N (ts.map pieceV) :: row pw cw 1 N (us.map pieceV) :: ownRows ts :: ownRows us :: stars ((S.map slA).eraseIdx k) :: L) := s7d.store (i := k2) (by rw [HC.out.2.2.2.2.2.2.1]; omega) (ifv true c) (q := k2) (by simp)
    clear s6 s6d s7d y0 yf yz
    refine anyE_done (by kernel_rfl) ?_ _
    go_wp2_with fail
    have s8d := s8.drew
    refine region_E (fun w' => w'.cell? ⟨g, 2, none⟩ = some (.int .i64 to) ∧ g < w'.heap.size) [2] (by kernel_rfl) ?_
    have hHeld := (And.intro (((Sat.sub (s8d) (by with_reducible repeat first | exact Fr1 | exact Fr2 | (apply Fr3; focus ((repeat (first | exact Tk1 | apply Tk2)); done)) | apply Fr4)) : Sat W0 _ (seg true g 0 [.int .i64 on, .int .i64 2, .int .i64 to, .slice pp n cap, .int .u8 alg] :: [])).at 2 rfl) (((Sat.sub (s8d) (by with_reducible repeat first | exact Fr1 | exact Fr2 | (apply Fr3; focus ((repeat (first | exact Tk1 | apply Tk2)); done)) | apply Fr4)) : Sat W0 _ (seg true g 0 [.int .i64 on, .int .i64 2, .int .i64 to, .slice pp n cap, .int .u8 alg] :: [])).lt (by simp)))
    iterate 6
     first | refine autoT hHeld (by rfl) (by rfl) (x := ?_) (v := ?_) ?_ (by kernel_rfl) ?_ ?_ ?_ | refine autoP (by rfl) (x := ?_) (v := ?_) ?_ (by kernel_rfl) ?_ ?_ ?_
     rotate_left 2
     · (simp only [gE1, gE2, gE3]; rfl)
     · exact fun _ _ _ h => h
     · refine Or.inl ⟨by rfl, fun w hSw => ?_⟩
       (try dsimp only at hSw)
       go_simp
       try (with_reducible rfl)
     try simp only [pA1, pA2, pA3, pA4]
    refine anyE_one (i := 3) (x := ?_) ?_ (by kernel_rfl) (fun K hK => ?_)
    rotate_left
    · (simp only [gE1, gE2, gE3]; rfl)
    go_simp
    refine (HQ.out _).mono ?_
    rintro e w9 ⟨rfl, hw9⟩
    have s9d : Sat W0 w9 (seg true x 0 (C.set k2 (ifv true c)) :: seg true g 0 [.int .i64 on, .int .i64 2, .int .i64 to, .slice pp n cap, .int .u8 alg] :: dst true c msg :: rs11 true d msg :: dst true pb msg :: rs11 true rb msg :: ledO (some l) rs :: rledO (some m) rs :: row pt ct 1 N (ts.map pieceV) :: row pw cw 1 N (us.map pieceV) :: ownRows ts :: ownRows us :: stars ((S.map slA).eraseIdx k) :: L) := by rw [← hw9]; exact s8d
    clear hw9
    go_wp2_with fail
    have hKp := (And.intro (((Sat.sub (s9d) (by with_reducible repeat first | exact Fr1 | exact Fr2 | (apply Fr3; focus ((repeat (first | exact Tk1 | apply Tk2)); done)) | apply Fr4)) : Sat W0 _ (seg true g 0 [.int .i64 on, .int .i64 2, .int .i64 to, .slice pp n cap, .int .u8 alg] :: [])).at 2 rfl) (((Sat.sub (s9d) (by with_reducible repeat first | exact Fr1 | exact Fr2 | (apply Fr3; focus ((repeat (first | exact Tk1 | apply Tk2)); done)) | apply Fr4)) : Sat W0 _ (seg true g 0 [.int .i64 on, .int .i64 2, .int .i64 to, .slice pp n cap, .int .u8 alg] :: [])).lt (by simp)))
    refine hK.out _ _ hKp ?_
    clear hK K hHeld
    have hHeld := hKp
    clear hKp
    try simp only [pA1, pA2, pA3, pA4]
    have y0 := s9d.at (3 + k2) (by rw [List.getElem?_set_ne (by omega)]; exact HT.out.2.1)
    have yf := s9d.fr (3 + k2) (by rw [List.length_set, HC.out.2.2.2.2.2.2.1]; omega)
    have yz := s9d.lt (by rw [List.length_set, HC.out.2.2.2.2.2.2.1]; omega)
    iterate 1
     first | refine autoT hHeld (by rfl) (by rfl) (x := ?_) (v := ?_) ?_ (by kernel_rfl) ?_ ?_ ?_ | refine autoP (by rfl) (x := ?_) (v := ?_) ?_ (by kernel_rfl) ?_ ?_ ?_
     rotate_left 2
     · (simp only [gE1, gE2, gE3]; rfl)
     · exact fun _ _ _ h => h
     · refine Or.inl ⟨by rfl, fun w hSw => ?_⟩
       (try dsimp only at hSw)
       go_simp
       try (with_reducible rfl)
     try simp only [pA1, pA2, pA3, pA4]
    refine anyE_last (i := 8) (x := ?_) ?_ (by kernel_rfl) (by kernel_rfl) (fun K hK => ?_)
    rotate_left
    · (simp only [gE1, gE2, gE3]; rfl)
    go_simp
    refine hK.out _ _ ?_
    clear hK K
    try simp only [pA1, pA2, pA3, pA4]
    have s9 : Sat W0 _ (seg true x 0 ((C.set k2 (ifv true c)).set (3 + k2) (.pointer (some ⟨d, 0, none⟩))) :: seg true g 0 [.int .i64 on, .int .i64 2, .int .i64 to, .slice pp n cap, .int .u8 alg] :: dst true c msg :: rs11 true d msg :: dst true pb msg :: rs11 true rb msg :: ledO (some l) rs :: rledO (some m) rs :: row pt ct 1 N (ts.map pieceV) :: row pw cw 1 N (us.map pieceV) :: ownRows ts :: ownRows us :: stars ((S.map slA).eraseIdx k) :: L) := s9d.store (i := 3 + k2) (by rw [List.length_set, HC.out.2.2.2.2.2.2.1]; omega) (.pointer (some ⟨d, 0, none⟩)) (q := 3 + k2) (by simp)
    clear s8 s8d s9d y0 yf yz
    refine anyE_done (by kernel_rfl) ?_ _
    have sk : Sat W0 _ (slA (.live true msg pb rb) :: _) := Sat.sepShut ((Sat.sub (s9) (by with_reducible repeat first | exact Fr1 | exact Fr2 | (apply Fr3; focus ((repeat (first | exact Tk1 | apply Tk2)); done)) | apply Fr4)) : Sat W0 _ (dst true pb msg :: rs11 true rb msg :: stars ((S.map slA).eraseIdx k) :: dst true c msg :: rs11 true d msg :: seg true x 0 ((C.set k2 (ifv true c)).set (3 + k2) (.pointer (some ⟨d, 0, none⟩))) :: ledO (some l) rs :: rledO (some m) rs :: row pt ct 1 N (ts.map pieceV) :: row pw cw 1 N (us.map pieceV) :: ownRows ts :: ownRows us :: L))
    have si := slotBack HC.out.2.1 sk
    have sm : Sat W0 _ (slA (.live true msg c d) :: _) := Sat.sepShut ((Sat.sub (si) (by with_reducible repeat first | exact Fr1 | exact Fr2 | (apply Fr3; focus ((repeat (first | exact Tk1 | apply Tk2)); done)) | apply Fr4)) : Sat W0 _ (dst true c msg :: rs11 true d msg :: stars (S.map slA) :: seg true x 0 ((C.set k2 (ifv true c)).set (3 + k2) (.pointer (some ⟨d, 0, none⟩))) :: ledO (some l) rs :: rledO (some m) rs :: row pt ct 1 N (ts.map pieceV) :: row pw cw 1 N (us.map pieceV) :: ownRows ts :: ownRows us :: L))
    have sn := starsGet HT.out.2.2 ((Sat.sub (sm) (by with_reducible repeat first | exact Fr1 | exact Fr2 | (apply Fr3; focus ((repeat (first | exact Tk1 | apply Tk2)); done)) | apply Fr4)) : Sat W0 _ (stars (S.map slA) :: slA (.live true msg c d) :: seg true x 0 ((C.set k2 (ifv true c)).set (3 + k2) (.pointer (some ⟨d, 0, none⟩))) :: ledO (some l) rs :: rledO (some m) rs :: row pt ct 1 N (ts.map pieceV) :: row pw cw 1 N (us.map pieceV) :: ownRows ts :: ownRows us :: L))
    have so := starsPut (b := .live true msg c d) HT.out.2.2 ((Sat.sub (sn) (by with_reducible repeat first | exact Fr1 | exact Fr2 | (apply Fr3; focus ((repeat (first | exact Tk1 | apply Tk2)); done)) | apply Fr4)) : Sat W0 _ (slA (.live true msg c d) :: stars ((S.map slA).eraseIdx k2) :: seg true x 0 ((C.set k2 (ifv true c)).set (3 + k2) (.pointer (some ⟨d, 0, none⟩))) :: ledO (some l) rs :: rledO (some m) rs :: row pt ct 1 N (ts.map pieceV) :: row pw cw 1 N (us.map pieceV) :: ownRows ts :: ownRows us :: L))
    have hset : ((C.set k2 (ifv true c)).set (3 + k2) (.pointer (some ⟨d, 0, none⟩))) = wCells l m (S.set k2 (.live true msg c d)) pt ct N pw cw := by
      rw [HC.out.1]; exact wc_setS HC.out.2.2.2.2.2.2.2.2.2.2.2.2.2.1 k2 hk2 (.live true msg c d) (.live true msg c d)
    rw [hset] at so
    have sj : Sat W0 _ (wA x l m (S.set k2 (.live true msg c d)) ts us pt ct pw cw N rs L) := (Sat.sub (so) (by with_reducible repeat first | exact Fr1 | exact Fr2 | (apply Fr3; focus ((repeat (first | exact Tk1 | apply Tk2)); done)) | apply Fr4))
    have HS := Lib.hid sj; clear s9 sk si sn sm so sj hset
    go_wp2_with fail
    go_ret
    exact ⟨rfl, S.set k2 (.live true msg c d), ts, us, pt, ct, pw, cw, N, rs, okSame HC.out.2.2.2.2.2.2.2.2.2.2.2.2.2 (List.length_set ..) (mem_set_le HC.out.2.2.2.2.2.2.2.2.2.2.2.2.2.2.2.2.2.2.2.2.2 (by omega) (Nat.le_trans HC.out.2.2.2.2.2.2.2.2.2.2.2.1 (Nat.le_add_right _ _))) (by omega) (by omega), HS.out⟩
set_option maxRecDepth 100000 in
set_option maxHeartbeats 8000000 in
theorem act_copyG {W0 w : World} {L : List Assn} {x l m M i N k n cap : Nat} {S : List Sl} {ts us : List Piece} {pt pw pp : Option Addr} {ct cw : Nat} {rs : List Run3} {msg P : List Byte} {pb rb : Nat} (wide : Bool) (on to alg : Int) (hok : okW M i S ts us N rs) (hi : i ≤ 60) (hM : M + n ≤ 100000) (hP : P.length = n) (hnc : n ≤ cap) (hcm : cap ≤ maxLen) (hkp : pickM on 3 = k) (hsk : S[k]? = some (.gone wide pb rb))
    (hs : Sat W0 w (wA x l m S ts us pt ct pw cw N rs (bytes false pp P :: L))) :
    Calls Tryz.prog 9 #[.pointer (some ⟨x, 0, none⟩), .agg #[.int .i64 on, .int .i64 2, .int .i64 to, .slice pp n cap, .int .u8 alg]] w (postA W0 L x l m (M + n) i) := by
  have hk : k < 3 := by rw [← hok.1]; exact (List.getElem?_eq_some_iff.1 hsk).1
  have hslN := hok.2.2.2.2.2.2.2.2 _ (List.mem_of_getElem? hsk)
  obtain ⟨e0, e3⟩ := wc_S (l := l) (m := m) (pt := pt) (pw := pw) (ct := ct) (N := N) (cw := cw) hok.1 k hsk
  obtain ⟨e6, e7, -, -, e10⟩ := wc_at (l := l) (m := m) (pt := pt) (pw := pw) (ct := ct) (N := N) (cw := cw) hok.1
  obtain ⟨C, hC⟩ : ∃ C, C = wCells l m S pt ct N pw cw := ⟨_, rfl⟩
  rw [← hC] at e0 e3 e6 e7 e10
  have s0 : Sat W0 w (seg true x 0 C :: stars (S.map slA) :: row pt ct 1 N (ts.map pieceV) :: row pw cw 1 N (us.map pieceV) :: ownRows ts :: ownRows us :: ledO (some l) rs :: rledO (some m) rs :: bytes false pp P :: L) := by
    rw [hC]; exact (Sat.sub (hs) (by with_reducible repeat first | exact Fr1 | exact Fr2 | (apply Fr3; focus ((repeat (first | exact Tk1 | apply Tk2)); done)) | apply Fr4))
  clear hs
  have hrs : tot rs ≤ 10000000 ∧ rs.length ≤ 1000 := by
    have h1 := hok.2.2.2.2.2.2.1
    have h2 := hok.2.2.2.2.2.2.2.1
    have h3 : 100000 * i ≤ 100000 * 60 := Nat.mul_le_mul_left _ hi
    omega
  have HC := Lib.hid (And.intro hC (And.intro hsk (And.intro e0 (And.intro e3 (And.intro e6 (And.intro e7 (And.intro e10 (And.intro hP (And.intro hnc (And.intro hcm (And.intro hkp (And.intro hslN (And.intro hrs hok))))))))))))); clear hC hsk e0 e3 e6 e7 e10 hP hnc hcm hkp hslN hrs hok
  have hk3 : (k : Int) < 3 := by omega
  have hpk : ∀ w : World, Calls Tryz.prog 21 #[.int .i64 on, .int .i64 3] w fun e w' => e = .returned (.int .i64 (k : Int)) ∧ w = w' := fun w => by
    have := pickW w on 3 (by omega) (by omega)
    rw [HC.out.2.2.2.2.2.2.2.2.2.2.1] at this
    exact this
  have HP := Lib.hid hpk; clear hpk
  cases wide
  · skip
    go_enter Tryz.func9, Tryz.ntmps9
    go_wp2_with (refine wpl_box rfl 43 (.tmp 1) rfl [.int .i64 on, .int .i64 2, .int .i64 to, .slice pp n cap, .int .u8 alg] rfl s0 ?_; intro w1 g s1' _; have s1 : Sat W0 w1 (seg true x 0 C :: seg true g 0 [.int .i64 on, .int .i64 2, .int .i64 to, .slice pp n cap, .int .u8 alg] :: stars (S.map slA) :: row pt ct 1 N (ts.map pieceV) :: row pw cw 1 N (us.map pieceV) :: ownRows ts :: ownRows us :: ledO (some l) rs :: rledO (some m) rs :: bytes false pp P :: L) := (Sat.sub (s1') (by with_reducible repeat first | exact Fr1 | exact Fr2 | (apply Fr3; focus ((repeat (first | exact Tk1 | apply Tk2)); done)) | apply Fr4)); clear s1' s0; have g0 := ((Sat.sub (s1) (by with_reducible repeat first | exact Fr1 | exact Fr2 | (apply Fr3; focus ((repeat (first | exact Tk1 | apply Tk2)); done)) | apply Fr4)) : Sat W0 _ (seg true g 0 [.int .i64 on, .int .i64 2, .int .i64 to, .slice pp n cap, .int .u8 alg] :: [])).at 0 rfl; have gz := ((Sat.sub (s1) (by with_reducible repeat first | exact Fr1 | exact Fr2 | (apply Fr3; focus ((repeat (first | exact Tk1 | apply Tk2)); done)) | apply Fr4)) : Sat W0 _ (seg true g 0 [.int .i64 on, .int .i64 2, .int .i64 to, .slice pp n cap, .int .u8 alg] :: [])).lt (by simp))
    refine (HP.out w1).mono ?_
    rintro e w2 ⟨rfl, rfl⟩
    clear g0 gz
    have g1 := ((Sat.sub (s1) (by with_reducible repeat first | exact Fr1 | exact Fr2 | (apply Fr3; focus ((repeat (first | exact Tk1 | apply Tk2)); done)) | apply Fr4)) : Sat W0 _ (seg true g 0 [.int .i64 on, .int .i64 2, .int .i64 to, .slice pp n cap, .int .u8 alg] :: [])).at 1 rfl
    have g3 := ((Sat.sub (s1) (by with_reducible repeat first | exact Fr1 | exact Fr2 | (apply Fr3; focus ((repeat (first | exact Tk1 | apply Tk2)); done)) | apply Fr4)) : Sat W0 _ (seg true g 0 [.int .i64 on, .int .i64 2, .int .i64 to, .slice pp n cap, .int .u8 alg] :: [])).at 3 rfl
    have gz := ((Sat.sub (s1) (by with_reducible repeat first | exact Fr1 | exact Fr2 | (apply Fr3; focus ((repeat (first | exact Tk1 | apply Tk2)); done)) | apply Fr4)) : Sat W0 _ (seg true g 0 [.int .i64 on, .int .i64 2, .int .i64 to, .slice pp n cap, .int .u8 alg] :: [])).lt (by simp)
    have x0 := s1.at k HC.out.2.2.1
    have x3 := s1.at (3 + k) HC.out.2.2.2.1
    have x6 := s1.at 6 HC.out.2.2.2.2.1
    have x7 := s1.at 7 HC.out.2.2.2.2.2.1
    have xz := s1.lt (by rw [HC.out.2.2.2.2.2.2.1]; omega)
    simp only [slS, slR, ifv] at x0 x3
    have sg := starsGet HC.out.2.1 ((Sat.sub (s1) (by with_reducible repeat first | exact Fr1 | exact Fr2 | (apply Fr3; focus ((repeat (first | exact Tk1 | apply Tk2)); done)) | apply Fr4)) : Sat W0 _ (stars (S.map slA) :: seg true x 0 C :: seg true g 0 [.int .i64 on, .int .i64 2, .int .i64 to, .slice pp n cap, .int .u8 alg] :: row pt ct 1 N (ts.map pieceV) :: row pw cw 1 N (us.map pieceV) :: ownRows ts :: ownRows us :: ledO (some l) rs :: rledO (some m) rs :: bytes false pp P :: L))
    have sh : Sat W0 _ (gone false pb :: rg11 false rb :: _) := Sat.sepOpen (show Sat W0 _ (sep (gone false pb) (rg11 false rb) :: _) from sg)
    have s2 : Sat W0 _ (seg true x 0 C :: seg true g 0 [.int .i64 on, .int .i64 2, .int .i64 to, .slice pp n cap, .int .u8 alg] :: row pt ct 1 N (ts.map pieceV) :: row pw cw 1 N (us.map pieceV) :: ownRows ts :: ownRows us :: ledO (some l) rs :: rledO (some m) rs :: gone false pb :: rg11 false rb :: stars ((S.map slA).eraseIdx k) :: bytes false pp P :: L) := (Sat.sub (sh) (by with_reducible repeat first | exact Fr1 | exact Fr2 | (apply Fr3; focus ((repeat (first | exact Tk1 | apply Tk2)); done)) | apply Fr4))
    clear sg sh s1
    obtain ⟨k2, hk2e⟩ : ∃ k2, k2 = pickM to 3 := ⟨_, rfl⟩
    have hk2 : k2 < 3 := by rw [hk2e]; exact pickM_lt to 3 (by omega)
    have hq2 : ∀ w : World, Calls Tryz.prog 21 #[.int .i64 to, .int .i64 3] w fun e w' => e = .returned (.int .i64 (k2 : Int)) ∧ w = w' := fun w => by
      have := pickW w to 3 (by omega) (by omega)
      rw [← hk2e] at this
      exact this
    obtain ⟨s2k, hs2k⟩ : ∃ s, S[k2]? = some s := ⟨_, List.getElem?_eq_getElem (by have := HC.out.2.2.2.2.2.2.2.2.2.2.2.2.2.1; omega)⟩
    obtain ⟨f0, f3⟩ := wc_S (l := l) (m := m) (pt := pt) (pw := pw) (ct := ct) (N := N) (cw := cw) HC.out.2.2.2.2.2.2.2.2.2.2.2.2.2.1 k2 hs2k
    rw [← HC.out.1] at f0 f3
    have HT := Lib.hid (And.intro f0 (And.intro f3 hs2k)); clear f0 f3 hs2k
    have HQ := Lib.hid hq2; clear hq2 hk2e
    have hk23 : (k2 : Int) < 3 := by omega
    go_wp2_with fail
    refine (gCopy false ((Sat.sub (s2) (by with_reducible repeat first | exact Fr1 | exact Fr2 | (apply Fr3; focus ((repeat (first | exact Tk1 | apply Tk2)); done)) | apply Fr4)) : Sat W0 _ (gone false pb :: rg11 false rb :: ledO (some l) rs :: rledO (some m) rs :: seg true x 0 C :: seg true g 0 [.int .i64 on, .int .i64 2, .int .i64 to, .slice pp n cap, .int .u8 alg] :: row pt ct 1 N (ts.map pieceV) :: row pw cw 1 N (us.map pieceV) :: ownRows ts :: ownRows us :: stars ((S.map slA).eraseIdx k) :: L))).mono ?_
    rintro e w5 ⟨rfl, s5⟩
    clear s2 x0 x3 x6 x7 xz g1 g3 gz
    go_wp2_with fail
    refine (rg11Copy false ((Sat.sub (s5) (by with_reducible repeat first | exact Fr1 | exact Fr2 | (apply Fr3; focus ((repeat (first | exact Tk1 | apply Tk2)); done)) | apply Fr4)) : Sat W0 _ (rg11 false rb :: []))).mono ?_
    rintro e w6 ⟨rfl, rfl⟩
    have s6 := s5
    clear s5
    go_wp2_with fail
    have s6d : Sat W0 _ (seg true x 0 C :: seg true g 0 [.int .i64 on, .int .i64 2, .int .i64 to, .slice pp n cap, .int .u8 alg] :: gone false pb :: rg11 false rb :: ledO (some l) rs :: rledO (some m) rs :: row pt ct 1 N (ts.map pieceV) :: row pw cw 1 N (us.map pieceV) :: ownRows ts :: ownRows us :: stars ((S.map slA).eraseIdx k) :: L) := Sat.drew (Sat.sub (s6) (by with_reducible repeat first | exact Fr1 | exact Fr2 | (apply Fr3; focus ((repeat (first | exact Tk1 | apply Tk2)); done)) | apply Fr4))
    refine region_E (fun w' => w'.cell? ⟨g, 2, none⟩ = some (.int .i64 to) ∧ g < w'.heap.size) [2] (by kernel_rfl) ?_
    have hHeld := (And.intro (((Sat.sub (s6d) (by with_reducible repeat first | exact Fr1 | exact Fr2 | (apply Fr3; focus ((repeat (first | exact Tk1 | apply Tk2)); done)) | apply Fr4)) : Sat W0 _ (seg true g 0 [.int .i64 on, .int .i64 2, .int .i64 to, .slice pp n cap, .int .u8 alg] :: [])).at 2 rfl) (((Sat.sub (s6d) (by with_reducible repeat first | exact Fr1 | exact Fr2 | (apply Fr3; focus ((repeat (first | exact Tk1 | apply Tk2)); done)) | apply Fr4)) : Sat W0 _ (seg true g 0 [.int .i64 on, .int .i64 2, .int .i64 to, .slice pp n cap, .int .u8 alg] :: [])).lt (by simp)))
    iterate 6
     first | refine autoT hHeld (by rfl) (by rfl) (x := ?_) (v := ?_) ?_ (by kernel_rfl) ?_ ?_ ?_ | refine autoP (by rfl) (x := ?_) (v := ?_) ?_ (by kernel_rfl) ?_ ?_ ?_
     rotate_left 2
     · (simp only [gE1, gE2, gE3]; rfl)
     · exact fun _ _ _ h => h
     · refine Or.inl ⟨by rfl, fun w hSw => ?_⟩
       (try dsimp only at hSw)
       go_simp
       try (with_reducible rfl)
     try simp only [pA1, pA2, pA3, pA4]
    refine anyE_one (i := 3) (x := ?_) ?_ (by kernel_rfl) (fun K hK => ?_)
    rotate_left
    · (simp only [gE1, gE2, gE3]; rfl)
    go_simp
    refine (HQ.out _).mono ?_
    rintro e w7 ⟨rfl, hw7⟩
    have s7d : Sat W0 w7 (seg true x 0 C :: seg true g 0 [.int .i64 on, .int .i64 2, .int .i64 to, .slice pp n cap, .int .u8 alg] :: gone false pb :: rg11 false rb :: ledO (some l) rs :: rledO (some m) rs :: row pt ct 1 N (ts.map pieceV) :: row pw cw 1 N (us.map pieceV) :: ownRows ts :: ownRows us :: stars ((S.map slA).eraseIdx k) :: L) := by rw [← hw7]; exact s6d
    clear hw7
    go_wp2_with fail
    have hKp := (And.intro (((Sat.sub (s7d) (by with_reducible repeat first | exact Fr1 | exact Fr2 | (apply Fr3; focus ((repeat (first | exact Tk1 | apply Tk2)); done)) | apply Fr4)) : Sat W0 _ (seg true g 0 [.int .i64 on, .int .i64 2, .int .i64 to, .slice pp n cap, .int .u8 alg] :: [])).at 2 rfl) (((Sat.sub (s7d) (by with_reducible repeat first | exact Fr1 | exact Fr2 | (apply Fr3; focus ((repeat (first | exact Tk1 | apply Tk2)); done)) | apply Fr4)) : Sat W0 _ (seg true g 0 [.int .i64 on, .int .i64 2, .int .i64 to, .slice pp n cap, .int .u8 alg] :: [])).lt (by simp)))
    refine hK.out _ _ hKp ?_
    clear hK K hHeld
    have hHeld := hKp
    clear hKp
    try simp only [pA1, pA2, pA3, pA4]
    have y0 := s7d.at k2 HT.out.1
    have yf := s7d.fr k2 (by rw [HC.out.2.2.2.2.2.2.1]; omega)
    have yz := s7d.lt (by rw [HC.out.2.2.2.2.2.2.1]; omega)
    iterate 1
     first | refine autoT hHeld (by rfl) (by rfl) (x := ?_) (v := ?_) ?_ (by kernel_rfl) ?_ ?_ ?_ | refine autoP (by rfl) (x := ?_) (v := ?_) ?_ (by kernel_rfl) ?_ ?_ ?_
     rotate_left 2
     · (simp only [gE1, gE2, gE3]; rfl)
     · exact fun _ _ _ h => h
     · refine Or.inl ⟨by rfl, fun w hSw => ?_⟩
       (try dsimp only at hSw)
       go_simp
       try (with_reducible rfl)
     try simp only [pA1, pA2, pA3, pA4]
    refine anyE_last (i := 8) (x := ?_) ?_ (by kernel_rfl) (by kernel_rfl) (fun K hK => ?_)
    rotate_left
    · (simp only [gE1, gE2, gE3]; rfl)
    go_simp
    refine hK.out _ _ ?_
    clear hK K
    try simp only [pA1, pA2, pA3, pA4]
    have s8 : Sat W0 _ (seg true x 0 (C.set k2 (.nilIface)) :: seg true g 0 [.int .i64 on, .int .i64 2, .int .i64 to, .slice pp n cap, .int .u8 alg] :: gone false pb :: rg11 false rb :: ledO (some l) rs :: rledO (some m) rs :: row pt ct 1 N (ts.map pieceV) :: row pw cw 1 N (us.map pieceV) :: ownRows ts :: ownRows us :: stars ((S.map slA).eraseIdx k) :: L) := s7d.store (i := k2) (by rw [HC.out.2.2.2.2.2.2.1]; omega) (.nilIface) (q := k2) (by simp)
    clear s6 s6d s7d y0 yf yz
    refine anyE_done (by kernel_rfl) ?_ _
    go_wp2_with fail
    have s8d := s8.drew
    refine region_E (fun w' => w'.cell? ⟨g, 2, none⟩ = some (.int .i64 to) ∧ g < w'.heap.size) [2] (by kernel_rfl) ?_
    have hHeld := (And.intro (((Sat.sub (s8d) (by with_reducible repeat first | exact Fr1 | exact Fr2 | (apply Fr3; focus ((repeat (first | exact Tk1 | apply Tk2)); done)) | apply Fr4)) : Sat W0 _ (seg true g 0 [.int .i64 on, .int .i64 2, .int .i64 to, .slice pp n cap, .int .u8 alg] :: [])).at 2 rfl) (((Sat.sub (s8d) (by with_reducible repeat first | exact Fr1 | exact Fr2 | (apply Fr3; focus ((repeat (first | exact Tk1 | apply Tk2)); done)) | apply Fr4)) : Sat W0 _ (seg true g 0 [.int .i64 on, .int .i64 2, .int .i64 to, .slice pp n cap, .int .u8 alg] :: [])).lt (by simp)))
    iterate 6
     first | refine autoT hHeld (by rfl) (by rfl) (x := ?_) (v := ?_) ?_ (by kernel_rfl) ?_ ?_ ?_ | refine autoP (by rfl) (x := ?_) (v := ?_) ?_ (by kernel_rfl) ?_ ?_ ?_
     rotate_left 2
     · (simp only [gE1, gE2, gE3]; rfl)
     · exact fun _ _ _ h => h
     · refine Or.inl ⟨by rfl, fun w hSw => ?_⟩
       (try dsimp only at hSw)
       go_simp
       try (with_reducible rfl)
     try simp only [pA1, pA2, pA3, pA4]
    refine anyE_one (i := 3) (x := ?_) ?_ (by kernel_rfl) (fun K hK => ?_)
    rotate_left
    · (simp only [gE1, gE2, gE3]; rfl)
    go_simp
    refine (HQ.out _).mono ?_
    rintro e w9 ⟨rfl, hw9⟩
    have s9d : Sat W0 w9 (seg true x 0 (C.set k2 (.nilIface)) :: seg true g 0 [.int .i64 on, .int .i64 2, .int .i64 to, .slice pp n cap, .int .u8 alg] :: gone false pb :: rg11 false rb :: ledO (some l) rs :: rledO (some m) rs :: row pt ct 1 N (ts.map pieceV) :: row pw cw 1 N (us.map pieceV) :: ownRows ts :: ownRows us :: stars ((S.map slA).eraseIdx k) :: L) := by rw [← hw9]; exact s8d
    clear hw9
    go_wp2_with fail
    have hKp := (And.intro (((Sat.sub (s9d) (by with_reducible repeat first | exact Fr1 | exact Fr2 | (apply Fr3; focus ((repeat (first | exact Tk1 | apply Tk2)); done)) | apply Fr4)) : Sat W0 _ (seg true g 0 [.int .i64 on, .int .i64 2, .int .i64 to, .slice pp n cap, .int .u8 alg] :: [])).at 2 rfl) (((Sat.sub (s9d) (by with_reducible repeat first | exact Fr1 | exact Fr2 | (apply Fr3; focus ((repeat (first | exact Tk1 | apply Tk2)); done)) | apply Fr4)) : Sat W0 _ (seg true g 0 [.int .i64 on, .int .i64 2, .int .i64 to, .slice pp n cap, .int .u8 alg] :: [])).lt (by simp)))
    refine hK.out _ _ hKp ?_
    clear hK K hHeld
    have hHeld := hKp
    clear hKp
    try simp only [pA1, pA2, pA3, pA4]
    have y0 := s9d.at (3 + k2) (by rw [List.getElem?_set_ne (by omega)]; exact HT.out.2.1)
    have yf := s9d.fr (3 + k2) (by rw [List.length_set, HC.out.2.2.2.2.2.2.1]; omega)
    have yz := s9d.lt (by rw [List.length_set, HC.out.2.2.2.2.2.2.1]; omega)
    iterate 1
     first | refine autoT hHeld (by rfl) (by rfl) (x := ?_) (v := ?_) ?_ (by kernel_rfl) ?_ ?_ ?_ | refine autoP (by rfl) (x := ?_) (v := ?_) ?_ (by kernel_rfl) ?_ ?_ ?_
     rotate_left 2
     · (simp only [gE1, gE2, gE3]; rfl)
     · exact fun _ _ _ h => h
     · refine Or.inl ⟨by rfl, fun w hSw => ?_⟩
       (try dsimp only at hSw)
       go_simp
       try (with_reducible rfl)
     try simp only [pA1, pA2, pA3, pA4]
    refine anyE_last (i := 8) (x := ?_) ?_ (by kernel_rfl) (by kernel_rfl) (fun K hK => ?_)
    rotate_left
    · (simp only [gE1, gE2, gE3]; rfl)
    go_simp
    refine hK.out _ _ ?_
    clear hK K
    try simp only [pA1, pA2, pA3, pA4]
    have s9 : Sat W0 _ (seg true x 0 ((C.set k2 (.nilIface)).set (3 + k2) (.pointer none)) :: seg true g 0 [.int .i64 on, .int .i64 2, .int .i64 to, .slice pp n cap, .int .u8 alg] :: gone false pb :: rg11 false rb :: ledO (some l) rs :: rledO (some m) rs :: row pt ct 1 N (ts.map pieceV) :: row pw cw 1 N (us.map pieceV) :: ownRows ts :: ownRows us :: stars ((S.map slA).eraseIdx k) :: L) := s9d.store (i := 3 + k2) (by rw [List.length_set, HC.out.2.2.2.2.2.2.1]; omega) (.pointer none) (q := 3 + k2) (by simp)
    clear s8 s8d s9d y0 yf yz
    refine anyE_done (by kernel_rfl) ?_ _
    have sk : Sat W0 _ (slA (.gone false pb rb) :: _) := Sat.sepShut ((Sat.sub (s9) (by with_reducible repeat first | exact Fr1 | exact Fr2 | (apply Fr3; focus ((repeat (first | exact Tk1 | apply Tk2)); done)) | apply Fr4)) : Sat W0 _ (gone false pb :: rg11 false rb :: stars ((S.map slA).eraseIdx k) :: seg true x 0 ((C.set k2 (.nilIface)).set (3 + k2) (.pointer none)) :: ledO (some l) rs :: rledO (some m) rs :: row pt ct 1 N (ts.map pieceV) :: row pw cw 1 N (us.map pieceV) :: ownRows ts :: ownRows us :: L))
    have si := slotBack HC.out.2.1 sk
    have sn := starsGet HT.out.2.2 ((Sat.sub (si) (by with_reducible repeat first | exact Fr1 | exact Fr2 | (apply Fr3; focus ((repeat (first | exact Tk1 | apply Tk2)); done)) | apply Fr4)) : Sat W0 _ (stars (S.map slA) :: seg true x 0 ((C.set k2 (.nilIface)).set (3 + k2) (.pointer none)) :: ledO (some l) rs :: rledO (some m) rs :: row pt ct 1 N (ts.map pieceV) :: row pw cw 1 N (us.map pieceV) :: ownRows ts :: ownRows us :: L))
    have sm := Sat.addEmp ((Sat.sub (sn) (by with_reducible repeat first | exact Fr1 | exact Fr2 | (apply Fr3; focus ((repeat (first | exact Tk1 | apply Tk2)); done)) | apply Fr4)) : Sat W0 _ (stars ((S.map slA).eraseIdx k2) :: seg true x 0 ((C.set k2 (.nilIface)).set (3 + k2) (.pointer none)) :: ledO (some l) rs :: rledO (some m) rs :: row pt ct 1 N (ts.map pieceV) :: row pw cw 1 N (us.map pieceV) :: ownRows ts :: ownRows us :: L))
    have so := starsPut (b := .no) HT.out.2.2 (show Sat W0 _ (slA .no :: stars ((S.map slA).eraseIdx k2) :: seg true x 0 ((C.set k2 (.nilIface)).set (3 + k2) (.pointer none)) :: ledO (some l) rs :: rledO (some m) rs :: row pt ct 1 N (ts.map pieceV) :: row pw cw 1 N (us.map pieceV) :: ownRows ts :: ownRows us :: L) from sm)
    have hset : ((C.set k2 (.nilIface)).set (3 + k2) (.pointer none)) = wCells l m (S.set k2 (.no)) pt ct N pw cw := by
      rw [HC.out.1]; exact wc_setS HC.out.2.2.2.2.2.2.2.2.2.2.2.2.2.1 k2 hk2 (.no) (.no)
    rw [hset] at so
    have sj : Sat W0 _ (wA x l m (S.set k2 (.no)) ts us pt ct pw cw N rs L) := (Sat.sub (so) (by with_reducible repeat first | exact Fr1 | exact Fr2 | (apply Fr3; focus ((repeat (first | exact Tk1 | apply Tk2)); done)) | apply Fr4))
    have HS := Lib.hid sj; clear s9 sk si sn sm so sj hset
    go_wp2_with fail
    go_ret
    exact ⟨rfl, S.set k2 (.no), ts, us, pt, ct, pw, cw, N, rs, okSame HC.out.2.2.2.2.2.2.2.2.2.2.2.2.2 (List.length_set ..) (mem_set_le HC.out.2.2.2.2.2.2.2.2.2.2.2.2.2.2.2.2.2.2.2.2.2 (by omega) (Nat.zero_le _)) (by omega) (by omega), HS.out⟩
  · skip
    go_enter Tryz.func9, Tryz.ntmps9
    go_wp2_with (refine wpl_box rfl 43 (.tmp 1) rfl [.int .i64 on, .int .i64 2, .int .i64 to, .slice pp n cap, .int .u8 alg] rfl s0 ?_; intro w1 g s1' _; have s1 : Sat W0 w1 (seg true x 0 C :: seg true g 0 [.int .i64 on, .int .i64 2, .int .i64 to, .slice pp n cap, .int .u8 alg] :: stars (S.map slA) :: row pt ct 1 N (ts.map pieceV) :: row pw cw 1 N (us.map pieceV) :: ownRows ts :: ownRows us :: ledO (some l) rs :: rledO (some m) rs :: bytes false pp P :: L) := (Sat.sub (s1') (by with_reducible repeat first | exact Fr1 | exact Fr2 | (apply Fr3; focus ((repeat (first | exact Tk1 | apply Tk2)); done)) | apply Fr4)); clear s1' s0; have g0 := ((Sat.sub (s1) (by with_reducible repeat first | exact Fr1 | exact Fr2 | (apply Fr3; focus ((repeat (first | exact Tk1 | apply Tk2)); done)) | apply Fr4)) : Sat W0 _ (seg true g 0 [.int .i64 on, .int .i64 2, .int .i64 to, .slice pp n cap, .int .u8 alg] :: [])).at 0 rfl; have gz := ((Sat.sub (s1) (by with_reducible repeat first | exact Fr1 | exact Fr2 | (apply Fr3; focus ((repeat (first | exact Tk1 | apply Tk2)); done)) | apply Fr4)) : Sat W0 _ (seg true g 0 [.int .i64 on, .int .i64 2, .int .i64 to, .slice pp n cap, .int .u8 alg] :: [])).lt (by simp))
    refine (HP.out w1).mono ?_
    rintro e w2 ⟨rfl, rfl⟩
    clear g0 gz
    have g1 := ((Sat.sub (s1) (by with_reducible repeat first | exact Fr1 | exact Fr2 | (apply Fr3; focus ((repeat (first | exact Tk1 | apply Tk2)); done)) | apply Fr4)) : Sat W0 _ (seg true g 0 [.int .i64 on, .int .i64 2, .int .i64 to, .slice pp n cap, .int .u8 alg] :: [])).at 1 rfl
    have g3 := ((Sat.sub (s1) (by with_reducible repeat first | exact Fr1 | exact Fr2 | (apply Fr3; focus ((repeat (first | exact Tk1 | apply Tk2)); done)) | apply Fr4)) : Sat W0 _ (seg true g 0 [.int .i64 on, .int .i64 2, .int .i64 to, .slice pp n cap, .int .u8 alg] :: [])).at 3 rfl
    have gz := ((Sat.sub (s1) (by with_reducible repeat first | exact Fr1 | exact Fr2 | (apply Fr3; focus ((repeat (first | exact Tk1 | apply Tk2)); done)) | apply Fr4)) : Sat W0 _ (seg true g 0 [.int .i64 on, .int .i64 2, .int .i64 to, .slice pp n cap, .int .u8 alg] :: [])).lt (by simp)
    have x0 := s1.at k HC.out.2.2.1
    have x3 := s1.at (3 + k) HC.out.2.2.2.1
    have x6 := s1.at 6 HC.out.2.2.2.2.1
    have x7 := s1.at 7 HC.out.2.2.2.2.2.1
    have xz := s1.lt (by rw [HC.out.2.2.2.2.2.2.1]; omega)
    simp only [slS, slR, ifv] at x0 x3
    have sg := starsGet HC.out.2.1 ((Sat.sub (s1) (by with_reducible repeat first | exact Fr1 | exact Fr2 | (apply Fr3; focus ((repeat (first | exact Tk1 | apply Tk2)); done)) | apply Fr4)) : Sat W0 _ (stars (S.map slA) :: seg true x 0 C :: seg true g 0 [.int .i64 on, .int .i64 2, .int .i64 to, .slice pp n cap, .int .u8 alg] :: row pt ct 1 N (ts.map pieceV) :: row pw cw 1 N (us.map pieceV) :: ownRows ts :: ownRows us :: ledO (some l) rs :: rledO (some m) rs :: bytes false pp P :: L))
    have sh : Sat W0 _ (gone true pb :: rg11 true rb :: _) := Sat.sepOpen (show Sat W0 _ (sep (gone true pb) (rg11 true rb) :: _) from sg)
    have s2 : Sat W0 _ (seg true x 0 C :: seg true g 0 [.int .i64 on, .int .i64 2, .int .i64 to, .slice pp n cap, .int .u8 alg] :: row pt ct 1 N (ts.map pieceV) :: row pw cw 1 N (us.map pieceV) :: ownRows ts :: ownRows us :: ledO (some l) rs :: rledO (some m) rs :: gone true pb :: rg11 true rb :: stars ((S.map slA).eraseIdx k) :: bytes false pp P :: L) := (Sat.sub (sh) (by with_reducible repeat first | exact Fr1 | exact Fr2 | (apply Fr3; focus ((repeat (first | exact Tk1 | apply Tk2)); done)) | apply Fr4))
    clear sg sh s1
    obtain ⟨k2, hk2e⟩ : ∃ k2, k2 = pickM to 3 := ⟨_, rfl⟩
    have hk2 : k2 < 3 := by rw [hk2e]; exact pickM_lt to 3 (by omega)
    have hq2 : ∀ w : World, Calls Tryz.prog 21 #[.int .i64 to, .int .i64 3] w fun e w' => e = .returned (.int .i64 (k2 : Int)) ∧ w = w' := fun w => by
      have := pickW w to 3 (by omega) (by omega)
      rw [← hk2e] at this
      exact this
    obtain ⟨s2k, hs2k⟩ : ∃ s, S[k2]? = some s := ⟨_, List.getElem?_eq_getElem (by have := HC.out.2.2.2.2.2.2.2.2.2.2.2.2.2.1; omega)⟩
    obtain ⟨f0, f3⟩ := wc_S (l := l) (m := m) (pt := pt) (pw := pw) (ct := ct) (N := N) (cw := cw) HC.out.2.2.2.2.2.2.2.2.2.2.2.2.2.1 k2 hs2k
    rw [← HC.out.1] at f0 f3
    have HT := Lib.hid (And.intro f0 (And.intro f3 hs2k)); clear f0 f3 hs2k
    have HQ := Lib.hid hq2; clear hq2 hk2e
    have hk23 : (k2 : Int) < 3 := by omega
    go_wp2_with fail
    refine (gCopy true ((Sat.sub (s2) (by with_reducible repeat first | exact Fr1 | exact Fr2 | (apply Fr3; focus ((repeat (first | exact Tk1 | apply Tk2)); done)) | apply Fr4)) : Sat W0 _ (gone true pb :: rg11 true rb :: ledO (some l) rs :: rledO (some m) rs :: seg true x 0 C :: seg true g 0 [.int .i64 on, .int .i64 2, .int .i64 to, .slice pp n cap, .int .u8 alg] :: row pt ct 1 N (ts.map pieceV) :: row pw cw 1 N (us.map pieceV) :: ownRows ts :: ownRows us :: stars ((S.map slA).eraseIdx k) :: L))).mono ?_
    rintro e w5 ⟨rfl, s5⟩
    clear s2 x0 x3 x6 x7 xz g1 g3 gz
    go_wp2_with fail
    refine (rg11Copy true ((Sat.sub (s5) (by with_reducible repeat first | exact Fr1 | exact Fr2 | (apply Fr3; focus ((repeat (first | exact Tk1 | apply Tk2)); done)) | apply Fr4)) : Sat W0 _ (rg11 true rb :: []))).mono ?_
    rintro e w6 ⟨rfl, rfl⟩
    have s6 := s5
    clear s5
    go_wp2_with fail
    have s6d : Sat W0 _ (seg true x 0 C :: seg true g 0 [.int .i64 on, .int .i64 2, .int .i64 to, .slice pp n cap, .int .u8 alg] :: gone true pb :: rg11 true rb :: ledO (some l) rs :: rledO (some m) rs :: row pt ct 1 N (ts.map pieceV) :: row pw cw 1 N (us.map pieceV) :: ownRows ts :: ownRows us :: stars ((S.map slA).eraseIdx k) :: L) := Sat.drew (Sat.sub (s6) (by with_reducible repeat first | exact Fr1 | exact Fr2 | (apply Fr3; focus ((repeat (first | exact Tk1 | apply Tk2)); done)) | apply Fr4))
    refine region_E (fun w' => w'.cell? ⟨g, 2, none⟩ = some (.int .i64 to) ∧ g < w'.heap.size) [2] (by kernel_rfl) ?_
    have hHeld := (And.intro (((Sat.sub (s6d) (by with_reducible repeat first | exact Fr1 | exact Fr2 | (apply Fr3; focus ((repeat (first | exact Tk1 | apply Tk2)); done)) | apply Fr4)) : Sat W0 _ (seg true g 0 [.int .i64 on, .int .i64 2, .int .i64 to, .slice pp n cap, .int .u8 alg] :: [])).at 2 rfl) (((Sat.sub (s6d) (by with_reducible repeat first | exact Fr1 | exact Fr2 | (apply Fr3; focus ((repeat (first | exact Tk1 | apply Tk2)); done)) | apply Fr4)) : Sat W0 _ (seg true g 0 [.int .i64 on, .int .i64 2, .int .i64 to, .slice pp n cap, .int .u8 alg] :: [])).lt (by simp)))
    iterate 6
     first | refine autoT hHeld (by rfl) (by rfl) (x := ?_) (v := ?_) ?_ (by kernel_rfl) ?_ ?_ ?_ | refine autoP (by rfl) (x := ?_) (v := ?_) ?_ (by kernel_rfl) ?_ ?_ ?_
     rotate_left 2
     · (simp only [gE1, gE2, gE3]; rfl)
     · exact fun _ _ _ h => h
     · refine Or.inl ⟨by rfl, fun w hSw => ?_⟩
       (try dsimp only at hSw)
       go_simp
       try (with_reducible rfl)
     try simp only [pA1, pA2, pA3, pA4]
    refine anyE_one (i := 3) (x := ?_) ?_ (by kernel_rfl) (fun K hK => ?_)
    rotate_left
    · (simp only [gE1, gE2, gE3]; rfl)
    go_simp
    refine (HQ.out _).mono ?_
    rintro e w7 ⟨rfl, hw7⟩
    have s7d : Sat W0 w7 (seg true x 0 C :: seg true g 0 [.int .i64 on, .int .i64 2, .int .i64 to, .slice pp n cap, .int .u8 alg] :: gone true pb :: rg11 true rb :: ledO (some l) rs :: rledO (some m) rs :: row pt ct 1 N (ts.map pieceV) :: row pw cw 1 N (us.map pieceV) :: ownRows ts :: ownRows us :: stars ((S.map slA).eraseIdx k) :: L) := by rw [← hw7]; exact s6d
    clear hw7
    go_wp2_with fail
    have hKp := (And.intro (((Sat.sub (s7d) (by with_reducible repeat first | exact Fr1 | exact Fr2 | (apply Fr3; focus ((repeat (first | exact Tk1 | apply Tk2)); done)) | apply Fr4)) : Sat W0 _ (seg true g 0 [.int .i64 on, .int .i64 2, .int .i64 to, .slice pp n cap, .int .u8 alg] :: [])).at 2 rfl) (((Sat.sub (s7d) (by with_reducible repeat first | exact Fr1 | exact Fr2 | (apply Fr3; focus ((repeat (first | exact Tk1 | apply Tk2)); done)) | apply Fr4)) : Sat W0 _ (seg true g 0 [.int .i64 on, .int .i64 2, .int .i64 to, .slice pp n cap, .int .u8 alg] :: [])).lt (by simp)))
    refine hK.out _ _ hKp ?_
    clear hK K hHeld
    have hHeld := hKp
    clear hKp
    try simp only [pA1, pA2, pA3, pA4]
    have y0 := s7d.at k2 HT.out.1
    have yf := s7d.fr k2 (by rw [HC.out.2.2.2.2.2.2.1]; omega)
    have yz := s7d.lt (by rw [HC.out.2.2.2.2.2.2.1]; omega)
    iterate 1
     first | refine autoT hHeld (by rfl) (by rfl) (x := ?_) (v := ?_) ?_ (by kernel_rfl) ?_ ?_ ?_ | refine autoP (by rfl) (x := ?_) (v := ?_) ?_ (by kernel_rfl) ?_ ?_ ?_
     rotate_left 2
     · (simp only [gE1, gE2, gE3]; rfl)
     · exact fun _ _ _ h => h
     · refine Or.inl ⟨by rfl, fun w hSw => ?_⟩
       (try dsimp only at hSw)
       go_simp
       try (with_reducible rfl)
     try simp only [pA1, pA2, pA3, pA4]
    refine anyE_last (i := 8) (x := ?_) ?_ (by kernel_rfl) (by kernel_rfl) (fun K hK => ?_)
    rotate_left
    · (simp only [gE1, gE2, gE3]; rfl)
    go_simp
    refine hK.out _ _ ?_
    clear hK K
    try simp only [pA1, pA2, pA3, pA4]
    have s8 : Sat W0 _ (seg true x 0 (C.set k2 (.nilIface)) :: seg true g 0 [.int .i64 on, .int .i64 2, .int .i64 to, .slice pp n cap, .int .u8 alg] :: gone true pb :: rg11 true rb :: ledO (some l) rs :: rledO (some m) rs :: row pt ct 1 N (ts.map pieceV) :: row pw cw 1 N (us.map pieceV) :: ownRows ts :: ownRows us :: stars ((S.map slA).eraseIdx k) :: L) := s7d.store (i := k2) (by rw [HC.out.2.2.2.2.2.2.1]; omega) (.nilIface) (q := k2) (by simp)
    clear s6 s6d s7d y0 yf yz
    refine anyE_done (by kernel_rfl) ?_ _
    go_wp2_with fail
    have s8d := s8.drew
    refine region_E (fun w' => w'.cell? ⟨g, 2, none⟩ = some (.int .i64 to) ∧ g < w'.heap.size) [2] (by kernel_rfl) ?_
    have hHeld := (And.intro (((Sat.sub (s8d) (by with_reducible repeat first | exact Fr1 | exact Fr2 | (apply Fr3; focus ((repeat (first | exact Tk1 | apply Tk2)); done)) | apply Fr4)) : Sat W0 _ (seg true g 0 [.int .i64 on, .int .i64 2, .int .i64 to, .slice pp n cap, .int .u8 alg] :: [])).at 2 rfl) (((Sat.sub (s8d) (by with_reducible repeat first | exact Fr1 | exact Fr2 | (apply Fr3; focus ((repeat (first | exact Tk1 | apply Tk2)); done)) | apply Fr4)) : Sat W0 _ (seg true g 0 [.int .i64 on, .int .i64 2, .int .i64 to, .slice pp n cap, .int .u8 alg] :: [])).lt (by simp)))
    iterate 6
     first | refine autoT hHeld (by rfl) (by rfl) (x := ?_) (v := ?_) ?_ (by kernel_rfl) ?_ ?_ ?_ | refine autoP (by rfl) (x := ?_) (v := ?_) ?_ (by kernel_rfl) ?_ ?_ ?_
     rotate_left 2
     · (simp only [gE1, gE2, gE3]; rfl)
     · exact fun _ _ _ h => h
     · refine Or.inl ⟨by rfl, fun w hSw => ?_⟩
       (try dsimp only at hSw)
       go_simp
       try (with_reducible rfl)
     try simp only [pA1, pA2, pA3, pA4]
    refine anyE_one (i := 3) (x := ?_) ?_ (by kernel_rfl) (fun K hK => ?_)
    rotate_left
    · (simp only [gE1, gE2, gE3]; rfl)
    go_simp
    refine (HQ.out _).mono ?_
    rintro e w9 ⟨rfl, hw9⟩
    have s9d : Sat W0 w9 (seg true x 0 (C.set k2 (.nilIface)) :: seg true g 0 [.int .i64 on, .int .i64 2, .int .i64 to, .slice pp n cap, .int .u8 alg] :: gone true pb :: rg11 true rb :: ledO (some l) rs :: rledO (some m) rs :: row pt ct 1 N (ts.map pieceV) :: row pw cw 1 N (us.map pieceV) :: ownRows ts :: ownRows us :: stars ((S.map slA).eraseIdx k) :: L) := by rw [← hw9]; exact s8d
    clear hw9
    go_wp2_with fail
    have hKp := (And.intro (((Sat.sub (s9d) (by with_reducible repeat first | exact Fr1 | exact Fr2 | (apply Fr3; focus ((repeat (first | exact Tk1 | apply Tk2)); done)) | apply Fr4)) : Sat W0 _ (seg true g 0 [.int .i64 on, .int .i64 2, .int .i64 to, .slice pp n cap, .int .u8 alg] :: [])).at 2 rfl) (((Sat.sub (s9d) (by with_reducible repeat first | exact Fr1 | exact Fr2 | (apply Fr3; focus ((repeat (first | exact Tk1 | apply Tk2)); done)) | apply Fr4)) : Sat W0 _ (seg true g 0 [.int .i64 on, .int .i64 2, .int .i64 to, .slice pp n cap, .int .u8 alg] :: [])).lt (by simp)))
    refine hK.out _ _ hKp ?_
    clear hK K hHeld
    have hHeld := hKp
    clear hKp
    try simp only [pA1, pA2, pA3, pA4]
    have y0 := s9d.at (3 + k2) (by rw [List.getElem?_set_ne (by omega)]; exact HT.out.2.1)
    have yf := s9d.fr (3 + k2) (by rw [List.length_set, HC.out.2.2.2.2.2.2.1]; omega)
    have yz := s9d.lt (by rw [List.length_set, HC.out.2.2.2.2.2.2.1]; omega)
    iterate 1
     first | refine autoT hHeld (by rfl) (by rfl) (x := ?_) (v := ?_) ?_ (by kernel_rfl) ?_ ?_ ?_ | refine autoP (by rfl) (x := ?_) (v := ?_) ?_ (by kernel_rfl) ?_ ?_ ?_
     rotate_left 2
     · (simp only [gE1, gE2, gE3]; rfl)
     · exact fun _ _ _ h => h
     · refine Or.inl ⟨by rfl, fun w hSw => ?_⟩
       (try dsimp only at hSw)
       go_simp
       try (with_reducible rfl)
     try simp only [pA1, pA2, pA3, pA4]
    refine anyE_last (i := 8) (x := ?_) ?_ (by kernel_rfl) (by kernel_rfl) (fun K hK => ?_)
    rotate_left
    · (simp only [gE1, gE2, gE3]; rfl)
    go_simp
    refine hK.out _ _ ?_
    clear hK K
    try simp only [pA1, pA2, pA3, pA4]
    have s9 : Sat W0 _ (seg true x 0 ((C.set k2 (.nilIface)).set (3 + k2) (.pointer none)) :: seg true g 0 [.int .i64 on, .int .i64 2, .int .i64 to, .slice pp n cap, .int .u8 alg] :: gone true pb :: rg11 true rb :: ledO (some l) rs :: rledO (some m) rs :: row pt ct 1 N (ts.map pieceV) :: row pw cw 1 N (us.map pieceV) :: ownRows ts :: ownRows us :: stars ((S.map slA).eraseIdx k) :: L) := s9d.store (i := 3 + k2) (by rw [List.length_set, HC.out.2.2.2.2.2.2.1]; omega) (.pointer none) (q := 3 + k2) (by simp)
    clear s8 s8d s9d y0 yf yz
    refine anyE_done (by kernel_rfl) ?_ _
    have sk : Sat W0 _ (slA (.gone true pb rb) :: _) := Sat.sepShut ((Sat.sub (s9) (by with_reducible repeat first | exact Fr1 | exact Fr2 | (apply Fr3; focus ((repeat (first | exact Tk1 | apply Tk2)); done)) | apply Fr4)) : Sat W0 _ (gone true pb :: rg11 true rb :: stars ((S.map slA).eraseIdx k) :: seg true x 0 ((C.set k2 (.nilIface)).set (3 + k2) (.pointer none)) :: ledO (some l) rs :: rledO (some m) rs :: row pt ct 1 N (ts.map pieceV) :: row pw cw 1 N (us.map pieceV) :: ownRows ts :: ownRows us :: L))
    have si := slotBack HC.out.2.1 sk
    have sn := starsGet HT.out.2.2 ((Sat.sub (si) (by with_reducible repeat first | exact Fr1 | exact Fr2 | (apply Fr3; focus ((repeat (first | exact Tk1 | apply Tk2)); done)) | apply Fr4)) : Sat W0 _ (stars (S.map slA) :: seg true x 0 ((C.set k2 (.nilIface)).set (3 + k2) (.pointer none)) :: ledO (some l) rs :: rledO (some m) rs :: row pt ct 1 N (ts.map pieceV) :: row pw cw 1 N (us.map pieceV) :: ownRows ts :: ownRows us :: L))
    have sm := Sat.addEmp ((Sat.sub (sn) (by with_reducible repeat first | exact Fr1 | exact Fr2 | (apply Fr3; focus ((repeat (first | exact Tk1 | apply Tk2)); done)) | apply Fr4)) : Sat W0 _ (stars ((S.map slA).eraseIdx k2) :: seg true x 0 ((C.set k2 (.nilIface)).set (3 + k2) (.pointer none)) :: ledO (some l) rs :: rledO (some m) rs :: row pt ct 1 N (ts.map pieceV) :: row pw cw 1 N (us.map pieceV) :: ownRows ts :: ownRows us :: L))
    have so := starsPut (b := .no) HT.out.2.2 (show Sat W0 _ (slA .no :: stars ((S.map slA).eraseIdx k2) :: seg true x 0 ((C.set k2 (.nilIface)).set (3 + k2) (.pointer none)) :: ledO (some l) rs :: rledO (some m) rs :: row pt ct 1 N (ts.map pieceV) :: row pw cw 1 N (us.map pieceV) :: ownRows ts :: ownRows us :: L) from sm)
    have hset : ((C.set k2 (.nilIface)).set (3 + k2) (.pointer none)) = wCells l m (S.set k2 (.no)) pt ct N pw cw := by
      rw [HC.out.1]; exact wc_setS HC.out.2.2.2.2.2.2.2.2.2.2.2.2.2.1 k2 hk2 (.no) (.no)
    rw [hset] at so
    have sj : Sat W0 _ (wA x l m (S.set k2 (.no)) ts us pt ct pw cw N rs L) := (Sat.sub (so) (by with_reducible repeat first | exact Fr1 | exact Fr2 | (apply Fr3; focus ((repeat (first | exact Tk1 | apply Tk2)); done)) | apply Fr4))
    have HS := Lib.hid sj; clear s9 sk si sn sm so sj hset
    go_wp2_with fail
    go_ret
    exact ⟨rfl, S.set k2 (.no), ts, us, pt, ct, pw, cw, N, rs, okSame HC.out.2.2.2.2.2.2.2.2.2.2.2.2.2 (List.length_set ..) (mem_set_le HC.out.2.2.2.2.2.2.2.2.2.2.2.2.2.2.2.2.2.2.2.2.2 (by omega) (Nat.zero_le _)) (by omega) (by omega), HS.out⟩
end Go.Proofs.YtlmababpmmhhoaaGreat
