
/- An iterator is gone over: what it tells is what it must tell; under the conditions that each names. -/
import Derived.Test.YtpiiklfnakkdiaaTwi
namespace Go.Proofs.Ytpiiklfnakkdiaa
open Go.RowKit Go.Sep
set_option linter.unusedVariables false
set_option linter.unusedSimpArgs false
attribute [local go_sem] Oper.semAt_some
theorem allocAt' {W0 w : World} {L : List Assn} (h : Sat W0 w L) (cs : Array Value) (T : TypeId) {q : Nat} (hq : q = w.heap.size) : Sat W0 (w.alloc (.cells cs T)) (seg true q 0 cs.toList :: L) := by
  subst hq; exact h.alloc cs T
@[go_sem] theorem eqlSeq (f : FuncId) (fr : Array Value) (w : World) : (binOp .eql 64 (.func (.func f) #[] fr) .nilFunc).run Try.prog w = .ok (.bool false) w := by kernel_rfl
theorem ints_at {I : List Nat} {k j : Nat} {rest : List Value} (h : I[k]? = some j) : (ints I ++ rest)[k]? = some (.int .i64 (j : Int)) := by
  rw [List.getElem?_append_left (by unfold ints; rw [List.length_map]; exact (List.getElem?_eq_some_iff.1 h).1)]
  unfold ints
  rw [List.getElem?_map, h]
  rfl
theorem vals_at {I : List Nat} {vals : List Int} {k j : Nat} {rest : List Value} (h : I[k]? = some j) : (valsT vals I ++ rest)[k]? = some (.int .i64 (vT vals j)) := by
  rw [List.getElem?_append_left (by unfold valsT; rw [List.length_map]; exact (List.getElem?_eq_some_iff.1 h).1)]
  unfold valsT
  rw [List.getElem?_map, h]
  rfl
theorem idxT_up {held : List Bool} {i : Nat} (hd : held.getD i false = true) : (idxT held (i + 1)).length = (idxT held i).length + 1 := by
  rw [idxT_succ, hd, if_pos rfl, List.length_append]; rfl
theorem idxT_same {held : List Bool} {i : Nat} (hd : held.getD i false = false) : idxT held (i + 1) = idxT held i := by
  rw [idxT_succ, hd]; simp
/-- What lies about a round of 'walk'. -/
abbrev wkJ (bx : Nat) (k m : Nat) (hp vp : Option Addr) (hc vc : Nat) (most : Int) (res : Bool) (T : List Assn) : List Assn :=
  seg true (bx + 1 + 1 + 1 + 1) 0 [.int .i64 (k : Int)] :: seg true (bx + 1 + 1 + 1) 0 [.bool res] :: seg true (bx + 1 + 1) 0 [.int .i64 most] :: seg true (bx + 1) 0 [.slice vp m vc] :: seg true bx 0 [.slice hp m hc] :: T
theorem wkC {W0 w : World} {bx k m : Nat} {hp vp : Option Addr} {hc vc : Nat} {most : Int} {res : Bool} {T : List Assn} (h : Sat W0 w (wkJ bx k m hp vp hc vc most res T)) :
    w.cell? ⟨bx + 1 + 1 + 1 + 1, 0, none⟩ = some (.int .i64 (k : Int)) ∧ w.cell? ⟨bx + 1 + 1 + 1, 0, none⟩ = some (.bool res) ∧ w.cell? ⟨bx + 1 + 1, 0, none⟩ = some (.int .i64 most) ∧ w.cell? ⟨bx + 1, 0, none⟩ = some (.slice vp m vc) ∧ w.cell? ⟨bx, 0, none⟩ = some (.slice hp m hc) ∧
    w.frozen? ⟨bx + 1 + 1 + 1 + 1, 0, none⟩ = false ∧ w.frozen? ⟨bx + 1 + 1 + 1, 0, none⟩ = false ∧ bx + 1 + 1 + 1 + 1 < w.heap.size := by
  have s1 := h.pull 1
  have s2 := h.pull 2
  have s3 := h.pull 3
  have s4 := h.pull 4
  exact ⟨h.at 0 rfl, Sat.at s1 0 rfl, Sat.at s2 0 rfl, Sat.at s3 0 rfl, Sat.at s4 0 rfl, h.fr 0 (by simp), Sat.fr s1 0 (by simp), h.lt (by simp)⟩
theorem wkEnd {W0 w : World} {bx k m : Nat} {hp vp : Option Addr} {hc vc : Nat} {most : Int} {res : Bool} {T : List Assn} (b : Bool) (h : Sat W0 w (wkJ bx k m hp vp hc vc most res T)) : Sat W0 (w.setCell ⟨bx + 1 + 1 + 1, 0, none⟩ (.bool b)) (wkJ bx k m hp vp hc vc most b T) := by
  have h1 : Sat W0 w (seg true (bx + 1 + 1 + 1) 0 [.bool res] :: seg true (bx + 1 + 1 + 1 + 1) 0 [.int .i64 (k : Int)] :: seg true (bx + 1 + 1) 0 [.int .i64 most] :: seg true (bx + 1) 0 [.slice vp m vc] :: seg true bx 0 [.slice hp m hc] :: T) := (Sat.sub (h) (by with_reducible repeat first | exact Fr1 | exact Fr2 | (apply Fr3; focus ((repeat (first | exact Tk1 | apply Tk2)); done)) | apply Fr4))
  have h2 : Sat W0 _ (seg true (bx + 1 + 1 + 1) 0 [.bool b] :: _) := h1.store (i := 0) (by simp) (.bool b) (q := 0) rfl
  exact (Sat.sub (h2) (by with_reducible repeat first | exact Fr1 | exact Fr2 | (apply Fr3; focus ((repeat (first | exact Tk1 | apply Tk2)); done)) | apply Fr4))
set_option maxRecDepth 100000 in
set_option maxHeartbeats 2000000 in
theorem walkO_int {W0 w : World} {L : List Assn} {g h1 h2 n c1 c2 m hc vc : Nat} {hp vp : Option Addr} (held : List Bool) (vals : List Int) (HB VB : List Value) (hH : ∀ i, i < n → HB[i]? = some (.bool (held.getD i false))) (hV : ∀ i, i < n → VB[i]? = some (.int .i64 (vT vals i))) (hp0 : 0 < n) (hsm : n ≤ 64) (hm : m = (idxT held n).length) (most : Int)
    (hs : Sat W0 w (seg true g 0 [.slice (some ⟨h1,0,none⟩) n c1, .slice (some ⟨h2,0,none⟩) n c2] :: seg true h1 0 HB :: seg true h2 0 VB :: row hp hc 1 m (ints (idxT held n)) :: row vp vc 1 m (valsT vals (idxT held n)) :: L)) :
    Calls Try.prog 24 #[.func (.func 37) #[] #[.pointer (some ⟨g, 0, none⟩)], .slice hp m hc, .slice vp m vc, .int .i64 most] w fun e w' => e = .returned (.bool true) ∧
      Sat W0 w' (seg true g 0 [.slice (some ⟨h1,0,none⟩) n c1, .slice (some ⟨h2,0,none⟩) n c2] :: seg true h1 0 HB :: seg true h2 0 VB :: row hp hc 1 m (ints (idxT held n)) :: row vp vc 1 m (valsT vals (idxT held n)) :: L) := by
  obtain ⟨bx, hbx⟩ : ∃ bx, bx = w.heap.size := ⟨_, rfl⟩
  have s1 := allocAt' (allocAt' (allocAt' (allocAt' (allocAt' hs #[.slice hp m hc] 50 (q := bx) hbx) #[.slice vp m vc] 50 (q := bx + 1) (by simp [hbx])) #[.int .i64 most] 3 (q := bx + 1 + 1) (by simp [hbx])) #[.bool false] 4 (q := bx + 1 + 1 + 1) (by simp [hbx])) #[.int .i64 0] 3 (q := bx + 1 + 1 + 1 + 1) (by simp [hbx])
  have HX := Lib.hid (And.intro hH (And.intro hV hm)); clear hH hV hm
  refine (callsIn_wide (n := 3)).1 ?_
  refine callsIn_of_wp_marks Try.func24 rfl trivial ?_ rfl
  simp only [Try.ntmps24, List.size_toArray, List.length_cons, List.length_nil, Nat.reduceAdd, Nat.reduceSub, Array.replicate_succ, Array.replicate_zero, List.push_toArray, List.append_toArray, List.nil_append, List.cons_append]
  gi_wp2
  rw [← hbx]
  refine wpIn_rangeSat (F := Fence.wide) (n := 3) rfl (by decide) (gf := 37) (lb := #[.pointer (some ⟨g, 0, none⟩)]) rfl trivial (enters_of Try.func37 (by kernel_rfl) rfl) s1 ?_
  intro fn l D rd W1 hfn hl hD hrd s3
  clear hl hD s1 hbx hs
  have e00 : Value.int .i64 0 = .int .i64 (((idxT held 0).length : Nat) : Int) := rfl
  rw [e00] at s3
  have s5 : Sat W0 W1 (seg true g 0 [.slice (some ⟨h1,0,none⟩) n c1, .slice (some ⟨h2,0,none⟩) n c2] :: seg true h1 0 HB :: seg true h2 0 VB :: obj l (rd .ready none) :: obj D (.deferred (some [])) :: (wkJ bx (idxT held 0).length m hp vp hc vc most false (row hp hc 1 m (ints (idxT held n)) :: row vp vc 1 m (valsT vals (idxT held n)) :: L))) := (Sat.sub (s3) (by with_reducible repeat first | exact Fr1 | exact Fr2 | (apply Fr3; focus ((repeat (first | exact Tk1 | apply Tk2)); done)) | apply Fr4))
  clear s3
  refine allIter (m := 1) held vals HB VB HX.out.1 HX.out.2.1 hp0 hsm (fun i => obj l (rd .ready none) :: obj D (.deferred (some [])) :: (wkJ bx (idxT held i).length m hp vp hc vc most false (row hp hc 1 m (ints (idxT held n)) :: row vp vc 1 m (valsT vals (idxT held n)) :: L))) (fun i hd => by rw [idxT_same hd]) _ l ?_ ?_ s5
  · clear s5
    intro i W2 hi hd s6
    have hik := idxT_get hd hi
    have hup := idxT_up hd
    obtain ⟨k, hk⟩ : ∃ k, k = (idxT held i).length := ⟨_, rfl⟩
    rw [← hk] at hik hup s6
    have hkm : k < m := by rw [HX.out.2.2]; exact (List.getElem?_eq_some_iff.1 hik).1
    have hle : (idxT held n).length ≤ n := idxT_len held n
    have hm64 : m ≤ 64 := by rw [HX.out.2.2]; omega
    subst hrd
    refine yieldSat (L := seg true g 0 [.slice (some ⟨h1,0,none⟩) n c1, .slice (some ⟨h2,0,none⟩) n c2] :: seg true h1 0 HB :: seg true h2 0 VB :: obj D (.deferred (some [])) :: (wkJ bx k m hp vp hc vc most false (row hp hc 1 m (ints (idxT held n)) :: row vp vc 1 m (valsT vals (idxT held n)) :: L))) rfl hfn (Sat.sub (s6) (by with_reducible repeat first | exact Fr1 | exact Fr2 | (apply Fr3; focus ((repeat (first | exact Tk1 | apply Tk2)); done)) | apply Fr4)) ?a1 ?assign ?body
    case assign =>
      intro K hK
      gi_wp2
      exact hK
    case body =>
      clear s6
      intro W3 s7
      have sr : Sat W0 W3 (row hp hc 1 m (ints (idxT held n)) :: row vp vc 1 m (valsT vals (idxT held n)) :: obj l _ :: seg true g 0 [.slice (some ⟨h1,0,none⟩) n c1, .slice (some ⟨h2,0,none⟩) n c2] :: seg true h1 0 HB :: seg true h2 0 VB :: obj D (.deferred (some [])) :: (wkJ bx k m hp vp hc vc most false L)) := (Sat.sub (s7) (by with_reducible repeat first | exact Fr1 | exact Fr2 | (apply Fr3; focus ((repeat (first | exact Tk1 | apply Tk2)); done)) | apply Fr4))
      clear s7
      obtain ⟨hl1, ⟨-, -, h0, -, -⟩ | ⟨g1, r1, rfl, hn1, hx1, hy1, sr2⟩⟩ := sr.rowOpen
      · omega
      have srb : Sat W0 W3 (row vp vc 1 m (valsT vals (idxT held n)) :: seg true g1 0 (ints (idxT held n) ++ r1) :: obj l _ :: seg true g 0 [.slice (some ⟨h1,0,none⟩) n c1, .slice (some ⟨h2,0,none⟩) n c2] :: seg true h1 0 HB :: seg true h2 0 VB :: obj D (.deferred (some [])) :: wkJ bx k m (some ⟨g1,0,none⟩) vp hc vc most false L) := (Sat.sub (sr2) (by with_reducible repeat first | exact Fr1 | exact Fr2 | (apply Fr3; focus ((repeat (first | exact Tk1 | apply Tk2)); done)) | apply Fr4))
      obtain ⟨hl2, ⟨-, -, h0, -, -⟩ | ⟨g2, r2, rfl, hn2, hx2, hy2, sr3⟩⟩ := srb.rowOpen
      · omega
      clear sr sr2 srb
      have HZ := Lib.hid (And.intro hl1 (And.intro hy1 (And.intro hl2 (And.intro hy2 (And.intro hup (And.intro hk hd)))))); clear hl1 hy1 hl2 hy2 hup hk hd hle
      have hA : ∀ w' M, Sat W0 w' (seg true g1 0 (ints (idxT held n) ++ r1) :: seg true g2 0 (valsT vals (idxT held n) ++ r2) :: M) → w'.cell? ⟨g1, k, none⟩ = some (.int .i64 (i : Int)) ∧ g1 < w'.heap.size ∧ w'.cell? ⟨g2, k, none⟩ = some (.int .i64 (vT vals i)) ∧ g2 < w'.heap.size := fun w' M s => by
        have a1 := ints_at (rest := r1) hik
        have a2 := vals_at (vals := vals) (rest := r2) hik
        have s2 := s.pull 1
        exact ⟨s.at k a1, s.lt (Nat.lt_of_le_of_lt (Nat.zero_le _) (List.getElem?_eq_some_iff.1 a1).1), Sat.at s2 k a2, Sat.lt s2 (Nat.lt_of_le_of_lt (Nat.zero_le _) (List.getElem?_eq_some_iff.1 a2).1)⟩
      have HA := Lib.hid (And.intro hA hik); clear hA hik
      have sq : Sat W0 W3 (wkJ bx k m (some ⟨g1,0,none⟩) (some ⟨g2,0,none⟩) hc vc most false (seg true g1 0 (ints (idxT held n) ++ r1) :: seg true g2 0 (valsT vals (idxT held n) ++ r2) :: obj l _ :: seg true g 0 [.slice (some ⟨h1,0,none⟩) n c1, .slice (some ⟨h2,0,none⟩) n c2] :: seg true h1 0 HB :: seg true h2 0 VB :: obj D (.deferred (some [])) :: L)) := (Sat.sub (sr3) (by with_reducible repeat first | exact Fr1 | exact Fr2 | (apply Fr3; focus ((repeat (first | exact Tk1 | apply Tk2)); done)) | apply Fr4))
      clear sr3
      obtain ⟨e0, e1, e2, e3⟩ := HA.out.1 W3 [] (Sat.sub (sq) (by with_reducible repeat first | exact Fr1 | exact Fr2 | (apply Fr3; focus ((repeat (first | exact Tk1 | apply Tk2)); done)) | apply Fr4))
      obtain ⟨k0, k1, k2, k3, k4, k5, k6, k7⟩ := wkC ((Sat.sub (sq) (by with_reducible repeat first | exact Fr1 | exact Fr2 | (apply Fr3; focus ((repeat (first | exact Tk1 | apply Tk2)); done)) | apply Fr4)) : Sat W0 W3 (wkJ bx k m (some ⟨g1,0,none⟩) (some ⟨g2,0,none⟩) hc vc most false []))
      have z1 : bx < W3.heap.size := by omega
      have z2 : bx + 1 < W3.heap.size := by omega
      have z3 : bx + 1 + 1 < W3.heap.size := by omega
      have z4 : bx + 1 + 1 + 1 < W3.heap.size := by omega
      have hkm' : (k : Int) < (m : Int) := by omega
      have hnk : ((m : Int) ≤ (k : Int)) = False := by simp; omega
      obtain ⟨x, hx⟩ : ∃ x, x = vT vals i := ⟨_, rfl⟩
      rw [← hx] at e2 ⊢
      have hkk : ((k : Int) + 1) = (((idxT held (i + 1)).length : Nat) : Int) := by rw [HZ.out.2.2.2.2.1]; omega
      have HKK := Lib.hid hkk; clear hkk
      have hclose : ∀ (w' : World) (res : Bool) (M : List Assn), Sat W0 w' (seg true (bx + 1 + 1 + 1 + 1) 0 [.int .i64 ((k : Int) + 1)] :: seg true (bx + 1 + 1 + 1) 0 [.bool res] :: seg true (bx + 1 + 1) 0 [.int .i64 most] :: seg true (bx + 1) 0 [.slice (some ⟨g2,0,none⟩) m vc] :: seg true bx 0 [.slice (some ⟨g1,0,none⟩) m hc] :: seg true g1 0 (ints (idxT held n) ++ r1) :: seg true g2 0 (valsT vals (idxT held n) ++ r2) :: M) → Sat W0 w' (wkJ bx (idxT held (i + 1)).length m (some ⟨g1,0,none⟩) (some ⟨g2,0,none⟩) hc vc most res (row (some ⟨g1,0,none⟩) hc 1 m (ints (idxT held n)) :: row (some ⟨g2,0,none⟩) vc 1 m (valsT vals (idxT held n)) :: M)) := by
        intro w' res M s
        rw [HKK.out] at s
        have s1 := ((Sat.sub (s) (by with_reducible repeat first | exact Fr1 | exact Fr2 | (apply Fr3; focus ((repeat (first | exact Tk1 | apply Tk2)); done)) | apply Fr4)) : Sat W0 w' (seg true g1 0 (ints (idxT held n) ++ r1) :: seg true g2 0 (valsT vals (idxT held n) ++ r2) :: wkJ bx (idxT held (i + 1)).length m (some ⟨g1,0,none⟩) (some ⟨g2,0,none⟩) hc vc most res M)).rowMade HZ.out.1 HZ.out.2.1 hn1 hx1
        have s2 := ((Sat.sub (s1) (by with_reducible repeat first | exact Fr1 | exact Fr2 | (apply Fr3; focus ((repeat (first | exact Tk1 | apply Tk2)); done)) | apply Fr4)) : Sat W0 w' (seg true g2 0 (valsT vals (idxT held n) ++ r2) :: row (some ⟨g1,0,none⟩) hc 1 m (ints (idxT held n)) :: wkJ bx (idxT held (i + 1)).length m (some ⟨g1,0,none⟩) (some ⟨g2,0,none⟩) hc vc most res M)).rowMade HZ.out.2.2.1 HZ.out.2.2.2.1 hn2 hx2
        exact (Sat.sub (s2) (by with_reducible repeat first | exact Fr1 | exact Fr2 | (apply Fr3; focus ((repeat (first | exact Tk1 | apply Tk2)); done)) | apply Fr4))
      have HCL := Lib.hid hclose; clear hclose
      have st : Sat W0 (W3.setCell ⟨bx + 1 + 1 + 1 + 1, 0, none⟩ (.int .i64 ((k : Int) + 1))) (seg true (bx + 1 + 1 + 1 + 1) 0 [.int .i64 ((k : Int) + 1)] :: seg true (bx + 1 + 1 + 1) 0 [.bool false] :: seg true (bx + 1 + 1) 0 [.int .i64 most] :: seg true (bx + 1) 0 [.slice (some ⟨g2,0,none⟩) m vc] :: seg true bx 0 [.slice (some ⟨g1,0,none⟩) m hc] :: _) := (sq : Sat W0 W3 (seg true (bx + 1 + 1 + 1 + 1) 0 [.int .i64 (k : Int)] :: _)).store (i := 0) (by simp) (.int .i64 ((k : Int) + 1)) (q := 0) rfl
      have hne : bx + 1 + 1 ≠ bx + 1 + 1 + 1 + 1 := by omega
      have ST := Lib.hid st; clear st
      have SQ := Lib.hid sq; clear sq
      by_cases hmost : (k : Int) + 1 = most
      · subst hmost
        gi_wp2
        have st3 := wkEnd true (HCL.out _ false _ (Sat.sub (ST.out) (by with_reducible repeat first | exact Fr1 | exact Fr2 | (apply Fr3; focus ((repeat (first | exact Tk1 | apply Tk2)); done)) | apply Fr4)))
        refine ⟨seg true g 0 [.slice (some ⟨h1,0,none⟩) n c1, .slice (some ⟨h2,0,none⟩) n c2] :: seg true h1 0 HB :: seg true h2 0 VB :: obj D (.deferred (some [])) :: wkJ bx (idxT held (i + 1)).length m (some ⟨g1,0,none⟩) (some ⟨g2,0,none⟩) hc vc ((k : Int) + 1) true (row (some ⟨g1,0,none⟩) hc 1 m (ints (idxT held n)) :: row (some ⟨g2,0,none⟩) vc 1 m (valsT vals (idxT held n)) :: L), (Sat.sub (st3) (by with_reducible repeat first | exact Fr1 | exact Fr2 | (apply Fr3; focus ((repeat (first | exact Tk1 | apply Tk2)); done)) | apply Fr4)), ?_⟩
        clear st3 ST SQ e0 e1 e2 e3 k0 k1 k2 k3 k4 k5 k6 k7
        intro W4 s13
        refine ⟨.done, (fun h => by cases h), some .ret, seg true g 0 [.slice (some ⟨h1,0,none⟩) n c1, .slice (some ⟨h2,0,none⟩) n c2] :: seg true h1 0 HB :: seg true h2 0 VB :: wkJ bx (idxT held (i + 1)).length m (some ⟨g1,0,none⟩) (some ⟨g2,0,none⟩) hc vc ((k : Int) + 1) true (row (some ⟨g1,0,none⟩) hc 1 m (ints (idxT held n)) :: row (some ⟨g2,0,none⟩) vc 1 m (valsT vals (idxT held n)) :: L), (Sat.sub (s13) (by with_reducible repeat first | exact Fr1 | exact Fr2 | (apply Fr3; focus ((repeat (first | exact Tk1 | apply Tk2)); done)) | apply Fr4)), ?_⟩
        clear s13
        intro W5 s14 hD
        have sr := ((Sat.sub (s14) (by with_reducible repeat first | exact Fr1 | exact Fr2 | (apply Fr3; focus ((repeat (first | exact Tk1 | apply Tk2)); done)) | apply Fr4)) : Sat W0 W5 (seg true (bx + 1 + 1 + 1) 0 [.bool true] :: obj D (.deferred (some [])) :: seg true g 0 [.slice (some ⟨h1,0,none⟩) n c1, .slice (some ⟨h2,0,none⟩) n c2] :: seg true h1 0 HB :: seg true h2 0 VB :: row (some ⟨g1,0,none⟩) hc 1 m (ints (idxT held n)) :: row (some ⟨g2,0,none⟩) vc 1 m (valsT vals (idxT held n)) :: L))
        clear s14
        gi_wp2
        have hD' := ((Sat.sub (sr) (by with_reducible repeat first | exact Fr1 | exact Fr2 | (apply Fr3; focus ((repeat (first | exact Tk1 | apply Tk2)); done)) | apply Fr4)) : Sat W0 W5 (obj D (.deferred (some [])) :: [])).obj.1
        have s6 := ((Sat.sub (sr) (by with_reducible repeat first | exact Fr1 | exact Fr2 | (apply Fr3; focus ((repeat (first | exact Tk1 | apply Tk2)); done)) | apply Fr4)) : Sat W0 W5 (obj D (.deferred (some [])) :: seg true (bx + 1 + 1 + 1) 0 [.bool true] :: seg true g 0 [.slice (some ⟨h1,0,none⟩) n c1, .slice (some ⟨h2,0,none⟩) n c2] :: seg true h1 0 HB :: seg true h2 0 VB :: row (some ⟨g1,0,none⟩) hc 1 m (ints (idxT held n)) :: row (some ⟨g2,0,none⟩) vc 1 m (valsT vals (idxT held n)) :: L)).putObj (.deferred none) rfl
        have r1 := ((Sat.sub (s6) (by with_reducible repeat first | exact Fr1 | exact Fr2 | (apply Fr3; focus ((repeat (first | exact Tk1 | apply Tk2)); done)) | apply Fr4)) : Sat W0 _ (seg true (bx + 1 + 1 + 1) 0 [.bool true] :: [])).at 0 rfl
        refine ⟨by simp, .inl ⟨_, _, rfl, run_takeDeferred hD', ?_⟩⟩
        refine ⟨.bool true, ?_, rfl, ?_⟩
        · simp [results, Try.results24, go_sem, asAddr, r1]
        · exact (Sat.sub (s6) (by with_reducible repeat first | exact Fr1 | exact Fr2 | (apply Fr3; focus ((repeat (first | exact Tk1 | apply Tk2)); done)) | apply Fr4))
      · gi_wp2
        have st3 := HCL.out _ false _ (Sat.sub (ST.out) (by with_reducible repeat first | exact Fr1 | exact Fr2 | (apply Fr3; focus ((repeat (first | exact Tk1 | apply Tk2)); done)) | apply Fr4))
        refine ⟨seg true g 0 [.slice (some ⟨h1,0,none⟩) n c1, .slice (some ⟨h2,0,none⟩) n c2] :: seg true h1 0 HB :: seg true h2 0 VB :: obj D (.deferred (some [])) :: wkJ bx (idxT held (i + 1)).length m (some ⟨g1,0,none⟩) (some ⟨g2,0,none⟩) hc vc most false (row (some ⟨g1,0,none⟩) hc 1 m (ints (idxT held n)) :: row (some ⟨g2,0,none⟩) vc 1 m (valsT vals (idxT held n)) :: L), (Sat.sub (st3) (by with_reducible repeat first | exact Fr1 | exact Fr2 | (apply Fr3; focus ((repeat (first | exact Tk1 | apply Tk2)); done)) | apply Fr4)), ?_⟩
        clear st3 ST SQ e0 e1 e2 e3 k0 k1 k2 k3 k4 k5 k6 k7
        intro W4 s13
        exact (Sat.sub (s13) (by with_reducible repeat first | exact Fr1 | exact Fr2 | (apply Fr3; focus ((repeat (first | exact Tk1 | apply Tk2)); done)) | apply Fr4))
  · clear s5
    intro W2 s6
    subst hrd
    refine ⟨.ready, none, seg true g 0 [.slice (some ⟨h1,0,none⟩) n c1, .slice (some ⟨h2,0,none⟩) n c2] :: seg true h1 0 HB :: seg true h2 0 VB :: wkJ bx (idxT held n).length m hp vp hc vc most false (row hp hc 1 m (ints (idxT held n)) :: row vp vc 1 m (valsT vals (idxT held n)) :: L), (fun h => by cases h), (Sat.sub (s6) (by with_reducible repeat first | exact Fr1 | exact Fr2 | (apply Fr3; focus ((repeat (first | exact Tk1 | apply Tk2)); done)) | apply Fr4)), ?_⟩
    clear s6
    intro W5 s14 hD
    have sq : Sat W0 W5 (wkJ bx (idxT held n).length m hp vp hc vc most false (obj D (.deferred (some [])) :: seg true g 0 [.slice (some ⟨h1,0,none⟩) n c1, .slice (some ⟨h2,0,none⟩) n c2] :: seg true h1 0 HB :: seg true h2 0 VB :: row hp hc 1 m (ints (idxT held n)) :: row vp vc 1 m (valsT vals (idxT held n)) :: L)) := (Sat.sub (s14) (by with_reducible repeat first | exact Fr1 | exact Fr2 | (apply Fr3; focus ((repeat (first | exact Tk1 | apply Tk2)); done)) | apply Fr4))
    clear s14
    rw [← HX.out.2.2] at sq
    obtain ⟨k0, k1, k2, k3, k4, k5, k6, k7⟩ := wkC sq
    have z1 : bx < W5.heap.size := by omega
    have z4 : bx + 1 + 1 + 1 < W5.heap.size := by omega
    have st := wkEnd true sq
    have ST := Lib.hid st; clear st sq
    gi_wp2
    have sr := ST.out
    have hD' := ((Sat.sub (sr) (by with_reducible repeat first | exact Fr1 | exact Fr2 | (apply Fr3; focus ((repeat (first | exact Tk1 | apply Tk2)); done)) | apply Fr4)) : Sat W0 _ (obj D (.deferred (some [])) :: [])).obj.1
    have s6 := ((Sat.sub (sr) (by with_reducible repeat first | exact Fr1 | exact Fr2 | (apply Fr3; focus ((repeat (first | exact Tk1 | apply Tk2)); done)) | apply Fr4)) : Sat W0 _ (obj D (.deferred (some [])) :: seg true (bx + 1 + 1 + 1) 0 [.bool true] :: seg true g 0 [.slice (some ⟨h1,0,none⟩) n c1, .slice (some ⟨h2,0,none⟩) n c2] :: seg true h1 0 HB :: seg true h2 0 VB :: row hp hc 1 m (ints (idxT held n)) :: row vp vc 1 m (valsT vals (idxT held n)) :: L)).putObj (.deferred none) rfl
    have r1 := ((Sat.sub (s6) (by with_reducible repeat first | exact Fr1 | exact Fr2 | (apply Fr3; focus ((repeat (first | exact Tk1 | apply Tk2)); done)) | apply Fr4)) : Sat W0 _ (seg true (bx + 1 + 1 + 1) 0 [.bool true] :: [])).at 0 rfl
    refine ⟨by simp, .inl ⟨_, _, rfl, run_takeDeferred hD', ?_⟩⟩
    refine ⟨.bool true, ?_, rfl, ?_⟩
    · simp [results, Try.results24, go_sem, asAddr, r1]
    · exact (Sat.sub (s6) (by with_reducible repeat first | exact Fr1 | exact Fr2 | (apply Fr3; focus ((repeat (first | exact Tk1 | apply Tk2)); done)) | apply Fr4))
theorem walk_int {W0 w : World} {L : List Assn} {g n c1 c2 m hc vc : Nat} {p1 p2 hp vp : Option Addr} (held : List Bool) (vals : List Int) (hn : held.length = n) (hv : vals.length = n) (hp0 : 0 < n) (hsm : n ≤ 64) (hm : m = (idxT held n).length) (most : Int)
    (hs : Sat W0 w (seg true g 0 [.slice p1 n c1, .slice p2 n c2] :: row p1 c1 1 n (held.map .bool) :: row p2 c2 1 n (vals.map fun x => Value.int .i64 x) :: row hp hc 1 m (ints (idxT held n)) :: row vp vc 1 m (valsT vals (idxT held n)) :: L)) :
    Calls Try.prog 24 #[.func (.func 37) #[] #[.pointer (some ⟨g, 0, none⟩)], .slice hp m hc, .slice vp m vc, .int .i64 most] w fun e w' => e = .returned (.bool true) ∧
      Sat W0 w' (seg true g 0 [.slice p1 n c1, .slice p2 n c2] :: row p1 c1 1 n (held.map .bool) :: row p2 c2 1 n (vals.map fun x => Value.int .i64 x) :: row hp hc 1 m (ints (idxT held n)) :: row vp vc 1 m (valsT vals (idxT held n)) :: L) := by
  have sr : Sat W0 w (row p1 c1 1 n (held.map .bool) :: seg true g 0 [.slice p1 n c1, .slice p2 n c2] :: row p2 c2 1 n (vals.map fun x => Value.int .i64 x) :: row hp hc 1 m (ints (idxT held n)) :: row vp vc 1 m (valsT vals (idxT held n)) :: L) := (Sat.sub (hs) (by with_reducible repeat first | exact Fr1 | exact Fr2 | (apply Fr3; focus ((repeat (first | exact Tk1 | apply Tk2)); done)) | apply Fr4))
  obtain ⟨hl1, ⟨-, -, h0, -, -⟩ | ⟨h1, r1, rfl, hn1, hx1, hy1, sr2⟩⟩ := sr.rowOpen
  · omega
  have srb : Sat W0 w (row p2 c2 1 n (vals.map fun x => Value.int .i64 x) :: seg true h1 0 (held.map .bool ++ r1) :: seg true g 0 [.slice (some ⟨h1,0,none⟩) n c1, .slice p2 n c2] :: row hp hc 1 m (ints (idxT held n)) :: row vp vc 1 m (valsT vals (idxT held n)) :: L) := (Sat.sub (sr2) (by with_reducible repeat first | exact Fr1 | exact Fr2 | (apply Fr3; focus ((repeat (first | exact Tk1 | apply Tk2)); done)) | apply Fr4))
  obtain ⟨hl2, ⟨-, -, h0, -, -⟩ | ⟨h2, r2, rfl, hn2, hx2, hy2, sr3⟩⟩ := srb.rowOpen
  · omega
  have hH : ∀ i, i < n → (held.map Value.bool ++ r1)[i]? = some (.bool (held.getD i false)) := fun i hi => by
    rw [List.getElem?_append_left (by rw [List.length_map]; omega), List.getElem?_map, List.getElem?_eq_getElem (by omega), List.getD_eq_getElem?_getD, List.getElem?_eq_getElem (by omega)]
    rfl
  have hV : ∀ i, i < n → ((vals.map fun x => Value.int .i64 x) ++ r2)[i]? = some (.int .i64 (vT vals i)) := fun i hi => by
    unfold vT
    rw [List.getElem?_append_left (by rw [List.length_map]; omega), List.getElem?_map, List.getElem?_eq_getElem (by omega), List.getD_eq_getElem?_getD, List.getElem?_eq_getElem (by omega)]
    rfl
  refine (walkO_int held vals _ _ hH hV hp0 hsm hm most (Sat.sub (sr3) (by with_reducible repeat first | exact Fr1 | exact Fr2 | (apply Fr3; focus ((repeat (first | exact Tk1 | apply Tk2)); done)) | apply Fr4))).mono ?_
  rintro e w' ⟨rfl, s⟩
  refine ⟨rfl, ?_⟩
  have s1 := ((Sat.sub (s) (by with_reducible repeat first | exact Fr1 | exact Fr2 | (apply Fr3; focus ((repeat (first | exact Tk1 | apply Tk2)); done)) | apply Fr4)) : Sat W0 w' (seg true h1 0 (held.map .bool ++ r1) :: seg true h2 0 ((vals.map fun x => Value.int .i64 x) ++ r2) :: seg true g 0 [.slice (some ⟨h1,0,none⟩) n c1, .slice (some ⟨h2,0,none⟩) n c2] :: row hp hc 1 m (ints (idxT held n)) :: row vp vc 1 m (valsT vals (idxT held n)) :: L)).rowMade hl1 hy1 hn1 hx1
  have s2 := ((Sat.sub (s1) (by with_reducible repeat first | exact Fr1 | exact Fr2 | (apply Fr3; focus ((repeat (first | exact Tk1 | apply Tk2)); done)) | apply Fr4)) : Sat W0 w' (seg true h2 0 ((vals.map fun x => Value.int .i64 x) ++ r2) :: row (some ⟨h1,0,none⟩) c1 1 n (held.map .bool) :: seg true g 0 [.slice (some ⟨h1,0,none⟩) n c1, .slice (some ⟨h2,0,none⟩) n c2] :: row hp hc 1 m (ints (idxT held n)) :: row vp vc 1 m (valsT vals (idxT held n)) :: L)).rowMade hl2 hy2 hn2 hx2
  exact (Sat.sub (s2) (by with_reducible repeat first | exact Fr1 | exact Fr2 | (apply Fr3; focus ((repeat (first | exact Tk1 | apply Tk2)); done)) | apply Fr4))
end Go.Proofs.Ytpiiklfnakkdiaa
