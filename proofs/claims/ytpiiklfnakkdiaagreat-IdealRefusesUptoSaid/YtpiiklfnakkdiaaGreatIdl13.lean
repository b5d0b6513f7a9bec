
/- The ideal vault: what is held, as a row of holdings; under the conditions that each names. -/
import Derived.Test.YtpiiklfnakkdiaaGreatIdl11
namespace Go.Proofs.YtpiiklfnakkdiaaGreat
open Go.RowKit Go.Sep Go.Bv Go.Kec Go.Aes Go.Sha
set_option linter.unusedVariables false
set_option linter.unusedSimpArgs false
theorem Tryz.info_hold : (Tryz.prog.info? 49).map (fun i => (i.zero, i.size, i.bytes)) = some (some (.agg #[.int .i64 0, .int .u8 0, .int .i64 0, .slice none 0 0, .slice none 0 0, .slice none 0 0]), 6, 96) := by kernel_rfl
abbrev HRow := Nat × Hold × HQ
def encH (x : HRow) : List Value := holdC x.1 x.2.1 x.2.2
theorem lenH (x : HRow) : (encH x).length = 6 := rfl
def nmH (x : HRow) : Nat × Hold := (x.1, x.2.1)
def partA (x : HRow) : Assn := big [bytes true x.2.2.kp x.2.1.kb, bytes true x.2.2.cp x.2.1.cb, row x.2.2.mp x.2.2.mc 1 x.2.1.mb.length (u8s x.2.1.mb)]
def partsA : List HRow → Assn
 | [] => emp
 | x :: X => sep (partA x) (partsA X)
def okX (X : List HRow) : Prop := ∀ x ∈ X, x.2.2.ok x.2.1
theorem partsSnoc {W0 w : World} : ∀ {X : List HRow} {x : HRow} {L : List Assn}, Sat W0 w (partsA X :: partA x :: L) → Sat W0 w (partsA (X ++ [x]) :: L)
 | [], x, L, h => Sat.sepShut (h.pull 1 : Sat W0 w (partA x :: emp :: L))
 | y :: X, x, L, h => by
  have h1 : Sat W0 w (partA y :: partsA X :: partA x :: L) := Sat.sepOpen h
  have h2 : Sat W0 w (partsA X :: partA x :: partA y :: L) := h1.sub (.cons (.there .here) (.cons (.there .here) (.cons .here .done)))
  have h3 : Sat W0 w (partsA (X ++ [x]) :: partA y :: L) := partsSnoc h2
  exact Sat.sepShut (h3.pull 1 : Sat W0 w (partA y :: partsA (X ++ [x]) :: L))
/-- What is held, in the order of the handles. -/
def heldL : Nat → Slots → List (Nat × Hold)
 | _, [] => []
 | i, none :: S => heldL (i + 1) S
 | i, some H :: S => (i, H) :: heldL (i + 1) S
def oneH (i : Nat) : Option Hold → List (Nat × Hold)
 | none => []
 | some H => [(i, H)]
theorem heldL_snoc : ∀ (S : Slots) (k : Nat) (x : Option Hold), heldL k (S ++ [x]) = heldL k S ++ oneH (k + S.length) x
 | [], k, none => rfl
 | [], k, some H => rfl
 | none :: S, k, x => by
  show heldL (k + 1) (S ++ [x]) = heldL (k + 1) S ++ oneH (k + (S.length + 1)) x
  rw [heldL_snoc S (k + 1) x, show k + 1 + S.length = k + (S.length + 1) by omega]
 | some H :: S, k, x => by
  show (k, H) :: heldL (k + 1) (S ++ [x]) = ((k, H) :: heldL (k + 1) S) ++ oneH (k + (S.length + 1)) x
  rw [heldL_snoc S (k + 1) x, show k + 1 + S.length = k + (S.length + 1) by omega, List.cons_append]
theorem heldL_take {S : Slots} {i : Nat} {x : Option Hold} (h : S[i]? = some x) : heldL 0 (S.take (i + 1)) = heldL 0 (S.take i) ++ oneH i x := by
 rw [List.take_add_one, h]
 have hl : (S.take i).length = i := by
  have := (List.getElem?_eq_some_iff.1 h).1
  rw [List.length_take]; omega
 rw [show (some x : Option (Option Hold)).toList = [x] from rfl, heldL_snoc, hl, Nat.zero_add]
theorem heldL_le : ∀ (S : Slots) (k : Nat), (heldL k S).length ≤ S.length
 | [], k => Nat.le_refl _
 | none :: S, k => Nat.le_succ_of_le (heldL_le S (k + 1))
 | some H :: S, k => Nat.succ_le_succ (heldL_le S (k + 1))
theorem heldL_full : ∀ (S : Slots) (k : Nat), ((heldL k S).length = S.length) = (iFull S = true)
 | [], k => by simp [heldL, iFull]
 | none :: S, k => by
  have h1 := heldL_le S (k + 1)
  have h2 : ¬ (heldL (k + 1) S).length = S.length + 1 := by omega
  show ((heldL (k + 1) S).length = S.length + 1) = _
  simp [iFull, h2]
 | some H :: S, k => by
  have h1 := heldL_full S (k + 1)
  show ((heldL (k + 1) S).length + 1 = S.length + 1) = _
  rw [show ((heldL (k + 1) S).length + 1 = S.length + 1) = ((heldL (k + 1) S).length = S.length) by simp, h1]
  simp [iFull]
/-- A row of holdings, in memory. -/
def heldsA (p : Option Addr) (c : Nat) (l : List (Nat × Hold)) : Assn := fun h => ∃ X : List HRow, (X.map nmH = l ∧ okX X) ∧ sep (row p c 6 X.length (X.flatMap encH)) (partsA X) h
theorem heldsOpen {W0 w : World} {L : List Assn} {p : Option Addr} {c : Nat} {l : List (Nat × Hold)} (h : Sat W0 w (heldsA p c l :: L)) : ∃ X : List HRow, X.map nmH = l ∧ okX X ∧ Sat W0 w (row p c 6 X.length (X.flatMap encH) :: partsA X :: L) := by
 obtain ⟨X, h1⟩ := Sat.exOpen h
 obtain ⟨h0, hs, hf⟩ := h1
 obtain ⟨x, t, rfl, ⟨e, hA⟩, ok, hd, hf'⟩ := hf.head
 exact ⟨X, e.1, e.2, Sat.sepOpen ⟨h0, x :: t, .cons hA ok hd hf'⟩⟩
theorem heldsShut {W0 w : World} {L : List Assn} {p : Option Addr} {c : Nat} {l : List (Nat × Hold)} (X : List HRow) (e : X.map nmH = l) (o : okX X) (h : Sat W0 w (row p c 6 X.length (X.flatMap encH) :: partsA X :: L)) : Sat W0 w (heldsA p c l :: L) :=
 (Sat.sepShut h).imp fun x hx => ⟨X, ⟨e, o⟩, hx⟩
theorem holdC_one (i : Nat) (H : Hold) (q : HQ) : ∀ v ∈ holdC i H q, v.oneCell' = true := by
 intro v hv
 simp only [holdC, List.mem_cons, List.not_mem_nil, or_false] at hv
 rcases hv with rfl | rfl | rfl | rfl | rfl | rfl <;> rfl
set_option maxRecDepth 100000 in
set_option maxHeartbeats 8000000 in
theorem iHeldT {W0 w : World} {L : List Assn} {v B : Nat} (T : Held) (hS : okS B (namesT T)) (hB : B ≤ 1000000000) (s0 : Sat W0 w (seg true v 0 (.bool true :: cellsT T) :: slotsA 0 T :: L)) :
  Calls Tryz.prog 11 #[.pointer (some ⟨v, 0, none⟩)] w fun e w' => ∃ n p c, n = (heldL 0 (namesT T)).length ∧ e = .returned (.slice p n c) ∧ Sat W0 w' (heldsA p c (heldL 0 (namesT T)) :: seg true v 0 (.bool true :: cellsT T) :: slotsA 0 T :: L) := by
 have hT : T.length = 64 := by rw [← namesT_len]; exact hS.1
 have HN := Lib.hid (And.intro hS (And.intro hB hT)); clear hS hB hT
 obtain ⟨i3, hi3, hz3, hs3, hb3⟩ := info_parts Tryz.info_hold
 have HI := Lib.hid (And.intro hi3 (And.intro hz3 (And.intro hs3 hb3))); clear hi3 hz3 hs3 hb3
 have cv0 := s0.at 0 rfl
 have zv := s0.lt (by simp)
 go_enter Tryz.func11, Tryz.ntmps11
 go_wp2_with (refine wpl_load_agg rfl 30 (.tmp 16) rfl Tryz.underlying30 rfl Tryz.size_slots s0 1 1 rfl rfl (by rw [List.length_cons, cellsT_len, HN.out.2.2]; omega) ?_; rw [List.drop_succ_cons, List.drop_zero, List.take_of_length_le (by rw [cellsT_len, HN.out.2.2]; omega)])
 go_loopw [3, 18] (fun t3 t18 wr => ∃ (i n : Nat) (p : Option Addr) (c : Nat) (X : List HRow), i ≤ 64 ∧ n = X.length ∧ n ≤ i ∧ t18 = .int .i64 (i : Int) ∧ t3 = .slice p n c ∧ X.map nmH = heldL 0 ((namesT T).take i) ∧ okX X ∧ Sat W0 wr (row p c 6 n (X.flatMap encH) :: partsA X :: seg true v 0 (.bool true :: cellsT T) :: slotsA 0 T :: L)) (fun _ t18 _ => 64 - (intOf t18).toNat)
 case atStart =>
  refine ⟨0, 0, none, 0, [], Nat.zero_le _, rfl, Nat.le_refl _, rfl, rfl, rfl, fun x hx => absurd hx List.not_mem_nil, ?_⟩
  have h1 : Sat W0 w (partsA [] :: _) := s0.addEmp
  exact h1.rowNil 6
 case round =>
  clear s0 cv0 zv
  obtain ⟨i, n, p, c, X, hi, hn, hni, rfl, rfl, hX, hok, s⟩ := hrel
  by_cases hlt : i < 64
  ·have hix := fun w => run_index_list (P := Tryz.prog) (t := 30) (e := 29) Tryz.underlying30 (by kernel_rfl) (fun w => by simp [go_sem]) (cellsT T) (by rw [cellsT_len, HN.out.2.2]) i hlt w
   have hgd : ∀ x, T[i]? = some x → (cellsT T).getD i undef = ptrO (x.map Prod.fst) := fun x hx => by rw [List.getD_eq_getElem?_getD, cellsT, List.getElem?_map, hx]; rfl
   rcases hx : T[i]? with _ | _ | ⟨p1, H⟩
   ·rw [List.getElem?_eq_none_iff, HN.out.2.2] at hx; omega
   ·rw [hgd _ hx] at hix
    simp only [Option.map_none] at hix
    have hX2 := heldL_take (namesT_get hx)
    simp only [Option.map_none, oneH, List.append_nil] at hX2
    have HX := Lib.hid (And.intro (hX.trans hX2.symm) (And.intro hok (And.intro hn s))); clear hx hX hX2 hok hgd hn s
    go_wp2_with fail
    refine ⟨⟨i + 1, n, p, c, X, by omega, HX.out.2.2.1, by omega, by go_num, rfl, HX.out.1, HX.out.2.1, HX.out.2.2.2⟩, by simp [intOf]; omega⟩
   ·rw [hgd _ hx] at hix
    simp only [Option.map_some] at hix
    have hX2 := heldL_take (namesT_get hx)
    simp only [Option.map_some, oneH] at hX2
    have hHok := HN.out.1.2 _ (mem_of_get (namesT_get hx))
    have hbk := hold_bd hHok HN.out.2.1
    have so := slotsOpen i hx ((Sat.sub (s) (by with_reducible repeat first | exact Fr1 | exact Fr2 | (apply Fr3; focus ((repeat (first | exact Tk1 | apply Tk2)); done)) | apply Fr4)) : Sat W0 wr (slotsA 0 T :: row p c 6 n (X.flatMap encH) :: partsA X :: seg true v 0 (.bool true :: cellsT T) :: L))
    obtain ⟨q, hq, so2⟩ := holdOpen so
    obtain ⟨kq, cq, c2, c3, mq, mc⟩ := q
    rw [Nat.zero_add] at so2
    obtain ⟨_, hm1, hm2, RW, so4, back⟩ := rowWand ((Sat.sub (so2) (by with_reducible repeat first | exact Fr1 | exact Fr2 | (apply Fr3; focus ((repeat (first | exact Tk1 | apply Tk2)); done)) | apply Fr4)) : Sat W0 wr (row mq mc 1 H.mb.length (u8s H.mb) :: seg true p1 0 (holdC i H ⟨kq, cq, c2, c3, mq, mc⟩) :: bytes true kq H.kb :: bytes true c2 H.cb :: slotsA 0 (T.set i none) :: row p c 6 n (X.flatMap encH) :: partsA X :: seg true v 0 (.bool true :: cellsT T) :: L))
    have hclose : ∀ (w' : World) (L' : List Assn), Sat W0 w' (seg true p1 0 (holdC i H ⟨kq, cq, c2, c3, mq, mc⟩) :: bytes true kq H.kb :: bytes true c2 H.cb :: bytes true mq H.mb :: RW :: slotsA 0 (T.set i none) :: L') → Sat W0 w' (slotsA 0 T :: L') := by
     intro w' L' h
     have h2 := back _ _ ((Sat.sub (h) (by with_reducible repeat first | exact Fr1 | exact Fr2 | (apply Fr3; focus ((repeat (first | exact Tk1 | apply Tk2)); done)) | apply Fr4)) : Sat W0 w' (bytes true mq H.mb :: RW :: seg true p1 0 (holdC i H ⟨kq, cq, c2, c3, mq, mc⟩) :: bytes true kq H.kb :: bytes true c2 H.cb :: slotsA 0 (T.set i none) :: L'))
     have h3 : Sat W0 w' (holdL p1 (0 + i) H ⟨kq, cq, c2, c3, mq, mc⟩ (slotsA 0 (T.set i none) :: L')) := by
      rw [Nat.zero_add]
      have h4 : Sat W0 w' (seg true p1 0 (holdC i H ⟨kq, cq, c2, c3, mq, mc⟩) :: bytes true kq H.kb :: bytes true c2 H.cb :: row mq mc 1 H.mb.length (u8s H.mb) :: slotsA 0 (T.set i none) :: L') := (Sat.sub (h2) (by with_reducible repeat first | exact Fr1 | exact Fr2 | (apply Fr3; focus ((repeat (first | exact Tk1 | apply Tk2)); done)) | apply Fr4))
      exact h4
     have h5 := slotsShut i (p := p1) (H := H) (by rw [List.getElem?_set_self (List.getElem?_eq_some_iff.1 hx).1]) (holdShut _ hq h3)
     rw [setBack hx] at h5
     exact h5
    have s5 : Sat W0 wr (seg true p1 0 (holdC i H ⟨kq, cq, c2, c3, mq, mc⟩) :: bytes true kq H.kb :: bytes true c2 H.cb :: bytes true mq H.mb :: RW :: slotsA 0 (T.set i none) :: row p c 6 n (X.flatMap encH) :: partsA X :: seg true v 0 (.bool true :: cellsT T) :: L) := (Sat.sub (so4) (by with_reducible repeat first | exact Fr1 | exact Fr2 | (apply Fr3; focus ((repeat (first | exact Tk1 | apply Tk2)); done)) | apply Fr4))
    have hcop := fun (w : World) (Y : List Assn) (s : Sat W0 w (bytes true kq H.kb :: bytes true c2 H.cb :: bytes true mq H.mb :: Y)) => iCopied (ck := cq) (cc := c3) (cm := mc) i H rfl rfl rfl hbk.1 hbk.2.1 hbk.2.2 s
    have HX := Lib.hid (And.intro (show (X.map nmH) ++ [(i, H)] = heldL 0 ((namesT T).take (i + 1)) by rw [hX]; exact hX2.symm) (And.intro hok (And.intro hn (And.intro hclose hcop)))); clear hx hX hX2 hok hgd hn s so so2 so4 back hclose hcop hq hHok hbk hm1 hm2
    obtain ⟨al, hal⟩ : ∃ al : Nat, al = H.alg := ⟨_, rfl⟩
    obtain ⟨ou, hou⟩ : ∃ ou : Nat, ou = H.out := ⟨_, rfl⟩
    obtain ⟨kl, hkl⟩ : ∃ n, n = H.kb.length := ⟨_, rfl⟩
    obtain ⟨cl, hcl⟩ : ∃ n, n = H.cb.length := ⟨_, rfl⟩
    obtain ⟨ml, hml⟩ : ∃ n, n = H.mb.length := ⟨_, rfl⟩
    have hC : ∀ a b cc d e f, holdC i H ⟨a, b, cc, d, e, f⟩ = [.int .i64 (i : Int), .int .u8 (al : Int), .int .i64 (ou : Int), .slice a kl b, .slice cc cl d, .slice e ml f] := by
     intros; rw [hal, hou, hkl, hcl, hml]
    have hcop2 := HX.out.2.2.2.2
    rw [← hal, ← hou, ← hkl, ← hcl, ← hml] at hcop2
    have HC := Lib.hid (And.intro hC hcop2); clear hC hcop2 hal hou hkl hcl hml
    have s6 := s5
    rw [HC.out.1] at s6
    have zp := s6.lt (by simp)
    clear s5
    go_wp2_with (refine wpl_load_agg rfl 49 (.tmp 25) rfl Tryz.underlying49 rfl Tryz.size_hold s6 0 0 rfl rfl (by simp) ?_; rw [List.drop_zero, List.take_of_length_le (by simp)])
    refine (HC.out.2 _ (seg true p1 0 [.int .i64 (i : Int), .int .u8 (al : Int), .int .i64 (ou : Int), .slice kq kl cq, .slice c2 cl c3, .slice mq ml mc] :: RW :: slotsA 0 (T.set i none) :: row p c 6 n (X.flatMap encH) :: partsA X :: seg true v 0 (.bool true :: cellsT T) :: L) (Sat.sub (s6) (by with_reducible repeat first | exact Fr1 | exact Fr2 | (apply Fr3; focus ((repeat (first | exact Tk1 | apply Tk2)); done)) | apply Fr4))).mono ?_
    rintro e w4 ⟨g, rfl, s7⟩
    clear s6 zp
    obtain ⟨q2, hq2, s8⟩ := holdOpen s7
    obtain ⟨kq2, cq2, c22, c32, mq2, mc2⟩ := q2
    have s9 : Sat W0 w4 (seg true g 0 (holdC i H ⟨kq2, cq2, c22, c32, mq2, mc2⟩) :: row p c 6 n (X.flatMap encH) :: bytes true kq2 H.kb :: bytes true c22 H.cb :: row mq2 mc2 1 H.mb.length (u8s H.mb) :: bytes true kq H.kb :: bytes true c2 H.cb :: bytes true mq H.mb :: seg true p1 0 [.int .i64 (i : Int), .int .u8 (al : Int), .int .i64 (ou : Int), .slice kq kl cq, .slice c2 cl c3, .slice mq ml mc] :: RW :: slotsA 0 (T.set i none) :: partsA X :: seg true v 0 (.bool true :: cellsT T) :: L) := (Sat.sub (s8) (by with_reducible repeat first | exact Fr1 | exact Fr2 | (apply Fr3; focus ((repeat (first | exact Tk1 | apply Tk2)); done)) | apply Fr4))
    rw [HC.out.1] at s9
    have zg := s9.lt (by simp)
    have HQ2 := Lib.hid hq2
    clear s7 s8 hq2
    have s10 : Sat W0 w4 (row p c 6 n (X.flatMap encH) :: seg true g 0 [.int .i64 (i : Int), .int .u8 (al : Int), .int .i64 (ou : Int), .slice kq2 kl cq2, .slice c22 cl c32, .slice mq2 ml mc2] :: bytes true kq2 H.kb :: bytes true c22 H.cb :: row mq2 mc2 1 H.mb.length (u8s H.mb) :: bytes true kq H.kb :: bytes true c2 H.cb :: bytes true mq H.mb :: seg true p1 0 [.int .i64 (i : Int), .int .u8 (al : Int), .int .i64 (ou : Int), .slice kq kl cq, .slice c2 cl c3, .slice mq ml mc] :: RW :: slotsA 0 (T.set i none) :: partsA X :: seg true v 0 (.bool true :: cellsT T) :: L) := (Sat.sub (s9) (by with_reducible repeat first | exact Fr1 | exact Fr2 | (apply Fr3; focus ((repeat (first | exact Tk1 | apply Tk2)); done)) | apply Fr4))
    go_wp2_with (first | (refine wpl_load_agg rfl 49 (.tmp 28) rfl Tryz.underlying49 rfl Tryz.size_hold s9 0 0 rfl rfl (by simp) ?_; rw [List.drop_zero, List.take_of_length_le (by simp)]; clear s9) | (at_builtin; refine wpl_append rfl (.tmp 23) (.tmp 30) 38 rfl Tryz.underlying38 HI.out.1 HI.out.2.1 HI.out.2.2.1 HI.out.2.2.2 rfl (by decide) (s10.alloc' _) rfl (some _) 1 1 rfl [.int .i64 (i : Int), .int .u8 (al : Int), .int .i64 (ou : Int), .slice kq2 kl cq2, .slice c22 cl c32, .slice mq2 ml mc2] rfl ((s10.alloc #[.int .i64 (i : Int), .int .u8 (al : Int), .int .i64 (ou : Int), .slice kq2 kl cq2, .slice c22 cl c32, .slice mq2 ml mc2] 49).news) (fun h => by cases h) (by rw [← HC.out.1]; exact holdC_one _ _ _) (by unfold maxLen; omega) (by omega) ?_; intro p9 c9 w9 s11 _ _; clear s10))
    have e1 : X.flatMap encH ++ [.int .i64 (i : Int), .int .u8 (al : Int), .int .i64 (ou : Int), .slice kq2 kl cq2, .slice c22 cl c32, .slice mq2 ml mc2] = (X ++ [(i, H, (⟨kq2, cq2, c22, c32, mq2, mc2⟩ : HQ))]).flatMap encH := by
     rw [List.flatMap_append, ← HC.out.1]; simp [encH]
    rw [e1] at s11
    have s12 := HX.out.2.2.2.1 _ _ (by rw [HC.out.1]; exact (Sat.sub (s11) (by with_reducible repeat first | exact Fr1 | exact Fr2 | (apply Fr3; focus ((repeat (first | exact Tk1 | apply Tk2)); done)) | apply Fr4)) : Sat W0 w9 (seg true p1 0 (holdC i H ⟨kq, cq, c2, c3, mq, mc⟩) :: bytes true kq H.kb :: bytes true c2 H.cb :: bytes true mq H.mb :: RW :: slotsA 0 (T.set i none) :: bytes true kq2 H.kb :: bytes true c22 H.cb :: row mq2 mc2 1 H.mb.length (u8s H.mb) :: row p9 c9 6 (n + 1) ((X ++ [(i, H, (⟨kq2, cq2, c22, c32, mq2, mc2⟩ : HQ))]).flatMap encH) :: partsA X :: seg true v 0 (.bool true :: cellsT T) :: L))
    have s13 : Sat W0 w9 (bytes true kq2 H.kb :: bytes true c22 H.cb :: row mq2 mc2 1 H.mb.length (u8s H.mb) :: partsA X :: slotsA 0 T :: row p9 c9 6 (n + 1) ((X ++ [(i, H, (⟨kq2, cq2, c22, c32, mq2, mc2⟩ : HQ))]).flatMap encH) :: seg true v 0 (.bool true :: cellsT T) :: L) := (Sat.sub (s12) (by with_reducible repeat first | exact Fr1 | exact Fr2 | (apply Fr3; focus ((repeat (first | exact Tk1 | apply Tk2)); done)) | apply Fr4))
    have s14 : Sat W0 w9 (partA (i, H, ⟨kq2, cq2, c22, c32, mq2, mc2⟩) :: partsA X :: slotsA 0 T :: row p9 c9 6 (n + 1) ((X ++ [(i, H, (⟨kq2, cq2, c22, c32, mq2, mc2⟩ : HQ))]).flatMap encH) :: seg true v 0 (.bool true :: cellsT T) :: L) := Sat.bigShut (K := [bytes true kq2 H.kb, bytes true c22 H.cb, row mq2 mc2 1 H.mb.length (u8s H.mb)]) s13
    have s15 := partsSnoc ((Sat.sub (s14) (by with_reducible repeat first | exact Fr1 | exact Fr2 | (apply Fr3; focus ((repeat (first | exact Tk1 | apply Tk2)); done)) | apply Fr4)) : Sat W0 w9 (partsA X :: partA (i, H, ⟨kq2, cq2, c22, c32, mq2, mc2⟩) :: slotsA 0 T :: row p9 c9 6 (n + 1) ((X ++ [(i, H, (⟨kq2, cq2, c22, c32, mq2, mc2⟩ : HQ))]).flatMap encH) :: seg true v 0 (.bool true :: cellsT T) :: L))
    have s16 : Sat W0 w9 (row p9 c9 6 (n + 1) ((X ++ [(i, H, (⟨kq2, cq2, c22, c32, mq2, mc2⟩ : HQ))]).flatMap encH) :: partsA (X ++ [(i, H, (⟨kq2, cq2, c22, c32, mq2, mc2⟩ : HQ))]) :: seg true v 0 (.bool true :: cellsT T) :: slotsA 0 T :: L) := (Sat.sub (s15) (by with_reducible repeat first | exact Fr1 | exact Fr2 | (apply Fr3; focus ((repeat (first | exact Tk1 | apply Tk2)); done)) | apply Fr4))
    have HS := Lib.hid s16; clear s11 s12 s13 s14 s15 s16 e1
    have hrel : ∃ Y : List HRow, n + 1 = Y.length ∧ Y.map nmH = heldL 0 ((namesT T).take (i + 1)) ∧ okX Y ∧ Sat W0 w9 (row p9 c9 6 (n + 1) (Y.flatMap encH) :: partsA Y :: seg true v 0 (.bool true :: cellsT T) :: slotsA 0 T :: L) := by
     refine ⟨X ++ [(i, H, (⟨kq2, cq2, c22, c32, mq2, mc2⟩ : HQ))], ?_, ?_, ?_, HS.out⟩
     ·rw [List.length_append, ← HX.out.2.2.1]; rfl
     ·rw [List.map_append]; exact HX.out.1
     ·intro x hx
      rcases List.mem_append.1 hx with h | h
      ·exact HX.out.2.1 x h
      ·rw [List.mem_singleton] at h; subst h; exact HQ2.out
    have HREL := Lib.hid hrel; clear hrel HX HS HQ2 HC
    go_wp2_with fail
    obtain ⟨Y, y1, y2, y3, y4⟩ := HREL.out
    exact ⟨⟨i + 1, n + 1, p9, c9, Y, by omega, y1, by omega, by go_num, rfl, y2, y3, y4⟩, by simp [intOf]; omega⟩
  ·obtain rfl : i = 64 := by omega
   rw [List.take_of_length_le (by rw [namesT_len, HN.out.2.2]; exact Nat.le_refl _)] at hX
   have hl : n = (heldL 0 (namesT T)).length := by rw [← hX, List.length_map]; exact hn
   have hfin : Sat W0 wr (heldsA p c (heldL 0 (namesT T)) :: seg true v 0 (.bool true :: cellsT T) :: slotsA 0 T :: L) := by
    rw [hn] at s
    exact heldsShut X hX hok s
   have HS := Lib.hid (And.intro hl hfin); clear hl hfin s hX hok hn
   go_wp2_with fail
   go_ret
   exact ⟨n, p, c, HS.out.1, rfl, HS.out.2⟩
theorem iHeld {W0 w : World} {L : List Assn} {v B : Nat} (S : Slots) (hS : okS B S) (hB : B ≤ 1000000000) (hs : Sat W0 w (vaultA v S :: L)) :
  Calls Tryz.prog 11 #[.pointer (some ⟨v, 0, none⟩)] w fun e w' => ∃ n p c, n = (heldL 0 S).length ∧ e = .returned (.slice p n c) ∧ Sat W0 w' (heldsA p c (heldL 0 S) :: vaultA v S :: L) := by
 obtain ⟨T, rfl, s0⟩ := vOpen hs
 refine (iHeldT T hS hB s0).mono ?_
 rintro e w' ⟨n, p, c, hn, rfl, s1⟩
 have s2 := vShut (v := v) T rfl ((Sat.sub (s1) (by with_reducible repeat first | exact Fr1 | exact Fr2 | (apply Fr3; focus ((repeat (first | exact Tk1 | apply Tk2)); done)) | apply Fr4)) : Sat W0 w' (seg true v 0 (.bool true :: cellsT T) :: slotsA 0 T :: heldsA p c (heldL 0 (namesT T)) :: L))
 exact ⟨n, p, c, hn, rfl, s2.pull 1⟩
end Go.Proofs.YtpiiklfnakkdiaaGreat
