/- Kit2, Kit3, Kit4, Kit5: texts that lie apart elsewhere, as one; each under the conditions that it names. -/
import Derived.Test.YtlmababpmmhhoaaGreatCut
import Derived.Test.YtlmababpmmhhoaaGreatQTail

/- The statements' kit: lists lent, kept, written over; each under the conditions that it names. -/
namespace Go.Sha
open Go.Bv
/-- Mark i of list k. -/
def markB (k i : Nat) : Byte := BitVec.ofNat 8 (7 * k + i + 1)
def marks (k n : Nat) : List Byte := (List.range n).map (markB k)
theorem marks_len (k n : Nat) : (marks k n).length = n := by simp [marks]
theorem marks_snoc (k n : Nat) : marks k (n + 1) = marks k n ++ [markB k n] := by simp [marks, List.range_succ]
theorem marks_get (k n i : Nat) (h : i < n) : (marks k n).getD i 0 = markB k i := by simp [marks, h]
theorem marks_take (k n m : Nat) (h : m ≤ n) : (marks k n).take m = marks k m := by
  unfold marks
  rw [← List.map_take, List.take_range, Nat.min_eq_left h]
def lentB (P : List Byte) : List Byte := P ++ marks 7 6
theorem lentB_len (P : List Byte) : (lentB P).length = P.length + 6 := by simp [lentB, marks_len]
theorem lentB_take (P : List Byte) : (lentB P).take P.length = P := by simp [lentB]
/-- Bytes that are marked up to a place. -/
def partM (k i : Nat) (bs : List Byte) : List Byte := marks k i ++ bs.drop i
theorem partM_len (k i : Nat) (bs : List Byte) (h : i ≤ bs.length) : (partM k i bs).length = bs.length := by simp [partM, marks_len]; omega
theorem partM_set (k i : Nat) (bs : List Byte) (h : i < bs.length) : (partM k i bs).set i (markB k i) = partM k (i + 1) bs := by
  unfold partM
  rw [List.set_append_right _ _ (by rw [marks_len]; exact Nat.le_refl _), marks_len, Nat.sub_self, List.drop_eq_getElem_cons h, List.set_cons_zero, marks_snoc, List.append_assoc]
  rfl
theorem partM_all (k : Nat) (bs : List Byte) : partM k bs.length bs = marks k bs.length := by simp [partM]
end Go.Sha
namespace Go.Proofs.YtlmababpmmhhoaaGreat
open Go.RowKit Go.Sep Go.Bv Go.Sha
set_option linter.unusedVariables false
set_option linter.unusedSimpArgs false
theorem v8_markB (k i : Nat) : v8 (markB k i) = (7 * (k : Int) + (i : Int) + 1) % 256 := by
  unfold v8 markB
  rw [BitVec.toNat_ofNat]
  omega
theorem markF (w : World) {kv iv : Int} (k i : Nat) (hk : kv = (k : Int)) (hi : iv = (i : Int)) (h1 : k ≤ 1000000000) (h2 : i ≤ 1000000000000) : Calls Tryz.prog 31 #[.int .i64 kv, .int .i64 iv] w fun e w' => e = .returned (.int .u8 (v8 (markB k i))) ∧ w = w' := by
  subst hk hi
  have hv := v8_markB k i
  go_enter Tryz.func31, Tryz.ntmps31
  go_wp2
  go_ret
  exact ⟨ret_int hv.symm, rfl⟩
theorem markQ (w : World) {kv iv : Int} (k i : Nat) (hk : kv = (k : Int)) (hi : iv = (i : Int)) (h1 : k ≤ 1000000000) (h2 : i ≤ 1000000000000) : Calls Tryz.prog 31 #[.int .i64 kv, .int .i64 iv] w fun e w' => e = .returned (.int .u8 (v8 (markB k i))) ∧ ∃ n, w' = w.drewN n := by
  refine (markF w k i hk hi h1 h2).mono ?_
  rintro e w' ⟨rfl, rfl⟩
  exact ⟨rfl, 0, rfl⟩
/-- A byte in a block of its own. -/
theorem byteOn {W0 w : World} {L : List Assn} {A : Assn} {z : Int} {b : Byte} {T : TypeId} (hz : z = v8 b) (h : Sat W0 w (A :: L)) : Sat W0 (w.alloc (.cells #[.int .u8 z] T)) (A :: bytes true (some ⟨w.heap.size, 0, none⟩) [b] :: L) := by
  subst hz
  exact (bytesOf (bs := [b]) (h.alloc #[.int .u8 (v8 b)] T)).pull 1
set_option maxRecDepth 100000 in
set_option maxHeartbeats 1000000 in
theorem lentF {W0 w : World} {L : List Assn} {m : Bool} {pp : Option Addr} {n cap : Nat} (P : List Byte) (hP : P.length = n) (hn : n ≤ 1000000000000) (hs : Sat W0 w (bytes m pp P :: L)) :
    Calls Tryz.prog 22 #[.slice pp n cap] w fun e w' => ∃ q c, e = .returned (.slice q (n + 6) c) ∧ n + 6 ≤ c ∧ c ≤ maxLen ∧ Sat W0 w' (bytes true q (lentB P) :: bytes m pp P :: L) := by
  have HP := Lib.hid hP; clear hP
  go_enter Tryz.func22, Tryz.ntmps22
  go_wp2_with fail
  refine (copyS P HP.out (by omega) hs).mono ?_
  rintro e w1 ⟨q1, c1, rfl, s1⟩
  clear hs
  go_wp2
  go_loopw [3, 4] (fun t3 t4 wr => ∃ (i : Nat) (q : Option Addr) (c : Nat), i ≤ 6 ∧ t4 = .int .i64 (i : Int) ∧ t3 = .slice q (n + i) c ∧ Sat W0 wr (row q c 1 (n + i) (u8s (P ++ marks 7 i)) :: bytes m pp P :: L)) (fun _ t4 _ => 6 - (intOf t4).toNat)
  case atStart => exact ⟨0, q1, c1, by omega, rfl, rfl, by rw [show marks 7 0 = [] from rfl, List.append_nil]; exact s1⟩
  case round =>
    clear s1
    obtain ⟨i, q, c, hi, rfl, rfl, s⟩ := hrel
    by_cases hlt : i < 6
    · go_wp2_with (first | (go_at_call 31; refine (markF _ 7 i rfl rfl (by decide) (by omega)).mono ?_; rintro e w' ⟨rfl, rfl⟩) | (at_builtin; refine wpl_app8 rfl (.tmp 11) (.tmp 14) rfl rfl rfl (byteOn (b := markB 7 i) rfl s) rfl (by omega) ?_; intro p9 c9 w9 s9))
      go_roundw
      case rel => exact ⟨i + 1, p9, c9, by omega, by go_num, rfl, by rw [marks_snoc, ← List.append_assoc]; exact s9.drop 1⟩
      case measure => simp [intOf]; omega
    · obtain rfl : i = 6 := by omega
      obtain ⟨-, h1, h2, s2⟩ := rowBytes s
      have HS := Lib.hid (And.intro h1 (And.intro h2 s2)); clear h1 h2 s2 s
      go_wp2
      go_ret
      exact ⟨q, c, rfl, HS.out⟩
set_option maxHeartbeats 1000000 in
theorem keptF {W0 w : World} {L : List Assn} {m m1 : Bool} {pp pf : Option Addr} {n k cap cf : Nat} (P : List Byte) (hP : P.length = n) (hk : k = n + 6) (hn : n ≤ 1000000000) (hs : Sat W0 w (bytes m1 pf (lentB P) :: bytes m pp P :: L)) :
    Calls Tryz.prog 24 #[.slice pf k cf, .slice pp n cap] w fun e w' => e = .returned (.bool true) ∧ Sat W0 w' (bytes m1 pf (lentB P) :: bytes m pp P :: L) := by
  subst hk
  have HP := Lib.hid hP; clear hP
  go_enter Tryz.func24, Tryz.ntmps24
  go_wp2_with fail
  refine (lentF P HP.out (by omega) (by (repeat (first | with_reducible apply Sat.sub (hs) | with_reducible apply Sat.alloc' | with_reducible apply Sat.drew | with_reducible apply Sat.drewN)); (repeat (first | with_reducible exact Fr.done | with_reducible exact Fr.nil | (with_reducible apply Fr.cons; (focus ((repeat (first | with_reducible exact Take.here | with_reducible apply Take.there)); done))) | with_reducible apply Fr.skip)); done)).mono ?_
  rintro e w1 ⟨q, c, rfl, -, -, s1⟩
  clear hs
  go_wp2_with fail
  refine (sameT (lentB P) (lentB P) (by rw [lentB_len, HP.out]) (by rw [lentB_len, HP.out]) (by omega) rfl (by (repeat (first | with_reducible apply Sat.sub (s1) | with_reducible apply Sat.alloc' | with_reducible apply Sat.drew | with_reducible apply Sat.drewN)); (repeat (first | with_reducible exact Fr.done | with_reducible exact Fr.nil | (with_reducible apply Fr.cons; (focus ((repeat (first | with_reducible exact Take.here | with_reducible apply Take.there)); done))) | with_reducible apply Fr.skip)); done)).mono ?_
  rintro e w2 ⟨rfl, s2⟩
  clear s1
  go_wp2
  go_ret
  exact ⟨rfl, (by (repeat (first | with_reducible apply Sat.sub (s2) | with_reducible apply Sat.alloc' | with_reducible apply Sat.drew | with_reducible apply Sat.drewN)); (repeat (first | with_reducible exact Fr.done | with_reducible exact Fr.nil | (with_reducible apply Fr.cons; (focus ((repeat (first | with_reducible exact Take.here | with_reducible apply Take.there)); done))) | with_reducible apply Fr.skip)); done)⟩
end Go.Proofs.YtlmababpmmhhoaaGreat

/- ApartBytes: lists in memory of their own are written full of marks and gone on with; under the conditions that it names. -/
namespace Go.Sep
open Go.RowKit
set_option linter.unusedVariables false
set_option linter.unusedSimpArgs false
section
variable {P : Program} {W0 w : World} {L : List Assn}
/-- append onto a slice of one's own. -/
theorem run_app_keep (t ty e : TypeId) {i : TypeInfo} {z : Value} {size bytes : Nat} (ht : P.underlying t = some (.slice e)) (hi : P.info? e = some i) (hz : i.zero = some z) (hsize : i.size = size) (hby : i.bytes = bytes) (hzs : z.cells.size = size) (hsz : 0 < size)
    {p : Option Addr} {cp n : Nat} {xs : List Value} (hs : Sat W0 w (row p cp size n xs :: L)) (sp : Option Addr) (m c : Nat) (news : List Value) (hl : news.length = m * size) (hnews : ∀ j u, news[j]? = some u → ∃ ad, sp = some ad ∧ w.cell? (ad.add j) = some u)
    (hnil : sp = none → m = 0) (h1 : ∀ u ∈ news, u.oneCell' = true) (h63 : n + m ≤ maxLen) (hbytes : (n + m) * bytes ≤ 140737488355328) :
    ∃ p' c' w', (Builtin.append_ #[t, t] ty #[.slice p n cp, .slice sp m c]).run P w = .ok (.slice p' (n + m) c') w' ∧ ((p' = p ∧ Sat W0 w' (row p' c' size (n + m) (xs ++ news) :: L)) ∨ Sat W0 w' (row p' c' size (n + m) (xs ++ news) :: row p cp size n xs :: L)) := by
  subst hsize
  subst hby
  have hsmall : n + m ≤ 9223372036854775807 := by simp only [maxLen] at h63; omega
  obtain ⟨hxl, hopen⟩ := hs.rowOpen
  have hlen : (xs ++ news).length = (n + m) * i.size := by rw [List.length_append, hxl, hl, Nat.add_mul]
  have hzl : ∀ k, (Builtin.zeroCells z.cells k).size = k * i.size := fun k => by rw [size_zeroCells, hzs]
  have fresh : ∀ old L, Sat W0 w L → n + m ≤ grownCap w (n + m) old e → Sat W0 (w.drew.alloc (.cells (xs.toArray ++ news.toArray ++ Builtin.zeroCells z.cells (grownCap w (n + m) old e - (n + m))) e))
      (row (some ⟨w.heap.size, 0, none⟩) (grownCap w (n + m) old e) i.size (n + m) (xs ++ news) :: L) := by
    intro old L hL hge
    have := hL.drew.alloc (xs.toArray ++ news.toArray ++ Builtin.zeroCells z.cells (grownCap w (n + m) old e - (n + m))) e
    simp only [Array.toList_append] at this
    refine this.rowMade hlen ?_ hge (grownCap_le_maxLen w _ _ e h63)
    rw [List.length_append, hlen, Array.length_toList, hzl, ← Nat.add_mul]
    congr 1; omega
  cases sp with
  | none =>
    obtain rfl : m = 0 := hnil rfl
    obtain rfl : news = [] := List.eq_nil_of_length_eq_zero (by simpa using hl)
    have hf : (Builtin.firstCells i.size 0 (.slice none 0 c)).run P w = .ok #[] w := rfl
    rcases hopen with ⟨rfl, rfl, rfl, rfl, hL⟩ | ⟨g, rest, rfl, hn, hm, hc, hL⟩
    · refine ⟨none, 0, w, ?_, .inl ⟨rfl, by simpa using hs⟩⟩
      simp [Builtin.append_, run_underlying ht, sizeOf, typeInfo, hi, Builtin.lenOf, Builtin.firstCells, loadCells, loadCellsFrom]
    · refine ⟨some ⟨g, 0, none⟩, cp, w, ?_, .inl ⟨rfl, by simpa using hs⟩⟩
      simp [Builtin.append_, run_underlying ht, sizeOf, typeInfo, hi, Builtin.lenOf, hn, Builtin.firstCells, storeCells]
  | some ad =>
    have hnews' : ∀ j u, news[j]? = some u → w.cell? (ad.add j) = some u := fun j u hu => by obtain ⟨ad', h, hc⟩ := hnews j u hu; cases h; exact hc
    have hf := run_firstCells_some (P := P) w i.size m ad m c news hl hnews'
    rcases hopen with ⟨rfl, rfl, rfl, rfl, hL⟩ | ⟨g, rest, rfl, hn, hm, hc, hL⟩
    · by_cases hm : m = 0
      · subst hm
        obtain rfl : news = [] := List.eq_nil_of_length_eq_zero (by simpa using hl)
        refine ⟨none, 0, w, ?_, .inl ⟨rfl, by simpa using hs⟩⟩
        simp [Builtin.append_, run_underlying ht, sizeOf, typeInfo, hi, Builtin.lenOf, Builtin.firstCells, loadCells, loadCellsFrom]
      · have hr := run_append_nil (P := P) w t ty e i z ht hi hz ad m c news hl hnews' (by omega) (by omega) (by have hb := hbytes; simp only [Nat.zero_add] at hb; omega)
        have := fresh 0 _ hs (grownCap_ge w _ _ e)
        simp only [Nat.zero_add, List.nil_append] at this ⊢
        have e0 : (([] : List Value).toArray ++ news.toArray) = news.toArray := by simp
        rw [e0] at this
        exact ⟨_, _, _, hr, .inr this⟩
    · by_cases hroom : n + m ≤ cp
      · have hfit : n * i.size + 0 + news.length ≤ (xs ++ rest).length := by rw [hc, hl, Nat.add_zero, ← Nat.add_mul]; exact Nat.mul_le_mul_right _ hroom
        obtain ⟨w', hr, hs'⟩ := Sat.run_storeCells (P := P) (n * i.size) (n * i.size) news 0 _ w hL (by simp) hfit h1
        have hset : setL (xs ++ rest) (n * i.size + 0) news = (xs ++ news) ++ rest.drop news.length := by
          have hrl : news.length ≤ rest.length := by rw [List.length_append, hxl] at hfit; omega
          have := setL_mid xs (rest.take news.length) (rest.drop news.length) news (by simp; omega)
          rw [List.append_assoc, List.take_append_drop, hxl] at this
          rw [Nat.add_zero, this]
        rw [hset] at hs'
        refine ⟨some ⟨g, 0, none⟩, cp, w', ?_, .inl ⟨rfl, hs'.rowMade hlen ?_ hroom hm⟩⟩
        · have hadd : (⟨g, 0, none⟩ : Addr).add (n * i.size) = ⟨g, n * i.size, none⟩ := by rw [add_lit', Nat.zero_add]
          simp [Builtin.append_, run_underlying ht, sizeOf, typeInfo, hi, Builtin.lenOf, hroom, hf, hadd, hr]
        · have h9 : (xs ++ rest).length = (xs ++ news ++ rest.drop news.length).length := by
            simp only [List.length_append, List.length_drop] at hfit ⊢
            omega
          rw [← h9]; exact hc
      · have holds : ∀ j u, xs[j]? = some u → w.cell? ((⟨g, 0, none⟩ : Addr).add j) = some u := fun j u hu => by
          rw [add_lit']
          refine hL.cell ?_
          rw [List.getElem?_append_left (List.getElem?_eq_some_iff.1 hu).1]; exact hu
        have hr := run_append_grow (P := P) w t ty e i z ht hi hz ⟨g, 0, none⟩ n cp xs hxl holds ad m c news hl hnews' (by omega) (by omega) (growslice_fits (by omega) hbytes)
        exact ⟨_, _, _, hr, .inr (fresh cp _ hs (grownCap_ge w _ _ e))⟩
end
end Go.Sep
namespace Go.Proofs.YtlmababpmmhhoaaGreat
open Go.RowKit Go.Sep Go.Bv Go.Sha
set_option linter.unusedVariables false
set_option linter.unusedSimpArgs false
section
variable {W0 w : World} {L : List Assn} {ops : Array Oper} {rest : List Oper} {o : Oper} {a : Act} {Q : Exit → Act → World → Prop}
/-- append of bytes; the elder slice is the same array's, or it is as it was. -/
theorem wpl_app8k (hgd : o.guard = none) (s x : Operand) (ho : o.op = .call { callee := .builtin .append, args := #[s, x], argTypes := #[41, 41] })
    {p : Option Addr} {cp n : Nat} {xs : List Byte} {m : Bool} {q : Option Addr} {k cq : Nat} {ys : List Byte} (hv : a.eval s = .slice p n cp) (hx : a.eval x = .slice q k cq)
    (hs : Sat W0 w (row p cp 1 n (u8s xs) :: bytes m q ys :: L)) (hk : ys.length = k) (hb : n + k ≤ 140737488355328)
    (h : ∀ p' c' w', ((p' = p ∧ Sat W0 w' (row p' c' 1 (n + k) (u8s (xs ++ ys)) :: bytes m q ys :: L)) ∨ Sat W0 w' (row p' c' 1 (n + k) (u8s (xs ++ ys)) :: row p cp 1 n (u8s xs) :: bytes m q ys :: L)) → wpList Tryz.prog ops Q rest (a.put o.dst (.slice p' (n + k) c')) w') : wpList Tryz.prog ops Q (o :: rest) a w := by
  obtain ⟨i3, hi3, hz3, hs3, hb3⟩ := info_parts Tryz.info_u8
  have hB : Sat W0 w (bytes m q ys :: row p cp 1 n (u8s xs) :: L) := hs.pull 1
  refine wpList_plain hgd fun _ hK => ?_
  obtain ⟨p', c', w', hr, h2⟩ := run_app_keep (P := Tryz.prog) 41 o.type 5 Tryz.underlying41 hi3 hz3 hs3 hb3 rfl (by decide) hs q k cq (u8s ys) (by rw [u8s_len, hk, Nat.mul_one]) (bytesNews hB) (bytesNone0 hB hk) (u8s_one _) (by unfold maxLen; omega) (by omega)
  unfold Oper.wp execOp
  simp only [ho, resolve, invoke, builtin, Sem.run_bind, Sem.run_pure, Result.andThen_ok, List.map_toArray, List.map_cons, List.map_nil, hv, hx, hr]
  refine hK _ _ (h p' c' w' ?_)
  rw [← u8s_append] at h2
  exact h2
end
/-- Pieces of one's own, with all their room. -/
def ownRows : List Piece → Assn
  | [] => emp
  | t :: ts => sep (row t.1 t.2.1 1 t.2.2.length (u8s t.2.2)) (ownRows ts)
theorem ownOpen {W0 w : World} {t : Piece} {b : List Piece} : ∀ {a : List Piece} {L : List Assn}, Sat W0 w (ownRows (a ++ t :: b) :: L) → Sat W0 w (row t.1 t.2.1 1 t.2.2.length (u8s t.2.2) :: ownRows (a ++ b) :: L)
  | [], L, h => h.sepOpen
  | x :: a, L, h => by
    have h1 : Sat W0 w (row x.1 x.2.1 1 x.2.2.length (u8s x.2.2) :: ownRows (a ++ t :: b) :: L) := Sat.sepOpen h
    have h2 := ownOpen (a := a) (h1.pull 1)
    have h3 : Sat W0 w (row x.1 x.2.1 1 x.2.2.length (u8s x.2.2) :: ownRows (a ++ b) :: row t.1 t.2.1 1 t.2.2.length (u8s t.2.2) :: L) := h2.pick [2, 1]
    exact (Sat.sepShut h3 : Sat W0 w (ownRows (x :: (a ++ b)) :: _)).pull 1
theorem ownShut {W0 w : World} {t : Piece} {b : List Piece} : ∀ {a : List Piece} {L : List Assn}, Sat W0 w (row t.1 t.2.1 1 t.2.2.length (u8s t.2.2) :: ownRows (a ++ b) :: L) → Sat W0 w (ownRows (a ++ t :: b) :: L)
  | [], L, h => h.sepShut
  | x :: a, L, h => by
    have h1 : Sat W0 w (ownRows (x :: (a ++ b)) :: row t.1 t.2.1 1 t.2.2.length (u8s t.2.2) :: L) := h.pull 1
    have h2 : Sat W0 w (row x.1 x.2.1 1 x.2.2.length (u8s x.2.2) :: ownRows (a ++ b) :: row t.1 t.2.1 1 t.2.2.length (u8s t.2.2) :: L) := Sat.sepOpen h1
    have h3 : Sat W0 w (row t.1 t.2.1 1 t.2.2.length (u8s t.2.2) :: ownRows (a ++ b) :: row x.1 x.2.1 1 x.2.2.length (u8s x.2.2) :: L) := h2.pick [2, 1]
    have h4 := ownShut (a := a) h3
    have h5 : Sat W0 w (row x.1 x.2.1 1 x.2.2.length (u8s x.2.2) :: ownRows (a ++ t :: b) :: L) := h4.pull 1
    exact (Sat.sepShut h5 : Sat W0 w (ownRows (x :: (a ++ t :: b)) :: L))
/-- A piece that is written full of marks. -/
def markP (j : Nat) (t : Piece) : Piece := (t.1, t.2.1, marks (j + 10) t.2.2.length)
def noP : Piece := (none, 0, [])
def markedP (ts : List Piece) (k : Nat) : List Piece := (List.range k).map fun j => markP j (ts.getD j noP)
theorem markedP_snoc (ts : List Piece) (k : Nat) : markedP ts (k + 1) = markedP ts k ++ [markP k (ts.getD k noP)] := by simp [markedP, List.range_succ]
theorem markedP_len (ts : List Piece) (k : Nat) : (markedP ts k).length = k := by simp [markedP]
theorem getD_of {ts : List Piece} {k : Nat} (h : k < ts.length) : ts.drop k = ts.getD k noP :: ts.drop (k + 1) := by
  rw [List.drop_eq_getElem_cons h]
  simp [h]
theorem piecesAt {ts : List Piece} {k : Nat} (h : k < ts.length) : (ts.map pieceV)[k]? = some (pieceV (ts.getD k noP)) := by
  simp [h]
end Go.Proofs.YtlmababpmmhhoaaGreat

/- ApartBytes: the walk; under the conditions that it names. -/
namespace Go.Proofs.YtlmababpmmhhoaaGreat
open Go.RowKit Go.Sep Go.Bv Go.Sha
set_option linter.unusedVariables false
set_option linter.unusedSimpArgs false
/-- What is left of the elder slice while it is gone on with. -/
def oldOk (old : Assn) (p q : Option Addr) (K l : Nat) : Prop := (old = emp ∧ q = p) ∨ old = bytes false p (marks K l)
theorem growL {W0 w' : World} {R : List Assn} {p q p' : Option Addr} {cq c' K l i : Nat} {X : List Value} {N old : Assn}
    (h : (p' = q ∧ Sat W0 w' (row p' c' 1 (l + i + 1) X :: N :: old :: R)) ∨ Sat W0 w' (row p' c' 1 (l + i + 1) X :: row q cq 1 (l + i) (u8s (marks K (l + i))) :: N :: old :: R)) (ho : oldOk old p q K l) :
    ∃ old', oldOk old' p p' K l ∧ Sat W0 w' (row p' c' 1 (l + i + 1) X :: old' :: R) := by
  rcases h with ⟨rfl, s⟩ | s
  · exact ⟨old, ho, s.drop 1⟩
  · rcases ho with ⟨rfl, rfl⟩ | rfl
    · refine ⟨_, .inr rfl, ?_⟩
      obtain ⟨-, -, -, s1⟩ := rowBytes (s.pull 1)
      have s2 := bytesTake l (bytesRo s1)
      rw [marks_take _ _ _ (Nat.le_add_right l i)] at s2
      exact (s2.pick [1, 0]).drop 2 |>.drop 2
    · exact ⟨_, .inr rfl, (s.drop 1).drop 1⟩
theorem growEnd {W0 w : World} {R : List Assn} {p q : Option Addr} {cq K l n : Nat} {old : Assn} (hn : l ≤ n) (ho : oldOk old p q K l) (s : Sat W0 w (row q cq 1 n (u8s (marks K n)) :: old :: R)) :
    n ≤ cq ∧ cq ≤ maxLen ∧ Sat W0 w (bytes false q (marks K n) :: bytes false p (marks K l) :: R) := by
  obtain ⟨-, h1, h2, s1⟩ := rowBytes s
  refine ⟨h1, h2, ?_⟩
  have s2 := bytesRo s1
  rcases ho with ⟨rfl, rfl⟩ | rfl
  · have s3 := bytesTake l (bytesDup (s2.drop 1))
    rw [marks_take _ _ _ hn] at s3
    exact s3.pull 1
  · exact s2
set_option maxRecDepth 100000 in
set_option maxHeartbeats 4000000 in
theorem apart {W0 w : World} {L : List Assn} {ml : Bool} {lb lo cap n : Nat} (ts : List Piece) (hn : ts.length = n) (hn1 : n ≤ 1000000) (hb : ∀ t ∈ ts, t.2.2.length ≤ 1000000000) (hs : Sat W0 w (seg ml lb lo (ts.map pieceV) :: ownRows ts :: L)) :
    Calls Tryz.prog 16 #[.slice (some ⟨lb, lo, none⟩) n cap] w fun e w' => e = .returned (.bool true) ∧ Sat W0 w' L := by
  have hlb : ∀ k, k < n → (ts.getD k noP).2.2.length ≤ 1000000000 := fun k hk => by
    rw [List.getD_eq_getElem?_getD, List.getElem?_eq_getElem (by rw [hn]; exact hk)]
    exact hb _ (List.getElem_mem _)
  have HN := Lib.hid (And.intro hn hlb); clear hn hlb hb
  go_enter Tryz.func16, Tryz.ntmps16
  go_wp2
  go_loopw [3] (fun t3 wr => ∃ k : Nat, k ≤ n ∧ t3 = .int .i64 (k : Int) ∧ Sat W0 wr (seg ml lb lo (ts.map pieceV) :: ownRows (markedP ts k ++ ts.drop k) :: L)) (fun t3 _ => n - (intOf t3).toNat)
  case atStart => exact ⟨0, Nat.zero_le _, rfl, hs⟩
  case round =>
    clear hs
    obtain ⟨k, hk, rfl, s⟩ := hrel
    by_cases hlt : k < n
    · have ce := s.cell (piecesAt (by rw [HN.out.1]; exact hlt))
      rw [getD_of (by rw [HN.out.1]; exact hlt)] at s
      have hlk := HN.out.2 k hlt
      obtain ⟨⟨p, c, bs⟩, hT⟩ : ∃ T : Piece, T = ts.getD k noP := ⟨_, rfl⟩
      rw [← hT] at ce s hlk
      obtain ⟨l, hl⟩ : ∃ l, l = bs.length := ⟨_, rfl⟩
      simp only [pieceV] at ce hlk
      have s1 : Sat W0 wr (row p c 1 l (u8s (partM (k + 10) 0 bs)) :: ownRows (markedP ts k ++ ts.drop (k + 1)) :: seg ml lb lo (ts.map pieceV) :: L) := by
        rw [hl]
        exact ownOpen (s.pull 1)
      rw [← hl] at ce hlk
      have HT := Lib.hid (And.intro hT hl); clear hT hl s
      have sl0 : Sat W0 wr (seg ml lb lo (ts.map pieceV) :: _) := s1.pull 2
      have zl : lb < wr.heap.size := World.block_lt_of_cell? wr _ ce
      clear sl0
      go_wp2_with fail
      go_loopw [4] (fun t4 wr => ∃ i : Nat, i ≤ l ∧ t4 = .int .i64 (i : Int) ∧ Sat W0 wr (row p c 1 l (u8s (partM (k + 10) i bs)) :: ownRows (markedP ts k ++ ts.drop (k + 1)) :: seg ml lb lo (ts.map pieceV) :: L)) (fun t4 _ => l - (intOf t4).toNat)
      case atStart => exact ⟨0, Nat.zero_le _, rfl, s1⟩
      case round =>
        clear s1 ce zl
        obtain ⟨i, hi, rfl, s⟩ := hrel
        have sl : Sat W0 wr (seg ml lb lo (ts.map pieceV) :: _) := s.pull 2
        have ce := sl.cell (piecesAt (by rw [HN.out.1]; exact hlt))
        rw [← HT.out.1] at ce
        simp only [pieceV] at ce
        rw [← HT.out.2] at ce
        have zl : lb < wr.heap.size := World.block_lt_of_cell? wr _ ce
        by_cases hil : i < l
        · obtain ⟨hxl, ⟨-, -, h0, -, -⟩ | ⟨g, rest, rfl, h1, h2, h3, sg⟩⟩ := s.rowOpen
          · omega
          · have hpl := partM_len (k + 10) i bs (by rw [← HT.out.2]; exact hi)
            rw [← HT.out.2] at hpl
            have cg := sg.at i (v := .int .u8 (v8 ((partM (k + 10) i bs).getD i 0))) (by rw [List.getElem?_append_left (by rw [u8s_len, hpl]; exact hil)]; exact u8s_get _ i (by rw [hpl]; exact hil))
            have fg := sg.fr i (by rw [List.length_append, u8s_len, hpl]; omega)
            have zg := sg.lt (by rw [List.length_append, u8s_len, hpl]; omega)
            obtain ⟨y, hy⟩ : ∃ y, y = (partM (k + 10) i bs).getD i 0 := ⟨_, rfl⟩
            rw [← hy] at cg
            have HX := Lib.hid (And.intro hxl (And.intro h1 (And.intro h2 (And.intro h3 (And.intro hpl sg))))); clear hxl h1 h2 h3 hpl sg hy s sl
            go_wp2_with fail
            refine wp_region_quiet_tail_lit 9 (by kernel_rfl) (by kernel_rfl) ?_
            simp only [List.take_succ_cons, List.take_zero, List.drop_succ_cons, List.drop_zero]
            repeat (go_big_quiet_step ((go_at_call 31; exact Calls.quiet_of (markQ _ (k + 10) i (by simp) rfl (by omega) (by omega)))))
            refine wpQuiet_nil ?_
            rintro _ ⟨nq, rfl⟩
            go_wp2
            go_roundw
            case rel =>
              obtain ⟨hxl, h1, h2, h3, hpl, sg⟩ := HX.out
              refine ⟨i + 1, by omega, by go_num, ?_⟩
              have st := (sg.drewN nq).store (i := i) (by rw [List.length_append, u8s_len, hpl]; omega) (.int .u8 (v8 (markB (k + 10) i))) (q := i) (by simp)
              rw [List.set_append_left _ _ (by rw [u8s_len, hpl]; exact hil), u8s_set, partM_set _ _ _ (by rw [← HT.out.2]; exact hil)] at st
              refine st.rowMade ?_ ?_ h1 h2
              · rw [u8s_len, partM_len _ _ _ (by rw [← HT.out.2]; omega), HT.out.2, Nat.mul_one]
              · rw [List.length_append, u8s_len, partM_len _ _ _ (by rw [← HT.out.2]; omega), ← HT.out.2]
                rw [List.length_append, u8s_len, hpl] at h3
                exact h3
            case measure => simp [intOf]; omega
        · obtain rfl : i = l := by omega
          have hk2 : markedP ts (k + 1) ++ ts.drop (k + 1) = markedP ts k ++ (some p, c, bs).1.elim ((p, c, marks (k + 10) i) : Piece) (fun _ => (p, c, marks (k + 10) i)) :: ts.drop (k + 1) := by
            rw [markedP_snoc, ← HT.out.1, List.append_assoc]
            simp only [markP, ← HT.out.2]
            rfl
          have s2 : Sat W0 wr (seg ml lb lo (ts.map pieceV) :: ownRows (markedP ts (k + 1) ++ ts.drop (k + 1)) :: L) := by
            rw [hk2]
            have e1 : partM (k + 10) i bs = marks (k + 10) i := by rw [HT.out.2]; exact partM_all _ _
            rw [e1] at s
            refine Sat.pull (ownShut (t := (p, c, marks (k + 10) i)) (a := markedP ts k) (b := ts.drop (k + 1)) (L := seg ml lb lo (ts.map pieceV) :: L) ?_) 1
            simp only [marks_len]
            exact s
          clear s sl hk2
          go_wp2
          go_roundw
          case rel => exact ⟨k + 1, by omega, by go_num, s2⟩
          case measure => simp [intOf]; omega
    · obtain rfl : k = n := by omega
      rw [List.drop_eq_nil_of_le (by rw [HN.out.1]; exact Nat.le_refl _), List.append_nil] at s
      have hml := markedP_len ts k
      have HM := Lib.hid hml; clear hml
      go_wp2
      go_loopw [5, 6] (fun t5 t6 wr => ∃ (i : Nat) (pg : Option Addr) (cg : Nat) (us : List Piece), i ≤ k ∧ us.length = i ∧ (∀ j, j < i → (us.getD j noP).2.2 = marks (j + 10) ((ts.getD j noP).2.2.length + 6)) ∧ t6 = .int .i64 (i : Int) ∧ t5 = .slice pg i cg ∧ Sat W0 wr (row pg cg 1 i (us.map pieceV) :: allRo us :: allRo (markedP ts i) :: ownRows ((markedP ts k).drop i) :: seg ml lb lo (ts.map pieceV) :: L)) (fun _ t6 _ => k - (intOf t6).toNat)
      case atStart =>
        refine ⟨0, none, 0, [], Nat.zero_le _, rfl, fun j hj => by omega, rfl, rfl, ?_⟩
        rw [List.drop_zero]
        exact (allNil (allNil (s.pull 1))).rowNil 1
      case round =>
        clear s hlt hk
        obtain ⟨i, pg, cg, us, hi, hul, huv, rfl, rfl, s⟩ := hrel
        by_cases hlt : i < k
        · have hlk := HN.out.2 i hlt
          have hd : (markedP ts k).drop i = markP i (ts.getD i noP) :: (markedP ts k).drop (i + 1) := by
            rw [getD_of (by rw [HM.out]; exact hlt)]
            congr 1
            simp [markedP, hlt]
          rw [hd] at s
          clear hd
          have hpa := piecesAt (ts := ts) (k := i) (by rw [HN.out.1]; exact hlt)
          obtain ⟨⟨p, c, bs⟩, hT⟩ : ∃ T : Piece, T = ts.getD i noP := ⟨_, rfl⟩
          rw [← hT] at s hlk hpa
          obtain ⟨l, hl⟩ : ∃ l, l = bs.length := ⟨_, rfl⟩
          simp only [markP, pieceV] at s hlk hpa
          rw [← hl] at s hlk hpa
          have s1 : Sat W0 wr (row p c 1 l (u8s (marks (i + 10) l)) :: ownRows ((markedP ts k).drop (i + 1)) :: row pg cg 1 i (us.map pieceV) :: allRo us :: allRo (markedP ts i) :: seg ml lb lo (ts.map pieceV) :: L) := by
            have s2 := ownOpen (t := (p, c, marks (i + 10) l)) (a := []) (b := (markedP ts k).drop (i + 1)) (s.pull 3)
            simp only [marks_len] at s2
            exact s2
          have HT := Lib.hid (And.intro hT (And.intro hl (And.intro hpa (And.intro hul huv)))); clear hT hl hpa hul huv s
          have sl0 : Sat W0 wr (seg ml lb lo (ts.map pieceV) :: _) := s1.pull 5
          have ce := sl0.cell HT.out.2.2.1
          have zl : lb < wr.heap.size := World.block_lt_of_cell? wr _ ce
          clear sl0
          go_wp2_with fail
          go_loopw [7, 8] (fun t7 t8 wr => ∃ (j : Nat) (q : Option Addr) (cq : Nat) (old : Assn), j ≤ 6 ∧ oldOk old p q (i + 10) l ∧ t8 = .int .i64 (j : Int) ∧ t7 = .slice q (l + j) cq ∧ Sat W0 wr (row q cq 1 (l + j) (u8s (marks (i + 10) (l + j))) :: old :: ownRows ((markedP ts k).drop (i + 1)) :: row pg cg 1 i (us.map pieceV) :: allRo us :: allRo (markedP ts i) :: seg ml lb lo (ts.map pieceV) :: L)) (fun _ t8 _ => 6 - (intOf t8).toNat)
          case atStart => exact ⟨0, p, c, emp, by omega, .inl ⟨rfl, rfl⟩, rfl, rfl, s1.emp.pull 1⟩
          case round =>
            clear s1 ce zl
            obtain ⟨j, q, cq, old, hj, ho, rfl, rfl, s⟩ := hrel
            have HO := Lib.hid ho; clear ho
            have sl0 : Sat W0 wr (seg ml lb lo (ts.map pieceV) :: _) := s.pull 6
            have ce := sl0.cell HT.out.2.2.1
            have zl : lb < wr.heap.size := World.block_lt_of_cell? wr _ ce
            clear sl0
            by_cases hj6 : j < 6
            · go_wp2_with (first | (go_at_call 31; refine (markF _ (i + 10) (l + j) (by simp) (by simp) (by omega) (by omega)).mono ?_; rintro e w' ⟨rfl, rfl⟩) | (at_builtin; refine wpl_app8k rfl (.tmp 50) (.tmp 61) rfl rfl rfl (byteOn (b := markB (i + 10) (l + j)) rfl s) rfl (by omega) ?_; intro p9 c9 w9 h9; obtain ⟨old', ho', s9⟩ := growL h9 HO.out; clear h9))
              have HO' := Lib.hid ho'; clear ho'
              go_roundw
              case rel => exact ⟨j + 1, p9, c9, old', by omega, HO'.out, by go_num, rfl, by rw [show l + (j + 1) = l + j + 1 from rfl, marks_snoc]; exact s9⟩
              case measure => simp [intOf]; omega
            · obtain rfl : j = 6 := by omega
              obtain ⟨hq1, hq2, s2⟩ := growEnd (Nat.le_add_right l 6) HO.out s
              clear s ce zl
              have hv : Value.slice q (l + 6) cq = pieceV (q, cq, marks (i + 10) (l + 6)) := by simp [pieceV, marks_len]
              have s3 := s2.alloc #[Value.slice q (l + 6) cq] 41
              have s4 : Sat W0 _ (row pg cg 1 i (us.map pieceV) :: seg true wr.heap.size 0 [Value.slice q (l + 6) cq] :: bytes false q (marks (i + 10) (l + 6)) :: bytes false p (marks (i + 10) l) :: ownRows ((markedP ts k).drop (i + 1)) :: allRo us :: allRo (markedP ts i) :: seg ml lb lo (ts.map pieceV) :: L) := s3.pick [4]
              clear s2 s3
              have HQ := Lib.hid hv; clear hv
              go_wp2_with (at_builtin; refine wpl_appP rfl (.tmp 63) (.tmp 65) rfl rfl rfl s4 rfl (by omega) ?_; intro p8 c8 w8 s8)
              clear s4
              go_roundw
              case rel =>
                have hu1 : (us ++ [(q, cq, marks (i + 10) (l + 6))]).length = i + 1 := by rw [List.length_append, HT.out.2.2.2.1]; rfl
                refine ⟨i + 1, p8, c8, us ++ [(q, cq, marks (i + 10) (l + 6))], by omega, hu1, ?_, by go_num, rfl, ?_⟩
                · intro j hj
                  by_cases hji : j < i
                  · rw [← HT.out.2.2.2.2 j hji]
                    simp only [List.getD_eq_getElem?_getD]
                    rw [List.getElem?_append_left (by rw [HT.out.2.2.2.1]; exact hji)]
                  · obtain rfl : j = i := by omega
                    simp only [List.getD_eq_getElem?_getD]
                    rw [List.getElem?_append_right (by rw [HT.out.2.2.2.1]; exact Nat.le_refl _), HT.out.2.2.2.1, Nat.sub_self]
                    have e1 := HT.out.1
                    rw [List.getD_eq_getElem?_getD] at e1
                    rw [← e1]
                    simp only [← HT.out.2.1]
                    rfl
                · rw [HQ.out] at s8
                  rw [List.map_append]
                  have a1 : Sat W0 w8 (allRo (us ++ [(q, cq, marks (i + 10) (l + 6))]) :: row p8 c8 1 (i + 1) (us.map pieceV ++ [pieceV (q, cq, marks (i + 10) (l + 6))]) :: bytes false p (marks (i + 10) l) :: ownRows ((markedP ts k).drop (i + 1)) :: allRo (markedP ts i) :: seg ml lb lo (ts.map pieceV) :: L) :=
                    allPush (t := (q, cq, marks (i + 10) (l + 6))) (s8.pick [1, 4])
                  have a2 : Sat W0 w8 (allRo (markedP ts i ++ [(p, c, marks (i + 10) l)]) :: allRo (us ++ [(q, cq, marks (i + 10) (l + 6))]) :: row p8 c8 1 (i + 1) (us.map pieceV ++ [pieceV (q, cq, marks (i + 10) (l + 6))]) :: ownRows ((markedP ts k).drop (i + 1)) :: seg ml lb lo (ts.map pieceV) :: L) :=
                    allPush (t := (p, c, marks (i + 10) l)) (a1.pick [2, 4])
                  have e2 : markedP ts (i + 1) = markedP ts i ++ [(p, c, marks (i + 10) l)] := by
                    rw [markedP_snoc, ← HT.out.1]
                    simp only [markP, ← HT.out.2.1]
                  rw [e2]
                  exact a2.pick [2, 1, 0]
              case measure => simp [intOf]; omega
        · obtain rfl : i = k := by omega
          have s1 : Sat W0 wr (row pg cg 1 i (us.map pieceV) :: allRo us :: allRo (markedP ts i) :: seg ml lb lo (ts.map pieceV) :: L) := s.drop 3
          have HU := Lib.hid (And.intro hul huv); clear hul huv s
          go_wp2
          go_loopw [9] (fun t9 wr => ∃ j : Nat, j ≤ i ∧ t9 = .int .i64 (j : Int) ∧ Sat W0 wr (row pg cg 1 i (us.map pieceV) :: allRo us :: allRo (markedP ts i) :: seg ml lb lo (ts.map pieceV) :: L)) (fun t9 _ => i - (intOf t9).toNat)
          case atStart => exact ⟨0, Nat.zero_le _, rfl, s1⟩
          case round =>
            clear s1 hlt hi
            obtain ⟨j, hj, rfl, s⟩ := hrel
            by_cases hlt : j < i
            · obtain ⟨hxl, ⟨-, -, h0, -, -⟩ | ⟨g, rest, rfl, h1, h2, h3, sg⟩⟩ := s.rowOpen
              · omega
              · have hlk := HN.out.2 j hlt
                have hpu := piecesAt (ts := us) (k := j) (by rw [HU.out.1]; exact hlt)
                have hpa := piecesAt (ts := ts) (k := j) (by rw [HN.out.1]; exact hlt)
                have huv := HU.out.2 j hlt
                have hm1 : us.getD j noP ∈ us := by rw [List.getD_eq_getElem?_getD, List.getElem?_eq_getElem (by rw [HU.out.1]; exact hlt)]; exact List.getElem_mem _
                have hm2 : markP j (ts.getD j noP) ∈ markedP ts i := List.mem_map.2 ⟨j, List.mem_range.2 hlt, rfl⟩
                obtain ⟨⟨p, c, bs⟩, hT⟩ : ∃ T : Piece, T = ts.getD j noP := ⟨_, rfl⟩
                obtain ⟨⟨q, cq, us1⟩, hQ⟩ : ∃ T : Piece, T = us.getD j noP := ⟨_, rfl⟩
                rw [← hT] at hlk hpa huv hm2
                rw [← hQ] at hpu huv hm1
                obtain ⟨l, hl⟩ : ∃ l, l = bs.length := ⟨_, rfl⟩
                simp only [markP, pieceV] at hlk hpa hpu huv hm2
                rw [← hl] at hlk hpa huv hm2
                subst huv
                rw [marks_len] at hpu
                have cu := sg.cell (v := .slice q (l + 6) cq) (by rw [List.getElem?_append_left (List.getElem?_eq_some_iff.1 hpu).1]; exact hpu)
                rw [Nat.zero_add] at cu
                have sl0 : Sat W0 wr (seg ml lb lo (ts.map pieceV) :: _) := sg.pull 3
                have ce := sl0.cell hpa
                have zl : lb < wr.heap.size := World.block_lt_of_cell? wr _ ce
                have zg : g < wr.heap.size := World.block_lt_of_cell? wr _ cu
                clear sl0
                have su : Sat W0 wr (bytes false q (marks (j + 10) (l + 6)) :: _) := allPeek (t := (q, cq, marks (j + 10) (l + 6))) (sg.pull 1) hm1
                have sp : Sat W0 wr (bytes false p (marks (j + 10) l) :: _) := allPeek (t := (p, c, marks (j + 10) l)) (sg.pull 2) hm2
                have HX := Lib.hid (And.intro s (And.intro su (And.intro sp (And.intro hm1 hm2)))); clear sg s su sp hm1 hm2 hpu hpa hT hQ hl h1 h2 h3 hxl
                go_wp2_with fail
                go_loopw [10] (fun t10 wq => ∃ (x k : Nat), x ≤ l + 6 ∧ t10 = .int .i64 (x : Int) ∧ wq = wr.drewN k) (fun t10 _ => l + 6 - (intOf t10).toNat)
                case atStart => exact ⟨0, 0, Nat.zero_le _, rfl, rfl⟩
                case round =>
                  obtain ⟨x, kd, hx, rfl, hwq⟩ := hrel
                  have S1 := HX.out.1.drewN kd
                  have S2 := HX.out.2.1.drewN kd
                  have S3 := HX.out.2.2.1.drewN kd
                  have ce2 : wr.cell? ⟨lb, lo + j, none⟩ = some (.slice p l c) := by rw [hwq]; exact ce
                  have cu2 : wr.cell? ⟨g, j, none⟩ = some (.slice q (l + 6) cq) := by rw [hwq]; exact cu
                  have zl2 : lb < wr.heap.size := World.block_lt_of_cell? _ _ ce2
                  have zg2 : g < wr.heap.size := World.block_lt_of_cell? _ _ cu2
                  rw [← hwq] at S1 S2 S3
                  clear ce cu zl zg
                  have HW := Lib.hid (And.intro hwq S1); clear hwq S1
                  by_cases hx2 : x < l + 6
                  · have hmne : marks (j + 10) (l + 6) ≠ [] := by intro h; have := marks_len (j + 10) (l + 6); rw [h] at this; simp at this
                    obtain ⟨bq, oq, rfl, su1⟩ := bytesCell S2 hmne
                    have cx := su1.cell (u8s_get _ x (by rw [marks_len]; exact hx2))
                    rw [marks_get _ _ _ hx2] at cx
                    by_cases hxl : x < l
                    · have hmne2 : marks (j + 10) l ≠ [] := by intro h; have := marks_len (j + 10) l; rw [h] at this; simp at this; omega
                      obtain ⟨bp, op, rfl, sp1⟩ := bytesCell S3 hmne2
                      have cy := sp1.cell (u8s_get _ x (by rw [marks_len]; exact hxl))
                      rw [marks_get _ _ _ hxl] at cy
                      clear su1 sp1 hmne hmne2 S2 S3
                      go_wp2_with fail
                      go_quiet ((go_at_call 31; exact Calls.quiet_of (markQ _ (j + 10) x (by first | (simp; done) | (rw [IntKind.wrap_i64]; omega) | omega) rfl (by omega) (by omega))))
                      go_wp2
                      go_roundw
                      case rel => exact ⟨x + 1, _, by omega, by go_num, by rw [HW.out.1, World.drewN_drewN]⟩
                      case measure => simp [intOf]; omega
                    · clear su1 hmne S2 S3
                      go_wp2_with fail
                      go_quiet ((go_at_call 31; exact Calls.quiet_of (markQ _ (j + 10) x (by first | (simp; done) | (rw [IntKind.wrap_i64]; omega) | omega) rfl (by omega) (by omega))))
                      go_wp2
                      go_roundw
                      case rel => exact ⟨x + 1, _, by omega, by go_num, by rw [HW.out.1, World.drewN_drewN]⟩
                      case measure => simp [intOf]; omega
                  · obtain rfl : x = l + 6 := by omega
                    clear S2 S3
                    go_wp2
                    go_roundw
                    case rel => exact ⟨j + 1, by omega, by go_num, HW.out.2⟩
                    case measure => simp [intOf]; omega
            · go_wp2
              go_ret
              exact ⟨rfl, ((s.drop 0).drop 0).drop 0 |>.drop 0⟩
end Go.Proofs.YtlmababpmmhhoaaGreat

/- The lists' words of the statements' kit: OverBytes; under the conditions that it names. -/
namespace Go.Proofs.YtlmababpmmhhoaaGreat
open Go.RowKit Go.Sep Go.Bv Go.Sha
set_option linter.unusedVariables false
set_option linter.unusedSimpArgs false
set_option maxRecDepth 100000 in
set_option maxHeartbeats 1000000 in
theorem overF {W0 w : World} {L : List Assn} {pp : Option Addr} {n cap : Nat} (bs : List Byte) (hn : bs.length = n) (hb : n ≤ 1000000000) (hs : Sat W0 w (bytes true pp bs :: L)) :
    Calls Tryz.prog 25 #[.slice pp n cap] w fun e w' => e = .returned (.tuple #[]) ∧ Sat W0 w' (bytes true pp (marks 9 n) :: L) := by
  have hpl : ∀ i, i ≤ n → (partM 9 i bs).length = n := fun i hi => by rw [partM_len _ _ _ (by omega)]; exact hn
  have hfin : partM 9 n bs = marks 9 n := by rw [← hn]; exact partM_all _ _
  have hst : Sat W0 w (bytes true pp (partM 9 0 bs) :: L) := hs
  have HN := Lib.hid (And.intro hn (And.intro hpl hfin)); clear hn hpl hfin hs
  go_enter Tryz.func25, Tryz.ntmps25
  go_wp2
  go_loopw [2] (fun t2 wr => ∃ i : Nat, i ≤ n ∧ t2 = .int .i64 (i : Int) ∧ Sat W0 wr (bytes true pp (partM 9 i bs) :: L)) (fun t2 _ => n - (intOf t2).toNat)
  case atStart => exact ⟨0, Nat.zero_le _, rfl, hst⟩
  case round =>
    clear hst
    obtain ⟨i, hi, rfl, s⟩ := hrel
    by_cases hlt : i < n
    · have hpl := HN.out.2.1 i hi
      obtain ⟨b, o, rfl, s1⟩ := bytesCell s (by intro h; rw [h] at hpl; simp at hpl; omega)
      have cg := s1.cell (i := i) (u8s_get _ i (by rw [hpl]; exact hlt))
      have fg := (s1.free (i := i) (by rw [u8s_len, hpl]; exact hlt)).1
      obtain ⟨y, hy⟩ : ∃ y, y = (partM 9 i bs).getD i 0 := ⟨_, rfl⟩
      rw [← hy] at cg
      have zg : b < wr.heap.size := World.block_lt_of_cell? wr _ cg
      have HX := Lib.hid (And.intro hpl s1); clear hpl s1 hy s
      go_wp2_with fail
      refine (markF _ 9 i rfl rfl (by omega) (by omega)).mono ?_
      rintro e w1 ⟨rfl, rfl⟩
      go_wp2
      go_roundw
      case rel =>
        obtain ⟨hpl, s1⟩ := HX.out
        refine ⟨i + 1, by omega, by go_num, ?_⟩
        have st := s1.store (i := i) (by rw [u8s_len, hpl]; exact hlt) (.int .u8 (v8 (markB 9 i))) (q := o + i) rfl
        rw [u8s_set, partM_set _ _ _ (by rw [HN.out.1]; exact hlt)] at st
        exact bytesOf st
      case measure => simp [intOf]; omega
    · obtain rfl : i = n := by omega
      rw [HN.out.2.2] at s
      go_wp2
      refine bodyPost_end (results_none rfl _ _ _) rfl ⟨rfl, s⟩
end Go.Proofs.YtlmababpmmhhoaaGreat
