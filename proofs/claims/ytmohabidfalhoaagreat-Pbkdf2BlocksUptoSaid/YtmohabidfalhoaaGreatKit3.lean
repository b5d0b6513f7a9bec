
/- ApartBytes: lists in memory of their own are written full of marks and gone on with; under the conditions that it names. -/
import Derived.Test.YtmohabidfalhoaaGreatKit2
namespace Go.Sep
open Go.RowKit
set_option linter.unusedVariables false
set_option linter.unusedSimpArgs false
section
variable {P : Program} {W0 w : World} {L : List Assn}
/-- append onto a slice of one's own. -/
theorem run_app_keep (t ty e : TypeId) {i : TypeInfo} {z : Value} {size bytes : Nat} (ht : P.underlying t = some (.slice e)) (hi : P.info? e = some i) (hz : i.zero = some z) (hsize : i.size = size) (hby : i.bytes = bytes) (hzs : z.cells.size = size) (hsz : 0 < size)
    {p : Option Addr} {cp n : Nat} {xs : List Value} (hs : Sat W0 w (row p cp size n xs :: L)) (sp : Option Addr) (m c : Nat) (news : List Value) (hl : news.length = m * size) (hnews : ∀ j u, news[j]? = some u → ∃ ad, sp = some ad ∧ w.cell? (ad.add j) = some u)
    (hnil : sp = none → m = 0) (h1 : ∀ u ∈ news, u.oneCell' = true) (h63 : n + m ≤ maxLen) (hbytes : (n + m) * bytes ≤ 140737488355328) :
    ∃ p' c' w', (Builtin.append_ #[t, t] ty #[.slice p n cp, .slice sp m c]).run P w = .ok (.slice p' (n + m) c') w' ∧ ((p' = p ∧ Sat W0 w' (row p' c' size (n + m) (xs ++ news) :: L)) ∨ Sat W0 w' (row p' c' size (n + m) (xs ++ news) :: row p cp size n xs :: L)) := by
  subst hsize
  subst hby
  have hsmall : n + m ≤ 9223372036854775807 := by simp only [maxLen] at h63; omega
  obtain ⟨hxl, hopen⟩ := hs.rowOpen
  have hlen : (xs ++ news).length = (n + m) * i.size := by rw [List.length_append, hxl, hl, Nat.add_mul]
  have hzl : ∀ k, (Builtin.zeroCells z.cells k).size = k * i.size := fun k => by rw [size_zeroCells, hzs]
  have fresh : ∀ old L, Sat W0 w L → n + m ≤ grownCap w (n + m) old e → Sat W0 (w.drew.alloc (.cells (xs.toArray ++ news.toArray ++ Builtin.zeroCells z.cells (grownCap w (n + m) old e - (n + m))) e))
      (row (some ⟨w.heap.size, 0, none⟩) (grownCap w (n + m) old e) i.size (n + m) (xs ++ news) :: L) := by
    intro old L hL hge
    have := hL.drew.alloc (xs.toArray ++ news.toArray ++ Builtin.zeroCells z.cells (grownCap w (n + m) old e - (n + m))) e
    simp only [Array.toList_append] at this
    refine this.rowMade hlen ?_ hge (grownCap_le_maxLen w _ _ e h63)
    rw [List.length_append, hlen, Array.length_toList, hzl, ← Nat.add_mul]
    congr 1; omega
  cases sp with
  | none =>
    obtain rfl : m = 0 := hnil rfl
    obtain rfl : news = [] := List.eq_nil_of_length_eq_zero (by simpa using hl)
    have hf : (Builtin.firstCells i.size 0 (.slice none 0 c)).run P w = .ok #[] w := rfl
    rcases hopen with ⟨rfl, rfl, rfl, rfl, hL⟩ | ⟨g, rest, rfl, hn, hm, hc, hL⟩
    · refine ⟨none, 0, w, ?_, .inl ⟨rfl, by simpa using hs⟩⟩
      simp [Builtin.append_, run_underlying ht, sizeOf, typeInfo, hi, Builtin.lenOf, Builtin.firstCells, loadCells, loadCellsFrom]
    · refine ⟨some ⟨g, 0, none⟩, cp, w, ?_, .inl ⟨rfl, by simpa using hs⟩⟩
      simp [Builtin.append_, run_underlying ht, sizeOf, typeInfo, hi, Builtin.lenOf, hn, Builtin.firstCells, storeCells]
  | some ad =>
    have hnews' : ∀ j u, news[j]? = some u → w.cell? (ad.add j) = some u := fun j u hu => by obtain ⟨ad', h, hc⟩ := hnews j u hu; cases h; exact hc
    have hf := run_firstCells_some (P := P) w i.size m ad m c news hl hnews'
    rcases hopen with ⟨rfl, rfl, rfl, rfl, hL⟩ | ⟨g, rest, rfl, hn, hm, hc, hL⟩
    · by_cases hm : m = 0
      · subst hm
        obtain rfl : news = [] := List.eq_nil_of_length_eq_zero (by simpa using hl)
        refine ⟨none, 0, w, ?_, .inl ⟨rfl, by simpa using hs⟩⟩
        simp [Builtin.append_, run_underlying ht, sizeOf, typeInfo, hi, Builtin.lenOf, Builtin.firstCells, loadCells, loadCellsFrom]
      · have hr := run_append_nil (P := P) w t ty e i z ht hi hz ad m c news hl hnews' (by omega) (by omega) (by have hb := hbytes; simp only [Nat.zero_add] at hb; omega)
        have := fresh 0 _ hs (grownCap_ge w _ _ e)
        simp only [Nat.zero_add, List.nil_append] at this ⊢
        have e0 : (([] : List Value).toArray ++ news.toArray) = news.toArray := by simp
        rw [e0] at this
        exact ⟨_, _, _, hr, .inr this⟩
    · by_cases hroom : n + m ≤ cp
      · have hfit : n * i.size + 0 + news.length ≤ (xs ++ rest).length := by rw [hc, hl, Nat.add_zero, ← Nat.add_mul]; exact Nat.mul_le_mul_right _ hroom
        obtain ⟨w', hr, hs'⟩ := Sat.run_storeCells (P := P) (n * i.size) (n * i.size) news 0 _ w hL (by simp) hfit h1
        have hset : setL (xs ++ rest) (n * i.size + 0) news = (xs ++ news) ++ rest.drop news.length := by
          have hrl : news.length ≤ rest.length := by rw [List.length_append, hxl] at hfit; omega
          have := setL_mid xs (rest.take news.length) (rest.drop news.length) news (by simp; omega)
          rw [List.append_assoc, List.take_append_drop, hxl] at this
          rw [Nat.add_zero, this]
        rw [hset] at hs'
        refine ⟨some ⟨g, 0, none⟩, cp, w', ?_, .inl ⟨rfl, hs'.rowMade hlen ?_ hroom hm⟩⟩
        · have hadd : (⟨g, 0, none⟩ : Addr).add (n * i.size) = ⟨g, n * i.size, none⟩ := by rw [add_lit', Nat.zero_add]
          simp [Builtin.append_, run_underlying ht, sizeOf, typeInfo, hi, Builtin.lenOf, hroom, hf, hadd, hr]
        · have h9 : (xs ++ rest).length = (xs ++ news ++ rest.drop news.length).length := by
            simp only [List.length_append, List.length_drop] at hfit ⊢
            omega
          rw [← h9]; exact hc
      · have holds : ∀ j u, xs[j]? = some u → w.cell? ((⟨g, 0, none⟩ : Addr).add j) = some u := fun j u hu => by
          rw [add_lit']
          refine hL.cell ?_
          rw [List.getElem?_append_left (List.getElem?_eq_some_iff.1 hu).1]; exact hu
        have hr := run_append_grow (P := P) w t ty e i z ht hi hz ⟨g, 0, none⟩ n cp xs hxl holds ad m c news hl hnews' (by omega) (by omega) (growslice_fits (by omega) hbytes)
        exact ⟨_, _, _, hr, .inr (fresh cp _ hs (grownCap_ge w _ _ e))⟩
end
end Go.Sep
namespace Go.Proofs.YtmohabidfalhoaaGreat
open Go.RowKit Go.Sep Go.Bv Go.Sha
set_option linter.unusedVariables false
set_option linter.unusedSimpArgs false
section
variable {W0 w : World} {L : List Assn} {ops : Array Oper} {rest : List Oper} {o : Oper} {a : Act} {Q : Exit → Act → World → Prop}
/-- append of bytes; the elder slice is the same array's, or it is as it was. -/
theorem wpl_app8k (hgd : o.guard = none) (s x : Operand) (ho : o.op = .call { callee := .builtin .append, args := #[s, x], argTypes := #[41, 41] })
    {p : Option Addr} {cp n : Nat} {xs : List Byte} {m : Bool} {q : Option Addr} {k cq : Nat} {ys : List Byte} (hv : a.eval s = .slice p n cp) (hx : a.eval x = .slice q k cq)
    (hs : Sat W0 w (row p cp 1 n (u8s xs) :: bytes m q ys :: L)) (hk : ys.length = k) (hb : n + k ≤ 140737488355328)
    (h : ∀ p' c' w', ((p' = p ∧ Sat W0 w' (row p' c' 1 (n + k) (u8s (xs ++ ys)) :: bytes m q ys :: L)) ∨ Sat W0 w' (row p' c' 1 (n + k) (u8s (xs ++ ys)) :: row p cp 1 n (u8s xs) :: bytes m q ys :: L)) → wpList Tryz.prog ops Q rest (a.put o.dst (.slice p' (n + k) c')) w') : wpList Tryz.prog ops Q (o :: rest) a w := by
  obtain ⟨i3, hi3, hz3, hs3, hb3⟩ := info_parts Tryz.info_u8
  have hB : Sat W0 w (bytes m q ys :: row p cp 1 n (u8s xs) :: L) := hs.pull 1
  refine wpList_plain hgd fun _ hK => ?_
  obtain ⟨p', c', w', hr, h2⟩ := run_app_keep (P := Tryz.prog) 41 o.type 5 Tryz.underlying41 hi3 hz3 hs3 hb3 rfl (by decide) hs q k cq (u8s ys) (by rw [u8s_len, hk, Nat.mul_one]) (bytesNews hB) (bytesNone0 hB hk) (u8s_one _) (by unfold maxLen; omega) (by omega)
  unfold Oper.wp execOp
  simp only [ho, resolve, invoke, builtin, Sem.run_bind, Sem.run_pure, Result.andThen_ok, List.map_toArray, List.map_cons, List.map_nil, hv, hx, hr]
  refine hK _ _ (h p' c' w' ?_)
  rw [← u8s_append] at h2
  exact h2
end
/-- Pieces of one's own, with all their room. -/
def ownRows : List Piece → Assn
  | [] => emp
  | t :: ts => sep (row t.1 t.2.1 1 t.2.2.length (u8s t.2.2)) (ownRows ts)
theorem ownOpen {W0 w : World} {t : Piece} {b : List Piece} : ∀ {a : List Piece} {L : List Assn}, Sat W0 w (ownRows (a ++ t :: b) :: L) → Sat W0 w (row t.1 t.2.1 1 t.2.2.length (u8s t.2.2) :: ownRows (a ++ b) :: L)
  | [], L, h => h.sepOpen
  | x :: a, L, h => by
    have h1 : Sat W0 w (row x.1 x.2.1 1 x.2.2.length (u8s x.2.2) :: ownRows (a ++ t :: b) :: L) := Sat.sepOpen h
    have h2 := ownOpen (a := a) (h1.pull 1)
    have h3 : Sat W0 w (row x.1 x.2.1 1 x.2.2.length (u8s x.2.2) :: ownRows (a ++ b) :: row t.1 t.2.1 1 t.2.2.length (u8s t.2.2) :: L) := h2.pick [2, 1]
    exact (Sat.sepShut h3 : Sat W0 w (ownRows (x :: (a ++ b)) :: _)).pull 1
theorem ownShut {W0 w : World} {t : Piece} {b : List Piece} : ∀ {a : List Piece} {L : List Assn}, Sat W0 w (row t.1 t.2.1 1 t.2.2.length (u8s t.2.2) :: ownRows (a ++ b) :: L) → Sat W0 w (ownRows (a ++ t :: b) :: L)
  | [], L, h => h.sepShut
  | x :: a, L, h => by
    have h1 : Sat W0 w (ownRows (x :: (a ++ b)) :: row t.1 t.2.1 1 t.2.2.length (u8s t.2.2) :: L) := h.pull 1
    have h2 : Sat W0 w (row x.1 x.2.1 1 x.2.2.length (u8s x.2.2) :: ownRows (a ++ b) :: row t.1 t.2.1 1 t.2.2.length (u8s t.2.2) :: L) := Sat.sepOpen h1
    have h3 : Sat W0 w (row t.1 t.2.1 1 t.2.2.length (u8s t.2.2) :: ownRows (a ++ b) :: row x.1 x.2.1 1 x.2.2.length (u8s x.2.2) :: L) := h2.pick [2, 1]
    have h4 := ownShut (a := a) h3
    have h5 : Sat W0 w (row x.1 x.2.1 1 x.2.2.length (u8s x.2.2) :: ownRows (a ++ t :: b) :: L) := h4.pull 1
    exact (Sat.sepShut h5 : Sat W0 w (ownRows (x :: (a ++ t :: b)) :: L))
/-- A piece that is written full of marks. -/
def markP (j : Nat) (t : Piece) : Piece := (t.1, t.2.1, marks (j + 10) t.2.2.length)
def noP : Piece := (none, 0, [])
def markedP (ts : List Piece) (k : Nat) : List Piece := (List.range k).map fun j => markP j (ts.getD j noP)
theorem markedP_snoc (ts : List Piece) (k : Nat) : markedP ts (k + 1) = markedP ts k ++ [markP k (ts.getD k noP)] := by simp [markedP, List.range_succ]
theorem markedP_len (ts : List Piece) (k : Nat) : (markedP ts k).length = k := by simp [markedP]
theorem getD_of {ts : List Piece} {k : Nat} (h : k < ts.length) : ts.drop k = ts.getD k noP :: ts.drop (k + 1) := by
  rw [List.drop_eq_getElem_cons h]
  simp [h]
theorem piecesAt {ts : List Piece} {k : Nat} (h : k < ts.length) : (ts.map pieceV)[k]? = some (pieceV (ts.getD k noP)) := by
  simp [h]
end Go.Proofs.YtmohabidfalhoaaGreat
