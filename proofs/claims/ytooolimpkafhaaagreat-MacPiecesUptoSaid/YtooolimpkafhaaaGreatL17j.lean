
/- Layer 17: how a message is spoiled, as an argument; what goes on being recorded; under the conditions that each names. -/
import Derived.Test.YtooolimpkafhaaaGreatL17i
namespace Go.Proofs.YtooolimpkafhaaaGreat
open Go.RowKit Go.Sep Go.Bv Go.Kec Go.Aes Go.Sha
open Go.ChangeShapes Go.WideShapes Go.ChangeAt
set_option linter.unusedVariables false
set_option linter.unusedSimpArgs false
/-- How a message is cut, and which byte is spoiled. -/
structure SpoilC where
  tp : Option Addr
  tn : Nat
  tc : Nat
  at_ : Int
  bit : Int
def encS (y : SpoilC) : List Value := [.slice y.tp y.tn y.tc, .int .i64 y.at_, .int .u8 y.bit]
structure SpoilA (W : World) (y : SpoilC) (C : List Byte) : Prop where
  cuts : IsBytes W y.tp y.tn y.tc C
  bit : ∃ b : Byte, y.bit = v8 b
  at_ : -9223372036854775808 ≤ y.at_ ∧ y.at_ ≤ 9223372036854775807
theorem cells_u8' : Tryz.prog.cellsOf 5 = 1 := by kernel_rfl
set_option maxRecDepth 100000 in
theorem open_spoil {H : Type} {enc : TypeId × Value → H} {W : World} {base b0 : Nat} {held : Bool} {v : Value} {d : DataW H} {p : List MemPlace} (hv : Value.okWide Tryz.prog W .any b0 45 v) (h : DataW.Trod enc Tryz.prog W base (fun _ => true) held 45 v d p) :
    ∃ q : SpoilC × List Byte, v = .agg (encS q.1).toArray ∧ SpoilA W q.1 q.2 ∧ q.1.tc ≤ Rows.uptoBulk d := by
  obtain ⟨cs, rfl, hsz⟩ := okWide_struct Tryz.underlying45 hv
  obtain ⟨fuel, hf⟩ := h
  obtain ⟨xs, n, _, hx, hl, hlen, hfld⟩ := DataW.trod_struct Tryz.underlying45 hf
  match xs, hlen with
  | [x0, x1, x2], _ =>
    have hcl : cs.toList.length = 3 := by
      have h4 : Tryz.prog.cellsOf 45 = 3 := by kernel_rfl
      rw [Array.length_toList, hsz, h4]
    have f0 : DataW.trod enc Tryz.prog W base (fun _ => true) held n 23 ((cs.toList.drop 0).take (Tryz.prog.cellsOf 23)) = some x0 := hfld 0 _ rfl
    have f1 : DataW.trod enc Tryz.prog W base (fun _ => true) held n 3 ((cs.toList.drop 1).take (Tryz.prog.cellsOf 3)) = some x1 := hfld 1 _ rfl
    have f2 : DataW.trod enc Tryz.prog W base (fun _ => true) held n 5 ((cs.toList.drop 2).take (Tryz.prog.cellsOf 5)) = some x2 := hfld 2 _ rfl
    rw [cells_sl8] at f0
    rw [cells_int] at f1
    rw [cells_u8'] at f2
    match hc : cs.toList, hcl with
    | [c0, c1, c2], _ =>
      rw [hc] at f0 f1 f2
      obtain ⟨z, h2, _, hw2⟩ := DataW.trod_int Tryz.underlying5 f2
      obtain ⟨o, h1, _, hw1⟩ := DataW.trod_int Tryz.underlying3 f1
      obtain ⟨y1, y2⟩ := x0
      obtain ⟨q1, h0, hb1, hu1⟩ := trod_bytes f0
      simp only [List.drop_zero, List.drop_succ_cons, List.take_succ_cons, List.take_zero, List.cons.injEq, and_true] at h0 h1 h2
      subst h0 h1 h2
      have hb := wf_u8 z hw2
      refine ⟨(⟨q1.1, q1.2.1, q1.2.2.1, o, z⟩, q1.2.2.2), ?_, ⟨hb1, ⟨BitVec.ofInt 8 z, (v8_ofInt z hb.1 hb.2).symm⟩, wf_i64 o hw1⟩, ?_⟩
      · have : cs = (cs.toList).toArray := by simp
        rw [this, hc]; rfl
      · simp only [Prod.mk.injEq] at hx
        obtain ⟨rfl, _⟩ := hx
        simp only [List.map_cons, List.map_nil, Rows.uptoBulk, Rows.uptoBulkAll]
        omega
theorem Tryz.size_spoil : (Tryz.prog.info? 45).map (·.size) = some 3 := by kernel_rfl
/-- What was recorded when so many bytes of a message were told. -/
def runsOn (K : MKind) (kn cn n : Nat) : List Run3 := noteN (K.beg kn cn []) K.ek (K.es kn) (K.blk n)
theorem blk_zero (K : MKind) : K.blk 0 = 0 := by cases K <;> simp [MKind.blk]
theorem runsOn_zero (K : MKind) (kn cn : Nat) : runsOn K kn cn 0 = K.beg kn cn [] := by unfold runsOn; rw [blk_zero]; rfl
theorem runsOn_add (K : MKind) (kn cn a n : Nat) : noteN (runsOn K kn cn a) K.ek (K.es kn) (K.blk (a + n) - K.blk a) = runsOn K kn cn (a + n) := by
  unfold runsOn
  rw [noteN_add, Nat.add_sub_cancel' (K.blk_mono (Nat.le_add_right a n))]
theorem runsOn_bd (K : MKind) (kn cn n : Nat) (hk : kn ≤ 100000000) (hc : cn ≤ 64) (hn : n ≤ 1000000000) : tot (runsOn K kn cn n) ≤ 1200000000 ∧ (runsOn K kn cn n).length ≤ 3 := by
  unfold runsOn
  have h1 := beg_tot K kn cn [] hk hc
  have h2 := tot_noteN (K.beg kn cn []) K.ek (K.es kn) (K.blk n)
  have h3 := noteN_len (K.beg kn cn []) K.ek (K.es kn) (K.blk n)
  have h4 := K.blk_le n
  simp only [tot, List.length_nil] at h1
  omega
theorem roomyN {rs : List Run3} {T n : Nat} (h : tot rs ≤ T ∧ rs.length ≤ n) (hT : T ≤ 1000000000000) (hn : n ≤ 100000) : Roomy rs := ⟨by omega, by omega⟩
theorem bdN {rs : List Run3} {T n : Nat} (h : tot rs ≤ T ∧ rs.length ≤ n) (k s : Int) (j : Nat) : tot (noteN rs k s j) ≤ T + j ∧ (noteN rs k s j).length ≤ n + 1 := by
  have h2 := tot_noteN rs k s j
  have h3 := noteN_len rs k s j
  omega
theorem bd1 {rs : List Run3} {T n : Nat} (h : tot rs ≤ T ∧ rs.length ≤ n) (k s : Int) (j : Nat) : tot (note rs k s j) ≤ T + j ∧ (note rs k s j).length ≤ n + 1 := by
  have h2 := tot_note rs k s j
  have h3 := note_len rs k s j
  omega
theorem fits_len {K : MKind} {key custom key' custom' : List Byte} {o : Nat} (h : K.fits key custom o) (hk : key'.length = key.length) (hc : custom'.length = custom.length) : K.fits key' custom' o := by
  obtain ⟨h1, h2, h3, h4⟩ := h
  refine ⟨h1, h2, by omega, ?_⟩
  cases K with
  | hm wide => simp only at h4 ⊢; subst h4; exact List.eq_nil_of_length_eq_zero hc
  | cm => simp only at h4 ⊢; obtain ⟨rfl, h4⟩ := h4; exact ⟨List.eq_nil_of_length_eq_zero hc, by rw [hk]; exact h4⟩
  | km large xof => simp only at h4 ⊢; omega
theorem fits_bd {K : MKind} {key custom : List Byte} {o : Nat} (h : K.fits key custom o) : key.length ≤ 100000000 ∧ custom.length ≤ 64 ∧ 1 ≤ o ∧ o ≤ 64 := by
  have hm := (most_le K).2
  obtain ⟨h1, h2, h3, h4⟩ := h
  refine ⟨h3, ?_, h1, by omega⟩
  cases K with
  | hm wide => simp only at h4; subst h4; exact Nat.zero_le _
  | cm => simp only at h4; obtain ⟨rfl, _⟩ := h4; exact Nat.zero_le _
  | km large xof => simp only at h4; exact h4
theorem rowSeg17 {W0 w : World} {L : List Assn} {p : Option Addr} {c sz n : Nat} {vs : List Value} (h : Sat W0 w (row p c sz n vs :: L)) (hn : 0 < n) : ∃ g, p = some ⟨g, 0, none⟩ ∧ n ≤ c ∧ c ≤ 9223372036854775807 ∧ Sat W0 w (seg true g 0 vs :: L) := by
  obtain ⟨hl, ⟨rfl, rfl, h0, hx, h1⟩ | ⟨g, rest, rfl, h1, h2, h3, h4⟩⟩ := h.rowOpen
  · omega
  · exact ⟨g, rfl, h1, h2, (h4.part (q := 0 + vs.length) rfl).drop 1⟩
theorem flatP_take17 (ts : List Piece) (i : Nat) (hi : i < ts.length) : flatP (ts.take (i + 1)) = flatP (ts.take i) ++ ts[i].2.2 := by
  rw [List.take_succ_eq_append_getElem hi, flatP_snoc]
theorem flatP_take_len17 (ts : List Piece) (i : Nat) : (flatP (ts.take i)).length ≤ (flatP ts).length := by
  have : flatP ts = flatP (ts.take i) ++ flatP (ts.drop i) := by
    unfold flatP
    rw [← List.flatMap_append, List.take_append_drop]
  rw [this, List.length_append]; omega
theorem hFS17_all (W0 : World) : ∀ g wx X (v0 v1 v2 : Value), Sat W0 wx (seg true g 0 [v0, v1, v2] :: X) → wx.cell? ⟨g, 0, none⟩ = some v0 ∧ wx.cell? ⟨g, 1, none⟩ = some v1 ∧ wx.cell? ⟨g, 2, none⟩ = some v2 ∧ g < wx.heap.size := fun g wx X v0 v1 v2 h => ⟨h.at 0 rfl, h.at 1 rfl, h.at 2 rfl, h.lt (by simp)⟩
end Go.Proofs.YtooolimpkafhaaaGreat
