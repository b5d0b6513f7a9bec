
/- Lists of lists of bytes: append of one, CutInto; under the conditions that each names. -/
import Derived.Test.YtlmababpmmhhoaaGreatRo
namespace Go.Proofs.YtlmababpmmhhoaaGreat
open Go.RowKit Go.Sep Go.Bv Go.Sha
set_option linter.unusedVariables false
set_option linter.unusedSimpArgs false
theorem Tryz.info_bss : (Tryz.prog.info? 41).map (fun i => (i.zero, i.size, i.bytes)) = some (some (.slice none 0 0), 1, 24) := by kernel_rfl
section
variable {W0 w : World} {L : List Assn} {ops : Array Oper} {rest : List Oper} {o : Oper} {a : Act} {Q : Exit → Act → World → Prop}
theorem wpl_appP (hgd : o.guard = none) (s x : Operand) (ho : o.op = .call { callee := .builtin .append, args := #[s, x], argTypes := #[35, 35] })
    {p : Option Addr} {cp n g : Nat} {vs : List Value} {v : Value} (hv : a.eval s = .slice p n cp) (hx : a.eval x = .slice (some ⟨g, 0, none⟩) 1 1)
    (hs : Sat W0 w (row p cp 1 n vs :: seg true g 0 [v] :: L)) (h1 : v.oneCell' = true) (hb : n + 1 ≤ 1000000000)
    (h : ∀ p' c' w', Sat W0 w' (row p' c' 1 (n + 1) (vs ++ [v]) :: L) → wpList Tryz.prog ops Q rest (a.put o.dst (.slice p' (n + 1) c')) w') : wpList Tryz.prog ops Q (o :: rest) a w := by
  obtain ⟨i3, hi3, hz3, hs3, hb3⟩ := info_parts Tryz.info_bss
  have hB : Sat W0 w (seg true g 0 [v] :: row p cp 1 n vs :: L) := hs.pull 1
  refine wpl_append hgd s x 35 ho Tryz.underlying35 hi3 hz3 hs3 hb3 rfl (by decide) hs hv (some ⟨g, 0, none⟩) 1 1 hx [v] rfl hB.news (fun h => by cases h) (by simpa using h1) (by unfold maxLen; omega) (by omega) ?_
  intro p' c' w' h2 _ _
  exact h p' c' w' (h2.drop 1)
end
theorem bytesDropAny {W0 w : World} {L : List Assn} {m : Bool} {b o : Nat} {bs : List Byte} (n : Nat) (q : Option Addr) (hq : n < bs.length → q = some ⟨b, o + n, none⟩) (h : Sat W0 w (bytes m (some ⟨b, o, none⟩) bs :: L)) : Sat W0 w (bytes m q (bs.drop n) :: L) :=
  h.imp fun x hx => by
    by_cases hn : n < bs.length
    · rcases hx with rfl | ⟨b', o', e, hx⟩
      · exact .inl (by simp)
      · cases e
        refine .inr ⟨b, o + n, hq hn, fun i v hv => ?_⟩
        rw [Nat.add_assoc]
        refine hx (n + i) v ?_
        simp only [u8s, List.getElem?_map, List.getElem?_drop] at hv ⊢
        exact hv
    · exact .inl (List.drop_eq_nil_of_le (by omega))
theorem pieceV_one (t : Piece) : (pieceV t).oneCell' = true := rfl
/-- Pieces, and what lies in them. -/
def flatP (ts : List Piece) : List Byte := ts.flatMap fun t => t.2.2
def okP (ts : List Piece) : Prop := ∀ t ∈ ts, t.2.2.length ≤ t.2.1 ∧ t.2.1 ≤ maxLen
theorem flatP_snoc (ts : List Piece) (t : Piece) : flatP (ts ++ [t]) = flatP ts ++ t.2.2 := by simp [flatP]
theorem okP_snoc {ts : List Piece} {t : Piece} (h : okP ts) (h1 : t.2.2.length ≤ t.2.1) (h2 : t.2.1 ≤ maxLen) : okP (ts ++ [t]) := by
  intro u hu
  rcases List.mem_append.1 hu with hu | hu
  · exact h u hu
  · rw [List.mem_singleton.1 hu]; exact ⟨h1, h2⟩
end Go.Proofs.YtlmababpmmhhoaaGreat
