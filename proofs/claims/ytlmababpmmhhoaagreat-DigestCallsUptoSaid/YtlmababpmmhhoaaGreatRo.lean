
/- Read-only copies of what one's own memory holds, and bundles of them; under the conditions that each names. -/
import Derived.Test.YtlmababpmmhhoaaGreatLed2
namespace Go.Sep
set_option linter.unusedVariables false
set_option linter.unusedSimpArgs false
/-- The same cells, none of which may be written. -/
def Hp.ro (h : Hp) : Hp := Hp.of fun b o => match h b o with | some (_, v) => some (false, v) | none => none
theorem Hp.ro_some {h : Hp} {b o : Nat} {m : Bool} {v : Value} (e : h b o = some (m, v)) : h.ro b o = some (false, v) := by show (match h.c b o with | some (_, v) => some (false, v) | none => none) = _; rw [e]
theorem Hp.ro_of {h : Hp} {b o : Nat} {x : Bool × Value} (e : h.ro b o = some x) : ∃ m, h b o = some (m, x.2) ∧ x.1 = false := by
  have e : (match h.c b o with | some (_, v) => some (false, v) | none => none) = some x := e
  cases e' : h.c b o with
  | none => rw [e'] at e; cases e
  | some y => rw [e'] at e; cases e; exact ⟨y.1, rfl, rfl⟩
theorem Hp.ok.ro {W0 w : World} {h : Hp} (ok : h.ok W0 w) : h.ro.ok W0 w := by
  refine Hp.of_ok fun b o m v hx => ?_
  obtain ⟨m', h1, h2⟩ := Hp.ro_of hx
  simp only at h2
  subst h2
  exact ⟨(ok.1 b o m' v h1).1, fun h => by cases h⟩
theorem Hp.dis.ro {h k : Hp} (d : h.dis k) : h.ro.dis k := by
  refine Hp.of_dis fun b o x y hx hy => ?_
  obtain ⟨m, h1, h2⟩ := Hp.ro_of hx
  obtain ⟨h3, h4⟩ := d.1 b o _ y h1 hy
  simp only at h4
  subst h4
  refine ⟨?_, h2⟩
  rw [← h3]
  obtain ⟨x1, x2⟩ := x
  simp only at h2
  subst h2
  rfl
/-- What one owns is let go: it may be read from now on. -/
theorem Sat.ro {W0 w : World} {L : List Assn} {A B : Assn} (h : Sat W0 w (A :: L)) (hAB : ∀ x, A x → B x.ro) : Sat W0 w (B :: L) := by
  obtain ⟨h0, hs, hf⟩ := h
  obtain ⟨x, t, rfl, hA, ok, hd, hf'⟩ := hf.head
  exact ⟨h0, x.ro :: t, .cons (hAB x hA) ok.ro (fun k hk => (hd k hk).ro) hf'⟩
theorem seg_ro {m : Bool} {b o : Nat} {vs : List Value} (x : Hp) (h : seg m b o vs x) : seg false b o vs x.ro := fun i v hv => Hp.ro_some (h i v hv)
/-- An assertion that only reads holds of the cells that none may write. -/
def Reads (A : Assn) : Prop := ∀ x y : Hp, (∀ b o v, x b o = some (false, v) → y b o = some (false, v)) → A x → A y
theorem seg_reads (b o : Nat) (vs : List Value) : Reads (seg false b o vs) := fun x y hxy h i v hv => hxy _ _ _ (h i v hv)
/-- What is only read may be had twice. -/
theorem Sat.dup {W0 w : World} {L : List Assn} {A : Assn} (hA : Reads A) (h : Sat W0 w (A :: L)) : Sat W0 w (A :: A :: L) := by
  obtain ⟨h0, hs, hf⟩ := h
  obtain ⟨x, t, rfl, hx, ok, hd, hf'⟩ := hf.head
  let z : Hp := Hp.of fun b o => match x b o with | some (false, v) => some (false, v) | _ => none
  have hz : ∀ b o y, z b o = some y → x b o = some y ∧ y.1 = false := by
    intro b o y e
    have e : (match x.c b o with | some (false, v) => some (false, v) | _ => none) = some y := e
    split at e
    · rename_i v e'
      cases e
      exact ⟨e', rfl⟩
    · cases e
  refine ⟨h0, z :: x :: t, .cons (hA x z (fun b o v e => ?_) hx) (Hp.of_ok fun b o m v e => ok.1 b o m v (hz b o _ e).1) (fun k hk => Hp.of_dis ?_) (.cons hx ok hd hf')⟩
  · show (match x.c b o with | some (false, v) => some (false, v) | _ => none) = _; rw [e]
  · intro b o p q hp hq
    obtain ⟨e1, e2⟩ := hz _ _ _ hp
    rcases List.mem_cons.1 hk with rfl | hk
    · rw [e1] at hq; cases hq; exact ⟨rfl, e2⟩
    · exact (hd k hk).1 b o p q e1 hq
/-- Two assertions that only read, as one of the parts of both. -/
theorem Sat.both {W0 w : World} {L : List Assn} {A B C : Assn} (h : Sat W0 w (A :: B :: L)) (hA : Reads A) (hB : Reads B) (hC : ∀ x, A x → B x → C x) : Sat W0 w (C :: L) := by
  obtain ⟨h0, hs, hf⟩ := h
  obtain ⟨x, t, rfl, hx, ok, hd, hf'⟩ := hf.head
  obtain ⟨y, t', rfl, hy, ok', hd', hf''⟩ := hf'.head
  refine ⟨h0, x.cup y :: t', .cons (hC _ (hA x _ (fun b o v e => (Hp.le_cup x y).1 b o _ e) hx) (hB y _ (fun b o v e => (Hp.cup_le (hd y (by simp))).1 b o _ e) hy)) (ok.cup ok') (fun k hk => (hd k (by simp [hk])).cup (hd' k hk)) hf''⟩
end Go.Sep
namespace Go.Proofs.YtlmababpmmhhoaaGreat
open Go.RowKit Go.Sep Go.Bv Go.Sha
set_option linter.unusedVariables false
set_option linter.unusedSimpArgs false
theorem bytes_ro {m : Bool} {p : Option Addr} {bs : List Byte} (x : Hp) (h : bytes m p bs x) : bytes false p bs x.ro := by
  rcases h with h | ⟨b, o, rfl, h⟩
  · exact .inl h
  · exact .inr ⟨b, o, rfl, seg_ro x h⟩
theorem bytes_reads (p : Option Addr) (bs : List Byte) : Reads (bytes false p bs) := by
  intro x y hxy h
  rcases h with h | ⟨b, o, rfl, h⟩
  · exact .inl h
  · exact .inr ⟨b, o, rfl, seg_reads b o _ x y hxy h⟩
theorem bytesRo {W0 w : World} {L : List Assn} {m : Bool} {p : Option Addr} {bs : List Byte} (h : Sat W0 w (bytes m p bs :: L)) : Sat W0 w (bytes false p bs :: L) := h.ro bytes_ro
theorem bytesDup {W0 w : World} {L : List Assn} {p : Option Addr} {bs : List Byte} (h : Sat W0 w (bytes false p bs :: L)) : Sat W0 w (bytes false p bs :: bytes false p bs :: L) := h.dup (bytes_reads p bs)
/-- Slices of bytes, each with its pointer and room: what they hold. -/
abbrev Piece := Option Addr × Nat × List Byte
def pieceV (t : Piece) : Value := .slice t.1 t.2.2.length t.2.1
def allRo (ts : List Piece) : Assn := fun x => ∀ t ∈ ts, bytes false t.1 t.2.2 x
theorem allRo_reads (ts : List Piece) : Reads (allRo ts) := fun x y hxy h t ht => bytes_reads _ _ x y hxy (h t ht)
theorem allNil {W0 w : World} {L : List Assn} (h : Sat W0 w L) : Sat W0 w (allRo [] :: L) := h.emp.imp fun x _ t ht => by cases ht
theorem allPush {W0 w : World} {L : List Assn} {m : Bool} {t : Piece} {ts : List Piece} (h : Sat W0 w (bytes m t.1 t.2.2 :: allRo ts :: L)) : Sat W0 w (allRo (ts ++ [t]) :: L) := by
  refine (bytesRo h).both (bytes_reads _ _) (allRo_reads ts) fun x h1 h2 u hu => ?_
  rcases List.mem_append.1 hu with hu | hu
  · exact h2 u hu
  · rw [List.mem_singleton.1 hu]; exact h1
theorem allPeek {W0 w : World} {L : List Assn} {ts : List Piece} {t : Piece} (h : Sat W0 w (allRo ts :: L)) (ht : t ∈ ts) : Sat W0 w (bytes false t.1 t.2.2 :: allRo ts :: L) :=
  (h.dup (allRo_reads ts)).imp fun x hx => hx t ht
end Go.Proofs.YtlmababpmmhhoaaGreat
