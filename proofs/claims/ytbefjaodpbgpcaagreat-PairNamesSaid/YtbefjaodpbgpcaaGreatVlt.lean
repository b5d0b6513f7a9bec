
/- A vault in memory: a table of keys and sessions, and a memory for each handle; under the conditions that each names. -/
import Derived.Test.YtbefjaodpbgpcaaGreatTbt
import Derived.Test.YtbefjaodpbgpcaaGreatVsl
import Derived.Test.YtbefjaodpbgpcaaGreatOpc
import Derived.Test.YtbefjaodpbgpcaaGreatGI
namespace Go.Sep
open Go.RowKit
set_option linter.unusedVariables false
theorem Sat.swap {W0 w : World} {A B : Assn} {L : List Assn} (h : Sat W0 w (A :: B :: L)) : Sat W0 w (B :: A :: L) := h.pull 1
/-- All of a list, side by side. -/
def stars : List Assn → Assn
 | [] => emp
 | A :: l => sep A (stars l)
theorem Sat.starsOut {W0 w : World} {A : Assn} : ∀ {l L : List Assn} {k : Nat}, l[k]? = some A → Sat W0 w (stars l :: L) → Sat W0 w (A :: stars (l.eraseIdx k) :: L)
 | [], _, _, hk, _ => by cases hk
 | B :: l, L, 0, hk, h => by
  simp only [List.getElem?_cons_zero, Option.some.injEq] at hk
  subst hk
  exact h.sepOpen
 | B :: l, L, k + 1, hk, h => by
  have h1 : Sat W0 w (stars l :: B :: L) := (Sat.sepOpen h).pull 1
  have h2 := Sat.starsOut (k := k) (by simpa using hk) h1
  have h3 : Sat W0 w (B :: stars (l.eraseIdx k) :: A :: L) := h2.f
  have h4 : Sat W0 w (stars ((B :: l).eraseIdx (k + 1)) :: A :: L) := h3.sepShut
  exact h4.pull 1
theorem Sat.starsIn {W0 w : World} {A : Assn} : ∀ {l L : List Assn} {k : Nat}, k < l.length → Sat W0 w (A :: stars (l.eraseIdx k) :: L) → Sat W0 w (stars (l.set k A) :: L)
 | [], _, _, hk, _ => absurd hk (by simp)
 | B :: l, L, 0, hk, h => h.sepShut
 | B :: l, L, k + 1, hk, h => by
  have h1 : Sat W0 w (B :: stars (l.eraseIdx k) :: A :: L) := Sat.sepOpen ((h.pull 1 : Sat W0 w (stars ((B :: l).eraseIdx (k + 1)) :: A :: L)))
  have h2 : Sat W0 w (A :: stars (l.eraseIdx k) :: B :: L) := h1.f
  have h3 := Sat.starsIn (k := k) (by simpa using hk) h2
  exact (h3.pull 1 : Sat W0 w (B :: stars (l.set k A) :: L)).sepShut
end Go.Sep
namespace Go.Proofs.YtbefjaodpbgpcaaGreat
open Go.RowKit Go.Sep Go.Bv
set_option linter.unusedVariables false
set_option linter.unusedSimpArgs false
theorem set_same {α : Type} : ∀ {l : List α} {k : Nat} {x : α}, l[k]? = some x → l.set k x = l
 | [], _, _, h => by cases h
 | y :: l, 0, x, h => by simp only [List.getElem?_cons_zero, Option.some.injEq] at h; subst h; rfl
 | y :: l, k + 1, x, h => by rw [List.set_cons_succ, set_same (l := l) (by simpa using h)]
/-- What lies under a handle: a key, or a session. -/
inductive Th (σ : Type) where
 | key (k : List Byte)
 | ses (x : σ)
/-- How sessions lie in memory, and what their forms are. -/
structure SesI (σ : Type) where
 A : σ → Nat → Assn
 form : σ → List Byte
/-- A thing and where it lies. -/
inductive Loc (σ : Type) where
 | key (k : List Byte) (p : Option Addr) (c : Nat)
 | ses (x : σ) (s : Nat)
section
variable {σ : Type}
def Loc.th : Loc σ → Th σ
 | .key k _ _ => .key k
 | .ses x _ => .ses x
def Loc.tid : Loc σ → TypeId
 | .key .. => 128
 | .ses .. => 136
def Loc.val : Loc σ → Value
 | .key k p c => .agg #[.slice p k.length c]
 | .ses _ s => .agg #[.pointer (some ⟨s, 0, none⟩)]
def Loc.A (I : SesI σ) : Loc σ → Assn
 | .key k p c => fun h => (k.length ≤ c ∧ c ≤ maxLen) ∧ bytes true p k h
 | .ses x s => I.A x s
def Th.form (I : SesI σ) : Th σ → List Byte
 | .key k => k
 | .ses x => I.form x
/-- A slot: its memory, what lies under its handle. -/
structure Slt (σ : Type) where
 m : Nat
 o : Option (Loc σ)
def formO (I : SesI σ) : Option (Th σ) → List Byte
 | none => []
 | some t => t.form I
def locO (I : SesI σ) : Option (Loc σ) → Assn
 | none => emp
 | some l => l.A I
def Slt.th (s : Slt σ) : Option (Th σ) := s.o.map Loc.th
def Slt.A (I : SesI σ) (s : Slt σ) : Assn := sep (memA s.m (formO I s.th)) (locO I s.o)
def Slt.v (s : Slt σ) : Value := match s.o with
 | none => .nilIface
 | some l => .iface l.tid l.val
abbrev Sts (σ : Type) := List (Option (Th σ))
def vlC (t : Nat) (l : Option Nat) (T : List (Slt σ)) : List Value := .pointer (some ⟨t, 0, none⟩) :: ptrO l :: T.map fun s => Value.pointer (some ⟨s.m, 0, none⟩)
def heldC (T : List (Slt σ)) : List Bool := T.map fun s => s.o.isSome
def valsC (T : List (Slt σ)) : List Value := T.map Slt.v
abbrev tabC (t hb vb : Nat) (held : List Bool) (vals : List Value) (L : List Assn) : List Assn :=
 seg true t 0 [.slice (some ⟨hb, 0, none⟩) 64 64, .slice (some ⟨vb, 0, none⟩) 64 64] :: seg true hb 0 (held.map .bool) :: seg true vb 0 vals :: L
abbrev vltL (I : SesI σ) (v : Nat) (l : Option Nat) (t hb vb : Nat) (T : List (Slt σ)) (L : List Assn) : List Assn :=
 seg true v 0 (vlC t l T) :: tabC t hb vb (heldC T) (valsC T) (stars (T.map (Slt.A I)) :: L)
def vlt (I : SesI σ) (v : Nat) (l : Option Nat) (S : Sts σ) : Assn := fun h => ∃ q : Nat × Nat × Nat × List (Slt σ), (q.2.2.2.map Slt.th = S ∧ S.length = 64) ∧
 sep (seg true v 0 (vlC q.1 l q.2.2.2)) (sep (seg true q.1 0 [.slice (some ⟨q.2.1, 0, none⟩) 64 64, .slice (some ⟨q.2.2.1, 0, none⟩) 64 64]) (sep (seg true q.2.1 0 ((heldC q.2.2.2).map .bool)) (sep (seg true q.2.2.1 0 (valsC q.2.2.2)) (stars (q.2.2.2.map (Slt.A I)))))) h
theorem vltOpen {W0 w : World} {L : List Assn} {I : SesI σ} {v : Nat} {l : Option Nat} {S : Sts σ} (h : Sat W0 w (vlt I v l S :: L)) : ∃ t hb vb T, T.map Slt.th = S ∧ S.length = 64 ∧ T.length = 64 ∧ Sat W0 w (vltL I v l t hb vb T L) := by
 obtain ⟨⟨t, hb, vb, T⟩, h1⟩ := Sat.exOpen h
 obtain ⟨h2, h3⟩ := h1.fact fun x hx => hx.1
 have h4 := Sat.sepOpen (h1.imp fun x hx => hx.2)
 have h5 := Sat.sepOpen (h4.swap)
 have h6 := Sat.sepOpen (h5.swap)
 have h7 := Sat.sepOpen (h6.swap)
 exact ⟨t, hb, vb, T, h2, h3, by rw [← h3, ← h2, List.length_map], h7.f⟩
theorem vltShut {W0 w : World} {L : List Assn} {I : SesI σ} {v : Nat} {l : Option Nat} {S : Sts σ} {t hb vb : Nat} {T : List (Slt σ)} (hT : T.map Slt.th = S) (hS : S.length = 64) (h : Sat W0 w (vltL I v l t hb vb T L)) : Sat W0 w (vlt I v l S :: L) := by
 have h1 : Sat W0 w (seg true vb 0 (valsC T) :: stars (T.map (Slt.A I)) :: seg true hb 0 ((heldC T).map .bool) :: seg true t 0 [.slice (some ⟨hb, 0, none⟩) 64 64, .slice (some ⟨vb, 0, none⟩) 64 64] :: seg true v 0 (vlC t l T) :: L) := h.f
 have h2 := (Sat.sepShut h1).swap
 have h3 := (Sat.sepShut h2).swap
 have h4 := (Sat.sepShut h3).swap
 have h5 := Sat.sepShut h4
 exact h5.imp fun x hx => ⟨(t, hb, vb, T), ⟨hT, hS⟩, hx⟩
theorem vlC_len {t : Nat} {l : Option Nat} {T : List (Slt σ)} (hT : T.length = 64) : (vlC t l T).length = 66 := by simp [vlC, hT]
theorem vlC_slot {t : Nat} {l : Option Nat} {T : List (Slt σ)} {k : Nat} {s : Slt σ} (h : T[k]? = some s) : (vlC t l T)[k + 2]? = some (.pointer (some ⟨s.m, 0, none⟩)) := by simp [vlC, h]
theorem vlC_set {t : Nat} {l : Option Nat} {T : List (Slt σ)} {k : Nat} {s s' : Slt σ} (h : T[k]? = some s) (hm : s'.m = s.m) : vlC t l (T.set k s') = vlC t l T := by
 have e : (T.set k s').map (fun s => Value.pointer (some ⟨s.m, 0, none⟩)) = T.map fun s => Value.pointer (some ⟨s.m, 0, none⟩) := by
  rw [List.map_set, hm]
  exact set_same (by rw [List.getElem?_map, h]; rfl)
 unfold vlC
 rw [e]
theorem heldC_len {T : List (Slt σ)} (hT : T.length = 64) : (heldC T).length = 64 := by simp [heldC, hT]
theorem valsC_len {T : List (Slt σ)} (hT : T.length = 64) : (valsC T).length = 64 := by simp [valsC, hT]
theorem heldC_get {T : List (Slt σ)} {k : Nat} {s : Slt σ} (h : T[k]? = some s) : (heldC T).getD k false = s.o.isSome := by simp [heldC, h]
theorem valsC_get {T : List (Slt σ)} {k : Nat} {s : Slt σ} (h : T[k]? = some s) : (valsC T)[k]? = some s.v := by simp [valsC, h]
theorem heldC_set (T : List (Slt σ)) (k m : Nat) (o : Option (Loc σ)) : heldC (T.set k ⟨m, o⟩) = (heldC T).set k o.isSome := by simp [heldC, List.map_set]
theorem valsC_set (T : List (Slt σ)) (k : Nat) (s : Slt σ) : valsC (T.set k s) = (valsC T).set k s.v := by simp [valsC, List.map_set]
/-- A slot is taken out of the row of slots, -/
theorem sltOut {W0 w : World} {L : List Assn} {I : SesI σ} {T : List (Slt σ)} {k : Nat} {s : Slt σ} (h : T[k]? = some s) (hs : Sat W0 w (stars (T.map (Slt.A I)) :: L)) : Sat W0 w (memA s.m (formO I s.th) :: locO I s.o :: stars ((T.map (Slt.A I)).eraseIdx k) :: L) :=
 Sat.sepOpen (hs.starsOut (k := k) (A := s.A I) (by rw [List.getElem?_map, h]; rfl))
/-- and laid back. -/
theorem sltIn {W0 w : World} {L : List Assn} {I : SesI σ} {T : List (Slt σ)} {k : Nat} {s s' : Slt σ} (h : T[k]? = some s) (hs : Sat W0 w (memA s'.m (formO I s'.th) :: locO I s'.o :: stars ((T.map (Slt.A I)).eraseIdx k) :: L)) : Sat W0 w (stars ((T.set k s').map (Slt.A I)) :: L) := by
 rw [List.map_set]
 exact Sat.starsIn (by rw [List.length_map]; exact (List.getElem?_eq_some_iff.1 h).1) (Sat.sepShut hs)
/-- What a method answers, what is held and recorded then. -/
def ansV (I : SesI σ) (W0 : World) (v : Nat) (l : Option Nat) (r : Sts σ × Ans × List Run3) (R : List Assn) (e : Ending) (w' : World) : Prop :=
 ∃ (q : Option Addr) (c : Nat), e = .returned (.agg #[.int .i64 r.2.1.code, .int .i64 (r.2.1.handle : Int), .bool r.2.1.same, .slice q r.2.1.bytes.length c]) ∧ r.2.1.bytes.length ≤ c ∧ c ≤ maxLen ∧ Sat W0 w' (ledO l r.2.2 :: vlt I v l r.1 :: bytes true q r.2.1.bytes :: R)
theorem ansV_no {I : SesI σ} {W0 w' : World} {v : Nat} {l : Option Nat} {S : Sts σ} {rs : List Run3} {R : List Assn} {c : Int} (h : Sat W0 w' (ledO l rs :: vlt I v l S :: R)) : ansV I W0 v l (S, noA c, rs) R (.returned (.agg #[.int .i64 c, .int .i64 0, .bool false, .slice none 0 0])) w' := by
 have h2 := bytesNil true none h
 have h3 : Sat W0 w' (ledO l rs :: vlt I v l S :: bytes true none [] :: R) := h2.f
 exact ⟨none, 0, rfl, Nat.le_refl _, Nat.zero_le _, h3⟩
theorem ansV_h {I : SesI σ} {W0 w' : World} {v i : Nat} {l : Option Nat} {S : Sts σ} {rs : List Run3} {R : List Assn} (h : Sat W0 w' (ledO l rs :: vlt I v l S :: R)) : ansV I W0 v l (S, ⟨0, i, false, []⟩, rs) R (.returned (.agg #[.int .i64 0, .int .i64 (i : Int), .bool false, .slice none 0 0])) w' := by
 have h2 := bytesNil true none h
 have h3 : Sat W0 w' (ledO l rs :: vlt I v l S :: bytes true none [] :: R) := h2.f
 exact ⟨none, 0, rfl, Nat.le_refl _, Nat.zero_le _, h3⟩
theorem ansV_s {I : SesI σ} {W0 w' : World} {v : Nat} {b : Bool} {l : Option Nat} {S : Sts σ} {rs : List Run3} {R : List Assn} (h : Sat W0 w' (ledO l rs :: vlt I v l S :: R)) : ansV I W0 v l (S, ⟨0, 0, b, []⟩, rs) R (.returned (.agg #[.int .i64 0, .int .i64 0, .bool b, .slice none 0 0])) w' := by
 have h2 := bytesNil true none h
 have h3 : Sat W0 w' (ledO l rs :: vlt I v l S :: bytes true none [] :: R) := h2.f
 exact ⟨none, 0, rfl, Nat.le_refl _, Nat.zero_le _, h3⟩
theorem ansV_b {I : SesI σ} {W0 w' : World} {v n c : Nat} {q : Option Addr} {bs : List Byte} {l : Option Nat} {S : Sts σ} {rs : List Run3} {R : List Assn} (hn : bs.length = n) (hc : n ≤ c) (hm : c ≤ maxLen) (h : Sat W0 w' (ledO l rs :: vlt I v l S :: bytes true q bs :: R)) : ansV I W0 v l (S, ⟨0, 0, false, bs⟩, rs) R (.returned (.agg #[.int .i64 0, .int .i64 0, .bool false, .slice q n c])) w' := by
 subst hn
 exact ⟨q, c, rfl, hc, hm, h⟩
end
end Go.Proofs.YtbefjaodpbgpcaaGreat
