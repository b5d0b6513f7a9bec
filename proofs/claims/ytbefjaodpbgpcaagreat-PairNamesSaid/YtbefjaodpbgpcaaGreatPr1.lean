
/- Scripts in memory that is only read; what is seen of a script, in memory; under the conditions that each names. -/
import Derived.Test.YtbefjaodpbgpcaaGreatGG
import Derived.Test.YtbefjaodpbgpcaaGreatPr0
import Derived.Test.YtbefjaodpbgpcaaGreatVdo
import Derived.Test.YtbefjaodpbgpcaaGreatGI
namespace Go.Proofs.YtbefjaodpbgpcaaGreat
open Go.RowKit Go.Sep Go.Bv
set_option linter.unusedVariables false
set_option linter.unusedSimpArgs false
/-- An operation, and where its lists lie. -/
structure OpM where
 kd : Nat
 hd : Int
 ag : Nat
 ct : Int
 ot : Int
 dp : Option Addr
 dn : Nat
 dc : Nat
 ep : Option Addr
 en : Nat
 ec : Nat
 data : List Byte
 more : List Byte
def OpM.c (x : OpM) : OpC := ⟨x.kd, x.hd, x.ag, x.ct, x.ot, x.data, x.more⟩
def OpM.fine (x : OpM) : Prop := (x.kd < 256 ∧ x.ag < 256) ∧ (x.data.length = x.dn ∧ x.dn ≤ x.dc ∧ x.dc ≤ maxLen) ∧ (x.more.length = x.en ∧ x.en ≤ x.ec ∧ x.ec ≤ maxLen) ∧ x.dn ≤ 1048576 ∧ x.en ≤ 1048576
abbrev OpM.cells (x : OpM) : List Value := opC x.kd x.hd x.ag x.ct x.ot x.dp x.dn x.dc x.ep x.en x.ec
abbrev OpM.v (x : OpM) : Value := .agg #[.int .u8 (x.kd : Int), .int .i64 x.hd, .int .u8 (x.ag : Int), .int .i64 x.ct, .int .i64 x.ot, .slice x.dp x.dn x.dc, .slice x.ep x.en x.ec]
def opsR (p : Option Addr) (xs : List OpM) : Assn := fun h => ∀ (i : Nat) x, xs[i]? = some x → x.fine ∧ ∃ b o, p = some ⟨b, o, none⟩ ∧ seg false b (o + i * 7) x.cells h ∧ bytes false x.dp x.data h ∧ bytes false x.ep x.more h
theorem opsR_reads (p : Option Addr) (xs : List OpM) : Reads (opsR p xs) := fun x y hxy h i z hz => by
 obtain ⟨h1, b, o, e, h2, h3, h4⟩ := h i z hz
 exact ⟨h1, b, o, e, seg_reads _ _ _ x y hxy h2, bytes_reads _ _ x y hxy h3, bytes_reads _ _ x y hxy h4⟩
theorem opsPeek {W0 w : World} {L : List Assn} {p : Option Addr} {xs : List OpM} {i : Nat} {x : OpM} (h : Sat W0 w (opsR p xs :: L)) (hx : xs[i]? = some x) :
  x.fine ∧ ∃ b o, p = some ⟨b, o, none⟩ ∧ Sat W0 w (seg false b (o + i * 7) x.cells :: bytes false x.dp x.data :: bytes false x.ep x.more :: opsR p xs :: L) := by
 have hf : x.fine ∧ ∃ b o, p = some ⟨b, o, none⟩ := h.fact fun y hy => by
  obtain ⟨h1, b, o, e, _⟩ := hy i x hx
  exact ⟨h1, b, o, e⟩
 obtain ⟨h1, b, o, rfl⟩ := hf
 refine ⟨h1, b, o, rfl, ?_⟩
 have key : ∀ y, opsR (some ⟨b, o, none⟩) xs y → seg false b (o + i * 7) x.cells y ∧ bytes false x.dp x.data y ∧ bytes false x.ep x.more y := fun y hy => by
  obtain ⟨_, b', o', e, h2⟩ := hy i x hx
  cases e
  exact h2
 have d1 := (h.dup (opsR_reads _ _)).imp fun y hy => (key y hy).2.2
 have d2 := (d1.swap.dup (opsR_reads _ _)).imp fun y hy => (key y hy).2.1
 have d3 := (d2.swap.dup (opsR_reads _ _)).imp fun y hy => (key y hy).1
 exact d3.f
theorem opsDrop {W0 w : World} {L : List Assn} {b o : Nat} {xs : List OpM} (k : Nat) (h : Sat W0 w (opsR (some ⟨b, o, none⟩) xs :: L)) : Sat W0 w (opsR (some ⟨b, o + k * 7, none⟩) (xs.drop k) :: L) :=
 h.imp fun y hy i x hx => by
  obtain ⟨h1, b', o', e, h2, h3⟩ := hy (k + i) x (by rw [List.getElem?_drop] at hx; exact hx)
  cases e
  exact ⟨h1, _, _, rfl, by rw [show o + k * 7 + i * 7 = o + (k + i) * 7 by rw [Nat.add_mul]; omega]; exact h2, h3⟩
theorem opsTake {W0 w : World} {L : List Assn} {p : Option Addr} {xs : List OpM} (k : Nat) (h : Sat W0 w (opsR p xs :: L)) : Sat W0 w (opsR p (xs.take k) :: L) :=
 h.imp fun y hy i x hx => hy i x (by
  rw [List.getElem?_take] at hx
  split at hx
  ·exact hx
  ·cases hx)
/-- Lists of runs, each with its pointer and room. -/
abbrev RPiece := Option Addr × Nat × List Run3
def runsV (t : RPiece) : Value := .slice t.1 t.2.2.length t.2.1
def ownRuns (ts : List RPiece) : Assn := stars (ts.map fun t => runsA true t.1 t.2.2)
theorem starsPush {W0 w : World} {A : Assn} : ∀ {l L : List Assn}, Sat W0 w (A :: stars l :: L) → Sat W0 w (stars (l ++ [A]) :: L)
 | [], L, h => h.sepShut
 | B :: l, L, h => by
  have h1 : Sat W0 w (B :: stars l :: A :: L) := Sat.sepOpen (h.pull 1)
  have h2 := starsPush (h1.f : Sat W0 w (A :: stars l :: B :: L))
  exact (h2.pull 1).sepShut
theorem ownPush {W0 w : World} {L : List Assn} {t : RPiece} {ts : List RPiece} (h : Sat W0 w (runsA true t.1 t.2.2 :: ownRuns ts :: L)) : Sat W0 w (ownRuns (ts ++ [t]) :: L) := by
 have h1 := starsPush (l := ts.map fun t => runsA true t.1 t.2.2) h
 unfold ownRuns
 rw [List.map_append]
 exact h1
theorem ownOut {W0 w : World} {L : List Assn} {k : Nat} {t : RPiece} {ts : List RPiece} (hk : ts[k]? = some t) (h : Sat W0 w (ownRuns ts :: L)) : Sat W0 w (runsA true t.1 t.2.2 :: stars ((ts.map fun t => runsA true t.1 t.2.2).eraseIdx k) :: L) :=
 h.starsOut (by rw [List.getElem?_map, hk]; rfl)
theorem ownIn {W0 w : World} {L : List Assn} {k : Nat} {t : RPiece} {ts : List RPiece} (hk : ts[k]? = some t) (h : Sat W0 w (runsA true t.1 t.2.2 :: stars ((ts.map fun t => runsA true t.1 t.2.2).eraseIdx k) :: L)) : Sat W0 w (ownRuns ts :: L) := by
 have h1 := Sat.starsIn (by rw [List.length_map]; exact (List.getElem?_eq_some_iff.1 hk).1) h
 rw [set_same (by rw [List.getElem?_map, hk]; rfl)] at h1
 exact h1
/-- What an operation makes of a vault and its ledger: the state, the answer, the ledger's runs. -/
abbrev Doer (σ : Type) := Sts σ → OpC → List Run3 → Sts σ × Ans × List Run3
section
variable {σ : Type}
/-- What is seen of a script: each code, each operation's runs. -/
def seenL (D : Doer σ) : List OpC → Sts σ → List Run3 → List (Int × List Run3)
 | [], _, _ => []
 | o :: os, S, rs => ((D S o rs).2.1.code, sinceR (D S o rs).2.2 (tot rs)) :: seenL D os (D S o rs).1 (D S o rs).2.2
/-- The state behind so many operations. -/
def after (D : Doer σ) : Nat → List OpC → Sts σ → List Run3 → Sts σ × List Run3
 | 0, _, S, rs => (S, rs)
 | _ + 1, [], S, rs => (S, rs)
 | k + 1, o :: os, S, rs => after D k os (D S o rs).1 (D S o rs).2.2
theorem seenL_len (D : Doer σ) : ∀ (l : List OpC) (S : Sts σ) (rs : List Run3), (seenL D l S rs).length = l.length
 | [], _, _ => rfl
 | o :: os, S, rs => by simp [seenL, seenL_len D os]
theorem seenL_get (D : Doer σ) : ∀ (l : List OpC) (k : Nat) (o : OpC) (S : Sts σ) (rs : List Run3), l[k]? = some o →
  (seenL D l S rs)[k]? = some ((D (after D k l S rs).1 o (after D k l S rs).2).2.1.code, sinceR (D (after D k l S rs).1 o (after D k l S rs).2).2.2 (tot (after D k l S rs).2))
 | [], k, o, S, rs, h => by simp at h
 | x :: l, 0, o, S, rs, h => by
  simp only [List.getElem?_cons_zero, Option.some.injEq] at h
  subst h; rfl
 | x :: l, k + 1, o, S, rs, h => by
  have := seenL_get D l k o (D S x rs).1 (D S x rs).2.2 (by simpa using h)
  simpa [seenL, after] using this
theorem after_succ (D : Doer σ) : ∀ (l : List OpC) (k : Nat) (o : OpC) (S : Sts σ) (rs : List Run3), l[k]? = some o →
  after D (k + 1) l S rs = ((D (after D k l S rs).1 o (after D k l S rs).2).1, (D (after D k l S rs).1 o (after D k l S rs).2).2.2)
 | [], k, o, S, rs, h => by simp at h
 | x :: l, 0, o, S, rs, h => by
  simp only [List.getElem?_cons_zero, Option.some.injEq] at h
  subst h
  cases l <;> rfl
 | x :: l, k + 1, o, S, rs, h => by
  have := after_succ D l k o (D S x rs).1 (D S x rs).2.2 (by simpa using h)
  simpa [after] using this
/-- A vault does what D says of it, as long as so many operations have gone ahead. -/
structure Does (I : SesI σ) (D : Doer σ) (inv : Nat → Sts σ → List Run3 → Prop) (good : OpC → Prop) (N : Nat) : Prop where
 start : inv 0 (List.replicate 64 none) []
 room : ∀ {i S rs}, inv i S rs → i ≤ N → tot rs ≤ 4611686018427387904 ∧ rs.length ≤ 1000000000
 next : ∀ {i S rs o}, inv i S rs → i < N → good o → inv (i + 1) (D S o rs).1 (D S o rs).2.2 ∧ tot rs < tot (D S o rs).2.2
 call : ∀ {W0 w : World} {L : List Assn} {v : Nat} {l : Option Nat} {md mm : Bool} {i S rs} {x : OpM}, inv i S rs → i < N → good x.c → x.fine → Sat W0 w (ledO l rs :: vlt I v l S :: bytes md x.dp x.data :: bytes mm x.ep x.more :: L) →
  Calls Tryz.prog 15 #[.pointer (some ⟨v, 0, none⟩), x.v] w fun e w' => ansV I W0 v l (D S x.c rs) (bytes md x.dp x.data :: bytes mm x.ep x.more :: L) e w'
theorem Does.inv_after {I : SesI σ} {D : Doer σ} {inv : Nat → Sts σ → List Run3 → Prop} {good : OpC → Prop} {N : Nat} (H : Does I D inv good N) {l : List OpC} (hg : ∀ o ∈ l, good o) (hl : l.length ≤ N) : ∀ k, k ≤ l.length → inv k (after D k l (List.replicate 64 none) []).1 (after D k l (List.replicate 64 none) []).2
 | 0, _ => H.start
 | k + 1, hk => by
  have ih := Does.inv_after H hg hl k (by omega)
  have ho : l[k]? = some l[k] := List.getElem?_eq_getElem (by omega)
  rw [after_succ D l k _ _ _ ho]
  exact (H.next ih (by omega) (hg _ (List.getElem_mem _))).1
end
end Go.Proofs.YtbefjaodpbgpcaaGreat
