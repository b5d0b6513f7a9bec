
/- Iterators that are kept, and what they must go over: what lies in memory; under the conditions that each names. -/
import Derived.Test.YtpiiklfnakkdiaaTwkp
namespace Go.Sep
open Go.RowKit
/-- All of a list, side by side. -/
def stars : List Assn → Assn
  | [] => emp
  | A :: l => sep A (stars l)
theorem Sat.starsPush {W0 w : World} {L l : List Assn} {A : Assn} (h : Sat W0 w (A :: stars l :: L)) : Sat W0 w (stars (A :: l) :: L) := h.sepShut
theorem Sat.starsPop {W0 w : World} {L l : List Assn} {A : Assn} (h : Sat W0 w (stars (A :: l) :: L)) : Sat W0 w (A :: stars l :: L) := h.sepOpen
theorem Sat.starsSnoc {W0 w : World} {A : Assn} : ∀ {l L : List Assn}, Sat W0 w (A :: stars l :: L) → Sat W0 w (stars (l ++ [A]) :: L)
  | [], _, h => h.starsPush
  | B :: l, L, h => by
    have h1 : Sat W0 w (B :: stars l :: A :: L) := ((h.pull 1).starsPop : Sat W0 w (B :: stars l :: A :: L))
    have h2 : Sat W0 w (A :: stars l :: B :: L) := (Sat.sub (h1) (by with_reducible repeat first | exact Fr1 | exact Fr2 | (apply Fr3; focus ((repeat (first | exact Tk1 | apply Tk2)); done)) | apply Fr4))
    have h3 := Sat.starsSnoc h2
    have h4 : Sat W0 w (B :: stars (l ++ [A]) :: L) := (Sat.sub (h3) (by with_reducible repeat first | exact Fr1 | exact Fr2 | (apply Fr3; focus ((repeat (first | exact Tk1 | apply Tk2)); done)) | apply Fr4))
    exact h4.starsPush
end Go.Sep
namespace Go.Proofs.Ytpiiklfnakkdiaa
open Go.RowKit Go.Sep
set_option linter.unusedVariables false
set_option linter.unusedSimpArgs false
/-- A kept iterator: where its copies lie, and what it must go over. -/
structure KI where
  (n g m c1 c2 hc vc : Nat)
  (p1 p2 hp vp : Option Addr)
  (held : List Bool)
  (vals : List Int)
  (hn : held.length = n)
  (hv : vals.length = n)
  (h0 : 0 < n)
  (hsm : n ≤ 64)
  (hm : m = (idxT held n).length)
def KI.a (K : KI) : Assn := sep (seg true K.g 0 [.slice K.p1 K.n K.c1, .slice K.p2 K.n K.c2]) (sep (row K.p1 K.c1 1 K.n (K.held.map .bool)) (sep (row K.p2 K.c2 1 K.n (K.vals.map fun x => Value.int .i64 x)) (sep (row K.hp K.hc 1 K.m (ints (idxT K.held K.n))) (row K.vp K.vc 1 K.m (valsT K.vals (idxT K.held K.n))))))
def KI.fv (K : KI) : Value := .func (.func 37) #[] #[.pointer (some ⟨K.g, 0, none⟩)]
def KI.lv (K : KI) : Value := .slice K.hp K.m K.hc
def KI.vv (K : KI) : Value := .slice K.vp K.m K.vc
theorem KI.open {W0 w : World} {L : List Assn} {K : KI} (h : Sat W0 w (K.a :: L)) : Sat W0 w (seg true K.g 0 [.slice K.p1 K.n K.c1, .slice K.p2 K.n K.c2] :: row K.p1 K.c1 1 K.n (K.held.map .bool) :: row K.p2 K.c2 1 K.n (K.vals.map fun x => Value.int .i64 x) :: row K.hp K.hc 1 K.m (ints (idxT K.held K.n)) :: row K.vp K.vc 1 K.m (valsT K.vals (idxT K.held K.n)) :: L) := by
  have h1 := Sat.sepOpen (show Sat W0 w (sep _ _ :: L) from h)
  have h2 := Sat.sepOpen ((Sat.sub (h1) (by with_reducible repeat first | exact Fr1 | exact Fr2 | (apply Fr3; focus ((repeat (first | exact Tk1 | apply Tk2)); done)) | apply Fr4)) : Sat W0 w (sep _ _ :: seg true K.g 0 _ :: L))
  have h3 := Sat.sepOpen ((Sat.sub (h2) (by with_reducible repeat first | exact Fr1 | exact Fr2 | (apply Fr3; focus ((repeat (first | exact Tk1 | apply Tk2)); done)) | apply Fr4)) : Sat W0 w (sep _ _ :: row K.p1 K.c1 1 _ _ :: seg true K.g 0 _ :: L))
  have h4 := Sat.sepOpen ((Sat.sub (h3) (by with_reducible repeat first | exact Fr1 | exact Fr2 | (apply Fr3; focus ((repeat (first | exact Tk1 | apply Tk2)); done)) | apply Fr4)) : Sat W0 w (sep _ _ :: row K.p2 K.c2 1 _ _ :: row K.p1 K.c1 1 _ _ :: seg true K.g 0 _ :: L))
  exact (Sat.sub (h4) (by with_reducible repeat first | exact Fr1 | exact Fr2 | (apply Fr3; focus ((repeat (first | exact Tk1 | apply Tk2)); done)) | apply Fr4))
theorem KI.shut {W0 w : World} {L : List Assn} {K : KI} (h : Sat W0 w (seg true K.g 0 [.slice K.p1 K.n K.c1, .slice K.p2 K.n K.c2] :: row K.p1 K.c1 1 K.n (K.held.map .bool) :: row K.p2 K.c2 1 K.n (K.vals.map fun x => Value.int .i64 x) :: row K.hp K.hc 1 K.m (ints (idxT K.held K.n)) :: row K.vp K.vc 1 K.m (valsT K.vals (idxT K.held K.n)) :: L)) : Sat W0 w (K.a :: L) := by
  have h4 := Sat.sepShut ((Sat.sub (h) (by with_reducible repeat first | exact Fr1 | exact Fr2 | (apply Fr3; focus ((repeat (first | exact Tk1 | apply Tk2)); done)) | apply Fr4)) : Sat W0 w (row K.hp K.hc 1 _ _ :: row K.vp K.vc 1 _ _ :: row K.p2 K.c2 1 _ _ :: row K.p1 K.c1 1 _ _ :: seg true K.g 0 _ :: L))
  have h3 := Sat.sepShut ((Sat.sub (h4) (by with_reducible repeat first | exact Fr1 | exact Fr2 | (apply Fr3; focus ((repeat (first | exact Tk1 | apply Tk2)); done)) | apply Fr4)) : Sat W0 w (row K.p2 K.c2 1 _ _ :: sep _ _ :: row K.p1 K.c1 1 _ _ :: seg true K.g 0 _ :: L))
  have h2 := Sat.sepShut ((Sat.sub (h3) (by with_reducible repeat first | exact Fr1 | exact Fr2 | (apply Fr3; focus ((repeat (first | exact Tk1 | apply Tk2)); done)) | apply Fr4)) : Sat W0 w (row K.p1 K.c1 1 _ _ :: sep _ _ :: seg true K.g 0 _ :: L))
  exact Sat.sepShut ((Sat.sub (h2) (by with_reducible repeat first | exact Fr1 | exact Fr2 | (apply Fr3; focus ((repeat (first | exact Tk1 | apply Tk2)); done)) | apply Fr4)) : Sat W0 w (seg true K.g 0 _ :: sep _ _ :: L))

/-- A kept iterator: where its copies lie, and what it must go over. -/
structure KP where
  (n g m c1 c2 hc vc : Nat)
  (p1 p2 hp vp : Option Addr)
  (held : List Bool)
  (vals : List A2)
  (hn : held.length = n)
  (hv : vals.length = n)
  (h0 : 0 < n)
  (hsm : n ≤ 64)
  (hm : m = (idxT held n).length)
def KP.a (K : KP) : Assn := sep (seg true K.g 0 [.slice K.p1 K.n K.c1, .slice K.p2 K.n K.c2]) (sep (row K.p1 K.c1 1 K.n (K.held.map .bool)) (sep (row K.p2 K.c2 2 K.n (K.vals.flatMap enc2)) (sep (row K.hp K.hc 1 K.m (ints (idxT K.held K.n))) (row K.vp K.vc 2 K.m (valsP K.vals (idxT K.held K.n))))))
def KP.fv (K : KP) : Value := .func (.func 40) #[] #[.pointer (some ⟨K.g, 0, none⟩)]
def KP.lv (K : KP) : Value := .slice K.hp K.m K.hc
def KP.vv (K : KP) : Value := .slice K.vp K.m K.vc
theorem KP.open {W0 w : World} {L : List Assn} {K : KP} (h : Sat W0 w (K.a :: L)) : Sat W0 w (seg true K.g 0 [.slice K.p1 K.n K.c1, .slice K.p2 K.n K.c2] :: row K.p1 K.c1 1 K.n (K.held.map .bool) :: row K.p2 K.c2 2 K.n (K.vals.flatMap enc2) :: row K.hp K.hc 1 K.m (ints (idxT K.held K.n)) :: row K.vp K.vc 2 K.m (valsP K.vals (idxT K.held K.n)) :: L) := by
  have h1 := Sat.sepOpen (show Sat W0 w (sep _ _ :: L) from h)
  have h2 := Sat.sepOpen ((Sat.sub (h1) (by with_reducible repeat first | exact Fr1 | exact Fr2 | (apply Fr3; focus ((repeat (first | exact Tk1 | apply Tk2)); done)) | apply Fr4)) : Sat W0 w (sep _ _ :: seg true K.g 0 _ :: L))
  have h3 := Sat.sepOpen ((Sat.sub (h2) (by with_reducible repeat first | exact Fr1 | exact Fr2 | (apply Fr3; focus ((repeat (first | exact Tk1 | apply Tk2)); done)) | apply Fr4)) : Sat W0 w (sep _ _ :: row K.p1 K.c1 1 _ _ :: seg true K.g 0 _ :: L))
  have h4 := Sat.sepOpen ((Sat.sub (h3) (by with_reducible repeat first | exact Fr1 | exact Fr2 | (apply Fr3; focus ((repeat (first | exact Tk1 | apply Tk2)); done)) | apply Fr4)) : Sat W0 w (sep _ _ :: row K.p2 K.c2 2 _ _ :: row K.p1 K.c1 1 _ _ :: seg true K.g 0 _ :: L))
  exact (Sat.sub (h4) (by with_reducible repeat first | exact Fr1 | exact Fr2 | (apply Fr3; focus ((repeat (first | exact Tk1 | apply Tk2)); done)) | apply Fr4))
theorem KP.shut {W0 w : World} {L : List Assn} {K : KP} (h : Sat W0 w (seg true K.g 0 [.slice K.p1 K.n K.c1, .slice K.p2 K.n K.c2] :: row K.p1 K.c1 1 K.n (K.held.map .bool) :: row K.p2 K.c2 2 K.n (K.vals.flatMap enc2) :: row K.hp K.hc 1 K.m (ints (idxT K.held K.n)) :: row K.vp K.vc 2 K.m (valsP K.vals (idxT K.held K.n)) :: L)) : Sat W0 w (K.a :: L) := by
  have h4 := Sat.sepShut ((Sat.sub (h) (by with_reducible repeat first | exact Fr1 | exact Fr2 | (apply Fr3; focus ((repeat (first | exact Tk1 | apply Tk2)); done)) | apply Fr4)) : Sat W0 w (row K.hp K.hc 1 _ _ :: row K.vp K.vc 2 _ _ :: row K.p2 K.c2 2 _ _ :: row K.p1 K.c1 1 _ _ :: seg true K.g 0 _ :: L))
  have h3 := Sat.sepShut ((Sat.sub (h4) (by with_reducible repeat first | exact Fr1 | exact Fr2 | (apply Fr3; focus ((repeat (first | exact Tk1 | apply Tk2)); done)) | apply Fr4)) : Sat W0 w (row K.p2 K.c2 2 _ _ :: sep _ _ :: row K.p1 K.c1 1 _ _ :: seg true K.g 0 _ :: L))
  have h2 := Sat.sepShut ((Sat.sub (h3) (by with_reducible repeat first | exact Fr1 | exact Fr2 | (apply Fr3; focus ((repeat (first | exact Tk1 | apply Tk2)); done)) | apply Fr4)) : Sat W0 w (row K.p1 K.c1 1 _ _ :: sep _ _ :: seg true K.g 0 _ :: L))
  exact Sat.sepShut ((Sat.sub (h2) (by with_reducible repeat first | exact Fr1 | exact Fr2 | (apply Fr3; focus ((repeat (first | exact Tk1 | apply Tk2)); done)) | apply Fr4)) : Sat W0 w (seg true K.g 0 _ :: sep _ _ :: L))

/-- What is kept: the iterators, and what they must go over. -/
def keptA (k : Nat) (A : List KI) (B : List KP) : Assn := fun x => ∃ q : (Option Addr × Nat) × (Option Addr × Nat) × (Option Addr × Nat) × (Option Addr × Nat) × (Option Addr × Nat) × (Option Addr × Nat),
  sep (seg true k 0 [.slice q.1.1 A.length q.1.2, .slice q.2.1.1 B.length q.2.1.2, .slice q.2.2.1.1 A.length q.2.2.1.2, .slice q.2.2.2.1.1 B.length q.2.2.2.1.2, .slice q.2.2.2.2.1.1 A.length q.2.2.2.2.1.2, .slice q.2.2.2.2.2.1 B.length q.2.2.2.2.2.2])
   (sep (row q.1.1 q.1.2 1 A.length (A.map KI.fv)) (sep (row q.2.1.1 q.2.1.2 1 B.length (B.map KP.fv)) (sep (row q.2.2.1.1 q.2.2.1.2 1 A.length (A.map KI.lv)) (sep (row q.2.2.2.1.1 q.2.2.2.1.2 1 B.length (B.map KP.lv)) (sep (row q.2.2.2.2.1.1 q.2.2.2.2.1.2 1 A.length (A.map KI.vv)) (sep (row q.2.2.2.2.2.1 q.2.2.2.2.2.2 1 B.length (B.map KP.vv)) (sep (stars (A.map KI.a)) (stars (B.map KP.a))))))))) x
theorem keptOpen {W0 w : World} {L : List Assn} {k : Nat} {A : List KI} {B : List KP} (h : Sat W0 w (keptA k A B :: L)) : ∃ a1 c1 a2 c2 a3 c3 a4 c4 a5 c5 a6 c6, Sat W0 w (seg true k 0 [.slice a1 A.length c1, .slice a2 B.length c2, .slice a3 A.length c3, .slice a4 B.length c4, .slice a5 A.length c5, .slice a6 B.length c6] :: row a1 c1 1 A.length (A.map KI.fv) :: row a2 c2 1 B.length (B.map KP.fv) :: row a3 c3 1 A.length (A.map KI.lv) :: row a4 c4 1 B.length (B.map KP.lv) :: row a5 c5 1 A.length (A.map KI.vv) :: row a6 c6 1 B.length (B.map KP.vv) :: stars (A.map KI.a) :: stars (B.map KP.a) :: L) := by
  obtain ⟨⟨⟨a1, c1⟩, ⟨a2, c2⟩, ⟨a3, c3⟩, ⟨a4, c4⟩, ⟨a5, c5⟩, ⟨a6, c6⟩⟩, h⟩ := h.exOpen
  dsimp only at h
  have h1 := h.sepOpen
  have h2 := Sat.sepOpen ((Sat.sub (h1) (by with_reducible repeat first | exact Fr1 | exact Fr2 | (apply Fr3; focus ((repeat (first | exact Tk1 | apply Tk2)); done)) | apply Fr4)) : Sat W0 w (sep _ _ :: seg true k 0 _ :: L))
  have h3 := Sat.sepOpen ((Sat.sub (h2) (by with_reducible repeat first | exact Fr1 | exact Fr2 | (apply Fr3; focus ((repeat (first | exact Tk1 | apply Tk2)); done)) | apply Fr4)) : Sat W0 w (sep _ _ :: row a1 c1 1 _ _ :: seg true k 0 _ :: L))
  have h4 := Sat.sepOpen ((Sat.sub (h3) (by with_reducible repeat first | exact Fr1 | exact Fr2 | (apply Fr3; focus ((repeat (first | exact Tk1 | apply Tk2)); done)) | apply Fr4)) : Sat W0 w (sep _ _ :: row a2 c2 1 _ _ :: row a1 c1 1 _ _ :: seg true k 0 _ :: L))
  have h5 := Sat.sepOpen ((Sat.sub (h4) (by with_reducible repeat first | exact Fr1 | exact Fr2 | (apply Fr3; focus ((repeat (first | exact Tk1 | apply Tk2)); done)) | apply Fr4)) : Sat W0 w (sep _ _ :: row a3 c3 1 _ _ :: row a2 c2 1 _ _ :: row a1 c1 1 _ _ :: seg true k 0 _ :: L))
  have h6 := Sat.sepOpen ((Sat.sub (h5) (by with_reducible repeat first | exact Fr1 | exact Fr2 | (apply Fr3; focus ((repeat (first | exact Tk1 | apply Tk2)); done)) | apply Fr4)) : Sat W0 w (sep _ _ :: row a4 c4 1 _ _ :: row a3 c3 1 _ _ :: row a2 c2 1 _ _ :: row a1 c1 1 _ _ :: seg true k 0 _ :: L))
  have h7 := Sat.sepOpen ((Sat.sub (h6) (by with_reducible repeat first | exact Fr1 | exact Fr2 | (apply Fr3; focus ((repeat (first | exact Tk1 | apply Tk2)); done)) | apply Fr4)) : Sat W0 w (sep _ _ :: row a5 c5 1 _ _ :: row a4 c4 1 _ _ :: row a3 c3 1 _ _ :: row a2 c2 1 _ _ :: row a1 c1 1 _ _ :: seg true k 0 _ :: L))
  have h8 := Sat.sepOpen ((Sat.sub (h7) (by with_reducible repeat first | exact Fr1 | exact Fr2 | (apply Fr3; focus ((repeat (first | exact Tk1 | apply Tk2)); done)) | apply Fr4)) : Sat W0 w (sep _ _ :: row a6 c6 1 _ _ :: row a5 c5 1 _ _ :: row a4 c4 1 _ _ :: row a3 c3 1 _ _ :: row a2 c2 1 _ _ :: row a1 c1 1 _ _ :: seg true k 0 _ :: L))
  exact ⟨a1, c1, a2, c2, a3, c3, a4, c4, a5, c5, a6, c6, (Sat.sub (h8) (by with_reducible repeat first | exact Fr1 | exact Fr2 | (apply Fr3; focus ((repeat (first | exact Tk1 | apply Tk2)); done)) | apply Fr4))⟩
theorem keptShut {W0 w : World} {L : List Assn} {k nA nB : Nat} {A : List KI} {B : List KP} {a1 a2 a3 a4 a5 a6 : Option Addr} {c1 c2 c3 c4 c5 c6 : Nat} (hA : nA = A.length) (hB : nB = B.length) (h : Sat W0 w (seg true k 0 [.slice a1 nA c1, .slice a2 nB c2, .slice a3 nA c3, .slice a4 nB c4, .slice a5 nA c5, .slice a6 nB c6] :: row a1 c1 1 nA (A.map KI.fv) :: row a2 c2 1 nB (B.map KP.fv) :: row a3 c3 1 nA (A.map KI.lv) :: row a4 c4 1 nB (B.map KP.lv) :: row a5 c5 1 nA (A.map KI.vv) :: row a6 c6 1 nB (B.map KP.vv) :: stars (A.map KI.a) :: stars (B.map KP.a) :: L)) : Sat W0 w (keptA k A B :: L) := by
  subst hA hB
  have h8 := Sat.sepShut ((Sat.sub (h) (by with_reducible repeat first | exact Fr1 | exact Fr2 | (apply Fr3; focus ((repeat (first | exact Tk1 | apply Tk2)); done)) | apply Fr4)) : Sat W0 w (stars (A.map KI.a) :: stars (B.map KP.a) :: row a6 c6 1 _ _ :: row a5 c5 1 _ _ :: row a4 c4 1 _ _ :: row a3 c3 1 _ _ :: row a2 c2 1 _ _ :: row a1 c1 1 _ _ :: seg true k 0 _ :: L))
  have h7 := Sat.sepShut ((Sat.sub (h8) (by with_reducible repeat first | exact Fr1 | exact Fr2 | (apply Fr3; focus ((repeat (first | exact Tk1 | apply Tk2)); done)) | apply Fr4)) : Sat W0 w (row a6 c6 1 _ _ :: sep _ _ :: row a5 c5 1 _ _ :: row a4 c4 1 _ _ :: row a3 c3 1 _ _ :: row a2 c2 1 _ _ :: row a1 c1 1 _ _ :: seg true k 0 _ :: L))
  have h6 := Sat.sepShut ((Sat.sub (h7) (by with_reducible repeat first | exact Fr1 | exact Fr2 | (apply Fr3; focus ((repeat (first | exact Tk1 | apply Tk2)); done)) | apply Fr4)) : Sat W0 w (row a5 c5 1 _ _ :: sep _ _ :: row a4 c4 1 _ _ :: row a3 c3 1 _ _ :: row a2 c2 1 _ _ :: row a1 c1 1 _ _ :: seg true k 0 _ :: L))
  have h5 := Sat.sepShut ((Sat.sub (h6) (by with_reducible repeat first | exact Fr1 | exact Fr2 | (apply Fr3; focus ((repeat (first | exact Tk1 | apply Tk2)); done)) | apply Fr4)) : Sat W0 w (row a4 c4 1 _ _ :: sep _ _ :: row a3 c3 1 _ _ :: row a2 c2 1 _ _ :: row a1 c1 1 _ _ :: seg true k 0 _ :: L))
  have h4 := Sat.sepShut ((Sat.sub (h5) (by with_reducible repeat first | exact Fr1 | exact Fr2 | (apply Fr3; focus ((repeat (first | exact Tk1 | apply Tk2)); done)) | apply Fr4)) : Sat W0 w (row a3 c3 1 _ _ :: sep _ _ :: row a2 c2 1 _ _ :: row a1 c1 1 _ _ :: seg true k 0 _ :: L))
  have h3 := Sat.sepShut ((Sat.sub (h4) (by with_reducible repeat first | exact Fr1 | exact Fr2 | (apply Fr3; focus ((repeat (first | exact Tk1 | apply Tk2)); done)) | apply Fr4)) : Sat W0 w (row a2 c2 1 _ _ :: sep _ _ :: row a1 c1 1 _ _ :: seg true k 0 _ :: L))
  have h2 := Sat.sepShut ((Sat.sub (h3) (by with_reducible repeat first | exact Fr1 | exact Fr2 | (apply Fr3; focus ((repeat (first | exact Tk1 | apply Tk2)); done)) | apply Fr4)) : Sat W0 w (row a1 c1 1 _ _ :: sep _ _ :: seg true k 0 _ :: L))
  have h1 := Sat.sepShut ((Sat.sub (h2) (by with_reducible repeat first | exact Fr1 | exact Fr2 | (apply Fr3; focus ((repeat (first | exact Tk1 | apply Tk2)); done)) | apply Fr4)) : Sat W0 w (seg true k 0 _ :: sep _ _ :: L))
  exact Sat.exShut (A := fun q : (Option Addr × Nat) × (Option Addr × Nat) × (Option Addr × Nat) × (Option Addr × Nat) × (Option Addr × Nat) × (Option Addr × Nat) => sep (seg true k 0 [.slice q.1.1 A.length q.1.2, .slice q.2.1.1 B.length q.2.1.2, .slice q.2.2.1.1 A.length q.2.2.1.2, .slice q.2.2.2.1.1 B.length q.2.2.2.1.2, .slice q.2.2.2.2.1.1 A.length q.2.2.2.2.1.2, .slice q.2.2.2.2.2.1 B.length q.2.2.2.2.2.2])
   (sep (row q.1.1 q.1.2 1 A.length (A.map KI.fv)) (sep (row q.2.1.1 q.2.1.2 1 B.length (B.map KP.fv)) (sep (row q.2.2.1.1 q.2.2.1.2 1 A.length (A.map KI.lv)) (sep (row q.2.2.2.1.1 q.2.2.2.1.2 1 B.length (B.map KP.lv)) (sep (row q.2.2.2.2.1.1 q.2.2.2.2.1.2 1 A.length (A.map KI.vv)) (sep (row q.2.2.2.2.2.1 q.2.2.2.2.2.2 1 B.length (B.map KP.vv)) (sep (stars (A.map KI.a)) (stars (B.map KP.a)))))))))) ((a1, c1), (a2, c2), (a3, c3), (a4, c4), (a5, c5), (a6, c6)) h1
end Go.Proofs.Ytpiiklfnakkdiaa
