
/- Shorter forms of the rules and contracts for bytes: append, comparison; under the conditions that each names. -/
import Derived.Test.YtlmababpmmhhoaaGreatL12
namespace Go.Proofs.YtlmababpmmhhoaaGreat
open Go.RowKit Go.Sep Go.Bv Go.Sha
set_option linter.unusedVariables false
set_option linter.unusedSimpArgs false
theorem bytesNone0 {W0 w : World} {L : List Assn} {m : Bool} {sp : Option Addr} {bs : List Byte} {n : Nat} (h : Sat W0 w (bytes m sp bs :: L)) (hn : bs.length = n) : sp = none → n = 0 := by
  rintro rfl
  by_cases h0 : bs = []
  · rw [← hn, h0]; rfl
  · obtain ⟨_, _, h', _⟩ := bytesCell h h0; cases h'
section
variable {W0 w : World} {L : List Assn} {ops : Array Oper} {rest : List Oper} {o : Oper} {a : Act} {Q : Exit → Act → World → Prop}
theorem wpl_app8 (hgd : o.guard = none) (s x : Operand) (ho : o.op = .call { callee := .builtin .append, args := #[s, x], argTypes := #[41, 41] })
    {p : Option Addr} {cp n : Nat} {xs : List Byte} {m : Bool} {q : Option Addr} {k cq : Nat} {ys : List Byte} (hv : a.eval s = .slice p n cp) (hx : a.eval x = .slice q k cq)
    (hs : Sat W0 w (row p cp 1 n (u8s xs) :: bytes m q ys :: L)) (hk : ys.length = k) (hb : n + k ≤ 140737488355328)
    (h : ∀ p' c' w', Sat W0 w' (row p' c' 1 (n + k) (u8s (xs ++ ys)) :: bytes m q ys :: L) → wpList Tryz.prog ops Q rest (a.put o.dst (.slice p' (n + k) c')) w') : wpList Tryz.prog ops Q (o :: rest) a w := by
  obtain ⟨i3, hi3, hz3, hs3, hb3⟩ := info_parts Tryz.info_u8
  have hB : Sat W0 w (bytes m q ys :: row p cp 1 n (u8s xs) :: L) := hs.pull 1
  refine wpl_append hgd s x 41 ho Tryz.underlying41 hi3 hz3 hs3 hb3 rfl (by decide) hs hv q k cq hx (u8s ys) (by rw [u8s_len, hk, Nat.mul_one]) (bytesNews hB) (bytesNone0 hB hk) (u8s_one _) (by unfold maxLen; omega) (by omega) ?_
  intro p' c' w' h1 _ _
  rw [← u8s_append] at h1
  exact h p' c' w' h1
end
/-- Two lists of bytes held against each other. -/
theorem sameS {W0 w : World} {L : List Assn} {ca cb n k : Nat} {m1 m2 : Bool} {pa pb : Option Addr} (xs ys : List Byte) (hx : xs.length = n) (hy : ys.length = k) (hn : n ≤ maxLen) (hk : k ≤ maxLen) (hs : Sat W0 w (bytes m1 pa xs :: bytes m2 pb ys :: L)) :
    Calls Tryz.prog 12 #[.slice pa n ca, .slice pb k cb] w fun e w' => e = .returned (.bool (sameB xs ys)) ∧ Sat W0 w' (bytes m1 pa xs :: bytes m2 pb ys :: L) := by
  subst hx hy
  refine (sameBytes xs ys hn hk hs).mono ?_
  rintro e w' ⟨rfl, k, rfl⟩
  exact ⟨rfl, hs.drewN k⟩
theorem sameT {W0 w : World} {L : List Assn} {ca cb n k : Nat} {m1 m2 : Bool} {pa pb : Option Addr} (xs ys : List Byte) (hx : xs.length = n) (hy : ys.length = k) (hn : n ≤ 1000000000000) (he : xs = ys) (hs : Sat W0 w (bytes m1 pa xs :: bytes m2 pb ys :: L)) :
    Calls Tryz.prog 12 #[.slice pa n ca, .slice pb k cb] w fun e w' => e = .returned (.bool true) ∧ Sat W0 w' (bytes m1 pa xs :: bytes m2 pb ys :: L) := by
  have h := sameS (ca := ca) (cb := cb) xs ys hx hy (by unfold maxLen; omega) (by rw [← hy, ← he, hx]; unfold maxLen; omega) hs
  rwa [sameB_eq he] at h
theorem copyS {W0 w : World} {L : List Assn} {ca n : Nat} {m : Bool} {pa : Option Addr} (xs : List Byte) (hn : xs.length = n) (hx : n ≤ 140737488355328) (hs : Sat W0 w (bytes m pa xs :: L)) :
    Calls Tryz.prog 40 #[.slice pa n ca] w fun e w' => ∃ p c, e = .returned (.slice p n c) ∧ Sat W0 w' (row p c 1 n (u8s xs) :: bytes m pa xs :: L) := by
  subst hn
  exact copyBytes xs hx hs
/-- The beginning of bytes, by itself. -/
theorem bytesTake' {W0 w : World} {L : List Assn} {m : Bool} {sp : Option Addr} {bs : List Byte} (n : Nat) (h : Sat W0 w (bytes m sp bs :: L)) : Sat W0 w (bytes m sp (bs.take n) :: L) := bytesTake n h
end Go.Proofs.YtlmababpmmhhoaaGreat
