
/- More rules for the walk: make; bytes that a slice holds; each under the conditions that it names. -/
import Derived.Test.YtlmababpmmhhoaaGreatDig
namespace Go.Sep
open Go.RowKit
set_option linter.unusedVariables false
set_option linter.unusedSimpArgs false
theorem wpl_make {P : Program} {W0 w : World} {L : List Assn} {ops : Array Oper} {Q : Exit → Act → World → Prop} {o : Oper} {rest : List Oper} {a : Act} (hgd : o.guard = none) (t e : TypeId) (n c : Operand) (ho : o.op = .makeSlice t n c) {i : TypeInfo} {z : Value} {bytes : Nat}
    (hu : P.underlying t = some (.slice e)) (hi : P.info? e = some i) (hz : i.zero = some z) (hs1 : i.size = 1) (hb : i.bytes = bytes) (hz1 : z.cells = #[z]) (k : Nat) (hn : a.eval n = .int .i64 k) (hc : a.eval c = .int .i64 k) (hk : bytes * k ≤ 281474976710656) (hk2 : k ≤ 9223372036854775807) (hs : Sat W0 w L)
    (h : ∀ w' g, Sat W0 w' (seg true g 0 (List.replicate k z) :: L) → g < w'.heap.size → wpList P ops Q rest (a.put o.dst (.slice (some ⟨g, 0, none⟩) k k)) w') : wpList P ops Q (o :: rest) a w := by
  refine wpList_plain hgd fun _ hK => ?_
  have hr := run_make (P := P) w t e i z hu hi hz .i64 .i64 (k : Int) (k : Int) (by omega) (by omega) (by rw [hb]; omega) (by omega)
  rw [hs1, Int.toNat_natCast, Nat.mul_one, hz1] at hr
  unfold Oper.wp execOp
  simp only [ho, hn, hc, Sem.run_bind, Sem.run_pure, Result.andThen_ok, hr]
  exact hK _ _ (h _ _ (hs.make z k e) (by simp))
end Go.Sep
namespace Go.Proofs.YtlmababpmmhhoaaGreat
open Go.RowKit Go.Sep Go.Bv Go.Sha
set_option linter.unusedVariables false
set_option linter.unusedSimpArgs false
@[go_sem] theorem inv0_write (b : Nat) (p s : Value) (w : World) : (callMethod (.iface 87 (.agg #[.pointer (some ⟨b, 0, none⟩)])) "Write" #[p, s]).run Tryz.prog w = .ok (.enter 127 #[.pointer (some ⟨b, 0, none⟩), p, s]) w := by kernel_rfl
@[go_sem] theorem inv1_write (b : Nat) (p s : Value) (w : World) : (callMethod (.iface 91 (.agg #[.pointer (some ⟨b, 0, none⟩)])) "Write" #[p, s]).run Tryz.prog w = .ok (.enter 54 #[.pointer (some ⟨b, 0, none⟩), p, s]) w := by kernel_rfl
@[go_sem] theorem inv0_sum (b : Nat) (p : Value) (w : World) : (callMethod (.iface 87 (.agg #[.pointer (some ⟨b, 0, none⟩)])) "Sum" #[p]).run Tryz.prog w = .ok (.enter 52 #[.pointer (some ⟨b, 0, none⟩), p]) w := by kernel_rfl
@[go_sem] theorem inv1_sum (b : Nat) (p : Value) (w : World) : (callMethod (.iface 91 (.agg #[.pointer (some ⟨b, 0, none⟩)])) "Sum" #[p]).run Tryz.prog w = .ok (.enter 55 #[.pointer (some ⟨b, 0, none⟩), p]) w := by kernel_rfl
@[go_sem] theorem inv0_wipe (b : Nat) (p : Value) (w : World) : (callMethod (.iface 87 (.agg #[.pointer (some ⟨b, 0, none⟩)])) "Wipe" #[p]).run Tryz.prog w = .ok (.enter 126 #[.pointer (some ⟨b, 0, none⟩), p]) w := by kernel_rfl
@[go_sem] theorem inv1_wipe (b : Nat) (p : Value) (w : World) : (callMethod (.iface 91 (.agg #[.pointer (some ⟨b, 0, none⟩)])) "Wipe" #[p]).run Tryz.prog w = .ok (.enter 132 #[.pointer (some ⟨b, 0, none⟩), p]) w := by kernel_rfl
@[go_sem] theorem inv0_form (b : Nat) (w : World) : (callMethod (.iface 87 (.agg #[.pointer (some ⟨b, 0, none⟩)])) "Form" #[]).run Tryz.prog w = .ok (.enter 124 #[.pointer (some ⟨b, 0, none⟩)]) w := by kernel_rfl
@[go_sem] theorem inv1_form (b : Nat) (w : World) : (callMethod (.iface 91 (.agg #[.pointer (some ⟨b, 0, none⟩)])) "Form" #[]).run Tryz.prog w = .ok (.enter 130 #[.pointer (some ⟨b, 0, none⟩)]) w := by kernel_rfl
@[go_sem] theorem inv0_copy (b : Nat) (w : World) : (callMethod (.iface 87 (.agg #[.pointer (some ⟨b, 0, none⟩)])) "Copy" #[]).run Tryz.prog w = .ok (.enter 128 #[.agg #[.pointer (some ⟨b, 0, none⟩)]]) w := by kernel_rfl
@[go_sem] theorem inv1_copy (b : Nat) (w : World) : (callMethod (.iface 91 (.agg #[.pointer (some ⟨b, 0, none⟩)])) "Copy" #[]).run Tryz.prog w = .ok (.enter 133 #[.agg #[.pointer (some ⟨b, 0, none⟩)]]) w := by kernel_rfl
theorem bytesNews {W0 w : World} {L : List Assn} {m : Bool} {sp : Option Addr} {bs : List Byte} (h : Sat W0 w (bytes m sp bs :: L)) : ∀ j v, (u8s bs)[j]? = some v → ∃ ad, sp = some ad ∧ w.cell? (ad.add j) = some v := by
  intro j v hv
  have hne : bs ≠ [] := by rintro rfl; cases hv
  obtain ⟨b, o, rfl, h1⟩ := bytesCell h hne
  exact h1.news j v hv
theorem bytesNil {W0 w : World} {L : List Assn} (m : Bool) (sp : Option Addr) (h : Sat W0 w L) : Sat W0 w (bytes m sp [] :: L) := by
  obtain ⟨hb, hs, hf⟩ := h
  exact ⟨hb, Hp.zero :: hs, .cons (.inl rfl) (Hp.zero_ok _ _) (fun _ _ => Hp.zero_dis _) hf⟩
/-- A row of bytes is bytes that a slice holds; what is behind them is let go. -/
theorem rowBytes {W0 w : World} {L : List Assn} {p : Option Addr} {c n : Nat} {bs : List Byte} (h : Sat W0 w (row p c 1 n (u8s bs) :: L)) : bs.length = n ∧ n ≤ c ∧ c ≤ maxLen ∧ Sat W0 w (bytes true p bs :: L) := by
  obtain ⟨hl, ⟨rfl, rfl, rfl, hx, h1⟩ | ⟨g, rest, rfl, h1, h2, h3, h4⟩⟩ := h.rowOpen
  · have hb : bs = [] := List.eq_nil_of_length_eq_zero (by rw [u8s_len] at hl; simpa using hl)
    subst hb
    exact ⟨rfl, Nat.le_refl _, by unfold maxLen; omega, bytesNil true none h1⟩
  · rw [u8s_len, Nat.mul_one] at hl
    exact ⟨hl, h1, h2, (bytesOf (Sat.part h4 (q := (u8s bs).length) (by omega))).drop 1⟩
end Go.Proofs.YtlmababpmmhhoaaGreat
