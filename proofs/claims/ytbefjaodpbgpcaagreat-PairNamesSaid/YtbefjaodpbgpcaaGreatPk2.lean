
/- PairLong: scripts of 4096 operations are played, longer ones are refused; a closed statement. -/
import Derived.Test.YtbefjaodpbgpcaaGreatPk1
import Derived.Test.YtbefjaodpbgpcaaGreatPr3
import Derived.Test.YtbefjaodpbgpcaaGreatPr5
namespace Go.Proofs.YtbefjaodpbgpcaaGreat
open Go.RowKit Go.Sep Go.Bv
set_option linter.unusedVariables false
set_option linter.unusedSimpArgs false
theorem made_fm (z : List Value) (n : Nat) (hz : 0 < z.length) : (madeCells z.toArray (n * z.length)).toList = (List.replicate n ()).flatMap fun _ => z := by
 apply List.ext_getElem?
 intro k
 by_cases hk : k < n * z.length
 ·obtain ⟨a, c, rfl, hc⟩ : ∃ a c, k = a * z.length + c ∧ c < z.length := ⟨k / z.length, k % z.length, by rw [Nat.mul_comm]; exact (Nat.div_add_mod k z.length).symm, Nat.mod_lt _ hz⟩
  have ha : a < n := by
   apply Nat.lt_of_mul_lt_mul_right (a := z.length); omega
  rw [fm_get (fun _ => rfl) _ a c (by simpa using ha) hc]
  simp only [madeCells, Array.toList_map, Array.toList_range, List.getElem?_map, List.getElem?_range hk, Option.map_some]
  rw [show (a * z.length + c) % z.toArray.size = c by
   show (a * z.length + c) % z.length = c
   rw [Nat.mul_comm, Nat.mul_add_mod, Nat.mod_eq_of_lt hc]]
  simp [hc]
 ·rw [List.getElem?_eq_none (by simp [madeCells]; omega), List.getElem?_eq_none (by rw [fm_len (fun _ => rfl)]; simp; omega)]
theorem wpl_makeN {P : Program} {W0 w : World} {L : List Assn} {ops : Array Oper} {Q : Exit → Act → World → Prop} {o : Oper} {rest : List Oper} {a : Act} (hgd : o.guard = none) (t e : TypeId) (n c : Operand) (ho : o.op = .makeSlice t n c) {i : TypeInfo} {z : List Value} {bytes size : Nat}
  (hu : P.underlying t = some (.slice e)) (hi : P.info? e = some i) (hz : i.zero = some (.agg z.toArray)) (hs1 : i.size = size) (hzl : z.length = size) (hb : i.bytes = bytes) (h0 : 0 < size) (k : Nat) (hn : a.eval n = .int .i64 k) (hc : a.eval c = .int .i64 k) (hk : bytes * k ≤ 281474976710656) (hk2 : k ≤ 9223372036854775807) (hs : Sat W0 w L)
  (h : ∀ w' g, Sat W0 w' (seg true g 0 ((List.replicate k ()).flatMap fun _ => z) :: L) → g < w'.heap.size → wpList P ops Q rest (a.put o.dst (.slice (some ⟨g, 0, none⟩) k k)) w') : wpList P ops Q (o :: rest) a w := by
 refine wpList_plain hgd fun _ hK => ?_
 have hr := run_make (P := P) w t e i _ hu hi hz .i64 .i64 (k : Int) (k : Int) (by omega) (by omega) (by rw [hb]; omega) (by omega)
 rw [hs1, Int.toNat_natCast, ← hzl] at hr
 unfold Oper.wp execOp
 simp only [ho, hn, hc, Sem.run_bind, Sem.run_pure, Result.andThen_ok, hr]
 have h1 := hs.alloc (madeCells (Value.agg z.toArray).cells (k * z.length)) e
 rw [show (madeCells (Value.agg z.toArray).cells (k * z.length)).toList = (List.replicate k ()).flatMap fun _ => z from made_fm z k (by omega)] at h1
 exact hK _ _ (h _ _ h1 (by simp))
/-- An operation that asks for a key. -/
def askO (h : Nat) : OpM := ⟨9, (h : Int), 0, 0, 0, none, 0, 0, none, 0, 0, [], []⟩
def zeroO : OpM := ⟨0, 0, 0, 0, 0, none, 0, 0, none, 0, 0, [], []⟩
theorem askO_fine (h : Nat) : (askO h).fine := ⟨⟨by show 9 < 256; decide, by show 0 < 256; decide⟩, ⟨rfl, Nat.le_refl _, Nat.zero_le _⟩, ⟨rfl, Nat.le_refl _, Nat.zero_le _⟩, Nat.zero_le _, Nat.zero_le _⟩
theorem cells7 (x : OpM) : x.cells.length = 7 := rfl
/-- The script as it is laid. -/
def longL (i : Nat) : List OpM := (List.range i).map (fun j => askO (j % 64)) ++ List.replicate (4097 - i) zeroO
theorem longL_len (i : Nat) (h : i ≤ 4097) : (longL i).length = 4097 := by simp [longL]; omega
theorem longL_set (i : Nat) (h : i < 4097) : (longL i).set i (askO (i % 64)) = longL (i + 1) := by
 unfold longL
 rw [List.set_append_right _ _ (by simp), List.length_map, List.length_range, Nat.sub_self, show 4097 - i = (4097 - (i + 1)) + 1 by omega, List.replicate_succ, List.set_cons_zero, List.range_succ, List.map_append, List.append_assoc]
 rfl
theorem longL_all : longL 4097 = (List.range 4097).map fun j => askO (j % 64) := by unfold longL; simp
/-- What was laid may be read. -/
theorem opsOfRow {W0 w : World} {L : List Assn} {g : Nat} {xs : List OpM} (hf : ∀ x ∈ xs, x.fine ∧ x.data = [] ∧ x.more = []) (h : Sat W0 w (seg true g 0 (xs.flatMap OpM.cells) :: L)) : Sat W0 w (opsR (some ⟨g, 0, none⟩) xs :: L) := by
 refine h.ro fun y hy i x hx => ?_
 obtain ⟨h1, h2, h3⟩ := hf x (List.mem_of_getElem? hx)
 obtain ⟨hi, hv⟩ := List.getElem?_eq_some_iff.1 hx
 refine ⟨h1, g, 0, rfl, ?_, .inl h2, .inl h3⟩
 intro k u hu
 have hk : k < 7 := (List.getElem?_eq_some_iff.1 hu).1
 refine Hp.ro_some (m := true) ?_
 rw [Nat.add_assoc]
 refine hy (i * 7 + k) u ?_
 rw [fm_get cells7 xs i k hi hk, hv]
 exact hu
end Go.Proofs.YtbefjaodpbgpcaaGreat
