/- Opc, Kda: texts that lie apart elsewhere, as one; each under the conditions that it names. -/
import Derived.Test.YtbefjaodpbgpcaaGreatGG
import Derived.Test.YtbefjaodpbgpcaaGreatGI
import Derived.Test.YtbefjaodpbgpcaaGreatHB
set_option linter.unusedVariables false
set_option linter.unusedSimpArgs false
set_option maxRecDepth 100000
set_option maxHeartbeats 16000000
namespace Go.Proofs.YtbefjaodpbgpcaaGreat
open Go.RowKit Go.Sep Go.Bv
structure Ans where
 code : Int
 handle : Nat
 same : Bool
 bytes : List Byte
def noA (e : Int) : Ans := ⟨e, 0, false, []⟩
structure OpC where
 kind : Nat
 handle : Int
 alg : Nat
 count : Int
 out : Int
 data : List Byte
 more : List Byte
abbrev ans0 : List Value := [.int .i64 0, .int .i64 0, .bool false, .slice none 0 0]
theorem zero_ans (w : World) : (zeroValue 44).run Tryz.prog w = .ok (.agg ans0.toArray) w := by kernel_rfl
theorem Tryz.size_ans : (Tryz.prog.info? 44).map (·.size) = some 4 := by kernel_rfl
theorem Tryz.size_op : (Tryz.prog.info? 27).map (·.size) = some 7 := by kernel_rfl
theorem ans_one (a b : Int) (c : Bool) (p : Option Addr) (n k : Nat) : ∀ v ∈ [Value.int .i64 a, .int .i64 b, .bool c, .slice p n k], v.oneCell' = true := by
 intro v hv; simp only [List.mem_cons, List.not_mem_nil, or_false] at hv; rcases hv with rfl | rfl | rfl | rfl <;> rfl
theorem ansLd {W0 w : World} {L : List Assn} {ga : Nat} {a b : Int} {c : Bool} {p : Option Addr} {n k : Nat} (ss : Sat W0 w (seg true ga 0 [.int .i64 a, .int .i64 b, .bool c, .slice p n k] :: L)) : Sem.run Tryz.prog (loadVar 44 ⟨ga, 0, none⟩) w = Result.ok (.agg #[.int .i64 a, .int .i64 b, .bool c, .slice p n k]) w :=
 run_loadVar_agg (P := Tryz.prog) (ty := 44) Tryz.underlying44 rfl Tryz.size_ans ss 0 0 rfl (Nat.le_refl 4)
theorem wpl_stAns {W0 w : World} {L : List Assn} {ops : Array Oper} {Q : Exit → Act → World → Prop} {o : Oper} {rest : List Oper} {a : Act} (hgd : o.guard = none) (hdst : o.dst = none) (x y : Operand) (ho : o.op = .store 44 x y) {ga : Nat} {v0 v1 v2 v3 : Value} {c h : Int} {s : Bool} {q : Option Addr} {n k : Nat}
  (hs : Sat W0 w (seg true ga 0 [v0, v1, v2, v3] :: L)) (hx : a.eval x = .pointer (some ⟨ga, 0, none⟩)) (hy : a.eval y = .agg #[.int .i64 c, .int .i64 h, .bool s, .slice q n k])
  (H : ∀ w', Sat W0 w' (seg true ga 0 [.int .i64 c, .int .i64 h, .bool s, .slice q n k] :: L) → wpList Tryz.prog ops Q rest a w') : wpList Tryz.prog ops Q (o :: rest) a w := by
 refine wpl_store_agg hgd hdst 44 x y ho (cs := [.int .i64 c, .int .i64 h, .bool s, .slice q n k]) hs 0 0 Tryz.size_ans hx hy rfl (Nat.le_refl 4) (ans_one _ _ _ _ _ _) ?_
 intro w' ss
 rw [setL_all _ _ (by rfl)] at ss
 exact H w' ss
theorem wpl_ldAns {W0 w : World} {L : List Assn} {ops : Array Oper} {Q : Exit → Act → World → Prop} {o : Oper} {rest : List Oper} {a : Act} (hgd : o.guard = none) (x : Operand) (ho : o.op = .load 44 x) {m : Bool} {ga f : Nat} {c h : Int} {s : Bool} {q : Option Addr} {n k : Nat}
  (hs : Sat W0 w (seg m ga f [.int .i64 c, .int .i64 h, .bool s, .slice q n k] :: L)) (hx : a.eval x = .pointer (some ⟨ga, f, none⟩))
  (H : wpList Tryz.prog ops Q rest (a.put o.dst (.agg #[.int .i64 c, .int .i64 h, .bool s, .slice q n k])) w) : wpList Tryz.prog ops Q (o :: rest) a w := by
 refine wpl_load_agg hgd 44 x ho Tryz.underlying44 rfl Tryz.size_ans hs 0 f hx rfl (Nat.le_refl 4) ?_
 exact H
abbrev opC (kd : Nat) (hd : Int) (ag : Nat) (ct ot : Int) (dp : Option Addr) (dn dc : Nat) (ep : Option Addr) (en ec : Nat) : List Value := [.int .u8 (kd : Int), .int .i64 hd, .int .u8 (ag : Int), .int .i64 ct, .int .i64 ot, .slice dp dn dc, .slice ep en ec]
theorem op_one {kd ag : Nat} {hd ct ot : Int} {dp ep : Option Addr} {dn dc en ec : Nat} : ∀ v ∈ opC kd hd ag ct ot dp dn dc ep en ec, v.oneCell' = true := by
 intro v hv; simp only [List.mem_cons, List.not_mem_nil, or_false] at hv; rcases hv with rfl | rfl | rfl | rfl | rfl | rfl | rfl <;> rfl
theorem wpl_ldOp {W0 w : World} {L : List Assn} {ops : Array Oper} {Q : Exit → Act → World → Prop} {o : Oper} {rest : List Oper} {a : Act} (hgd : o.guard = none) (x : Operand) (ho : o.op = .load 27 x) {m : Bool} {g f : Nat} {kd ag : Nat} {hd ct ot : Int} {dp ep : Option Addr} {dn dc en ec : Nat}
  (hs : Sat W0 w (seg m g f (opC kd hd ag ct ot dp dn dc ep en ec) :: L)) (hx : a.eval x = .pointer (some ⟨g, f, none⟩))
  (H : wpList Tryz.prog ops Q rest (a.put o.dst (.agg #[.int .u8 (kd : Int), .int .i64 hd, .int .u8 (ag : Int), .int .i64 ct, .int .i64 ot, .slice dp dn dc, .slice ep en ec])) w) : wpList Tryz.prog ops Q (o :: rest) a w := by
 refine wpl_load_agg hgd 27 x ho Tryz.underlying27 rfl Tryz.size_op hs 0 f hx rfl (Nat.le_refl 7) ?_
 exact H
theorem wpl_stOp {W0 w : World} {L : List Assn} {ops : Array Oper} {Q : Exit → Act → World → Prop} {o : Oper} {rest : List Oper} {a : Act} (hgd : o.guard = none) (hdst : o.dst = none) (x y : Operand) (ho : o.op = .store 27 x y) {g : Nat} {v0 v1 v2 v3 v4 v5 v6 : Value} {kd ag : Nat} {hd ct ot : Int} {dp ep : Option Addr} {dn dc en ec : Nat}
  (hs : Sat W0 w (seg true g 0 [v0, v1, v2, v3, v4, v5, v6] :: L)) (hx : a.eval x = .pointer (some ⟨g, 0, none⟩)) (hy : a.eval y = .agg #[.int .u8 (kd : Int), .int .i64 hd, .int .u8 (ag : Int), .int .i64 ct, .int .i64 ot, .slice dp dn dc, .slice ep en ec])
  (H : ∀ w', Sat W0 w' (seg true g 0 (opC kd hd ag ct ot dp dn dc ep en ec) :: L) → wpList Tryz.prog ops Q rest a w') : wpList Tryz.prog ops Q (o :: rest) a w := by
 refine wpl_store_agg hgd hdst 27 x y ho (cs := opC kd hd ag ct ot dp dn dc ep en ec) hs 0 0 Tryz.size_op hx hy rfl (Nat.le_refl 7) op_one ?_
 intro w' ss
 rw [setL_all _ _ (by rfl)] at ss
 exact H w' ss
abbrev op0 : List Value := [.int .u8 0, .int .i64 0, .int .u8 0, .int .i64 0, .int .i64 0, .slice none 0 0, .slice none 0 0]
theorem zero_op (w : World) : (zeroValue 27).run Tryz.prog w = .ok (.agg op0.toArray) w := by kernel_rfl
theorem hOp (W0 : World) : ∀ g wx X (v0 v1 v2 v3 v4 v5 v6 : Value), Sat W0 wx (seg true g 0 [v0, v1, v2, v3, v4, v5, v6] :: X) → wx.cell? ⟨g, 0, none⟩ = some v0 ∧ wx.cell? ⟨g, 1, none⟩ = some v1 ∧ wx.cell? ⟨g, 2, none⟩ = some v2 ∧ wx.cell? ⟨g, 3, none⟩ = some v3 ∧ wx.cell? ⟨g, 4, none⟩ = some v4 ∧ wx.cell? ⟨g, 5, none⟩ = some v5 ∧ wx.cell? ⟨g, 6, none⟩ = some v6 ∧ g < wx.heap.size := fun g wx X v0 v1 v2 v3 v4 v5 v6 h => ⟨h.at 0 rfl, h.at 1 rfl, h.at 2 rfl, h.at 3 rfl, h.at 4 rfl, h.at 5 rfl, h.at 6 rfl, h.lt (by simp)⟩
end Go.Proofs.YtbefjaodpbgpcaaGreat
namespace Go.Proofs.YtbefjaodpbgpcaaGreat
open Go.RowKit Go.Sep Go.Bv Go.Kec Go.Aes Go.Sha
def kindA : Nat → MKind
 | 1 => .hm false
 | 2 => .hm true
 | 3 => .cm
 | 4 => .km false false
 | 5 => .km true false
 | 6 => .km false true
 | _ => .km true true
theorem kindA_alg : ∀ a, 1 ≤ a → a ≤ 7 → (kindA a).alg = a
 | 0, h, _ => by omega
 | 1, _, _ => rfl
 | 2, _, _ => rfl
 | 3, _, _ => rfl
 | 4, _, _ => rfl
 | 5, _, _ => rfl
 | 6, _, _ => rfl
 | 7, _, _ => rfl
 | n + 8, _, h => by omega
theorem code_fits {K : MKind} {key custom : List Byte} {out : Int} (h : K.code key.length custom.length out = 0) (hk : key.length ≤ 100000000) : ∃ o : Nat, out = (o : Int) ∧ K.fits key custom o := by
 unfold MKind.code at h
 by_cases h7 : K.keyOk key.length = false
 ·rw [if_pos h7] at h; cases h
 rw [if_neg h7] at h
 by_cases h2 : 0 < custom.length ∧ K.cust = false
 ·rw [if_pos h2] at h; cases h
 rw [if_neg h2] at h
 by_cases h9 : 64 < custom.length
 ·rw [if_pos h9] at h; cases h
 rw [if_neg h9] at h
 by_cases h11 : out < 1 ∨ (K.most : Int) < out
 ·rw [if_pos h11] at h; cases h
 obtain ⟨o, rfl⟩ : ∃ o : Nat, out = (o : Int) := ⟨out.toNat, by omega⟩
 refine ⟨o, rfl, by omega, by omega, hk, ?_⟩
 cases K with
 | hm wide =>
  simp only [MKind.cust, and_true] at h2
  exact List.eq_nil_of_length_eq_zero (by omega)
 | cm =>
  simp only [MKind.cust, and_true] at h2
  refine ⟨List.eq_nil_of_length_eq_zero (by omega), ?_⟩
  simp only [MKind.keyOk, Bool.not_eq_false, Bool.or_eq_true, beq_iff_eq] at h7
  omega
 | km large xof => simp only; omega
end Go.Proofs.YtbefjaodpbgpcaaGreat
