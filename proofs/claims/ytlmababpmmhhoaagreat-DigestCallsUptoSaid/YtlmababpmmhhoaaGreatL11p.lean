
/- DigestPieces: however a message is cut, the digest and the events are those of the whole; where the arguments read as bytes, of bulk at most 1048576. -/
import Derived.Test.YtlmababpmmhhoaaGreatL11
import Derived.Test.YtlmababpmmhhoaaGreatCut
import Derived.Test.YtlmababpmmhhoaaGreatArg
namespace Go.Proofs.YtlmababpmmhhoaaGreat
open Go.RowKit Go.Sep Go.Bv Go.Sha
set_option linter.unusedVariables false
set_option linter.unusedSimpArgs false
@[go_sem] theorem eqlG26 (f : FuncId) (w : World) : (binOp .eql 60 (.func (.func f) #[] #[]) .nilFunc).run Tryz.prog w = .ok (.bool false) w := by kernel_rfl
@[go_sem] theorem eqlG27 (f : FuncId) (w : World) : (binOp .eql 61 (.func (.func f) #[] #[]) .nilFunc).run Tryz.prog w = .ok (.bool false) w := by kernel_rfl
@[go_sem] theorem eqlI0 (b : Nat) (w : World) : (binOp .eql 31 (.iface 87 (.agg #[.pointer (some ⟨b, 0, none⟩)])) .nilIface).run Tryz.prog w = .ok (.bool false) w := by kernel_rfl
@[go_sem] theorem eqlI1 (b : Nat) (w : World) : (binOp .eql 31 (.iface 91 (.agg #[.pointer (some ⟨b, 0, none⟩)])) .nilIface).run Tryz.prog w = .ok (.bool false) w := by kernel_rfl
@[go_sem] theorem nilA0 (b : Nat) (w : World) : (nilAhead 307 87 (.agg #[.pointer (some ⟨b, 0, none⟩)]) "Write").run Tryz.prog w = .ok (some false) w := by kernel_rfl
@[go_sem] theorem nilA1 (b : Nat) (w : World) : (nilAhead 307 91 (.agg #[.pointer (some ⟨b, 0, none⟩)]) "Write").run Tryz.prog w = .ok (some false) w := by kernel_rfl
@[go_sem] theorem meth0_sum (b : Nat) (w : World) : (method 307 87 (.agg #[.pointer (some ⟨b, 0, none⟩)]) "Sum").run Tryz.prog w = .ok (52, .pointer (some ⟨b, 0, none⟩)) w := by kernel_rfl
@[go_sem] theorem meth0_write (b : Nat) (w : World) : (method 307 87 (.agg #[.pointer (some ⟨b, 0, none⟩)]) "Write").run Tryz.prog w = .ok (127, .pointer (some ⟨b, 0, none⟩)) w := by kernel_rfl
@[go_sem] theorem meth0_wipe (b : Nat) (w : World) : (method 307 87 (.agg #[.pointer (some ⟨b, 0, none⟩)]) "Wipe").run Tryz.prog w = .ok (126, .pointer (some ⟨b, 0, none⟩)) w := by kernel_rfl
@[go_sem] theorem meth0_form (b : Nat) (w : World) : (method 307 87 (.agg #[.pointer (some ⟨b, 0, none⟩)]) "Form").run Tryz.prog w = .ok (124, .pointer (some ⟨b, 0, none⟩)) w := by kernel_rfl
@[go_sem] theorem meth0_copy (b : Nat) (w : World) : (method 307 87 (.agg #[.pointer (some ⟨b, 0, none⟩)]) "Copy").run Tryz.prog w = .ok (128, .agg #[.pointer (some ⟨b, 0, none⟩)]) w := by kernel_rfl
@[go_sem] theorem meth1_sum (b : Nat) (w : World) : (method 307 91 (.agg #[.pointer (some ⟨b, 0, none⟩)]) "Sum").run Tryz.prog w = .ok (55, .pointer (some ⟨b, 0, none⟩)) w := by kernel_rfl
@[go_sem] theorem meth1_write (b : Nat) (w : World) : (method 307 91 (.agg #[.pointer (some ⟨b, 0, none⟩)]) "Write").run Tryz.prog w = .ok (54, .pointer (some ⟨b, 0, none⟩)) w := by kernel_rfl
@[go_sem] theorem meth1_wipe (b : Nat) (w : World) : (method 307 91 (.agg #[.pointer (some ⟨b, 0, none⟩)]) "Wipe").run Tryz.prog w = .ok (132, .pointer (some ⟨b, 0, none⟩)) w := by kernel_rfl
@[go_sem] theorem meth1_form (b : Nat) (w : World) : (method 307 91 (.agg #[.pointer (some ⟨b, 0, none⟩)]) "Form").run Tryz.prog w = .ok (130, .pointer (some ⟨b, 0, none⟩)) w := by kernel_rfl
@[go_sem] theorem meth1_copy (b : Nat) (w : World) : (method 307 91 (.agg #[.pointer (some ⟨b, 0, none⟩)]) "Copy").run Tryz.prog w = .ok (133, .agg #[.pointer (some ⟨b, 0, none⟩)]) w := by kernel_rfl
abbrev tRun : TypeId := 82
theorem rowSeg {W0 w : World} {L : List Assn} {p : Option Addr} {c sz n : Nat} {vs : List Value} (h : Sat W0 w (row p c sz n vs :: L)) (hn : 0 < n) : ∃ g, p = some ⟨g, 0, none⟩ ∧ n ≤ c ∧ c ≤ 9223372036854775807 ∧ Sat W0 w (seg true g 0 vs :: L) := by
  obtain ⟨hl, ⟨rfl, rfl, h0, hx, h1⟩ | ⟨g, rest, rfl, h1, h2, h3, h4⟩⟩ := h.rowOpen
  · omega
  · exact ⟨g, rfl, h1, h2, (h4.part (q := 0 + vs.length) rfl).drop 1⟩
theorem hc_false {W0 w : World} {L : List Assn} {b : Nat} (h : Sat W0 w (seg true b 0 (hcells false) :: L)) : b < w.heap.size ∧ w.cell? ⟨b, 0, none⟩ = some (.int .u8 1) ∧ w.cell? ⟨b, 1, none⟩ = some (.int .i64 32) ∧ w.cell? ⟨b, 2, none⟩ = some (.int .i64 64) ∧ w.cell? ⟨b, 3, none⟩ = some (.int .u8 1) ∧ w.cell? ⟨b, 4, none⟩ = some (.int .i64 64) ∧ w.cell? ⟨b, 5, none⟩ = some (.func (.func 32) #[] #[]) ∧ w.cell? ⟨b, 6, none⟩ = some (.func (.func 34) #[] #[]) :=
  ⟨h.lt (by simp [hcells]), h.at 0 rfl, h.at 1 rfl, h.at 2 rfl, h.at 3 rfl, h.at 4 rfl, h.at 5 rfl, h.at 6 rfl⟩
theorem hc_true {W0 w : World} {L : List Assn} {b : Nat} (h : Sat W0 w (seg true b 0 (hcells true) :: L)) : b < w.heap.size ∧ w.cell? ⟨b, 0, none⟩ = some (.int .u8 2) ∧ w.cell? ⟨b, 1, none⟩ = some (.int .i64 64) ∧ w.cell? ⟨b, 2, none⟩ = some (.int .i64 128) ∧ w.cell? ⟨b, 3, none⟩ = some (.int .u8 2) ∧ w.cell? ⟨b, 4, none⟩ = some (.int .i64 128) ∧ w.cell? ⟨b, 5, none⟩ = some (.func (.func 35) #[] #[]) ∧ w.cell? ⟨b, 6, none⟩ = some (.func (.func 37) #[] #[]) :=
  ⟨h.lt (by simp [hcells]), h.at 0 rfl, h.at 1 rfl, h.at 2 rfl, h.at 3 rfl, h.at 4 rfl, h.at 5 rfl, h.at 6 rfl⟩
theorem dWholeF {W0 w : World} {L : List Assn} {cap n : Nat} {m : Bool} {sp : Option Addr} {pv : Value} (wide : Bool) (p : Option Nat) (rs : List Run3) (bs : List Byte) (hn : bs.length = n) (hp : pv = ptrO p) (hs : Sat W0 w (ledO p rs :: bytes m sp bs :: L)) (hcap : n ≤ cap) (hcm : cap ≤ maxLen) (hb : tot rs + 2 * n + 400 ≤ 2305843009213693952) (hl : rs.length + 1 ≤ 1048576) :
    Calls Tryz.prog (fWhole wide) #[pv, .slice sp n cap] w fun e w' => ∃ q c, e = .returned (.slice q (hsz wide) c) ∧ Sat W0 w' (bytes true q (hash wide bs) :: ledO p (noteN rs (evK wide) (evS wide) (padN wide n)) :: bytes m sp bs :: L) := by
  subst hn hp
  refine (dWhole wide p rs bs hcap hcm hb hl hs).mono ?_
  rintro e w' ⟨q, c, rfl, s⟩
  exact ⟨q, c, rfl, (rowBytes s).2.2.2⟩
theorem dWriteF {W0 w : World} {L : List Assn} {b cap n : Nat} {m : Bool} {sp : Option Addr} {pv : Value} (wide : Bool) (p : Option Nat) (rs : List Run3) (msg bs : List Byte) (hn : bs.length = n) (hp : pv = ptrO p) (hcap : n ≤ cap) (hcm : cap ≤ maxLen) (hb : tot rs + msg.length + n ≤ 2305843009213693952) (hl : rs.length ≤ 1048576)
    (hs : Sat W0 w (ledO p rs :: bytes m sp bs :: dst wide b msg :: L)) :
    Calls Tryz.prog (fWrite wide) #[.pointer (some ⟨b, 0, none⟩), pv, .slice sp n cap] w fun e w' => e = .returned (.int .i64 0) ∧ Sat W0 w' (ledO p (noteN rs (evK wide) (evS wide) ((msg.length + n) / bsz wide - msg.length / bsz wide)) :: bytes m sp bs :: dst wide b (msg ++ bs) :: L) := by
  subst hn hp
  exact dWrite wide p rs msg bs hcap hcm hb hl hs
theorem padN_ge (wide : Bool) (n : Nat) : n / bsz wide ≤ padN wide n ∧ 0 < padN wide n := by
  cases wide <;> simp only [padN, bsz, roomN] <;> omega
theorem noteN_one (k s : Int) (n : Nat) (h : 0 < n) : noteN [] k s n = [(k, s, n)] := by
  unfold noteN; rw [if_neg (by omega)]; rfl
theorem flatP_take (ts : List Piece) (i : Nat) (hi : i < ts.length) : flatP (ts.take (i + 1)) = flatP (ts.take i) ++ ts[i].2.2 := by
  rw [List.take_succ_eq_append_getElem hi, flatP_snoc]
theorem flatP_take_len (ts : List Piece) (i : Nat) : (flatP (ts.take i)).length ≤ (flatP ts).length := by
  have : flatP ts = flatP (ts.take i) ++ flatP (ts.drop i) := by
    unfold flatP
    rw [← List.flatMap_append, List.take_append_drop]
  rw [this, List.length_append]; omega
end Go.Proofs.YtlmababpmmhhoaaGreat
