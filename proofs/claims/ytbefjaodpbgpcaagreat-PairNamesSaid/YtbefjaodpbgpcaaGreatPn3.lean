
/- PairNames: numbers and examples of layer 26; a closed statement. -/
import Derived.Test.YtbefjaodpbgpcaaGreatPn2
import Derived.Test.YtbefjaodpbgpcaaGreatPr6
namespace Go.Proofs.YtbefjaodpbgpcaaGreat
open Go.RowKit Go.Sep Go.Bv
set_option linter.unusedVariables false
set_option linter.unusedSimpArgs false
/-- A part of a heap. -/
def Part (x y : Hp) : Prop := ∀ b o z, x b o = some z → y b o = some z
theorem starsPart : ∀ {l : List Assn} {y : Hp} {i : Nat} {A : Assn}, l[i]? = some A → stars l y → ∃ x, Part x y ∧ A x
 | [], _, _, _, h, _ => by cases h
 | B :: l, y, 0, A, h, hy => by
  simp only [List.getElem?_cons_zero, Option.some.injEq] at h
  subst h
  obtain ⟨h1, k1, l1, l2, -, hA, hB⟩ := hy
  exact ⟨h1, l1.1, hA⟩
 | B :: l, y, i + 1, A, h, hy => by
  obtain ⟨h1, k1, l1, l2, -, hA, hB⟩ := hy
  obtain ⟨x, hx, hxA⟩ := starsPart (i := i) (by simpa using h) hB
  exact ⟨x, fun b o z hz => l2.1 _ _ _ (hx b o z hz), hxA⟩
/-- Operations that were laid anew, their lists too. -/
def opB (x : OpM) : Assn := sep (bytes true x.dp x.data) (bytes true x.ep x.more)
theorem bytesPart {m : Bool} {p : Option Addr} {bs : List Byte} {x y : Hp} (h : Part x y) (hb : bytes m p bs x) : bytes false p bs y.ro := by
 rcases bytes_ro x hb with e | ⟨b, o, e, hc⟩
 ·exact .inl e
 ·refine .inr ⟨b, o, e, fun i v hv => ?_⟩
  obtain ⟨m', h1, h2⟩ := Hp.ro_of (hc i v hv)
  exact Hp.ro_some (h _ _ _ h1)
theorem opsMk {W0 w : World} {L : List Assn} {g : Nat} {xs : List OpM} (hf : ∀ x ∈ xs, x.fine) (h : Sat W0 w (seg true g 0 (xs.flatMap OpM.cells) :: stars (xs.map opB) :: L)) : Sat W0 w (opsR (some ⟨g, 0, none⟩) xs :: L) := by
 refine h.sepShut.ro fun y hy i x hx => ?_
 obtain ⟨h1, k1, l1, l2, -, hA, hB⟩ := hy
 obtain ⟨hi, hv⟩ := List.getElem?_eq_some_iff.1 hx
 refine ⟨hf x (List.mem_of_getElem? hx), g, 0, rfl, ?_, ?_⟩
 ·intro k u hu
  have hk : k < 7 := (List.getElem?_eq_some_iff.1 hu).1
  refine Hp.ro_some (m := true) (l1.1 _ _ _ ?_)
  rw [Nat.add_assoc]
  refine hA (i * 7 + k) u ?_
  rw [fm_get cells7 _ i k hi hk, hv]
  exact hu
 ·obtain ⟨z, hz, hzA⟩ := starsPart (i := i) (A := opB x) (by rw [List.getElem?_map, hx]; rfl) hB
  obtain ⟨p1, q1, m1, m2, -, hD, hE⟩ := hzA
  exact ⟨bytesPart (fun b o v hv => l2.1 _ _ _ (hz _ _ _ (m1.1 _ _ _ hv))) hD, bytesPart (fun b o v hv => l2.1 _ _ _ (hz _ _ _ (m2.1 _ _ _ hv))) hE⟩
theorem opsNil {W0 w : World} {L : List Assn} (h : Sat W0 w L) : Sat W0 w (opsR none [] :: L) := h.emp.imp fun x _ i z hz => by cases hz
def putM (g n c : Nat) (bs : List Byte) : OpM := ⟨1, 0, 0, 0, 0, some ⟨g, 0, none⟩, n, c, none, 0, 0, bs, []⟩
def cbM : OpM := ⟨2, 0, 3, 0, 16, none, 0, 0, none, 0, 0, [], []⟩
theorem putM_fine {g n c : Nat} {bs : List Byte} (h : bs.length = n) (hc : n ≤ c) (hm : c ≤ maxLen) (hn : n ≤ 1000) : (putM g n c bs).fine := ⟨⟨by show 1 < 256; decide, by show 0 < 256; decide⟩, ⟨h, hc, hm⟩, ⟨rfl, Nat.le_refl _, Nat.zero_le _⟩, by show n ≤ 1048576; omega, Nat.zero_le _⟩
theorem cbM_fine : cbM.fine := ⟨⟨by show 2 < 256; decide, by show 3 < 256; decide⟩, ⟨rfl, Nat.le_refl _, Nat.zero_le _⟩, ⟨rfl, Nat.le_refl _, Nat.zero_le _⟩, Nat.zero_le _, Nat.zero_le _⟩
theorem putB {W0 w : World} {L : List Assn} {g n c : Nat} {bs : List Byte} (h : Sat W0 w (bytes true (some ⟨g, 0, none⟩) bs :: L)) : Sat W0 w (opB (putM g n c bs) :: L) := Sat.sepShut ((bytesNil true none h).pull 1)
theorem cbB {W0 w : World} {L : List Assn} (h : Sat W0 w L) : Sat W0 w (opB cbM :: L) := Sat.sepShut (bytesNil true none (bytesNil true none h))
abbrev cbC : List Value := [.int .u8 2, .int .i64 0, .int .u8 3, .int .i64 0, .int .i64 16, .slice none 0 0, .slice none 0 0]
abbrev puC (g n c : Nat) : List Value := [.int .u8 1, .int .i64 0, .int .u8 0, .int .i64 0, .int .i64 0, .slice (some ⟨g, 0, none⟩) n c, .slice none 0 0]
theorem build_cb (w : World) : (Instr.build 27 #[(0, .int .u8 2), (2, .int .u8 3), (4, .int .i64 16)]).run Tryz.prog w = .ok (.agg cbC.toArray) w := by
 refine run_build_struct Tryz.underlying27 (zero_op w) (places := #[(0, 1), (1, 1), (2, 1), (3, 1), (4, 1), (5, 1), (6, 1)]) (by kernel_rfl) ?_
 refine Eq.trans (fill_one (off := 0) (size := 1) (v := .int .u8 2) rfl rfl (by decide)) ?_
 refine Eq.trans (fill_one (off := 2) (size := 1) (v := .int .u8 3) rfl rfl (by simp [length_setL])) ?_
 refine Eq.trans (fill_one (off := 4) (size := 1) (v := .int .i64 16) rfl rfl (by simp [length_setL])) ?_
 rfl
theorem build_up (q : Option Addr) (n c : Nat) (w : World) : (Instr.build 27 #[(0, .int .u8 3), (1, .int .i64 3), (5, .slice q n c), (3, .int .i64 5)]).run Tryz.prog w = .ok (.agg (opU3 q n c).toArray) w := by
 refine run_build_struct Tryz.underlying27 (zero_op w) (places := #[(0, 1), (1, 1), (2, 1), (3, 1), (4, 1), (5, 1), (6, 1)]) (by kernel_rfl) ?_
 refine Eq.trans (fill_one (off := 0) (size := 1) (v := .int .u8 3) rfl rfl (by decide)) ?_
 refine Eq.trans (fill_one (off := 1) (size := 1) (v := .int .i64 3) rfl rfl (by simp [length_setL])) ?_
 refine Eq.trans (fill_one (off := 5) (size := 1) (v := .slice q n c) rfl rfl (by simp [length_setL])) ?_
 refine Eq.trans (fill_one (off := 3) (size := 1) (v := .int .i64 5) rfl rfl (by simp [length_setL])) ?_
 rfl
theorem build_pl (q : Option Addr) (n c : Nat) (w : World) : (Instr.build 27 #[(0, .int .u8 3), (1, .int .i64 3), (5, .slice q n c)]).run Tryz.prog w = .ok (.agg (plU3 3 q n c).toArray) w := by
 refine run_build_struct Tryz.underlying27 (zero_op w) (places := #[(0, 1), (1, 1), (2, 1), (3, 1), (4, 1), (5, 1), (6, 1)]) (by kernel_rfl) ?_
 refine Eq.trans (fill_one (off := 0) (size := 1) (v := .int .u8 3) rfl rfl (by decide)) ?_
 refine Eq.trans (fill_one (off := 1) (size := 1) (v := .int .i64 3) rfl rfl (by simp [length_setL])) ?_
 refine Eq.trans (fill_one (off := 5) (size := 1) (v := .slice q n c) rfl rfl (by simp [length_setL])) ?_
 rfl
set_option maxRecDepth 100000 in
set_option maxHeartbeats 4000000 in
theorem putU {W0 w : World} {L : List Assn} (s : ByteArray) (bs : List Byte) (n : Nat) (hn : s.size = n) (hm : n ≤ 1000) (hb : s.data.toList.map (fun b => Value.int .u8 (b.toNat : Int)) = u8s bs) (hs : Sat W0 w L) :
  Calls Tryz.prog 22 #[.string s] w fun e w' => ∃ g c, e = .returned (.agg (puC g n c).toArray) ∧ n ≤ c ∧ c ≤ maxLen ∧ Sat W0 w' (bytes true (some ⟨g, 0, none⟩) bs :: L) := by
 have kcv := fun (w : World) => run_bytes_of_string (P := Tryz.prog) w 9 25 5 s Tryz.underlying9 Tryz.underlying25 Tryz.underlying5
 rw [hn] at kcv
 go_enter Tryz.func22, Tryz.ntmps22
 go_wp2_with (first | (refine wpl_alloc_agg rfl 27 rfl hs _ (zero_op _) ?_; intro w2 ga s2 _; clear hs; have s3 := s2.drew.allocMark (bytesRow s (grownCap w2 n 0 5)) 5; have s4 : Sat W0 _ (bytes true (some ⟨w2.drew.heap.size, 0, none⟩) bs :: seg true ga 0 op0 :: L) := s3.imp fun x hx => .inr ⟨_, 0, rfl, fun i v hv => hx i v (by rw [bytesRow, Array.toList_append, Array.toList_map, hb, List.getElem?_append_left (List.getElem?_eq_some_iff.1 hv).1]; exact hv)⟩; have s5 := s4.pull 1; clear s2 s3 s4) | (refine wpl_build rfl 27 rfl (.agg (puC w2.heap.size n (grownCap w2 n 0 5)).toArray) (by simp only [List.map_toArray, List.map_cons, List.map_nil]; exact build_put _ _ _ _) ?_) | (refine wpl_stOp rfl rfl (.tmp 2) (.tmp 5) rfl (kd := 1) (ag := 0) s5 rfl rfl ?_; intro w6 s6; clear s5))
 have hr := opLd s6
 have HS := Lib.hid s6.tail; clear s6
 refine bodyPost_ret (v := .agg (puC w2.heap.size n (grownCap w2 n 0 5)).toArray) (by simp [results, Tryz.results22, asAddr]; exact hr) rfl ⟨_, _, rfl, grownCap_ge _ _ _ _, grownCap_le_maxLen _ _ _ _ (by unfold maxLen; omega), HS.out⟩
end Go.Proofs.YtbefjaodpbgpcaaGreat
