/- Arg, L12, App, Led2, Ro, Cut, Gone, Opn: texts that lie apart elsewhere, as one; each under the conditions that it names. -/
import Derived.Test.YtbefjaodpbgpcaaGreatGF
import Derived.ProofKit
import Derived.OpenShut
import Derived.ChangeOld
import Derived.Lib.SmallJoins
import Derived.Deep.Slices
set_option linter.unusedVariables false
set_option linter.unusedSimpArgs false
set_option maxRecDepth 100000
set_option maxHeartbeats 16000000
namespace Go.Sep
open Go.RowKit
end Go.Sep
namespace Go.Proofs.YtbefjaodpbgpcaaGreat
open Go.RowKit Go.Sep Go.Bv Go.Sha
open Go.ChangeShapes Go.WideShapes Go.ChangeAt
def IsBytes (W : World) (p : Option Addr) (n c : Nat) (bs : List Byte) : Prop :=
 bs.length = n ∧ n ≤ c ∧ c ≤ maxLen ∧ (bs = [] ∨ ∃ b o, p = some ⟨b, o, none⟩ ∧ ∀ i v, (u8s bs)[i]? = some v → W.cell? ⟨b, o + i, none⟩ = some v)
theorem cells_u8 : Tryz.prog.cellsOf 5 = 1 := by kernel_rfl
theorem v8_ofInt (z : Int) (h1 : 0 ≤ z) (h2 : z < 256) : v8 (BitVec.ofInt 8 z) = z := by
 unfold v8; rw [BitVec.toNat_ofInt]; omega
theorem bulk_lits {H : Type} (k : IntKind) : ∀ (zs : List Int), Rows.uptoBulkAll (H := H) (lits k zs) = zs.length
 | [] => rfl
 | z :: zs => by
  have := bulk_lits (H := H) k zs
  simp only [lits, List.map_cons, Rows.uptoBulkAll, Rows.uptoBulk, List.length_cons] at this ⊢
  omega
end Go.Proofs.YtbefjaodpbgpcaaGreat
namespace Go.Sep
open Go.RowKit
theorem Sat.emp {W0 w : World} {L : List Assn} (h : Sat W0 w L) : Sat W0 w (emp :: L) := by
 obtain ⟨hb, hs, hf⟩ := h
 exact ⟨hb, Hp.zero :: hs, .cons trivial (Hp.zero_ok _ _) (fun _ _ => Hp.zero_dis _) hf⟩
theorem Sat.allocMark {W0 w : World} {L : List Assn} (h : Sat W0 w L) (cs : Array Value) (T : TypeId) : Sat W0 (w.alloc (.cells cs T (cs.size, cs.size + 1))) (seg true w.heap.size 0 cs.toList :: L) := by
 have h' := h.alloc' (.cells cs T (cs.size, cs.size + 1))
 obtain ⟨hb, hs, hf⟩ := h
 have hok := hf.okAll
 obtain ⟨hb', _⟩ := h'
 have hblk : (w.alloc (.cells cs T (cs.size, cs.size + 1))).heap[w.heap.size]? = some (.cells cs T (cs.size, cs.size + 1)) := by
  show (w.heap.push _)[w.heap.size]? = _
  simp
 refine ⟨hb', Hp.of (fun b o => if b = w.heap.size then (cs[o]?).map (true, ·) else none) :: hs, .cons ?_ (Hp.of_ok ?_) (fun k hk => Hp.of_dis ?_) (hf.move fun k hk => (hok k hk).later fun j hj => Below.heap_alloc w _ j hj)⟩
 ·intro i v hv
  have : cs[i]? = some v := by simpa using hv
  simp [this]
 ·intro b o m v hx
  by_cases e : b = w.heap.size
  ·subst e
   simp only [if_true, Option.map_eq_some_iff, Prod.mk.injEq] at hx
   obtain ⟨u, hu, rfl, rfl⟩ := hx
   have ho : o < cs.size := (Array.getElem?_eq_some_iff.1 hu).1
   refine ⟨by rw [World.cell?_alloc_mark]; exact hu, fun _ => ⟨?_, hb.size⟩⟩
   unfold World.frozen?
   rw [hblk]
   simp only [Bool.and_eq_false_iff, decide_eq_false_iff_not]
   omega
  ·simp [e] at hx
 ·intro b o x y hx hy
  by_cases e : b = w.heap.size
  ·subst e
   exact absurd ((hok k hk).lt hy) (by omega)
  ·simp [e] at hx
end Go.Sep
namespace Go.Proofs.YtbefjaodpbgpcaaGreat
open Go.RowKit Go.Sep Go.Bv Go.Sha
theorem ledNone {W0 w : World} {L : List Assn} (h : Sat W0 w L) : Sat W0 w (ledO none [] :: L) := h.emp
theorem bytesTake {W0 w : World} {L : List Assn} {m : Bool} {sp : Option Addr} {bs : List Byte} (n : Nat) (h : Sat W0 w (bytes m sp bs :: L)) : Sat W0 w (bytes m sp (bs.take n) :: L) :=
 h.imp fun x hx => by
  rcases hx with rfl | ⟨b, o, rfl, hx⟩
  ·exact .inl (by simp)
  ·refine .inr ⟨b, o, rfl, fun i v hv => hx i v ?_⟩
   simp only [u8s, List.map_take, List.getElem?_take] at hv
   split at hv
   ·exact hv
   ·cases hv
def hexd (c : UInt8) : Int := if 97 ≤ (c.toNat : Int) then (c.toNat : Int) - 97 + 10 else (c.toNat : Int) - 48
theorem hexd_bd (c : UInt8) : -48 ≤ hexd c ∧ hexd c ≤ 168 := by
 unfold hexd
 have := c.toNat_lt
 split <;> omega
def unhexL : List UInt8 → List Byte
 | a :: b :: r => BitVec.ofInt 8 (16 * hexd a + hexd b) :: unhexL r
 | _ => []
theorem unhexL_snoc : ∀ (l : List UInt8) (j : Nat) (h : 2 * j + 1 < l.length), unhexL (l.take (2 * (j + 1))) = unhexL (l.take (2 * j)) ++ [BitVec.ofInt 8 (16 * hexd (l[2 * j]'(by omega)) + hexd l[2 * j + 1])]
 | [], _, h => by simp at h
 | [_], _, h => by simp at h
 | a :: b :: r, 0, _ => by simp [unhexL]
 | a :: b :: r, j + 1, h => by
  have ih := unhexL_snoc r j (by simp at h; omega)
  have e1 : (a :: b :: r).take (2 * (j + 1 + 1)) = a :: b :: r.take (2 * (j + 1)) := by rw [show 2 * (j + 1 + 1) = 2 * (j + 1) + 1 + 1 by omega]; simp
  have e2 : (a :: b :: r).take (2 * (j + 1)) = a :: b :: r.take (2 * j) := by rw [show 2 * (j + 1) = 2 * j + 1 + 1 by omega]; simp
  have e3 : (a :: b :: r)[2 * (j + 1)]'(by omega) = r[2 * j]'(by simp at h; omega) := by simp [show 2 * (j + 1) = 2 * j + 1 + 1 by omega]
  have e4 : (a :: b :: r)[2 * (j + 1) + 1] = r[2 * j + 1]'(by simp at h; omega) := by simp [show 2 * (j + 1) + 1 = 2 * j + 1 + 1 + 1 by omega]
  rw [e1, e2, e3, e4, unhexL, unhexL, ih, List.cons_append]
theorem unhexL_take : ∀ (l : List UInt8), unhexL (l.take (2 * (l.length / 2))) = unhexL l
 | [] => rfl
 | [_] => by simp [unhexL]
 | a :: b :: r => by
  have ih := unhexL_take r
  have e : (a :: b :: r).take (2 * ((a :: b :: r).length / 2)) = a :: b :: r.take (2 * (r.length / 2)) := by
   rw [show 2 * ((a :: b :: r).length / 2) = 2 * (r.length / 2) + 1 + 1 by simp; omega]; simp
  rw [e, unhexL, unhexL, ih]
theorem mod_u8_v8 (z : Int) : z % 256 = v8 (BitVec.ofInt 8 z) := by
 unfold v8
 rw [BitVec.toNat_ofInt]
 omega
def hexn (x y : UInt8) : Nat → Int
 | 0 => 0
 | 1 => hexd x
 | _ => 16 * hexd x + hexd y
def foxMsg : List Byte := [84, 104, 101, 32, 113, 117, 105, 99, 107, 32, 98, 114, 111, 119, 110, 32, 102, 111, 120, 32, 106, 117, 109, 112, 115, 32, 111, 118, 101, 114, 32, 116, 104, 101, 32, 108, 97, 122, 121, 32, 100, 111, 103]
def foxHex : List UInt8 := [102, 55, 98, 99, 56, 51, 102, 52, 51, 48, 53, 51, 56, 52, 50, 52, 98, 49, 51, 50, 57, 56, 101, 54, 97, 97, 54, 102, 98, 49, 52, 51, 101, 102, 52, 100, 53, 57, 97, 49, 52, 57, 52, 54, 49, 55, 53, 57, 57, 55, 52, 55, 57, 100, 98, 99, 50, 100, 49, 97, 51, 99, 100, 56]
def foxTag : List Byte := [247, 188, 131, 244, 48, 83, 132, 36, 177, 50, 152, 230, 170, 111, 177, 67, 239, 77, 89, 161, 73, 70, 23, 89, 151, 71, 157, 188, 45, 26, 60, 216]
theorem foxTag_eq : unhexL foxHex = foxTag := by decide +kernel
theorem foxHmac : hmac false [107, 101, 121] foxMsg = foxTag := by decide +kernel
end Go.Proofs.YtbefjaodpbgpcaaGreat
namespace Go.Proofs.YtbefjaodpbgpcaaGreat
open Go.RowKit Go.Sep Go.Bv Go.Sha
theorem bytesNone0 {W0 w : World} {L : List Assn} {m : Bool} {sp : Option Addr} {bs : List Byte} {n : Nat} (h : Sat W0 w (bytes m sp bs :: L)) (hn : bs.length = n) : sp = none → n = 0 := by
 rintro rfl
 by_cases h0 : bs = []
 ·rw [← hn, h0]; rfl
 ·obtain ⟨_, _, h', _⟩ := bytesCell h h0; cases h'
section
variable {W0 w : World} {L : List Assn} {ops : Array Oper} {rest : List Oper} {o : Oper} {a : Act} {Q : Exit → Act → World → Prop}
theorem wpl_app8 (hgd : o.guard = none) (s x : Operand) (ho : o.op = .call { callee := .builtin .append, args := #[s, x], argTypes := #[25, 25] })
  {p : Option Addr} {cp n : Nat} {xs : List Byte} {m : Bool} {q : Option Addr} {k cq : Nat} {ys : List Byte} (hv : a.eval s = .slice p n cp) (hx : a.eval x = .slice q k cq)
  (hs : Sat W0 w (row p cp 1 n (u8s xs) :: bytes m q ys :: L)) (hk : ys.length = k) (hb : n + k ≤ 140737488355328)
  (h : ∀ p' c' w', Sat W0 w' (row p' c' 1 (n + k) (u8s (xs ++ ys)) :: bytes m q ys :: L) → wpList Tryz.prog ops Q rest (a.put o.dst (.slice p' (n + k) c')) w') : wpList Tryz.prog ops Q (o :: rest) a w := by
 obtain ⟨i3, hi3, hz3, hs3, hb3⟩ := info_parts Tryz.info_u8
 have hB : Sat W0 w (bytes m q ys :: row p cp 1 n (u8s xs) :: L) := hs.pull 1
 refine wpl_append hgd s x 25 ho Tryz.underlying25 hi3 hz3 hs3 hb3 rfl (by decide) hs hv q k cq hx (u8s ys) (by rw [u8s_len, hk, Nat.mul_one]) (bytesNews hB) (bytesNone0 hB hk) (u8s_one _) (by unfold maxLen; omega) (by omega) ?_
 intro p' c' w' h1 _ _
 rw [← u8s_append] at h1
 exact h p' c' w' h1
end
theorem sameS {W0 w : World} {L : List Assn} {ca cb n k : Nat} {m1 m2 : Bool} {pa pb : Option Addr} (xs ys : List Byte) (hx : xs.length = n) (hy : ys.length = k) (hn : n ≤ maxLen) (hk : k ≤ maxLen) (hs : Sat W0 w (bytes m1 pa xs :: bytes m2 pb ys :: L)) :
  Calls Tryz.prog 32 #[.slice pa n ca, .slice pb k cb] w fun e w' => e = .returned (.bool (sameB xs ys)) ∧ Sat W0 w' (bytes m1 pa xs :: bytes m2 pb ys :: L) := by
 subst hx hy
 refine (sameBytes xs ys hn hk hs).mono ?_
 rintro e w' ⟨rfl, k, rfl⟩
 exact ⟨rfl, hs.drewN k⟩
theorem sameT {W0 w : World} {L : List Assn} {ca cb n k : Nat} {m1 m2 : Bool} {pa pb : Option Addr} (xs ys : List Byte) (hx : xs.length = n) (hy : ys.length = k) (hn : n ≤ 1000000000000) (he : xs = ys) (hs : Sat W0 w (bytes m1 pa xs :: bytes m2 pb ys :: L)) :
  Calls Tryz.prog 32 #[.slice pa n ca, .slice pb k cb] w fun e w' => e = .returned (.bool true) ∧ Sat W0 w' (bytes m1 pa xs :: bytes m2 pb ys :: L) := by
 have h := sameS (ca := ca) (cb := cb) xs ys hx hy (by unfold maxLen; omega) (by rw [← hy, ← he, hx]; unfold maxLen; omega) hs
 rwa [sameB_eq he] at h
end Go.Proofs.YtbefjaodpbgpcaaGreat
namespace Go.Proofs.YtbefjaodpbgpcaaGreat
open Go.RowKit Go.Sep Go.Bv Go.Sha
def runsA (m : Bool) (p : Option Addr) (rs : List Run3) : Assn := fun h => rs = [] ∨ ∃ b o, p = some ⟨b, o, none⟩ ∧ seg m b o (rs.flatMap enc3) h
theorem runsOf {W0 w : World} {L : List Assn} {m : Bool} {b o : Nat} {rs : List Run3} (h : Sat W0 w (seg m b o (rs.flatMap enc3) :: L)) : Sat W0 w (runsA m (some ⟨b, o, none⟩) rs :: L) :=
 h.imp fun _ hx => .inr ⟨b, o, rfl, hx⟩
theorem runsCell {W0 w : World} {L : List Assn} {m : Bool} {p : Option Addr} {rs : List Run3} (h : Sat W0 w (runsA m p rs :: L)) (hne : rs ≠ []) : ∃ b o, p = some ⟨b, o, none⟩ ∧ Sat W0 w (seg m b o (rs.flatMap enc3) :: L) := by
 obtain ⟨h0, hs, hf⟩ := h
 obtain ⟨x, t, rfl, hA, ok, hd, hf'⟩ := hf.head
 rcases hA with hA | ⟨b, o, rfl, hx⟩
 ·exact absurd hA hne
 ·exact ⟨b, o, rfl, h0, x :: t, .cons hx ok hd hf'⟩
theorem rowRuns {W0 w : World} {L : List Assn} {p : Option Addr} {c n : Nat} {rs : List Run3} (h : Sat W0 w (row p c 3 n (rs.flatMap enc3) :: L)) : Sat W0 w (runsA true p rs :: L) := by
 obtain ⟨hl, ⟨rfl, rfl, rfl, hx, h1⟩ | ⟨g, rest, rfl, h1, h2, h3, h4⟩⟩ := h.rowOpen
 ·have : rs = [] := by
   cases rs with
   | nil => rfl
   | cons r rs => simp [enc3] at hx
  subst this
  exact h1.emp.imp fun _ _ => .inl rfl
 ·exact (runsOf (h4.part (q := 0 + (rs.flatMap enc3).length) rfl)).drop 1
theorem enc3_one (rs : List Run3) : ∀ u ∈ rs.flatMap enc3, u.oneCell' = true := by
 intro u hu
 obtain ⟨r, _, hr⟩ := List.mem_flatMap.1 hu
 simp only [enc3, List.mem_cons, List.not_mem_nil, or_false] at hr
 rcases hr with rfl | rfl | rfl <;> rfl
theorem ledRuns {W0 w : World} {L : List Assn} {l : Nat} {rs : List Run3} (hl : rs.length ≤ 1000000000) (hs : Sat W0 w (led l rs :: L)) :
  Calls Tryz.prog 19 #[.pointer (some ⟨l, 0, none⟩)] w fun e w' => ∃ q c, e = .returned (.slice q rs.length c) ∧ Sat W0 w' (runsA true q rs :: led l rs :: L) := by
 obtain ⟨p, c, s1⟩ := ledOpen hs
 have c0 := s1.at 0 rfl
 have z1 := s1.lt (by simp)
 obtain ⟨i3, hi3, hz3, hs3, hb3⟩ := info_parts Tryz.info_run
 have t1 := s1.alloc #[] 72
 have t2 : Sat W0 _ (row (some ⟨w.heap.size, 0, none⟩) 0 3 0 (([] : List Run3).flatMap enc3) :: seg true l 0 [.slice p rs.length c, .int .i64 (tot rs : Int)] :: row p c 3 rs.length (rs.flatMap enc3) :: L) := t1.rowMade (rest := []) (sz := 3) (n := 0) (cap := 0) rfl rfl (Nat.le_refl _) (Nat.zero_le _)
 have r2 : Sat W0 _ (row p c 3 rs.length (rs.flatMap enc3) :: _) := t2.pull 2
 obtain ⟨hrl, hro⟩ := r2.rowOpen
 have hn2 : ∀ j u, (rs.flatMap enc3)[j]? = some u → ∃ ad, p = some ad ∧ (w.alloc (.cells #[] 72)).cell? (ad.add j) = some u := by
  intro j u hu
  rcases hro with ⟨-, -, -, h0, -⟩ | ⟨g, rest, rfl, h1, h2, h3, h4⟩
  ·rw [h0] at hu; simp at hu
  ·exact ⟨_, rfl, by rw [add_lit']; exact h4.cell (by rw [List.getElem?_append_left (List.getElem?_eq_some_iff.1 hu).1]; exact hu)⟩
 have hnil : p = none → rs.length = 0 := by
  intro hp
  rcases hro with ⟨-, -, h0, -, -⟩ | ⟨g, rest, rfl, h1, h2, h3, h4⟩
  ·exact h0
  ·cases hp
 have HB := Lib.hid (And.intro hrl (And.intro hnil hn2)); clear hrl hnil hn2 hro r2 hs t1 s1
 go_enter Tryz.func19, Tryz.ntmps19
 go_wp2_with (refine wpl_append rfl (.tmp 5) (.tmp 9) 47 rfl Tryz.underlying47 hi3 hz3 hs3 hb3 rfl (by decide) t2 rfl p rs.length c rfl (rs.flatMap enc3) HB.out.1 HB.out.2.2 HB.out.2.1 (enc3_one rs) (by unfold maxLen; omega) (by omega) ?_; intro p2 c2 w2 s2 _ _)
 go_ret
 simp only [Nat.zero_add, List.flatMap_nil, List.nil_append] at s2
 refine ⟨p2, c2, rfl, ?_⟩
 have s3 := rowRuns s2
 exact (ledShut (s3.pick [1, 2])).pull 1
theorem sameRuns {W0 w : World} {L : List Assn} {ca cb n k : Nat} {m1 m2 : Bool} {pa pb : Option Addr} (xs : List Run3) (hx : xs.length = n) (hy : xs.length = k) (hn : n ≤ 1000000000) (hs : Sat W0 w (runsA m1 pa xs :: runsA m2 pb xs :: L)) :
  Calls Tryz.prog 16 #[.slice pa n ca, .slice pb k cb] w fun e w' => e = .returned (.bool true) ∧ Sat W0 w' (runsA m1 pa xs :: runsA m2 pb xs :: L) := by
 obtain rfl : n = k := hx.symm.trans hy
 have h0 : n ≠ 0 → ∃ ba oa bb ob, pa = some ⟨ba, oa, none⟩ ∧ pb = some ⟨bb, ob, none⟩ ∧ (∀ i v, (xs.flatMap enc3)[i]? = some v → w.cell? ⟨ba, oa + i, none⟩ = some v) ∧ (∀ i v, (xs.flatMap enc3)[i]? = some v → w.cell? ⟨bb, ob + i, none⟩ = some v) := by
  intro hne
  have hx0 : xs ≠ [] := by rintro rfl; exact hne (by rw [← hx]; rfl)
  obtain ⟨ba, oa, rfl, h1⟩ := runsCell hs hx0
  obtain ⟨bb, ob, rfl, h2⟩ := runsCell (hs.pull 1 : Sat W0 w (runsA m2 pb xs :: _)) hx0
  exact ⟨ba, oa, bb, ob, rfl, rfl, fun i v hv => h1.cell hv, fun i v hv => h2.cell hv⟩
 have HN := Lib.hid (And.intro hx h0); clear hx hy h0
 have HS := Lib.hid hs; clear hs
 go_enter Tryz.func16, Tryz.ntmps16
 go_wp2
 go_loopw [5] (fun t5 wr => ∃ i k : Nat, i ≤ n ∧ t5 = .int .i64 (i : Int) ∧ wr = w.drewN k) (fun t5 _ => n - (intOf t5).toNat)
 case atStart => exact ⟨0, 0, Nat.zero_le _, rfl, rfl⟩
 case round =>
  obtain ⟨i, k, hi, rfl, rfl⟩ := hrel
  by_cases hlt : i < n
  ·obtain ⟨ba, oa, bb, ob, rfl, rfl, h1, h2⟩ := HN.out.2 (by omega)
   have hix : i < xs.length := by rw [HN.out.1]; exact hlt
   have g : ∀ j, j < 3 → (xs.flatMap enc3)[i * 3 + j]? = (enc3 xs[i])[j]? := fun j hj => fm_get len3 xs i j hix hj
   obtain ⟨⟨x0, x1, x2⟩, hxx⟩ : ∃ x, x = xs[i] := ⟨_, rfl⟩
   rw [← hxx] at g
   have a0 := h1 _ _ (g 0 (by omega))
   have a1 := h1 _ _ (g 1 (by omega))
   have a2 := h1 _ _ (g 2 (by omega))
   have b0 := h2 _ _ (g 0 (by omega))
   have b1 := h2 _ _ (g 1 (by omega))
   have b2 := h2 _ _ (g 2 (by omega))
   simp only [Nat.add_zero, ← Nat.add_assoc] at a0 a1 a2 b0 b1 b2
   clear g h1 h2 hxx hix
   go_wp2_with fail
   go_quiet (fail)
   go_wp2
   go_roundw
   case rel => exact ⟨i + 1, _, by omega, by go_num, rfl⟩
   case measure => simp [intOf]; omega
  ·obtain rfl : i = n := by omega
   go_wp2
   go_ret
   exact ⟨rfl, HS.out.drewN _⟩
theorem ledNewF {W0 w : World} {L : List Assn} (hs : Sat W0 w L) : Calls Tryz.prog 8 #[] w fun e w' => ∃ l, e = .returned (.pointer (some ⟨l, 0, none⟩)) ∧ Sat W0 w' (ledO (some l) [] :: L) := ledNew hs
theorem ledLenF {W0 w : World} {L : List Assn} {l : Nat} {rs : List Run3} (hs : Sat W0 w (ledO (some l) rs :: L)) : Calls Tryz.prog 36 #[.pointer (some ⟨l, 0, none⟩)] w fun e w' => e = .returned (.int .i64 (tot rs : Int)) ∧ w = w' := ledLen hs
theorem ledRunsF {W0 w : World} {L : List Assn} {l : Nat} {rs : List Run3} (hl : rs.length ≤ 1000000000) (hs : Sat W0 w (ledO (some l) rs :: L)) :
  Calls Tryz.prog 19 #[.pointer (some ⟨l, 0, none⟩)] w fun e w' => ∃ q c, e = .returned (.slice q rs.length c) ∧ Sat W0 w' (runsA true q rs :: ledO (some l) rs :: L) := ledRuns hl hs
end Go.Proofs.YtbefjaodpbgpcaaGreat
namespace Go.Sep
def Hp.ro (h : Hp) : Hp := Hp.of fun b o => match h b o with | some (_, v) => some (false, v) | none => none
theorem Hp.ro_some {h : Hp} {b o : Nat} {m : Bool} {v : Value} (e : h b o = some (m, v)) : h.ro b o = some (false, v) := by show (match h.c b o with | some (_, v) => some (false, v) | none => none) = _; rw [e]
theorem Hp.ro_of {h : Hp} {b o : Nat} {x : Bool × Value} (e : h.ro b o = some x) : ∃ m, h b o = some (m, x.2) ∧ x.1 = false := by
 have e : (match h.c b o with | some (_, v) => some (false, v) | none => none) = some x := e
 cases e' : h.c b o with
 | none => rw [e'] at e; cases e
 | some y => rw [e'] at e; cases e; exact ⟨y.1, rfl, rfl⟩
theorem Hp.ok.ro {W0 w : World} {h : Hp} (ok : h.ok W0 w) : h.ro.ok W0 w := by
 refine Hp.of_ok fun b o m v hx => ?_
 obtain ⟨m', h1, h2⟩ := Hp.ro_of hx
 simp only at h2
 subst h2
 exact ⟨(ok.1 b o m' v h1).1, fun h => by cases h⟩
theorem Hp.dis.ro {h k : Hp} (d : h.dis k) : h.ro.dis k := by
 refine Hp.of_dis fun b o x y hx hy => ?_
 obtain ⟨m, h1, h2⟩ := Hp.ro_of hx
 obtain ⟨h3, h4⟩ := d.1 b o _ y h1 hy
 simp only at h4
 subst h4
 refine ⟨?_, h2⟩
 rw [← h3]
 obtain ⟨x1, x2⟩ := x
 simp only at h2
 subst h2
 rfl
theorem Sat.ro {W0 w : World} {L : List Assn} {A B : Assn} (h : Sat W0 w (A :: L)) (hAB : ∀ x, A x → B x.ro) : Sat W0 w (B :: L) := by
 obtain ⟨h0, hs, hf⟩ := h
 obtain ⟨x, t, rfl, hA, ok, hd, hf'⟩ := hf.head
 exact ⟨h0, x.ro :: t, .cons (hAB x hA) ok.ro (fun k hk => (hd k hk).ro) hf'⟩
theorem seg_ro {m : Bool} {b o : Nat} {vs : List Value} (x : Hp) (h : seg m b o vs x) : seg false b o vs x.ro := fun i v hv => Hp.ro_some (h i v hv)
def Reads (A : Assn) : Prop := ∀ x y : Hp, (∀ b o v, x b o = some (false, v) → y b o = some (false, v)) → A x → A y
theorem seg_reads (b o : Nat) (vs : List Value) : Reads (seg false b o vs) := fun x y hxy h i v hv => hxy _ _ _ (h i v hv)
theorem Sat.dup {W0 w : World} {L : List Assn} {A : Assn} (hA : Reads A) (h : Sat W0 w (A :: L)) : Sat W0 w (A :: A :: L) := by
 obtain ⟨h0, hs, hf⟩ := h
 obtain ⟨x, t, rfl, hx, ok, hd, hf'⟩ := hf.head
 let z : Hp := Hp.of fun b o => match x b o with | some (false, v) => some (false, v) | _ => none
 have hz : ∀ b o y, z b o = some y → x b o = some y ∧ y.1 = false := by
  intro b o y e
  have e : (match x.c b o with | some (false, v) => some (false, v) | _ => none) = some y := e
  split at e
  ·rename_i v e'
   cases e
   exact ⟨e', rfl⟩
  ·cases e
 refine ⟨h0, z :: x :: t, .cons (hA x z (fun b o v e => ?_) hx) (Hp.of_ok fun b o m v e => ok.1 b o m v (hz b o _ e).1) (fun k hk => Hp.of_dis ?_) (.cons hx ok hd hf')⟩
 ·show (match x.c b o with | some (false, v) => some (false, v) | _ => none) = _; rw [e]
 ·intro b o p q hp hq
  obtain ⟨e1, e2⟩ := hz _ _ _ hp
  rcases List.mem_cons.1 hk with rfl | hk
  ·rw [e1] at hq; cases hq; exact ⟨rfl, e2⟩
  ·exact (hd k hk).1 b o p q e1 hq
theorem Sat.both {W0 w : World} {L : List Assn} {A B C : Assn} (h : Sat W0 w (A :: B :: L)) (hA : Reads A) (hB : Reads B) (hC : ∀ x, A x → B x → C x) : Sat W0 w (C :: L) := by
 obtain ⟨h0, hs, hf⟩ := h
 obtain ⟨x, t, rfl, hx, ok, hd, hf'⟩ := hf.head
 obtain ⟨y, t', rfl, hy, ok', hd', hf''⟩ := hf'.head
 refine ⟨h0, x.cup y :: t', .cons (hC _ (hA x _ (fun b o v e => (Hp.le_cup x y).1 b o _ e) hx) (hB y _ (fun b o v e => (Hp.cup_le (hd y (by simp))).1 b o _ e) hy)) (ok.cup ok') (fun k hk => (hd k (by simp [hk])).cup (hd' k hk)) hf''⟩
end Go.Sep
namespace Go.Proofs.YtbefjaodpbgpcaaGreat
open Go.RowKit Go.Sep Go.Bv Go.Sha
theorem bytes_reads (p : Option Addr) (bs : List Byte) : Reads (bytes false p bs) := by
 intro x y hxy h
 rcases h with h | ⟨b, o, rfl, h⟩
 ·exact .inl h
 ·exact .inr ⟨b, o, rfl, seg_reads b o _ x y hxy h⟩
end Go.Proofs.YtbefjaodpbgpcaaGreat
namespace Go.Proofs.YtbefjaodpbgpcaaGreat
open Go.RowKit Go.Sep Go.Bv Go.Sha
theorem Tryz.info_bss : (Tryz.prog.info? 25).map (fun i => (i.zero, i.size, i.bytes)) = some (some (.slice none 0 0), 1, 24) := by kernel_rfl
section
variable {W0 w : World} {L : List Assn} {ops : Array Oper} {rest : List Oper} {o : Oper} {a : Act} {Q : Exit → Act → World → Prop}
end
end Go.Proofs.YtbefjaodpbgpcaaGreat
namespace Go.Proofs.YtbefjaodpbgpcaaGreat
open Go.RowKit Go.Sep Go.Bv Go.Sha
def gone : Bool → Nat → Assn | false, b => seg true b 73 [.bool false] | true, b => seg true b 0 [.bool false]
theorem cut256 : cells256 (List.replicate 8 0) 0 (List.replicate 64 0) false = (cells256 (List.replicate 8 0) 0 (List.replicate 64 0) false).take 73 ++ [.bool false] := by rfl
theorem cut512 : cells512 (List.replicate 8 0) 0 (List.replicate 128 0) false = [.bool false] ++ (cells512 (List.replicate 8 0) 0 (List.replicate 128 0) false).drop 1 := by rfl
theorem dWipe {W0 w : World} {L : List Assn} {b : Nat} (wide : Bool) (p : Option Nat) (rs : List Run3) (msg : List Byte) (hb : tot rs + 1 ≤ 4611686018427387904) (hl : rs.length ≤ 4294967296) (hs : Sat W0 w (ledO p rs :: dst wide b msg :: L)) :
  Calls Tryz.prog (fWipe wide) #[.pointer (some ⟨b, 0, none⟩), ptrO p] w fun e w' => e = .returned (.int .i64 0) ∧ Sat W0 w' (ledO p (note rs 8 (fsz wide) 1) :: gone wide b :: L) := by
 cases wide
 ·refine (wipe256 p rs msg hb hl (((dstOpen0 (hs.pick [1] : Sat W0 w (dst false b msg :: ledO p rs :: L))).pick [4]))).mono ?_
  rintro e w' ⟨rfl, s⟩
  refine ⟨rfl, ?_⟩
  rw [cut256] at s
  exact ((Sat.part s (q := 73) rfl).drop 0).pick [1]
 ·refine (wipe512 p rs msg hb hl (((dstOpen1 (hs.pick [1] : Sat W0 w (dst true b msg :: ledO p rs :: L))).pick [4]))).mono ?_
  rintro e w' ⟨rfl, s⟩
  refine ⟨rfl, ?_⟩
  rw [cut512] at s
  exact ((Sat.part s (q := 1) rfl).drop 1).pick [1, 0]
@[go_sem] theorem eql_small (b : Nat) (w : World) : (binOp .eql 199 (.iface 228 (.agg #[.pointer (some ⟨b, 0, none⟩)])) .nilIface).run Tryz.prog w = .ok (.bool false) w := by kernel_rfl
@[go_sem] theorem eql_big (b : Nat) (w : World) : (binOp .eql 199 (.iface 232 (.agg #[.pointer (some ⟨b, 0, none⟩)])) .nilIface).run Tryz.prog w = .ok (.bool false) w := by kernel_rfl
@[go_sem] theorem eql_nilif (w : World) : (binOp .eql 199 .nilIface .nilIface).run Tryz.prog w = .ok (.bool true) w := by kernel_rfl
@[go_sem] theorem eqlFunc26 (f : FuncId) (w : World) : (binOp .eql 189 (.func (.func f) #[] #[]) .nilFunc).run Tryz.prog w = .ok (.bool false) w := by kernel_rfl
@[go_sem] theorem eqlFunc27 (f : FuncId) (w : World) : (binOp .eql 190 (.func (.func f) #[] #[]) .nilFunc).run Tryz.prog w = .ok (.bool false) w := by kernel_rfl
end Go.Proofs.YtbefjaodpbgpcaaGreat
namespace Go.Proofs.YtbefjaodpbgpcaaGreat
open Go.RowKit Go.Sep Go.Bv Go.Sha
open Go.ChangeShapes Go.WideShapes Go.ChangeAt
theorem spot_none {W : World} {x : Addr} {v : Value} (h : W.cell? x = some v) : x.spot = none := by
 unfold World.cell? at h
 cases hs : x.spot with
 | none => rfl
 | some s => simp only [hs] at h; split at h <;> simp_all
theorem trod_bytes {H : Type} {enc : TypeId × Value → H} {W : World} {base : Nat} {held : Bool} {fuel : Nat} {cs : List Value} {d : DataW H} {p : List MemPlace} (h : DataW.trod enc Tryz.prog W base (fun _ => true) held fuel 25 cs = some (d, p)) :
  ∃ q : Option Addr × Nat × Nat × List Byte, cs = [.slice q.1 q.2.1 q.2.2.1] ∧ IsBytes W q.1 q.2.1 q.2.2.1 q.2.2.2 ∧ q.2.2.1 + 1 ≤ Rows.uptoBulk d := by
 rcases open_ints (k := .u8) Tryz.underlying25 Tryz.underlying5 cells_u8 h with ⟨hcs, hx⟩ | ⟨x, l, c, zs, hcs, _, hl, hm, hz, hx, hc, hwf⟩
 ·simp only [Prod.mk.injEq] at hx
  obtain ⟨rfl, _⟩ := hx
  exact ⟨(none, 0, 0, []), hcs, ⟨rfl, Nat.le_refl _, Nat.zero_le _, .inl rfl⟩, by simp [Rows.uptoBulk]⟩
 ·simp only [if_true] at hz
  simp only [Prod.mk.injEq] at hx
  obtain ⟨rfl, _⟩ := hx
  have hlen : (zs.take l).length = l := by rw [List.length_take]; omega
  refine ⟨(some x, l, c, (zs.take l).map (BitVec.ofInt 8)), hcs, ⟨by rw [List.length_map, hlen], hl, hm, ?_⟩, ?_⟩
  ·by_cases h0 : l = 0
   ·subst h0; exact .inl (by simp)
   ·have hx0 := spot_none (hc 0 (by omega))
    obtain ⟨b, o, sp⟩ := x
    have hsp : sp = none := by
     have : (Addr.add ⟨b, o, sp⟩ 0).spot = none := hx0
     unfold Addr.add at this
     cases sp with
     | none => rfl
     | some s => simp at this
    subst hsp
    refine .inr ⟨b, o, rfl, fun i v hv => ?_⟩
    simp only [u8s, List.map_map, List.getElem?_map, Option.map_eq_some_iff, Function.comp] at hv
    obtain ⟨z, hz1, rfl⟩ := hv
    rw [List.getElem?_take] at hz1
    split at hz1
    ·rename_i hi
     have hc1 := hc i (by omega)
     have hzm : z ∈ zs := List.mem_of_getElem? hz1
     have hw := hwf z hzm
     have hzb : 0 ≤ z ∧ z < 256 := by
      simp only [Lit.wf, Bool.and_eq_true, decide_eq_true_eq] at hw
      have h1 : IntKind.u8.min = 0 := rfl
      have h2 : IntKind.u8.max = 255 := rfl
      rw [h1, h2] at hw
      omega
     rw [v8_ofInt z hzb.1 hzb.2]
     rw [add_lit'] at hc1
     rw [hc1, List.getD_eq_getElem?_getD, hz1]; rfl
    ·cases hz1
  ·simp only [Rows.uptoBulk, bulk_lits, List.length_take, List.length_drop]
   omega
end Go.Proofs.YtbefjaodpbgpcaaGreat
