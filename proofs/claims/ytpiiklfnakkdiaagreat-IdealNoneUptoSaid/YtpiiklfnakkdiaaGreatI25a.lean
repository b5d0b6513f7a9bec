
/- Layer 25's statements: an operation as an argument; two answers held against each other; a vault that is none; under the conditions that each names. -/
import Derived.Test.YtpiiklfnakkdiaaGreatIdl19
import Derived.Test.YtpiiklfnakkdiaaGreatGG
namespace Go.Proofs.YtpiiklfnakkdiaaGreat
open Go.RowKit Go.Sep Go.Bv Go.Kec Go.Aes Go.Sha
open Go.ChangeShapes Go.WideShapes Go.ChangeAt
set_option linter.unusedVariables false
set_option linter.unusedSimpArgs false
set_option maxRecDepth 100000 in
set_option maxHeartbeats 1000000 in
theorem same25 {W0 w : World} {L : List Assn} {ca cb : Nat} {m1 m2 : Bool} {pa pb : Option Addr} (xs ys : List Byte) (hx : xs.length ≤ maxLen) (hy : ys.length ≤ maxLen) (hs : Sat W0 w (bytes m1 pa xs :: bytes m2 pb ys :: L)) :
  Calls Tryz.prog 25 #[.slice pa xs.length ca, .slice pb ys.length cb] w fun e w' => e = .returned (.bool (sameB xs ys)) ∧ ∃ n, w' = w.drewN n := by
 unfold maxLen at hx hy
 by_cases hl : xs.length = ys.length
 ·obtain ⟨n, hn⟩ : ∃ n, n = xs.length := ⟨_, rfl⟩
  rw [← hl, ← hn]
  have h0 : n ≠ 0 → ∃ ba oa bb ob, pa = some ⟨ba, oa, none⟩ ∧ pb = some ⟨bb, ob, none⟩ ∧ (∀ i v, (u8s xs)[i]? = some v → w.cell? ⟨ba, oa + i, none⟩ = some v) ∧ (∀ i v, (u8s ys)[i]? = some v → w.cell? ⟨bb, ob + i, none⟩ = some v) := by
   intro hne
   obtain ⟨ba, oa, rfl, h1⟩ := bytesCell hs (by rintro rfl; exact hne (by rw [hn]; rfl))
   obtain ⟨bb, ob, rfl, h2⟩ := bytesCell (hs.pull 1 : Sat W0 w (bytes m2 pb ys :: _)) (by rintro rfl; exact hne (by rw [hn, hl]; rfl))
   exact ⟨ba, oa, bb, ob, rfl, rfl, fun i v hv => h1.cell hv, fun i v hv => h2.cell hv⟩
  have HN := Lib.hid (And.intro hn (And.intro hl h0)); clear hn hl h0 hs
  have hnb : n ≤ 9223372036854775807 := by rw [HN.out.1]; exact hx
  clear hx hy
  go_enter Tryz.func25, Tryz.ntmps25
  go_wp2
  go_loopw [5] (fun t5 wr => ∃ i k : Nat, i ≤ n ∧ t5 = .int .i64 (i : Int) ∧ xs.take i = ys.take i ∧ wr = w.drewN k) (fun t5 _ => n - (intOf t5).toNat)
  case atStart => exact ⟨0, 0, Nat.zero_le _, rfl, rfl, rfl⟩
  case round =>
   obtain ⟨i, k, hi, rfl, htk, rfl⟩ := hrel
   by_cases hlt : i < n
   ·obtain ⟨ba, oa, bb, ob, rfl, rfl, h1, h2⟩ := HN.out.2.2 (by omega)
    have hix : i < xs.length := by rw [← HN.out.1]; exact hlt
    have hiy : i < ys.length := by rw [← HN.out.2.1]; exact hix
    have c1 := h1 i _ (u8s_get xs i hix)
    have c2 := h2 i _ (u8s_get ys i hiy)
    obtain ⟨x, hxx⟩ : ∃ x, x = xs.getD i 0 := ⟨_, rfl⟩
    obtain ⟨y, hyy⟩ : ∃ y, y = ys.getD i 0 := ⟨_, rfl⟩
    rw [← hxx] at c1
    rw [← hyy] at c2
    have HX := Lib.hid (And.intro hxx (And.intro hyy (And.intro htk (And.intro hix hiy)))); clear hxx hyy htk h1 h2 hix hiy
    by_cases hxy : x = y
    ·subst hxy
     go_wp2_with fail
     go_quiet (fail)
     go_wp2
     go_roundw
     case rel =>
      obtain ⟨hxx, hyy, htk, hix, hiy⟩ := HX.out
      refine ⟨i + 1, _, by omega, by go_num, ?_, rfl⟩
      rw [List.take_succ_eq_append_getElem hix, List.take_succ_eq_append_getElem hiy, htk]
      congr 2
      simp [List.getD_eq_getElem?_getD, hix, hiy] at hxx hyy
      rw [← hxx, ← hyy]
     case measure => simp [intOf]; omega
    ·have hv : (v8 x != v8 y) = true := by
      rw [bne_iff_ne]; exact fun h => hxy (v8_inj h)
     have hfin : sameB xs ys = false := by
      unfold sameB
      rw [decide_eq_false_iff_not]
      rintro rfl
      exact hxy (by rw [HX.out.1, HX.out.2.1])
     have Hf := Lib.hid hfin; clear hfin
     go_wp2_with fail
     go_quiet (fail)
     go_wp2
     go_ret
     exact ⟨by rw [Hf.out]; rfl, k + nq, by rw [World.drewN_drewN]⟩
   ·obtain rfl : i = n := by omega
    have hfin : sameB xs ys = true := sameB_eq (by
     have := htk
     rw [List.take_of_length_le (by rw [← HN.out.1]; exact Nat.le_refl _), List.take_of_length_le (by rw [← HN.out.2.1, ← HN.out.1]; exact Nat.le_refl _)] at this
     exact this)
    have Hf := Lib.hid hfin; clear hfin htk
    go_wp2
    go_ret
    exact ⟨by rw [Hf.out]; rfl, _, rfl⟩
 ·have hv : ((xs.length : Int) != (ys.length : Int)) = true := by rw [bne_iff_ne]; omega
  have hfin : sameB xs ys = false := by
   unfold sameB
   rw [decide_eq_false_iff_not]
   rintro rfl
   exact hl rfl
  have Hf := Lib.hid hfin; clear hfin hl hs
  go_enter Tryz.func25, Tryz.ntmps25
  go_wp2
  go_ret
  exact ⟨by rw [Hf.out]; rfl, 0, rfl⟩
theorem same25S {W0 w : World} {L : List Assn} {ca cb n k : Nat} {m1 m2 : Bool} {pa pb : Option Addr} (xs ys : List Byte) (hx : xs.length = n) (hy : ys.length = k) (hn : n ≤ maxLen) (hk : k ≤ maxLen) (hs : Sat W0 w (bytes m1 pa xs :: bytes m2 pb ys :: L)) :
  Calls Tryz.prog 25 #[.slice pa n ca, .slice pb k cb] w fun e w' => e = .returned (.bool (sameB xs ys)) ∧ Sat W0 w' (bytes m1 pa xs :: bytes m2 pb ys :: L) := by
 subst hx hy
 refine (same25 xs ys hn hk hs).mono ?_
 rintro e w' ⟨rfl, k, rfl⟩
 exact ⟨rfl, hs.drewN k⟩
set_option maxRecDepth 100000 in
set_option maxHeartbeats 4000000 in
theorem sameAns {W0 w : World} {L : List Assn} {ca cb n k : Nat} {m1 m2 : Bool} {pa pb : Option Addr} (c1 c2 h1 h2 : Int) (b1 b2 : Bool) (xs ys : List Byte) (hx : xs.length = n) (hy : ys.length = k) (hn : n ≤ maxLen) (hk : k ≤ maxLen) (hs : Sat W0 w (bytes m1 pa xs :: bytes m2 pb ys :: L)) :
  Calls Tryz.prog 9 #[.agg #[.int .i64 c1, .int .i64 h1, .bool b1, .slice pa n ca], .agg #[.int .i64 c2, .int .i64 h2, .bool b2, .slice pb k cb]] w fun e w' => e = .returned (.bool (((c1 == c2 && h1 == h2) && b1 == b2) && sameB xs ys)) ∧ Sat W0 w' (bytes m1 pa xs :: bytes m2 pb ys :: L) := by
 have hsm := fun (w : World) (X : List Assn) (s : Sat W0 w (bytes m1 pa xs :: bytes m2 pb ys :: X)) => same25S (ca := ca) (cb := cb) xs ys hx hy hn hk s
 have HN := Lib.hid hsm; clear hsm hx hy hn hk
 have HA := Lib.hid (hAns W0)
 obtain ⟨e1, he1⟩ : ∃ b, b = (c1 == c2) := ⟨_, rfl⟩
 obtain ⟨e2, he2⟩ : ∃ b, b = (h1 == h2) := ⟨_, rfl⟩
 obtain ⟨e3, he3⟩ : ∃ b, b = (b1 == b2) := ⟨_, rfl⟩
 rw [← he1, ← he2, ← he3]
 have he1' := he1.symm
 have he2' := he2.symm
 have he3' := he3.symm
 clear he1 he2 he3
 cases e1 with
 | false =>
  go_enter Tryz.func9, Tryz.ntmps9
  go_wp2_with (first | (refine wpl_box rfl 35 (.tmp 0) rfl [.int .i64 c1, .int .i64 h1, .bool b1, .slice pa n ca] rfl hs ?_; intro w1 ga s1 _; clear hs) | (refine wpl_box rfl 35 (.tmp 1) rfl [.int .i64 c2, .int .i64 h2, .bool b2, .slice pb k cb] rfl s1 ?_; intro w2 gb s2 _; clear s1; obtain ⟨x0, x1, x2, x3, xz⟩ := HA.out _ _ _ _ _ _ _ s2; obtain ⟨y0, y1, y2, y3, yz⟩ := HA.out _ _ _ _ _ _ _ (s2.pull 1 : Sat W0 w2 (seg true ga 0 [.int .i64 c1, .int .i64 h1, .bool b1, .slice pa n ca] :: _)); have HS := Lib.hid s2.tail.tail; clear s2))
  go_ret
  exact ⟨by simp, HS.out⟩
 | true =>
  cases e2 with
  | false =>
   go_enter Tryz.func9, Tryz.ntmps9
   go_wp2_with (first | (refine wpl_box rfl 35 (.tmp 0) rfl [.int .i64 c1, .int .i64 h1, .bool b1, .slice pa n ca] rfl hs ?_; intro w1 ga s1 _; clear hs) | (refine wpl_box rfl 35 (.tmp 1) rfl [.int .i64 c2, .int .i64 h2, .bool b2, .slice pb k cb] rfl s1 ?_; intro w2 gb s2 _; clear s1; obtain ⟨x0, x1, x2, x3, xz⟩ := HA.out _ _ _ _ _ _ _ s2; obtain ⟨y0, y1, y2, y3, yz⟩ := HA.out _ _ _ _ _ _ _ (s2.pull 1 : Sat W0 w2 (seg true ga 0 [.int .i64 c1, .int .i64 h1, .bool b1, .slice pa n ca] :: _)); have HS := Lib.hid s2.tail.tail; clear s2))
   go_ret
   exact ⟨by simp, HS.out⟩
  | true =>
   cases e3 with
   | false =>
    go_enter Tryz.func9, Tryz.ntmps9
    go_wp2_with (first | (refine wpl_box rfl 35 (.tmp 0) rfl [.int .i64 c1, .int .i64 h1, .bool b1, .slice pa n ca] rfl hs ?_; intro w1 ga s1 _; clear hs) | (refine wpl_box rfl 35 (.tmp 1) rfl [.int .i64 c2, .int .i64 h2, .bool b2, .slice pb k cb] rfl s1 ?_; intro w2 gb s2 _; clear s1; obtain ⟨x0, x1, x2, x3, xz⟩ := HA.out _ _ _ _ _ _ _ s2; obtain ⟨y0, y1, y2, y3, yz⟩ := HA.out _ _ _ _ _ _ _ (s2.pull 1 : Sat W0 w2 (seg true ga 0 [.int .i64 c1, .int .i64 h1, .bool b1, .slice pa n ca] :: _)); have HS := Lib.hid s2.tail.tail; clear s2))
    go_ret
    exact ⟨by simp, HS.out⟩
   | true =>
    go_enter Tryz.func9, Tryz.ntmps9
    go_wp2_with (first | (refine wpl_box rfl 35 (.tmp 0) rfl [.int .i64 c1, .int .i64 h1, .bool b1, .slice pa n ca] rfl hs ?_; intro w1 ga s1 _; clear hs) | (refine wpl_box rfl 35 (.tmp 1) rfl [.int .i64 c2, .int .i64 h2, .bool b2, .slice pb k cb] rfl s1 ?_; intro w2 gb s2 _; clear s1; obtain ⟨x0, x1, x2, x3, xz⟩ := HA.out _ _ _ _ _ _ _ s2; obtain ⟨y0, y1, y2, y3, yz⟩ := HA.out _ _ _ _ _ _ _ (s2.pull 1 : Sat W0 w2 (seg true ga 0 [.int .i64 c1, .int .i64 h1, .bool b1, .slice pa n ca] :: _)); have HS := Lib.hid s2.tail.tail; clear s2))
    refine (HN.out _ _ HS.out).mono ?_
    rintro e w3 ⟨rfl, s3⟩
    have HS3 := Lib.hid s3; clear s3
    go_wp2_with fail
    go_ret
    exact ⟨by simp, HS3.out⟩
/-- An operation, as its cells. -/
structure OpV where
 kd : Int
 hd : Int
 ag : Int
 ct : Int
 ot : Int
 dp : Option Addr
 dn : Nat
 dc : Nat
 ep : Option Addr
 en : Nat
 ec : Nat
abbrev CellsO (kd hd ag ct ot : Int) (dp : Option Addr) (dn dc : Nat) (ep : Option Addr) (en ec : Nat) : List Value := [.int .u8 kd, .int .i64 hd, .int .u8 ag, .int .i64 ct, .int .i64 ot, .slice dp dn dc, .slice ep en ec]
def encO (x : OpV) : List Value := CellsO x.kd x.hd x.ag x.ct x.ot x.dp x.dn x.dc x.ep x.en x.ec
def OpA (W : World) (x : OpV) (data more : List Byte) : Prop :=
 (0 ≤ x.kd ∧ x.kd < 256) ∧ (0 ≤ x.ag ∧ x.ag < 256) ∧ IsBytes W x.dp x.dn x.dc data ∧ IsBytes W x.ep x.en x.ec more ∧ (-9223372036854775808 ≤ x.hd ∧ x.hd ≤ 9223372036854775807) ∧ (-9223372036854775808 ≤ x.ct ∧ x.ct ≤ 9223372036854775807) ∧ (-9223372036854775808 ≤ x.ot ∧ x.ot ≤ 9223372036854775807)
theorem cells_kind25 : Tryz.prog.cellsOf 22 = 1 := by kernel_rfl
theorem cells_alg25 : Tryz.prog.cellsOf 23 = 1 := by kernel_rfl
theorem cells_sl825 : Tryz.prog.cellsOf 24 = 1 := by kernel_rfl
theorem cells_int25 : Tryz.prog.cellsOf 3 = 1 := by kernel_rfl
theorem wf_u825 (z : Int) (h : (Lit.int .u8 z).wf = true) : 0 ≤ z ∧ z < 256 := by
 simp only [Lit.wf, Bool.and_eq_true, decide_eq_true_eq] at h
 have h1 : IntKind.u8.min = 0 := rfl
 have h2 : IntKind.u8.max = 255 := rfl
 rw [h1, h2] at h
 omega
theorem wf_i6425 (z : Int) (h : (Lit.int .i64 z).wf = true) : -9223372036854775808 ≤ z ∧ z ≤ 9223372036854775807 := by
 simp only [Lit.wf, Bool.and_eq_true, decide_eq_true_eq] at h
 have h1 : IntKind.i64.min = -9223372036854775808 := rfl
 have h2 : IntKind.i64.max = 9223372036854775807 := rfl
 rw [h1, h2] at h
 exact h
set_option maxRecDepth 100000 in
theorem trod_op {H : Type} {enc : TypeId × Value → H} {W : World} {base : Nat} {held : Bool} {fuel : Nat} {cs : List Value} (hcl : cs.length = 7) {x : DataW H × List MemPlace} (hf : DataW.trod enc Tryz.prog W base (fun _ => true) held fuel 26 cs = some x) :
  ∃ q : OpV × List Byte × List Byte, cs = encO q.1 ∧ OpA W q.1 q.2.1 q.2.2 ∧ q.1.dc + q.1.ec ≤ Rows.uptoBulk x.1 := by
 obtain ⟨xs, n, _, hx, hl, hlen, hfld⟩ := DataW.trod_struct Tryz.underlying26 hf
 match xs, hlen with
 | [x0, x1, x2, x3, x4, x5, x6], _ =>
  have f0 : DataW.trod enc Tryz.prog W base (fun _ => true) held n 22 ((cs.drop 0).take (Tryz.prog.cellsOf 22)) = some x0 := hfld 0 _ rfl
  have f1 : DataW.trod enc Tryz.prog W base (fun _ => true) held n 3 ((cs.drop 1).take (Tryz.prog.cellsOf 3)) = some x1 := hfld 1 _ rfl
  have f2 : DataW.trod enc Tryz.prog W base (fun _ => true) held n 23 ((cs.drop 2).take (Tryz.prog.cellsOf 23)) = some x2 := hfld 2 _ rfl
  have f3 : DataW.trod enc Tryz.prog W base (fun _ => true) held n 3 ((cs.drop 3).take (Tryz.prog.cellsOf 3)) = some x3 := hfld 3 _ rfl
  have f4 : DataW.trod enc Tryz.prog W base (fun _ => true) held n 3 ((cs.drop 4).take (Tryz.prog.cellsOf 3)) = some x4 := hfld 4 _ rfl
  have f5 : DataW.trod enc Tryz.prog W base (fun _ => true) held n 24 ((cs.drop 5).take (Tryz.prog.cellsOf 24)) = some x5 := hfld 5 _ rfl
  have f6 : DataW.trod enc Tryz.prog W base (fun _ => true) held n 24 ((cs.drop 6).take (Tryz.prog.cellsOf 24)) = some x6 := hfld 6 _ rfl
  rw [cells_kind25] at f0
  rw [cells_alg25] at f2
  rw [cells_sl825] at f5 f6
  rw [cells_int25] at f1 f3 f4
  match hc : cs, hcl with
  | [c0, c1, c2, c3, c4, c5, c6], _ =>
   obtain ⟨z0, h0, _, hw0⟩ := DataW.trod_int Tryz.underlying22 f0
   obtain ⟨z1, h1, _, hw1⟩ := DataW.trod_int Tryz.underlying3 f1
   obtain ⟨z2, h2, _, hw2⟩ := DataW.trod_int Tryz.underlying23 f2
   obtain ⟨z3, h3, _, hw3⟩ := DataW.trod_int Tryz.underlying3 f3
   obtain ⟨z4, h4, _, hw4⟩ := DataW.trod_int Tryz.underlying3 f4
   obtain ⟨y1, y2⟩ := x5
   obtain ⟨u1, u2⟩ := x6
   obtain ⟨q1, h5, hb1, hu1⟩ := trod_bytes f5
   obtain ⟨q2, h6, hb2, hu2⟩ := trod_bytes f6
   simp only [List.drop_zero, List.drop_succ_cons, List.take_succ_cons, List.take_zero, List.cons.injEq, and_true] at h0 h1 h2 h3 h4 h5 h6
   subst h0 h1 h2 h3 h4 h5 h6
   refine ⟨(⟨z0, z1, z2, z3, z4, q1.1, q1.2.1, q1.2.2.1, q2.1, q2.2.1, q2.2.2.1⟩, q1.2.2.2, q2.2.2.2), rfl, ⟨wf_u825 z0 hw0, wf_u825 z2 hw2, hb1, hb2, wf_i6425 z1 hw1, wf_i6425 z3 hw3, wf_i6425 z4 hw4⟩, ?_⟩
   obtain ⟨xd, xp⟩ := x
   simp only [Prod.mk.injEq] at hx
   obtain ⟨rfl, _⟩ := hx
   simp only [List.map_cons, List.map_nil, Rows.uptoBulk, Rows.uptoBulkAll]
   omega
set_option maxRecDepth 100000 in
theorem open_op {H : Type} {enc : TypeId × Value → H} {W : World} {base b0 : Nat} {held : Bool} {v : Value} {d : DataW H} {p : List MemPlace} (hv : Value.okWide Tryz.prog W .any b0 26 v) (h : DataW.Trod enc Tryz.prog W base (fun _ => true) held 26 v d p) :
  ∃ q : OpV × List Byte × List Byte, v = .agg (encO q.1).toArray ∧ OpA W q.1 q.2.1 q.2.2 ∧ q.1.dc + q.1.ec ≤ Rows.uptoBulk d := by
 obtain ⟨cs, rfl, hsz⟩ := okWide_struct Tryz.underlying26 hv
 obtain ⟨fuel, hf⟩ := h
 have hcl : cs.toList.length = 7 := by
  have h4 : Tryz.prog.cellsOf 26 = 7 := by kernel_rfl
  rw [Array.length_toList, hsz, h4]
 obtain ⟨q, h1, h2, h3⟩ := trod_op hcl hf
 refine ⟨q, ?_, h2, h3⟩
 rw [← h1]
end Go.Proofs.YtpiiklfnakkdiaaGreat
