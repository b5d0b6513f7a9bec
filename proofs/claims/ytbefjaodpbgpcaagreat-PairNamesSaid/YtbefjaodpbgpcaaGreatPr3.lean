
/- A script is played: its answers, its runs; under the conditions that each names. -/
import Derived.Test.YtbefjaodpbgpcaaGreatPr1
import Derived.Test.YtbefjaodpbgpcaaGreatVnew
namespace Go.Proofs.YtbefjaodpbgpcaaGreat
open Go.RowKit Go.Sep Go.Bv
set_option linter.unusedVariables false
set_option linter.unusedSimpArgs false
/-- An answer, and where its bytes lie. -/
abbrev APiece := Option Addr × Nat × Ans
def ansC (t : APiece) : List Value := [.int .i64 t.2.2.code, .int .i64 (t.2.2.handle : Int), .bool t.2.2.same, .slice t.1 t.2.2.bytes.length t.2.1]
theorem ansC_len (t : APiece) : (ansC t).length = 4 := rfl
def ownAns (ts : List APiece) : Assn := stars (ts.map fun t => bytes true t.1 t.2.2.bytes)
theorem ansPush {W0 w : World} {L : List Assn} {t : APiece} {ts : List APiece} (h : Sat W0 w (bytes true t.1 t.2.2.bytes :: ownAns ts :: L)) : Sat W0 w (ownAns (ts ++ [t]) :: L) := by
 have h1 := starsPush (l := ts.map fun t => bytes true t.1 t.2.2.bytes) h
 unfold ownAns
 rw [List.map_append]
 exact h1
theorem Tryz.info_ans : (Tryz.prog.info? 44).map (fun i => (i.zero, i.size, i.bytes)) = some (some (.agg ans0.toArray), 4, 48) := by kernel_rfl
section
variable {σ : Type}
/-- What a script is answered. -/
def answers (D : Doer σ) : List OpC → Sts σ → List Run3 → List Ans
 | [], _, _ => []
 | o :: os, S, rs => (D S o rs).2.1 :: answers D os (D S o rs).1 (D S o rs).2.2
theorem answers_get (D : Doer σ) : ∀ (l : List OpC) (k : Nat) (o : OpC) (S : Sts σ) (rs : List Run3), l[k]? = some o →
  (answers D l S rs)[k]? = some (D (after D k l S rs).1 o (after D k l S rs).2).2.1
 | [], k, o, S, rs, h => by simp at h
 | x :: l, 0, o, S, rs, h => by
  simp only [List.getElem?_cons_zero, Option.some.injEq] at h
  subst h; rfl
 | x :: l, k + 1, o, S, rs, h => by
  have := answers_get D l k o (D S x rs).1 (D S x rs).2.2 (by simpa using h)
  simpa [answers, after] using this
theorem answers_len (D : Doer σ) : ∀ (l : List OpC) (S : Sts σ) (rs : List Run3), (answers D l S rs).length = l.length
 | [], _, _ => rfl
 | o :: os, S, rs => by simp [answers, answers_len D os]
set_option maxRecDepth 100000 in
set_option maxHeartbeats 8000000 in
theorem runW {W0 w : World} {L : List Assn} {I : SesI σ} {D : Doer σ} {inv : Nat → Sts σ → List Run3 → Prop} {good : OpC → Prop} {N : Nat} (H : Does I D inv good N) {n c : Nat} {p : Option Addr} (xs : List OpM) (hn : xs.length = n) (hN : n ≤ N) (hN2 : N ≤ 1000000) (hg : ∀ x ∈ xs, good x.c)
  (hs : Sat W0 w (opsR p xs :: L)) :
  Calls Tryz.prog 28 #[.slice p n c] w fun e w' => ∃ (pa : Option Addr) (ca : Nat) (q : Option Addr) (cq m : Nat) (ts : List APiece), e = .returned (.tuple #[.slice pa n ca, .slice q m cq]) ∧ ts.length = n ∧ ts.map (fun t => t.2.2) = answers D (xs.map OpM.c) (List.replicate 64 none) [] ∧ (after D n (xs.map OpM.c) (List.replicate 64 none) []).2.length = m ∧
   Sat W0 w' (row pa ca 4 n (ts.flatMap ansC) :: ownAns ts :: runsA true q (after D n (xs.map OpM.c) (List.replicate 64 none) []).2 :: opsR p xs :: L) := by
 have hI := H.inv_after (l := xs.map OpM.c) (by intro o ho; obtain ⟨x, hx, rfl⟩ := List.mem_map.1 ho; exact hg x hx) (by rw [List.length_map, hn]; exact hN)
 have hA := fun (k : Nat) (x : OpM) (hk : xs[k]? = some x) => after_succ D (xs.map OpM.c) k x.c (List.replicate 64 none) [] (by rw [List.getElem?_map, hk]; rfl)
 have hG := fun (k : Nat) (x : OpM) (hk : xs[k]? = some x) => answers_get D (xs.map OpM.c) k x.c (List.replicate 64 none) [] (by rw [List.getElem?_map, hk]; rfl)
 have hL := answers_len D (xs.map OpM.c) (List.replicate 64 none) []
 rw [List.length_map, hn] at hI hL
 obtain ⟨i3, hi3, hz3, hs3, hb3⟩ := info_parts Tryz.info_ans
 have HA := Lib.hid (And.intro hi3 (And.intro hz3 (And.intro hs3 hb3))); clear hi3 hz3 hs3 hb3
 have HY := Lib.hid (And.intro hL (And.intro hI (And.intro hA (And.intro hG (And.intro H (And.intro hn (And.intro hN (And.intro hN2 hg)))))))); clear hL hI hA hG H hn hN hN2 hg
 go_enter Tryz.func28, Tryz.ntmps28
 go_wp2_with fail
 refine (ledNewF hs).mono ?_
 rintro e w1 ⟨lg, rfl, s1⟩
 clear hs
 go_wp2_with fail
 refine (vNewW I (some lg) s1).mono ?_
 rintro e w2 ⟨v, rfl, s2'⟩
 have s2 : Sat W0 w2 (opsR p xs :: vlt I v (some lg) (List.replicate 64 none) :: ledO (some lg) [] :: row none 0 4 0 ([] : List Value) :: ownAns [] :: L) := by
  have h1 := (s2'.rowNil 4).emp
  have h2 : Sat W0 w2 (ownAns [] :: row none 0 4 0 ([] : List Value) :: vlt I v (some lg) (List.replicate 64 none) :: ledO (some lg) [] :: opsR p xs :: L) := h1
  exact h2.f
 clear s1 s2'
 go_wp2
 go_loopw [6, 14] (fun t6 t14 wr => ∃ (i : Nat) (pa : Option Addr) (ca : Nat) (ts : List APiece), i ≤ n ∧ t14 = .int .i64 (i : Int) ∧ t6 = .slice pa i ca ∧ ts.length = i ∧ ts.map (fun t => t.2.2) = (answers D (xs.map OpM.c) (List.replicate 64 none) []).take i ∧
  Sat W0 wr (opsR p xs :: vlt I v (some lg) (after D i (xs.map OpM.c) (List.replicate 64 none) []).1 :: ledO (some lg) (after D i (xs.map OpM.c) (List.replicate 64 none) []).2 :: row pa ca 4 i (ts.flatMap ansC) :: ownAns ts :: L)) (fun _ t14 _ => n - (intOf t14).toNat)
 case atStart => exact ⟨0, none, 0, [], Nat.zero_le _, rfl, rfl, rfl, rfl, s2⟩
 case round =>
  clear s2
  obtain ⟨i, pa, ca, ts, hi, rfl, rfl, htl, htm, s⟩ := hrel
  by_cases hlt : i < n
  ·obtain ⟨x, hx⟩ : ∃ x, xs[i]? = some x := ⟨xs[i]'(by rw [HY.out.2.2.2.2.2.1]; exact hlt), List.getElem?_eq_getElem _⟩
   have hinv := HY.out.2.1 i hi
   have haf := HY.out.2.2.1 i x hx
   have hget := HY.out.2.2.2.1 i x hx
   have hgx := HY.out.2.2.2.2.2.2.2.2 x (List.mem_of_getElem? hx)
   obtain ⟨S, hS⟩ : ∃ S, S = (after D i (xs.map OpM.c) (List.replicate 64 none) []).1 := ⟨_, rfl⟩
   obtain ⟨rs, hrs⟩ : ∃ rs, rs = (after D i (xs.map OpM.c) (List.replicate 64 none) []).2 := ⟨_, rfl⟩
   rw [← hS, ← hrs] at s hinv haf hget
   obtain ⟨hfx, b, o, rfl, s1⟩ := opsPeek s hx
   have hlN := HY.out.2.2.2.2.2.2.1
   have hN2 := HY.out.2.2.2.2.2.2.2.1
   have hcall := fun (w : World) (X : List Assn) (s : Sat W0 w (ledO (some lg) rs :: vlt I v (some lg) S :: bytes false x.dp x.data :: bytes false x.ep x.more :: X)) => HY.out.2.2.2.2.1.call hinv (by omega) hgx hfx s
   have hlt' : (i : Int) < (n : Int) := by omega
   have hbig : i + 1 ≤ 1000000 := by omega
   have HX := Lib.hid (And.intro hcall (And.intro haf (And.intro hget (And.intro htl (And.intro htm hbig))))); clear hcall haf hget hinv hS hrs hgx hfx hx s hlN hN2 htl htm
   have zb : b < wr.heap.size := World.block_lt_of_cell? wr _ (s1.cell (i := 0) (v := .int .u8 (x.kd : Int)) rfl)
   go_wp2_with (first | (refine wpl_ldOp rfl (.tmp 16) rfl s1 rfl ?_) | (refine wpl_alloc_agg rfl 27 rfl s1 _ (zero_op _) ?_; intro w3 go s3 _; clear s1 zb) | (refine wpl_stOp rfl rfl (.tmp 8) (.tmp 17) rfl s3 rfl rfl ?_; intro w4 s4; clear s3) | (refine wpl_ldOp rfl (.tmp 8) rfl s4 rfl ?_))
   refine (HX.out.1 _ (seg true go 0 x.cells :: opsR (some ⟨b, o, none⟩) xs :: row pa ca 4 i (ts.flatMap ansC) :: ownAns ts :: L) s4.f).mono ?_
   rintro e w5 ⟨q, cq, rfl, hq1, hq2, s5'⟩
   obtain ⟨R, hR⟩ : ∃ R, R = D S x.c rs := ⟨_, rfl⟩
   rw [← hR] at s5' hq1 ⊢
   obtain ⟨nb, hnb⟩ : ∃ k, k = R.2.1.bytes.length := ⟨_, rfl⟩
   rw [← hnb]
   have s5 : Sat W0 w5 (row pa ca 4 i (ts.flatMap ansC) :: bytes true q R.2.1.bytes :: ownAns ts :: opsR (some ⟨b, o, none⟩) xs :: vlt I v (some lg) R.1 :: ledO (some lg) R.2.2 :: L) := s5'.f
   have HR := Lib.hid (And.intro hR hnb); clear s4 s5' hR hnb hq1 hq2
   go_wp2_with (refine wpl_append rfl (.tmp 18) (.tmp 22) 65 rfl Tryz.underlying65 HA.out.1 HA.out.2.1 HA.out.2.2.1 HA.out.2.2.2 rfl (by decide) (s5.alloc' _) rfl (some _) 1 1 rfl [.int .i64 R.2.1.code, .int .i64 (R.2.1.handle : Int), .bool R.2.1.same, .slice q nb cq] rfl ((s5.alloc #[.int .i64 R.2.1.code, .int .i64 (R.2.1.handle : Int), .bool R.2.1.same, .slice q nb cq] 44).news) (fun h => by cases h) (ans_one _ _ _ _ _ _) (by unfold maxLen; have := HX.out.2.2.2.2.2; omega) (by have := HX.out.2.2.2.2.2; omega) ?_; intro p9 c9 w9 s9 _ _; clear s5)
   have HS := Lib.hid s9; clear s9
   go_wp2_with fail
   go_roundw
   case measure => simp [intOf]; omega
   case rel =>
    refine ⟨i + 1, p9, c9, ts ++ [(q, cq, R.2.1)], by omega, by go_num, rfl, by rw [List.length_append, HX.out.2.2.2.1]; rfl, ?_, ?_⟩
    ·have hl := (List.getElem?_eq_some_iff.1 HX.out.2.2.1)
     rw [List.map_append, HX.out.2.2.2.2.1, List.take_succ_eq_append_getElem hl.1, hl.2, HR.out.1]
     rfl
    ·rw [HX.out.2.1, ← HR.out.1]
     have s10 : Sat W0 w9 (bytes true q R.2.1.bytes :: ownAns ts :: row p9 c9 4 (i + 1) (ts.flatMap ansC ++ [.int .i64 R.2.1.code, .int .i64 (R.2.1.handle : Int), .bool R.2.1.same, .slice q nb cq]) :: opsR (some ⟨b, o, none⟩) xs :: vlt I v (some lg) R.1 :: ledO (some lg) R.2.2 :: L) := HS.out.f
     have s11 := ansPush (t := (q, cq, R.2.1)) s10
     have e1 : ts.flatMap ansC ++ [.int .i64 R.2.1.code, .int .i64 (R.2.1.handle : Int), .bool R.2.1.same, .slice q nb cq] = (ts ++ [(q, cq, R.2.1)]).flatMap ansC := by
      rw [List.flatMap_append, HR.out.2]; rfl
     rw [e1] at s11
     exact s11.f
  ·obtain rfl : i = n := by omega
   have hroom := HY.out.2.2.2.2.1.room (HY.out.2.1 i (Nat.le_refl _)) HY.out.2.2.2.2.2.2.1
   have e1 : (answers D (xs.map OpM.c) (List.replicate 64 none) []).take i = answers D (xs.map OpM.c) (List.replicate 64 none) [] := List.take_of_length_le (by rw [HY.out.1]; exact Nat.le_refl _)
   rw [e1] at htm
   have HS := Lib.hid (And.intro htl (And.intro htm hroom)); clear htl htm hroom e1
   obtain ⟨RS, hRS⟩ : ∃ R, R = (after D i (xs.map OpM.c) (List.replicate 64 none) []).2 := ⟨_, rfl⟩
   rw [← hRS] at s
   have hRl : RS.length ≤ 1000000000 := by rw [hRS]; exact HS.out.2.2.2
   have HRS := Lib.hid (And.intro hRl (And.intro hRS s)); clear hRS hRl s
   go_wp2_with fail
   refine (ledRunsF HRS.out.1 (HRS.out.2.2.f : Sat W0 wr (ledO (some lg) RS :: opsR p xs :: row pa ca 4 i (ts.flatMap ansC) :: ownAns ts :: L))).mono ?_
   rintro e w9 ⟨q, cq, rfl, s9⟩
   obtain ⟨m, hm⟩ : ∃ m, m = RS.length := ⟨_, rfl⟩
   rw [← hm]
   have HM := Lib.hid (And.intro hm s9); clear hm s9
   go_wp2_with fail
   refine bodyPost_ret (v := .tuple #[.slice pa i ca, .slice q m cq]) (by simp [results, Tryz.results28, go_sem]) rfl ⟨pa, ca, q, cq, m, ts, rfl, HS.out.1, HS.out.2.1, by rw [← HRS.out.2.1]; exact HM.out.1.symm, ?_⟩
   rw [← HRS.out.2.1]
   have s2 := HM.out.2
   exact s2.f
end
end Go.Proofs.YtbefjaodpbgpcaaGreat
