
/- What is seen of a script, operation by operation: the iterator, over any rounds; under the conditions that each names. -/
import Derived.Test.YtbefjaodpbgpcaaGreatPr1
import Derived.Test.YtbefjaodpbgpcaaGreatVnew
import Derived.Test.YtbefjaodpbgpcaaGreatGI
namespace Go.Proofs.YtbefjaodpbgpcaaGreat
open Go.RowKit Go.Sep Go.Bv
set_option linter.unusedVariables false
set_option linter.unusedSimpArgs false
attribute [local go_sem] Oper.semAt_some
section
variable {F : Fence} {n0 : Nat} {W0 w : World} {L : List Assn} {ops : Array Oper} {rest : List Oper} {o : Oper} {a : Act} {Q : Exit → Act → World → Prop}
theorem wplIn_ldOp (hgd : o.guard = none) (x : Operand) (ho : o.op = .load 27 x) {m : Bool} {g f : Nat} {y : OpM}
  (hs : Sat W0 w (seg m g f y.cells :: L)) (hx : a.eval x = .pointer (some ⟨g, f, none⟩))
  (H : wpListIn F n0 Tryz.prog ops Q rest (a.put o.dst y.v) w) : wpListIn F n0 Tryz.prog ops Q (o :: rest) a w := by
 refine wplIn_load_agg hgd 27 x ho Tryz.underlying27 rfl Tryz.size_op hs 0 f hx rfl (Nat.le_refl 7) ?_
 exact H
theorem wplIn_stOp (hgd : o.guard = none) (hdst : o.dst = none) (x y : Operand) (ho : o.op = .store 27 x y) {g : Nat} {v0 v1 v2 v3 v4 v5 v6 : Value} {z : OpM}
  (hs : Sat W0 w (seg true g 0 [v0, v1, v2, v3, v4, v5, v6] :: L)) (hx : a.eval x = .pointer (some ⟨g, 0, none⟩)) (hy : a.eval y = z.v)
  (H : ∀ w', Sat W0 w' (seg true g 0 z.cells :: L) → wpListIn F n0 Tryz.prog ops Q rest a w') : wpListIn F n0 Tryz.prog ops Q (o :: rest) a w := by
 refine wplIn_store_agg hgd hdst 27 x y ho (cs := z.cells) hs 0 0 Tryz.size_op hx hy rfl (Nat.le_refl 7) op_one ?_
 intro w' ss
 rw [setL_all _ _ (by rfl)] at ss
 exact H w' ss
theorem wplIn_stAns (hgd : o.guard = none) (hdst : o.dst = none) (x y : Operand) (ho : o.op = .store 44 x y) {ga : Nat} {v0 v1 v2 v3 : Value} {c h : Int} {s : Bool} {q : Option Addr} {n k : Nat}
  (hs : Sat W0 w (seg true ga 0 [v0, v1, v2, v3] :: L)) (hx : a.eval x = .pointer (some ⟨ga, 0, none⟩)) (hy : a.eval y = .agg #[.int .i64 c, .int .i64 h, .bool s, .slice q n k])
  (H : ∀ w', Sat W0 w' (seg true ga 0 [.int .i64 c, .int .i64 h, .bool s, .slice q n k] :: L) → wpListIn F n0 Tryz.prog ops Q rest a w') : wpListIn F n0 Tryz.prog ops Q (o :: rest) a w := by
 refine wplIn_store_agg hgd hdst 44 x y ho (cs := [.int .i64 c, .int .i64 h, .bool s, .slice q n k]) hs 0 0 Tryz.size_ans hx hy rfl (Nat.le_refl 4) (ans_one _ _ _ _ _ _) ?_
 intro w' ss
 rw [setL_all _ _ (by rfl)] at ss
 exact H w' ss
end
/-- A call of yield, and whatever else is fenced, behind a call that gives its answer. -/
theorem ledMark {W0 w : World} {L : List Assn} {l : Nat} {rs : List Run3} (hs : Sat W0 w (ledO (some l) rs :: L)) : Calls Tryz.prog 14 #[.pointer (some ⟨l, 0, none⟩)] w fun e w' => e = .returned (.int .i64 (tot rs : Int)) ∧ w = w' := by
 have hn := ledLenF hs
 have HN := Lib.hid hn; clear hn hs
 go_enter Tryz.func14, Tryz.ntmps14
 go_wp2_with fail
 refine HN.out.mono ?_
 rintro e w1 ⟨rfl, rfl⟩
 go_wp2
 go_ret
 exact ⟨rfl, rfl⟩
section
variable {σ : Type}
set_option maxRecDepth 100000 in
set_option maxHeartbeats 8000000 in
theorem seenIter {W0 W : World} {L0 : List Assn} {I : SesI σ} {D : Doer σ} {inv : Nat → Sts σ → List Run3 → Prop} {good : OpC → Prop} {N : Nat} (H : Does I D inv good N) {g n c : Nat} {p : Option Addr} (xs : List OpM) (hn : xs.length = n) (hN : n ≤ N) (hN2 : N ≤ 1000000) (hg : ∀ x ∈ xs, good x.c) (J JE : Nat → Assn) (l m : Nat)
  (hY : ∀ i W1 (t : RPiece) code X, i < n → (seenL D (xs.map OpM.c) (List.replicate 64 none) [])[i]? = some (code, t.2.2) → Sat W0 W1 (runsA true t.1 t.2.2 :: J i :: X) → YieldAt Fence.wide m Tryz.prog l #[.int .i64 code, runsV t] W1 fun e W' =>
   (e = .returned (.bool true) ∧ Sat W0 W' (J (i + 1) :: X)) ∨ (e = .returned (.bool false) ∧ Sat W0 W' (JE i :: X)))
  (hs : Sat W0 W (seg true g 0 [.slice p n c] :: opsR p xs :: J 0 :: L0)) :
  CallsIn Fence.wide (m + 1) Tryz.prog 44 #[.func (.yield l) #[] #[], .pointer (some ⟨g, 0, none⟩)] W fun e W' => (∃ v, e = .returned v) ∧ (Sat W0 W' (J n :: opsR p xs :: L0) ∨ ∃ i, i < n ∧ Sat W0 W' (JE i :: opsR p xs :: L0)) := by
 have hI := H.inv_after (l := xs.map OpM.c) (by intro o ho; obtain ⟨x, hx, rfl⟩ := List.mem_map.1 ho; exact hg x hx) (by rw [List.length_map, hn]; exact hN)
 have hA := fun (k : Nat) (x : OpM) (hk : xs[k]? = some x) => after_succ D (xs.map OpM.c) k x.c (List.replicate 64 none) [] (by rw [List.getElem?_map, hk]; rfl)
 have hG := fun (k : Nat) (x : OpM) (hk : xs[k]? = some x) => seenL_get D (xs.map OpM.c) k x.c (List.replicate 64 none) [] (by rw [List.getElem?_map, hk]; rfl)
 rw [List.length_map, hn] at hI
 have HY := Lib.hid (And.intro hY (And.intro hI (And.intro hA (And.intro hG (And.intro H (And.intro hn (And.intro hN (And.intro hN2 hg)))))))); clear hY hI hA hG H hn hN hN2 hg
 have c0 := hs.at 0 rfl
 have z0 := hs.lt (by simp)
 have HS0 := Lib.hid hs; clear hs
 refine callsIn_of_wp Tryz.func44 rfl trivial ?_ rfl
 simp only [Tryz.ntmps44, List.size_toArray, List.length_cons, List.length_nil, Nat.reduceAdd, Nat.reduceSub, Array.replicate_succ, Array.replicate_zero, List.push_toArray, List.append_toArray, List.nil_append, List.cons_append]
 clear c0 z0
 gi_wp2_with fail
 refine ⟨trivial, callsIn_wide.2 ?_⟩
 refine (ledNewF HS0.out).mono ?_
 rintro e w1 ⟨lg, rfl, s1⟩
 gi_wp2_with fail
 refine ⟨trivial, callsIn_wide.2 ?_⟩
 refine (vNewW I (some lg) s1).mono ?_
 rintro e w2 ⟨v, rfl, s2'⟩
 have s2 : Sat W0 w2 (seg true g 0 [.slice p n c] :: opsR p xs :: vlt I v (some lg) (List.replicate 64 none) :: ledO (some lg) [] :: J 0 :: L0) := s2'.f
 clear s1 s2' HS0
 have c0 := s2.at 0 rfl
 have z0 := s2.lt (by simp)
 gi_wp2
 clear c0 z0
 gi_loopw [14] (fun t14 wr => ∃ i : Nat, i ≤ n ∧ t14 = .int .i64 (i : Int) ∧ Sat W0 wr (opsR p xs :: vlt I v (some lg) (after D i (xs.map OpM.c) (List.replicate 64 none) []).1 :: ledO (some lg) (after D i (xs.map OpM.c) (List.replicate 64 none) []).2 :: J i :: L0)) (fun t14 _ => n - (intOf t14).toNat)
 case atStart => exact ⟨0, Nat.zero_le _, rfl, s2.tail⟩
 case round =>
  clear s2
  obtain ⟨i, hi, rfl, s⟩ := hrel
  by_cases hlt : i < n
  ·obtain ⟨x, hx⟩ : ∃ x, xs[i]? = some x := ⟨xs[i]'(by rw [HY.out.2.2.2.2.2.1]; exact hlt), List.getElem?_eq_getElem _⟩
   have hinv := HY.out.2.1 i hi
   have haf := HY.out.2.2.1 i x hx
   have hget := HY.out.2.2.2.1 i x hx
   have hgx := HY.out.2.2.2.2.2.2.2.2 x (List.mem_of_getElem? hx)
   obtain ⟨S, hS⟩ : ∃ S, S = (after D i (xs.map OpM.c) (List.replicate 64 none) []).1 := ⟨_, rfl⟩
   obtain ⟨rs, hrs⟩ : ∃ rs, rs = (after D i (xs.map OpM.c) (List.replicate 64 none) []).2 := ⟨_, rfl⟩
   rw [← hS, ← hrs] at s hinv haf hget
   obtain ⟨hfx, b, o, rfl, s1⟩ := opsPeek s hx
   have hlN := HY.out.2.2.2.2.2.2.1
   have hroom := HY.out.2.2.2.2.1.room hinv (by omega)
   have hnext := HY.out.2.2.2.2.1.next hinv (by omega) hgx
   have hroom2 := HY.out.2.2.2.2.1.room hnext.1 (by omega)
   have hcall := fun (w : World) (X : List Assn) (s : Sat W0 w (ledO (some lg) rs :: vlt I v (some lg) S :: bytes false x.dp x.data :: bytes false x.ep x.more :: X)) => HY.out.2.2.2.2.1.call hinv (by omega) hgx hfx s
   have hlt' : (i : Int) < (n : Int) := by omega
   have hbig : i + 1 ≤ 1000000 := by have := HY.out.2.2.2.2.2.2.2.1; omega
   have HX := Lib.hid (And.intro hroom (And.intro hnext (And.intro hroom2 (And.intro hcall (And.intro haf hget))))); clear hroom hnext hroom2 hcall haf hget hinv hS hrs hgx hfx hx s hlN
   have zb : b < wr.heap.size := World.block_lt_of_cell? wr _ (s1.cell (i := 0) (v := .int .u8 (x.kd : Int)) rfl)
   gi_wp2_with (first | (refine wplIn_ldOp rfl (.tmp 16) rfl s1 rfl ?_) | (refine wplIn_alloc_agg rfl 27 rfl s1 _ (zero_op _) ?_; intro w3 go s3 _; clear s1) | (refine wplIn_stOp rfl rfl (.tmp 6) (.tmp 17) rfl s3 rfl rfl ?_; intro w4 s4; clear s3))
   refine ⟨trivial, callsIn_wide.2 ?_⟩
   refine (ledMark (s4.f : Sat W0 w4 (ledO (some lg) rs :: []))).mono ?_
   rintro e w5 ⟨rfl, rfl⟩
   gi_wp2_with (refine wplIn_ldOp rfl (.tmp 6) rfl s4 rfl ?_)
   refine ⟨trivial, callsIn_wide.2 ?_⟩
   refine (HX.out.2.2.2.1 _ (seg true go 0 x.cells :: opsR (some ⟨b, o, none⟩) xs :: J i :: L0) s4.f).mono ?_
   rintro e w6 ⟨q, cq, rfl, hq1, hq2, s6'⟩
   clear s4
   obtain ⟨R, hR⟩ : ∃ R, R = D S x.c rs := ⟨_, rfl⟩
   obtain ⟨hroom, hnext, hroom2, -, haf, hget⟩ := HX.out
   rw [← hR] at s6' hq1 hnext hroom2 haf hget ⊢
   obtain ⟨nb, hnb⟩ : ∃ k, k = R.2.1.bytes.length := ⟨_, rfl⟩
   obtain ⟨cd, hcd⟩ : ∃ k, k = R.2.1.code := ⟨_, rfl⟩
   rw [← hnb, ← hcd]
   rw [← hcd] at hget
   have s6 : Sat W0 w6 (led lg R.2.2 :: bytes true q R.2.1.bytes :: opsR (some ⟨b, o, none⟩) xs :: vlt I v (some lg) R.1 :: J i :: L0) := by
    have h1 : Sat W0 w6 (ledO (some lg) R.2.2 :: bytes true q R.2.1.bytes :: opsR (some ⟨b, o, none⟩) xs :: vlt I v (some lg) R.1 :: J i :: L0) := s6'.f
    exact h1
   have hsi := fun (w : World) (X : List Assn) (h : Sat W0 w (led lg R.2.2 :: X)) => ledSince hroom2.2 hroom2.1 hnext.2 h
   obtain ⟨M, hM⟩ : ∃ M, M = tot rs := ⟨_, rfl⟩
   rw [← hM] at hsi hget ⊢
   have HX2 := Lib.hid (And.intro hsi (And.intro haf hget)); clear HX hroom hnext hroom2 haf hget hR hnb hcd hq1 hq2 s6' hsi hM
   gi_wp2_with (first | (refine wplIn_alloc_agg rfl 44 rfl s6 _ (zero_ans _) ?_; intro w7 ga s7 _; clear s6) | (refine wplIn_stAns rfl rfl (.tmp 8) (.tmp 22) rfl s7 rfl rfl ?_; intro w8 s8; clear s7))
   have s8d := s8.drew
   have ca := s8d.at 0 rfl
   have za := s8d.lt (by simp)
   refine wpIn_region_any (by kernel_rfl) ?_
   change wpAnyIn _ _ _ _ _ _ _ _ _ (World.drew _)
   refine wpAnyIn_take (i := 0) (v := ?_) rfl rfl (by kernel_rfl) (by kernel_rfl) (by kernel_rfl) (fun _ _ _ h => h) ⟨Or.inl ⟨by rfl, ?_⟩, fun _ => rfl⟩ ?_
   rotate_left 1
   ·intro w; go_simp; try with_reducible rfl
   refine wpAnyIn_take (i := 1) (v := ?_) rfl rfl (by kernel_rfl) (by kernel_rfl) (by kernel_rfl) (fun _ _ _ h => h) ⟨Or.inl ⟨by rfl, ?_⟩, fun _ => rfl⟩ ?_
   rotate_left 1
   ·intro w; go_simp; try with_reducible rfl
   refine wpAnyIn_take (i := 3) (v := ?_) rfl rfl (by kernel_rfl) (by kernel_rfl) (by kernel_rfl) (fun _ _ _ h => h) ⟨Or.inl ⟨by rfl, ?_⟩, fun _ => rfl⟩ ?_
   rotate_left 1
   ·intro w; go_simp; try with_reducible rfl
   refine wpAnyIn_take (i := 4) (v := ?_) rfl rfl (by kernel_rfl) (by kernel_rfl) (by kernel_rfl) (fun _ _ _ h => h) ⟨Or.inl ⟨by rfl, ?_⟩, fun _ => rfl⟩ ?_
   rotate_left 1
   ·intro w; go_simp; try with_reducible rfl
   refine wpAnyIn_ready (rs := [2, 5]) (by kernel_rfl) (by simp) ?_
   refine AllReadyIn.cons rfl (fun K hK => ?_) (AllReadyIn.cons rfl (fun K hK => ?_) AllReadyIn.nil)
   ·go_simp
    refine hK _ _ ?_
    clear hK K
    refine wpAnyIn_ready (rs := [5]) (by kernel_rfl) (by simp) ?_
    refine AllReadyIn.cons rfl (fun K hK => ?_) AllReadyIn.nil
    go_simp
    gi_wp2_with fail
    refine ⟨trivial, callsIn_wide.2 ?_⟩
    refine (HX2.out.1 _ (seg true ga 0 [.int .i64 cd, .int .i64 R.2.1.handle, .bool R.2.1.same, .slice q nb cq] :: bytes true q R.2.1.bytes :: opsR (some ⟨b, o, none⟩) xs :: vlt I v (some lg) R.1 :: J i :: L0) s8d.f).mono ?_
    rintro e w9 ⟨qr, cr, rfl, s9⟩
    clear s8d ca za
    gi_wp2_with fail
    refine wpAnyIn_ready (rs := [6]) (by kernel_rfl) (by simp) ?_
    refine AllReadyIn.cons rfl (fun K hK => ?_) AllReadyIn.nil
    obtain ⟨fn, tmps, assign, body, hy, hRd⟩ := HY.out.1 i w9 (qr, cr, sinceR R.2.2 M) cd (seg true ga 0 [.int .i64 cd, .int .i64 R.2.1.handle, .bool R.2.1.same, .slice q nb cq] :: led lg R.2.2 :: bytes true q R.2.1.bytes :: opsR (some ⟨b, o, none⟩) xs :: vlt I v (some lg) R.1 :: L0) hlt HX2.out.2.2 s9.f
    have HS := Lib.hid s9; clear s9
    go_simp
    have hy2 : (Instr.yield l #[.int .i64 cd, .slice qr (sinceR R.2.2 M).length cr]).run Tryz.prog w9 = _ := hy
    rw [hy2]
    refine ⟨fun _ => Nat.le_add_left 1 m, hRd.mono ?_⟩
    clear hy hy2 hRd
    rintro e w10 (⟨rfl, s10⟩ | ⟨rfl, hE⟩)
    all_goals
     go_simp
     refine hK _ _ ?_
     clear hK K
     refine wpAnyIn_ready (rs := [7]) (by kernel_rfl) (by simp) ?_
     refine AllReadyIn.cons rfl (fun K hK => ?_) AllReadyIn.nil
     go_simp
     refine hK _ _ ?_
     clear hK K
     refine wpAnyIn_done (by kernel_rfl) ?_ _
    ·gi_wp2
     go_roundw
     case rel => exact ⟨i + 1, by omega, by go_num, by rw [HX2.out.2.1]; have s10' : Sat W0 w10 (J (i + 1) :: seg true ga 0 [.int .i64 cd, .int .i64 R.2.1.handle, .bool R.2.1.same, .slice q nb cq] :: ledO (some lg) R.2.2 :: bytes true q R.2.1.bytes :: opsR (some ⟨b, o, none⟩) xs :: vlt I v (some lg) R.1 :: L0) := s10; exact s10'.f⟩
     case measure => simp [intOf]; omega
    ·gi_wp2
     refine bodyPost_ret (results_none rfl _ _ _) rfl ⟨⟨_, rfl⟩, .inr ⟨i, hlt, hE.f⟩⟩
   ·go_simp
    gi_wp2_with fail
    refine ⟨trivial, callsIn_wide.2 ?_⟩
    refine (HX2.out.1 _ (seg true ga 0 [.int .i64 cd, .int .i64 R.2.1.handle, .bool R.2.1.same, .slice q nb cq] :: bytes true q R.2.1.bytes :: opsR (some ⟨b, o, none⟩) xs :: vlt I v (some lg) R.1 :: J i :: L0) s8d.f).mono ?_
    rintro e w9 ⟨qr, cr, rfl, s9⟩
    clear s8d ca za
    gi_wp2_with fail
    have ca : w9.cell? ⟨ga, 0, none⟩ = some (.int .i64 cd) := (s9.pull 2).at 0 rfl
    have za : ga < w9.heap.size := (s9.pull 2).lt (by simp)
    refine wpAnyIn_ready (rs := [2]) (by kernel_rfl) (by simp) ?_
    refine AllReadyIn.cons rfl (fun K hK => ?_) AllReadyIn.nil
    go_simp
    refine hK _ _ ?_
    clear hK K
    refine wpAnyIn_ready (rs := [6]) (by kernel_rfl) (by simp) ?_
    refine AllReadyIn.cons rfl (fun K hK => ?_) AllReadyIn.nil
    obtain ⟨fn, tmps, assign, body, hy, hRd⟩ := HY.out.1 i w9 (qr, cr, sinceR R.2.2 M) cd (seg true ga 0 [.int .i64 cd, .int .i64 R.2.1.handle, .bool R.2.1.same, .slice q nb cq] :: led lg R.2.2 :: bytes true q R.2.1.bytes :: opsR (some ⟨b, o, none⟩) xs :: vlt I v (some lg) R.1 :: L0) hlt HX2.out.2.2 s9.f
    have HS := Lib.hid s9; clear s9
    go_simp
    have hy2 : (Instr.yield l #[.int .i64 cd, .slice qr (sinceR R.2.2 M).length cr]).run Tryz.prog w9 = _ := hy
    rw [hy2]
    refine ⟨fun _ => Nat.le_add_left 1 m, hRd.mono ?_⟩
    clear hy hy2 hRd
    rintro e w10 (⟨rfl, s10⟩ | ⟨rfl, hE⟩)
    all_goals
     go_simp
     refine hK _ _ ?_
     clear hK K
     refine wpAnyIn_ready (rs := [7]) (by kernel_rfl) (by simp) ?_
     refine AllReadyIn.cons rfl (fun K hK => ?_) AllReadyIn.nil
     go_simp
     refine hK _ _ ?_
     clear hK K
     refine wpAnyIn_done (by kernel_rfl) ?_ _
    ·gi_wp2
     go_roundw
     case rel => exact ⟨i + 1, by omega, by go_num, by rw [HX2.out.2.1]; have s10' : Sat W0 w10 (J (i + 1) :: seg true ga 0 [.int .i64 cd, .int .i64 R.2.1.handle, .bool R.2.1.same, .slice q nb cq] :: ledO (some lg) R.2.2 :: bytes true q R.2.1.bytes :: opsR (some ⟨b, o, none⟩) xs :: vlt I v (some lg) R.1 :: L0) := s10; exact s10'.f⟩
     case measure => simp [intOf]; omega
    ·gi_wp2
     refine bodyPost_ret (results_none rfl _ _ _) rfl ⟨⟨_, rfl⟩, .inr ⟨i, hlt, hE.f⟩⟩
  ·obtain rfl : i = n := by omega
   have HS := Lib.hid s; clear s
   gi_wp2
   refine bodyPost_end (results_none rfl _ _ _) rfl ⟨⟨_, rfl⟩, .inl ?_⟩
   have s2 := HS.out
   exact s2.f
end
end Go.Proofs.YtbefjaodpbgpcaaGreat
