
import Derived.Test.YtbefjaodpbgpcaaGreatHM
import Derived.Test.YtbefjaodpbgpcaaGreatGE
set_option linter.unusedVariables false
set_option linter.unusedSimpArgs false
set_option maxRecDepth 100000
set_option maxHeartbeats 16000000
namespace Go.Proofs.YtbefjaodpbgpcaaGreat
open Go.RowKit Go.Sep Go.Bv
def OpM.sk (x : OpM) : OpS := ⟨x.kd, x.hd, x.ag, x.ct, x.ot, x.dn, x.en⟩
theorem build_sk7 (a b : Int) (c d e f g : Int) (w : World) : (Instr.build 38 #[(0, .int .u8 a), (1, .int .i64 b), (2, .int .u8 c), (3, .int .i64 d), (4, .int .i64 e), (5, .int .i64 f), (6, .int .i64 g)]).run Tryz.prog w = .ok (.agg #[.int .u8 a, .int .i64 b, .int .u8 c, .int .i64 d, .int .i64 e, .int .i64 f, .int .i64 g]) w := by
 refine run_build_struct Tryz.underlying38 (zero_sk w) (places := #[(0, 1), (1, 1), (2, 1), (3, 1), (4, 1), (5, 1), (6, 1)]) (by kernel_rfl) ?_
 refine Eq.trans (fill_one (off := 0) (size := 1) (v := .int .u8 a) rfl rfl (by decide)) ?_
 refine Eq.trans (fill_one (off := 1) (size := 1) (v := .int .i64 b) rfl rfl (by simp [length_setL])) ?_
 refine Eq.trans (fill_one (off := 2) (size := 1) (v := .int .u8 c) rfl rfl (by simp [length_setL])) ?_
 refine Eq.trans (fill_one (off := 3) (size := 1) (v := .int .i64 d) rfl rfl (by simp [length_setL])) ?_
 refine Eq.trans (fill_one (off := 4) (size := 1) (v := .int .i64 e) rfl rfl (by simp [length_setL])) ?_
 refine Eq.trans (fill_one (off := 5) (size := 1) (v := .int .i64 f) rfl rfl (by simp [length_setL])) ?_
 refine Eq.trans (fill_one (off := 6) (size := 1) (v := .int .i64 g) rfl rfl (by simp [length_setL])) ?_
 rfl
theorem plain_dn (s : OpS) : ((plainS s).dn = 0 ∨ (plainS s).dn = s.dn) ∧ ((plainS s).en = 0 ∨ (plainS s).en = s.en) ∧ (plainS s).kind = s.kind ∧ ((plainS s).alg = 0 ∨ (plainS s).alg = s.alg) := by
 obtain ⟨kd, hd, ag, ct, ot, dn, en⟩ := s
 unfold plainS
 by_cases h : kd = 0 ∨ 10 < kd
 ·rw [usesOf_none h]; exact ⟨.inl rfl, .inl rfl, rfl, .inl rfl⟩
 ·rcases kd_cases h with rfl | rfl | rfl | rfl | rfl | rfl | rfl | rfl | rfl | rfl
  all_goals exact ⟨by first | exact .inl rfl | exact .inr rfl, by first | exact .inl rfl | exact .inr rfl, rfl, by first | exact .inl rfl | exact .inr rfl⟩
theorem ofW {W0 w : World} {L : List Assn} (x : OpM) (hk : x.kd < 256) (hs : Sat W0 w L) :
  Calls Tryz.prog 12 #[x.v] w fun e w' => e = .returned (skV (plainS x.sk)) ∧ Sat W0 w' L := by
 have hp := fun (w : World) (X : List Assn) (s : Sat W0 w X) => plainW x.sk hk s
 have HO := Lib.hid (And.intro (hOp W0) hp); clear hp
 go_enter Tryz.func12, Tryz.ntmps12
 go_wp2_with (first | (refine wpl_box rfl 27 (.tmp 0) rfl x.cells rfl hs ?_; intro w1 g s1 _; clear hs) | (refine wpl_alloc_agg rfl 38 rfl s1 (skC sk0) (zero_sk _) ?_; intro w2 ga s2' _; clear s1; have s2 : Sat W0 w2 (seg true g 0 x.cells :: seg true ga 0 (skC sk0) :: L) := s2'.f; clear s2'; obtain ⟨o0, o1, o2, o3, o4, o5, o6, zo⟩ := HO.out.1 _ _ _ _ _ _ _ _ _ _ s2) | (refine wpl_build rfl 38 rfl (skV x.sk) (by simp only [List.map_toArray, List.map_cons, List.map_nil]; exact build_sk7 _ _ _ _ _ _ _ _) ?_))
 clear o0 o1 o2 o3 o4 o5 o6 zo
 refine (HO.out.2 _ _ s2).mono ?_
 rintro e w3 ⟨rfl, s3⟩
 have s4 : Sat W0 w3 (seg true ga 0 (skC sk0) :: L) := s3.f
 clear s2 s3
 go_wp2_with (refine wpl_stSk rfl rfl (.tmp 2) (.tmp 20) rfl (s' := plainS x.sk) s4 rfl rfl ?_; intro w5 s5; clear s4)
 have hr := skLd s5
 have HS := Lib.hid s5.tail; clear s5
 refine bodyPost_ret (v := skV (plainS x.sk)) (by simp [results, Tryz.results12, asAddr]; exact hr) rfl ⟨rfl, HS.out⟩
theorem fill_step (b : Byte) (i n : Nat) (hi : i < n) : (u8s (List.replicate i b ++ List.replicate (n - i) 0)).set i (.int .u8 (v8 b)) = u8s (List.replicate (i + 1) b ++ List.replicate (n - (i + 1)) 0) := by
 rw [show n - i = (n - (i + 1)) + 1 by omega, List.replicate_succ (n := n - (i + 1)), u8s_append, List.set_append_right _ _ (by rw [u8s_len, List.length_replicate]; exact Nat.le_refl _), u8s_len, List.length_replicate, Nat.sub_self, List.replicate_succ', List.append_assoc, u8s_append]
 rfl
theorem fillW {W0 w : World} {L : List Assn} (n : Nat) (b : Byte) (hn : n ≤ 16777215) (hs : Sat W0 w L) :
  Calls Tryz.prog 35 #[.int .i64 (n : Int), .int .u8 (v8 b)] w fun e w' => ∃ q, e = .returned (.slice q n n) ∧ Sat W0 w' (bytes true q (List.replicate n b) :: L) := by
 obtain ⟨i3, hi3, hz3, hs3, hb3⟩ := info_parts Tryz.info_u8
 have HI := Lib.hid (And.intro hi3 (And.intro hz3 (And.intro hs3 hb3))); clear hi3 hz3 hs3 hb3
 go_enter Tryz.func35, Tryz.ntmps35
 by_cases h0 : n = 0
 ·subst h0
  have HS := Lib.hid (bytesNil true none hs); clear hs
  go_wp2
  go_ret
  exact ⟨none, rfl, HS.out⟩
 ·have hne : ((n : Int) == 0) = false := by rw [beq_eq_false_iff_ne]; omega
  go_wp2_with (refine wpl_make rfl 25 5 (.tmp 9) (.tmp 9) rfl Tryz.underlying25 HI.out.1 HI.out.2.1 HI.out.2.2.1 HI.out.2.2.2 rfl n rfl rfl (by omega) (by omega) hs ?_; intro w1 g s1 _; rw [u8s_zero] at s1; clear hs)
  go_wp2
  go_loopw [13] (fun t13 wr => ∃ i : Nat, i ≤ n ∧ t13 = .int .i64 (i : Int) ∧ Sat W0 wr (seg true g 0 (u8s (List.replicate i b ++ List.replicate (n - i) 0)) :: L)) (fun t13 _ => n - (intOf t13).toNat)
  case atStart => exact ⟨0, Nat.zero_le _, rfl, by rw [List.replicate_zero, List.nil_append, Nat.sub_zero]; exact s1⟩
  case round =>
   clear s1
   obtain ⟨i, hi, rfl, s⟩ := hrel
   by_cases hlt : i < n
   ·have hil : i < (u8s (List.replicate i b ++ List.replicate (n - i) 0)).length := by rw [u8s_len, List.length_append, List.length_replicate, List.length_replicate]; omega
    have hst := s.store hil (.int .u8 (v8 b)) (q := i) (by simp)
    rw [fill_step b i n hlt] at hst
    obtain ⟨x, hx⟩ : ∃ x, (u8s (List.replicate i b ++ List.replicate (n - i) 0))[i]? = some x := ⟨_, List.getElem?_eq_getElem hil⟩
    have hc := s.cell hx
    have hf := (s.free hil).1
    rw [Nat.zero_add] at hc hf
    have hz := World.block_lt_of_cell? _ _ hc
    have hlt' : (i : Int) < (n : Int) := by omega
    have HS := Lib.hid hst; clear s hil hst hx
    go_wp2
    go_roundw
    case rel => exact ⟨i + 1, by omega, by go_num, HS.out⟩
    case measure => simp [intOf]; omega
   ·obtain rfl : i = n := by omega
    rw [Nat.sub_self, List.replicate_zero, List.append_nil] at s
    have HS := Lib.hid (bytesOf s); clear s
    go_wp2
    go_ret
    exact ⟨some ⟨g, 0, none⟩, rfl, HS.out⟩
theorem build_op7 (a b c d e : Int) (p q : Option Addr) (n m : Nat) (w : World) : (Instr.build 27 #[(0, .int .u8 a), (1, .int .i64 b), (2, .int .u8 c), (3, .int .i64 d), (4, .int .i64 e), (5, .slice p n n), (6, .slice q m m)]).run Tryz.prog w = .ok (.agg #[.int .u8 a, .int .i64 b, .int .u8 c, .int .i64 d, .int .i64 e, .slice p n n, .slice q m m]) w := by
 refine run_build_struct Tryz.underlying27 (zero_op w) (places := #[(0, 1), (1, 1), (2, 1), (3, 1), (4, 1), (5, 1), (6, 1)]) (by kernel_rfl) ?_
 refine Eq.trans (fill_one (off := 0) (size := 1) (v := .int .u8 a) rfl rfl (by decide)) ?_
 refine Eq.trans (fill_one (off := 1) (size := 1) (v := .int .i64 b) rfl rfl (by simp [length_setL])) ?_
 refine Eq.trans (fill_one (off := 2) (size := 1) (v := .int .u8 c) rfl rfl (by simp [length_setL])) ?_
 refine Eq.trans (fill_one (off := 3) (size := 1) (v := .int .i64 d) rfl rfl (by simp [length_setL])) ?_
 refine Eq.trans (fill_one (off := 4) (size := 1) (v := .int .i64 e) rfl rfl (by simp [length_setL])) ?_
 refine Eq.trans (fill_one (off := 5) (size := 1) (v := .slice p n n) rfl rfl (by simp [length_setL])) ?_
 refine Eq.trans (fill_one (off := 6) (size := 1) (v := .slice q m m) rfl rfl (by simp [length_setL])) ?_
 rfl
theorem opLd' {W0 w : World} {L : List Assn} {g : Nat} {v0 v1 v2 v3 v4 v5 v6 : Value} (ss : Sat W0 w (seg true g 0 [v0, v1, v2, v3, v4, v5, v6] :: L)) : Sem.run Tryz.prog (loadVar 27 ⟨g, 0, none⟩) w = Result.ok (.agg #[v0, v1, v2, v3, v4, v5, v6]) w :=
 run_loadVar_agg (P := Tryz.prog) (ty := 27) Tryz.underlying27 rfl Tryz.size_op ss 0 0 rfl (Nat.le_refl 7)
theorem wp_stOp {W0 w : World} {L : List Assn} {K : Act → World → Prop} {Q : Exit → Act → World → Prop} {o : Oper} {a : Act} (x y : Operand) (ho : o.op = .store 27 x y) {g : Nat} {v0 v1 v2 v3 v4 v5 v6 : Value} {kd ag : Nat} {hd ct ot : Int} {dp ep : Option Addr} {dn dc en ec : Nat}
  (hs : Sat W0 w (seg true g 0 [v0, v1, v2, v3, v4, v5, v6] :: L)) (hx : a.eval x = .pointer (some ⟨g, 0, none⟩)) (hy : a.eval y = .agg #[.int .u8 (kd : Int), .int .i64 hd, .int .u8 (ag : Int), .int .i64 ct, .int .i64 ot, .slice dp dn dc, .slice ep en ec])
  (H : ∀ w', Sat W0 w' (seg true g 0 (opC kd hd ag ct ot dp dn dc ep en ec) :: L) → K (a.put o.dst undef) w') : Oper.wp Tryz.prog o a w K Q := by
 obtain ⟨w', hr, hs'⟩ := Sat.run_storeCells (P := Tryz.prog) 0 0 (opC kd hd ag ct ot dp dn dc ep en ec) 0 [v0, v1, v2, v3, v4, v5, v6] w hs rfl (Nat.le_refl 7) op_one
 have hst : (storeVar 27 ⟨g, 0, none⟩ (.agg (opC kd hd ag ct ot dp dn dc ep en ec).toArray)).run Tryz.prog w = .ok () w' := by
  cases hq' : Tryz.prog.info? 27 with
  | none => have := Tryz.size_op; simp [hq'] at this
  | some i =>
   have hsz : i.size = 7 := by have := Tryz.size_op; simpa [hq'] using this
   simp [storeVar, sizeOf, typeInfo, hq', Value.cells, hsz, hr]
 have hy2 : a.eval y = .agg (opC kd hd ag ct ot dp dn dc ep en ec).toArray := hy
 unfold Oper.wp execOp
 simp only [ho, hx, hy2, Instr.storeAt, Instr.sureAddr, Sem.run_bind, Sem.run_pure, Result.andThen_ok, hst]
 refine H w' ?_
 rw [setL_all _ _ (by rfl)] at hs'
 exact hs'
theorem fillOpW {W0 w : World} {L : List Assn} (s : OpS) (b : Byte) (hk : s.kind < 256) (hd : s.dn ≤ 16777215) (he : s.en ≤ 16777215) (hs : Sat W0 w L) :
  Calls Tryz.prog 13 #[skV s, .int .u8 (v8 b)] w fun e w' => ∃ p q, e = .returned (.tuple #[.agg (opC (plainS s).kind (plainS s).handle (plainS s).alg (plainS s).count (plainS s).out p (plainS s).dn (plainS s).dn q (plainS s).en (plainS s).en).toArray, .int .i64 0]) ∧ Sat W0 w' (bytes true p (List.replicate (plainS s).dn b) :: bytes true q (List.replicate (plainS s).en b) :: L) := by
 have hpl := plain_dn s
 have hp := fun (w : World) (X : List Assn) (sx : Sat W0 w X) => plainW s hk sx
 obtain ⟨r, hr⟩ : ∃ r, r = plainS s := ⟨_, rfl⟩
 rw [← hr] at hpl hp ⊢
 have hrd : r.dn ≤ 16777215 := by omega
 have hre : r.en ≤ 16777215 := by omega
 have hd0 : ((r.dn : Int) < 0) = False := by simp only [eq_iff_iff, iff_false]; omega
 have hd1 : ((16777215 : Int) < (r.dn : Int)) = False := by simp only [eq_iff_iff, iff_false]; omega
 have he0 : ((r.en : Int) < 0) = False := by simp only [eq_iff_iff, iff_false]; omega
 have he1 : ((16777215 : Int) < (r.en : Int)) = False := by simp only [eq_iff_iff, iff_false]; omega
 have hf1 := fun (w : World) (X : List Assn) (sx : Sat W0 w X) => fillW r.dn b hrd sx
 have hf2 := fun (w : World) (X : List Assn) (sx : Sat W0 w X) => fillW r.en b hre sx
 have HP := Lib.hid (And.intro hp (And.intro hf1 hf2)); clear hp hf1 hf2 hr hpl hrd hre hd he hk
 go_enter Tryz.func13, Tryz.ntmps13
 go_wp2_with (first | (refine wpl_box rfl 38 (.tmp 0) rfl (skC s) rfl hs ?_; intro w1 g s1 _; clear hs) | (refine wpl_alloc_agg rfl 27 rfl s1 _ (zero_op _) ?_; intro w2 ga s2' _; clear s1; have s2 : Sat W0 w2 (seg true g 0 (skC s) :: seg true ga 0 op0 :: L) := s2'.f; clear s2') | (refine wpl_ldSk rfl (.tmp 2) rfl s2 rfl ?_))
 refine (HP.out.1 _ _ s2).mono ?_
 rintro e w3 ⟨rfl, s3⟩
 clear s2
 go_wp2_with (refine wpl_stSk rfl rfl (.tmp 2) (.tmp 7) rfl (s' := r) s3 rfl rfl ?_; intro w4 s4; clear s3; obtain ⟨o0, o1, o2, o3, o4, o5, o6, zo⟩ := hSk _ _ _ _ _ s4)
 clear o0 o1 o2 o3 o4 o5 o6 zo hd0 hd1 he0 he1
 have hCf := fun (w' : World) (X : List Assn) (h : Sat W0 w' (seg true g 0 (skC r) :: X)) => hSk W0 g w' X r h
 have HC := Lib.hid hCf; clear hCf
 have hbd := fun (p q : Option Addr) (w : World) => build_op7 (r.kind : Int) r.handle (r.alg : Int) r.count r.out p q r.dn r.en w
 have sd := s4.drew
 clear s4
 refine region_E (fun w' : World => w'.cell? ⟨g, 0, none⟩ = some (.int .u8 (r.kind : Int)) ∧ w'.cell? ⟨g, 1, none⟩ = some (.int .i64 r.handle) ∧ w'.cell? ⟨g, 2, none⟩ = some (.int .u8 (r.alg : Int)) ∧ w'.cell? ⟨g, 3, none⟩ = some (.int .i64 r.count) ∧ w'.cell? ⟨g, 4, none⟩ = some (.int .i64 r.out) ∧ w'.cell? ⟨g, 5, none⟩ = some (.int .i64 (r.dn : Int)) ∧ w'.cell? ⟨g, 6, none⟩ = some (.int .i64 (r.en : Int)) ∧ g < w'.heap.size) [1, 3, 5, 7, 9, 11, 15] (by kernel_rfl) ?_
 have hHeld := HC.out _ _ sd
 iterate 16
  first | refine autoT' hHeld (h := ?_) | refine autoP' (h := ?_)
  try simp only [pA1, pA2, pA3, pA4]
 refine anyE_one' (i := 13) (h := fun K hK => ?_)
 go_simp
 refine (HP.out.2.1 _ _ sd).mono ?_
 rintro e w5 ⟨p, rfl, s5'⟩
 have s5 : Sat W0 w5 (seg true g 0 (skC r) :: seg true ga 0 op0 :: bytes true p (List.replicate r.dn b) :: L) := s5'.f
 clear sd s5'
 go_wp2_with fail
 have hKp := HC.out _ _ s5
 refine hK.out _ _ hKp ?_
 clear hK K hHeld
 have hHeld := hKp
 clear hKp
 try simp only [pA1, pA2, pA3, pA4]
 refine anyE_one' (i := 17) (h := fun K hK => ?_)
 go_simp
 refine (HP.out.2.2 _ _ s5).mono ?_
 rintro e w6 ⟨q, rfl, s6'⟩
 have s6 : Sat W0 w6 (seg true g 0 (skC r) :: seg true ga 0 op0 :: bytes true p (List.replicate r.dn b) :: bytes true q (List.replicate r.en b) :: L) := s6'.f
 clear s5 s6'
 go_wp2_with fail
 have hKp := HC.out _ _ s6
 refine hK.out _ _ hKp ?_
 clear hK K hHeld
 have hHeld := hKp
 clear hKp
 try simp only [pA1, pA2, pA3, pA4]
 iterate 1
  first | refine autoT' hHeld (h := ?_) | refine autoP' (h := ?_)
  try simp only [pA1, pA2, pA3, pA4]
 refine anyE_last' (i := 19) (h := fun K hK => ?_)
 rw [if_pos (by rfl)]
 have s7 : Sat W0 w6 (seg true ga 0 op0 :: bytes true p (List.replicate r.dn b) :: bytes true q (List.replicate r.en b) :: L) := s6.f
 clear s6
 refine wp_stOp (.tmp 4) (.tmp 45) rfl (kd := r.kind) (ag := r.alg) s7 rfl rfl ?_
 intro w8 s8
 try simp only [pA1, pA2, pA3, pA4]
 refine hK.out _ _ ?_
 clear hK K s7
 try simp only [pA1, pA2, pA3, pA4]
 iterate 1
  first | refine autoT' hHeld (h := ?_) | refine autoP' (h := ?_)
  try simp only [pA1, pA2, pA3, pA4]
 refine anyE_done (by kernel_rfl) ?_ _
 clear hHeld hbd HC HP
 go_wp2_with fail
 have hr := opLd' s8
 have HS := Lib.hid s8.tail; clear s8
 refine bodyPost_ret (v := .tuple #[.agg (opC r.kind r.handle r.alg r.count r.out p r.dn r.dn q r.en r.en).toArray, .int .i64 0]) (by simp [results, Tryz.results13, asAddr, hr]) rfl ⟨p, q, rfl, HS.out⟩
end Go.Proofs.YtbefjaodpbgpcaaGreat
