/- Sk1, Sk2: texts that lie apart elsewhere, as one; each under the conditions that it names. -/
import Derived.Test.YtbefjaodpbgpcaaGreatHK
import Derived.Test.YtbefjaodpbgpcaaGreatGI
set_option linter.unusedVariables false
set_option linter.unusedSimpArgs false
set_option maxRecDepth 100000
set_option maxHeartbeats 16000000
namespace Go.Proofs.YtbefjaodpbgpcaaGreat
open Go.RowKit Go.Sep Go.Bv
structure OpS where
 kind : Nat
 handle : Int
 alg : Nat
 count : Int
 out : Int
 dn : Nat
 en : Nat
abbrev skC (s : OpS) : List Value := [.int .u8 (s.kind : Int), .int .i64 s.handle, .int .u8 (s.alg : Int), .int .i64 s.count, .int .i64 s.out, .int .i64 (s.dn : Int), .int .i64 (s.en : Int)]
abbrev skV (s : OpS) : Value := .agg #[.int .u8 (s.kind : Int), .int .i64 s.handle, .int .u8 (s.alg : Int), .int .i64 s.count, .int .i64 s.out, .int .i64 (s.dn : Int), .int .i64 (s.en : Int)]
abbrev sk0 : OpS := ⟨0, 0, 0, 0, 0, 0, 0⟩
theorem Tryz.size_sk : (Tryz.prog.info? 38).map (·.size) = some 7 := by kernel_rfl
theorem zero_sk (w : World) : (zeroValue 38).run Tryz.prog w = .ok (skV sk0) w := by kernel_rfl
theorem sk_one (s : OpS) : ∀ v ∈ skC s, v.oneCell' = true := by
 intro v hv; simp only [List.mem_cons, List.not_mem_nil, or_false] at hv; rcases hv with rfl | rfl | rfl | rfl | rfl | rfl | rfl <;> rfl
theorem hSk (W0 : World) (g : Nat) (wx : World) (X : List Assn) (s : OpS) (h : Sat W0 wx (seg true g 0 (skC s) :: X)) : wx.cell? ⟨g, 0, none⟩ = some (.int .u8 (s.kind : Int)) ∧ wx.cell? ⟨g, 1, none⟩ = some (.int .i64 s.handle) ∧ wx.cell? ⟨g, 2, none⟩ = some (.int .u8 (s.alg : Int)) ∧ wx.cell? ⟨g, 3, none⟩ = some (.int .i64 s.count) ∧ wx.cell? ⟨g, 4, none⟩ = some (.int .i64 s.out) ∧ wx.cell? ⟨g, 5, none⟩ = some (.int .i64 (s.dn : Int)) ∧ wx.cell? ⟨g, 6, none⟩ = some (.int .i64 (s.en : Int)) ∧ g < wx.heap.size := ⟨h.at 0 rfl, h.at 1 rfl, h.at 2 rfl, h.at 3 rfl, h.at 4 rfl, h.at 5 rfl, h.at 6 rfl, h.lt (by simp)⟩
theorem wpl_ldSk {W0 w : World} {L : List Assn} {ops : Array Oper} {Q : Exit → Act → World → Prop} {o : Oper} {rest : List Oper} {a : Act} (hgd : o.guard = none) (x : Operand) (ho : o.op = .load 38 x) {g : Nat} {s : OpS}
  (hs : Sat W0 w (seg true g 0 (skC s) :: L)) (hx : a.eval x = .pointer (some ⟨g, 0, none⟩)) (H : wpList Tryz.prog ops Q rest (a.put o.dst (skV s)) w) : wpList Tryz.prog ops Q (o :: rest) a w := by
 refine wpl_load_agg hgd 38 x ho Tryz.underlying38 rfl Tryz.size_sk hs 0 0 hx rfl (Nat.le_refl 7) ?_
 exact H
theorem wpl_stSk {W0 w : World} {L : List Assn} {ops : Array Oper} {Q : Exit → Act → World → Prop} {o : Oper} {rest : List Oper} {a : Act} (hgd : o.guard = none) (hdst : o.dst = none) (x y : Operand) (ho : o.op = .store 38 x y) {g : Nat} {s s' : OpS}
  (hs : Sat W0 w (seg true g 0 (skC s) :: L)) (hx : a.eval x = .pointer (some ⟨g, 0, none⟩)) (hy : a.eval y = skV s')
  (H : ∀ w', Sat W0 w' (seg true g 0 (skC s') :: L) → wpList Tryz.prog ops Q rest a w') : wpList Tryz.prog ops Q (o :: rest) a w := by
 refine wpl_store_agg hgd hdst 38 x y ho (cs := skC s') hs 0 0 Tryz.size_sk hx hy rfl (Nat.le_refl 7) (sk_one _) ?_
 intro w' ss
 rw [setL_all _ _ (by rfl)] at ss
 exact H w' ss
theorem skLd {W0 w : World} {L : List Assn} {g : Nat} {s : OpS} (ss : Sat W0 w (seg true g 0 (skC s) :: L)) : Sem.run Tryz.prog (loadVar 38 ⟨g, 0, none⟩) w = Result.ok (skV s) w :=
 run_loadVar_agg (P := Tryz.prog) (ty := 38) Tryz.underlying38 rfl Tryz.size_sk ss 0 0 rfl (Nat.le_refl 7)
theorem build_sk1 (k : Int) (w : World) : (Instr.build 38 #[(0, .int .u8 k)]).run Tryz.prog w = .ok (.agg #[.int .u8 k, .int .i64 0, .int .u8 0, .int .i64 0, .int .i64 0, .int .i64 0, .int .i64 0]) w := by
 refine run_build_struct Tryz.underlying38 (zero_sk w) (places := #[(0, 1), (1, 1), (2, 1), (3, 1), (4, 1), (5, 1), (6, 1)]) (by kernel_rfl) ?_
 refine Eq.trans (fill_one (off := 0) (size := 1) (v := .int .u8 k) rfl rfl (by decide)) ?_
 rfl
def useF : Nat → Nat
 | 1 => 62
 | 2 => 63
 | 3 => 64
 | 4 => 65
 | 5 => 66
 | _ => 67
def useV (i : Nat) : Value := .func (.func (useF i)) #[] #[]
def useS (i : Nat) (s t : OpS) : OpS :=
 match i with
 | 1 => { t with handle := s.handle }
 | 2 => { t with alg := s.alg }
 | 3 => { t with count := s.count }
 | 4 => { t with out := s.out }
 | 5 => { t with dn := s.dn }
 | _ => { t with en := s.en }
def usesOf : Nat → List Nat
 | 1 => [5]
 | 2 => [1, 2, 5, 4]
 | 3 => [1, 5]
 | 4 => [1]
 | 5 => [1, 5]
 | 6 => [1]
 | 7 => [1, 2, 5, 6, 4]
 | 8 => [1, 2, 5, 3, 4]
 | 9 => [1]
 | 10 => [1]
 | _ => []
theorem useCall (i : Nat) (x y : Value) (w : World) : (callFunc (useF i) #[x, y]).run Tryz.prog w = .ok (.enter (useF i) #[x, y]) w := by
 unfold useF
 split <;> kernel_rfl
theorem use1 {W0 w : World} {L : List Assn} {g : Nat} (s t : OpS) (hs : Sat W0 w (seg true g 0 (skC t) :: L)) :
  Calls Tryz.prog 62 #[skV s, .pointer (some ⟨g, 0, none⟩)] w fun e w' => e = .returned (.tuple #[]) ∧ Sat W0 w' (seg true g 0 (skC (useS 1 s t)) :: L) := by
 go_enter Tryz.func62, Tryz.ntmps62
 go_wp2_with (refine wpl_box rfl 38 (.tmp 0) rfl (skC s) rfl hs ?_; intro w1 b s1 _; clear hs; obtain ⟨o0, o1, o2, o3, o4, o5, o6, zo⟩ := hSk _ _ _ _ _ s1; have s2 : Sat W0 w1 (seg true g 0 (skC t) :: seg true b 0 (skC s) :: L) := s1.f; clear s1; have hst := s2.store (i := 1) (by simp) (.int .i64 s.handle) (q := 1) rfl; have hc := s2.cell (i := 1) rfl; have hf := (s2.free (i := 1) (by simp)).1; have hz := World.block_lt_of_cell? _ _ hc; have HS := Lib.hid hst; clear s2 hst)
 refine bodyPost_end (results_none rfl _ _ _) rfl ⟨rfl, ?_⟩
 have s3 : Sat W0 _ (seg true g 0 (skC (useS 1 s t)) :: seg true b 0 (skC s) :: L) := HS.out
 exact s3.f
theorem use2 {W0 w : World} {L : List Assn} {g : Nat} (s t : OpS) (hs : Sat W0 w (seg true g 0 (skC t) :: L)) :
  Calls Tryz.prog 63 #[skV s, .pointer (some ⟨g, 0, none⟩)] w fun e w' => e = .returned (.tuple #[]) ∧ Sat W0 w' (seg true g 0 (skC (useS 2 s t)) :: L) := by
 go_enter Tryz.func63, Tryz.ntmps63
 go_wp2_with (refine wpl_box rfl 38 (.tmp 0) rfl (skC s) rfl hs ?_; intro w1 b s1 _; clear hs; obtain ⟨o0, o1, o2, o3, o4, o5, o6, zo⟩ := hSk _ _ _ _ _ s1; have s2 : Sat W0 w1 (seg true g 0 (skC t) :: seg true b 0 (skC s) :: L) := s1.f; clear s1; have hst := s2.store (i := 2) (by simp) (.int .u8 (s.alg : Int)) (q := 2) rfl; have hc := s2.cell (i := 2) rfl; have hf := (s2.free (i := 2) (by simp)).1; have hz := World.block_lt_of_cell? _ _ hc; have HS := Lib.hid hst; clear s2 hst)
 refine bodyPost_end (results_none rfl _ _ _) rfl ⟨rfl, ?_⟩
 have s3 : Sat W0 _ (seg true g 0 (skC (useS 2 s t)) :: seg true b 0 (skC s) :: L) := HS.out
 exact s3.f
theorem use3 {W0 w : World} {L : List Assn} {g : Nat} (s t : OpS) (hs : Sat W0 w (seg true g 0 (skC t) :: L)) :
  Calls Tryz.prog 64 #[skV s, .pointer (some ⟨g, 0, none⟩)] w fun e w' => e = .returned (.tuple #[]) ∧ Sat W0 w' (seg true g 0 (skC (useS 3 s t)) :: L) := by
 go_enter Tryz.func64, Tryz.ntmps64
 go_wp2_with (refine wpl_box rfl 38 (.tmp 0) rfl (skC s) rfl hs ?_; intro w1 b s1 _; clear hs; obtain ⟨o0, o1, o2, o3, o4, o5, o6, zo⟩ := hSk _ _ _ _ _ s1; have s2 : Sat W0 w1 (seg true g 0 (skC t) :: seg true b 0 (skC s) :: L) := s1.f; clear s1; have hst := s2.store (i := 3) (by simp) (.int .i64 s.count) (q := 3) rfl; have hc := s2.cell (i := 3) rfl; have hf := (s2.free (i := 3) (by simp)).1; have hz := World.block_lt_of_cell? _ _ hc; have HS := Lib.hid hst; clear s2 hst)
 refine bodyPost_end (results_none rfl _ _ _) rfl ⟨rfl, ?_⟩
 have s3 : Sat W0 _ (seg true g 0 (skC (useS 3 s t)) :: seg true b 0 (skC s) :: L) := HS.out
 exact s3.f
theorem use4 {W0 w : World} {L : List Assn} {g : Nat} (s t : OpS) (hs : Sat W0 w (seg true g 0 (skC t) :: L)) :
  Calls Tryz.prog 65 #[skV s, .pointer (some ⟨g, 0, none⟩)] w fun e w' => e = .returned (.tuple #[]) ∧ Sat W0 w' (seg true g 0 (skC (useS 4 s t)) :: L) := by
 go_enter Tryz.func65, Tryz.ntmps65
 go_wp2_with (refine wpl_box rfl 38 (.tmp 0) rfl (skC s) rfl hs ?_; intro w1 b s1 _; clear hs; obtain ⟨o0, o1, o2, o3, o4, o5, o6, zo⟩ := hSk _ _ _ _ _ s1; have s2 : Sat W0 w1 (seg true g 0 (skC t) :: seg true b 0 (skC s) :: L) := s1.f; clear s1; have hst := s2.store (i := 4) (by simp) (.int .i64 s.out) (q := 4) rfl; have hc := s2.cell (i := 4) rfl; have hf := (s2.free (i := 4) (by simp)).1; have hz := World.block_lt_of_cell? _ _ hc; have HS := Lib.hid hst; clear s2 hst)
 refine bodyPost_end (results_none rfl _ _ _) rfl ⟨rfl, ?_⟩
 have s3 : Sat W0 _ (seg true g 0 (skC (useS 4 s t)) :: seg true b 0 (skC s) :: L) := HS.out
 exact s3.f
theorem use5 {W0 w : World} {L : List Assn} {g : Nat} (s t : OpS) (hs : Sat W0 w (seg true g 0 (skC t) :: L)) :
  Calls Tryz.prog 66 #[skV s, .pointer (some ⟨g, 0, none⟩)] w fun e w' => e = .returned (.tuple #[]) ∧ Sat W0 w' (seg true g 0 (skC (useS 5 s t)) :: L) := by
 go_enter Tryz.func66, Tryz.ntmps66
 go_wp2_with (refine wpl_box rfl 38 (.tmp 0) rfl (skC s) rfl hs ?_; intro w1 b s1 _; clear hs; obtain ⟨o0, o1, o2, o3, o4, o5, o6, zo⟩ := hSk _ _ _ _ _ s1; have s2 : Sat W0 w1 (seg true g 0 (skC t) :: seg true b 0 (skC s) :: L) := s1.f; clear s1; have hst := s2.store (i := 5) (by simp) (.int .i64 (s.dn : Int)) (q := 5) rfl; have hc := s2.cell (i := 5) rfl; have hf := (s2.free (i := 5) (by simp)).1; have hz := World.block_lt_of_cell? _ _ hc; have HS := Lib.hid hst; clear s2 hst)
 refine bodyPost_end (results_none rfl _ _ _) rfl ⟨rfl, ?_⟩
 have s3 : Sat W0 _ (seg true g 0 (skC (useS 5 s t)) :: seg true b 0 (skC s) :: L) := HS.out
 exact s3.f
theorem use6 {W0 w : World} {L : List Assn} {g : Nat} (s t : OpS) (hs : Sat W0 w (seg true g 0 (skC t) :: L)) :
  Calls Tryz.prog 67 #[skV s, .pointer (some ⟨g, 0, none⟩)] w fun e w' => e = .returned (.tuple #[]) ∧ Sat W0 w' (seg true g 0 (skC (useS 6 s t)) :: L) := by
 go_enter Tryz.func67, Tryz.ntmps67
 go_wp2_with (refine wpl_box rfl 38 (.tmp 0) rfl (skC s) rfl hs ?_; intro w1 b s1 _; clear hs; obtain ⟨o0, o1, o2, o3, o4, o5, o6, zo⟩ := hSk _ _ _ _ _ s1; have s2 : Sat W0 w1 (seg true g 0 (skC t) :: seg true b 0 (skC s) :: L) := s1.f; clear s1; have hst := s2.store (i := 6) (by simp) (.int .i64 (s.en : Int)) (q := 6) rfl; have hc := s2.cell (i := 6) rfl; have hf := (s2.free (i := 6) (by simp)).1; have hz := World.block_lt_of_cell? _ _ hc; have HS := Lib.hid hst; clear s2 hst)
 refine bodyPost_end (results_none rfl _ _ _) rfl ⟨rfl, ?_⟩
 have s3 : Sat W0 _ (seg true g 0 (skC (useS 6 s t)) :: seg true b 0 (skC s) :: L) := HS.out
 exact s3.f
theorem useW {W0 w : World} {L : List Assn} {g : Nat} (i : Nat) (hi : 1 ≤ i ∧ i ≤ 6) (s t : OpS) (hs : Sat W0 w (seg true g 0 (skC t) :: L)) :
  Calls Tryz.prog (useF i) #[skV s, .pointer (some ⟨g, 0, none⟩)] w fun e w' => e = .returned (.tuple #[]) ∧ Sat W0 w' (seg true g 0 (skC (useS i s t)) :: L) := by
 have h : i = 1 ∨ i = 2 ∨ i = 3 ∨ i = 4 ∨ i = 5 ∨ i = 6 := by omega
 rcases h with rfl | rfl | rfl | rfl | rfl | rfl
 ·exact use1 s t hs
 ·exact use2 s t hs
 ·exact use3 s t hs
 ·exact use4 s t hs
 ·exact use5 s t hs
 ·exact use6 s t hs
def usesM (gs : Nat → Nat) : Array MapEntry := #[⟨.int .u8 1, .slice (some ⟨gs 1, 0, none⟩) 1 1, 0⟩, ⟨.int .u8 2, .slice (some ⟨gs 2, 0, none⟩) 4 4, 1⟩, ⟨.int .u8 3, .slice (some ⟨gs 3, 0, none⟩) 2 2, 2⟩, ⟨.int .u8 4, .slice (some ⟨gs 4, 0, none⟩) 1 1, 3⟩, ⟨.int .u8 5, .slice (some ⟨gs 5, 0, none⟩) 2 2, 4⟩, ⟨.int .u8 6, .slice (some ⟨gs 6, 0, none⟩) 1 1, 5⟩, ⟨.int .u8 7, .slice (some ⟨gs 7, 0, none⟩) 5 5, 6⟩, ⟨.int .u8 8, .slice (some ⟨gs 8, 0, none⟩) 5 5, 7⟩, ⟨.int .u8 9, .slice (some ⟨gs 9, 0, none⟩) 1 1, 8⟩, ⟨.int .u8 10, .slice (some ⟨gs 10, 0, none⟩) 1 1, 9⟩]
def usesL (gs : Nat → Nat) : List Assn := [seg true (gs 1) 0 ((usesOf 1).map useV), seg true (gs 2) 0 ((usesOf 2).map useV), seg true (gs 3) 0 ((usesOf 3).map useV), seg true (gs 4) 0 ((usesOf 4).map useV), seg true (gs 5) 0 ((usesOf 5).map useV), seg true (gs 6) 0 ((usesOf 6).map useV), seg true (gs 7) 0 ((usesOf 7).map useV), seg true (gs 8) 0 ((usesOf 8).map useV), seg true (gs 9) 0 ((usesOf 9).map useV), seg true (gs 10) 0 ((usesOf 10).map useV)]
def gsOf (l : List Nat) (k : Nat) : Nat := l.getD (k - 1) 0
theorem usesW {W0 w : World} {L : List Assn} (hs : Sat W0 w L) :
  Calls Tryz.prog 47 #[] w fun e w' => ∃ r gs, e = .returned (.map (some r)) ∧ Sat W0 w' (obj r (.map (usesM gs) 10) :: big (usesL gs) :: L) := by
 go_enter Tryz.func47, Tryz.ntmps47
 go_wp2_with (first | (refine wpl_makeMap rfl 115 none rfl rfl hs ?_; intro w0 r s0; clear hs) | (have s0x := s0.alloc ((usesOf 1).map useV).toArray 118; refine wpl_mapPut rfl rfl 115 (.tmp 7) (.const (.int .u8 1)) (.tmp 9) (.inr rfl) Tryz.underlying115 Tryz.underlying23 (s0x.pull 1) rfl rfl rfl (by rfl) ?_; intro w1 s1; clear s0 s0x) | (have s1x := s1.alloc ((usesOf 2).map useV).toArray 118; refine wpl_mapPut rfl rfl 115 (.tmp 7) (.const (.int .u8 2)) (.tmp 14) (.inr rfl) Tryz.underlying115 Tryz.underlying23 (s1x.pull 1) rfl rfl rfl (by rfl) ?_; intro w2 s2; clear s1 s1x) | (have s2x := s2.alloc ((usesOf 3).map useV).toArray 118; refine wpl_mapPut rfl rfl 115 (.tmp 7) (.const (.int .u8 3)) (.tmp 17) (.inr rfl) Tryz.underlying115 Tryz.underlying23 (s2x.pull 1) rfl rfl rfl (by rfl) ?_; intro w3 s3; clear s2 s2x) | (have s3x := s3.alloc ((usesOf 4).map useV).toArray 118; refine wpl_mapPut rfl rfl 115 (.tmp 7) (.const (.int .u8 4)) (.tmp 19) (.inr rfl) Tryz.underlying115 Tryz.underlying23 (s3x.pull 1) rfl rfl rfl (by rfl) ?_; intro w4 s4; clear s3 s3x) | (have s4x := s4.alloc ((usesOf 5).map useV).toArray 118; refine wpl_mapPut rfl rfl 115 (.tmp 7) (.const (.int .u8 5)) (.tmp 22) (.inr rfl) Tryz.underlying115 Tryz.underlying23 (s4x.pull 1) rfl rfl rfl (by rfl) ?_; intro w5 s5; clear s4 s4x) | (have s5x := s5.alloc ((usesOf 6).map useV).toArray 118; refine wpl_mapPut rfl rfl 115 (.tmp 7) (.const (.int .u8 6)) (.tmp 24) (.inr rfl) Tryz.underlying115 Tryz.underlying23 (s5x.pull 1) rfl rfl rfl (by rfl) ?_; intro w6 s6; clear s5 s5x) | (have s6x := s6.alloc ((usesOf 7).map useV).toArray 118; refine wpl_mapPut rfl rfl 115 (.tmp 7) (.const (.int .u8 7)) (.tmp 30) (.inr rfl) Tryz.underlying115 Tryz.underlying23 (s6x.pull 1) rfl rfl rfl (by rfl) ?_; intro w7 s7; clear s6 s6x) | (have s7x := s7.alloc ((usesOf 8).map useV).toArray 118; refine wpl_mapPut rfl rfl 115 (.tmp 7) (.const (.int .u8 8)) (.tmp 36) (.inr rfl) Tryz.underlying115 Tryz.underlying23 (s7x.pull 1) rfl rfl rfl (by rfl) ?_; intro w8 s8; clear s7 s7x) | (have s8x := s8.alloc ((usesOf 9).map useV).toArray 118; refine wpl_mapPut rfl rfl 115 (.tmp 7) (.const (.int .u8 9)) (.tmp 38) (.inr rfl) Tryz.underlying115 Tryz.underlying23 (s8x.pull 1) rfl rfl rfl (by rfl) ?_; intro w9 s9; clear s8 s8x) | (have s9x := s9.alloc ((usesOf 10).map useV).toArray 118; refine wpl_mapPut rfl rfl 115 (.tmp 7) (.const (.int .u8 10)) (.tmp 40) (.inr rfl) Tryz.underlying115 Tryz.underlying23 (s9x.pull 1) rfl rfl rfl (by rfl) ?_; intro w10 s10; clear s9 s9x))
 have sY : Sat W0 _ (obj r (.map #[⟨.int .u8 1, .slice (some ⟨w0.heap.size, 0, none⟩) 1 1, 0⟩, ⟨.int .u8 2, .slice (some ⟨w1.heap.size, 0, none⟩) 4 4, 1⟩, ⟨.int .u8 3, .slice (some ⟨w2.heap.size, 0, none⟩) 2 2, 2⟩, ⟨.int .u8 4, .slice (some ⟨w3.heap.size, 0, none⟩) 1 1, 3⟩, ⟨.int .u8 5, .slice (some ⟨w4.heap.size, 0, none⟩) 2 2, 4⟩, ⟨.int .u8 6, .slice (some ⟨w5.heap.size, 0, none⟩) 1 1, 5⟩, ⟨.int .u8 7, .slice (some ⟨w6.heap.size, 0, none⟩) 5 5, 6⟩, ⟨.int .u8 8, .slice (some ⟨w7.heap.size, 0, none⟩) 5 5, 7⟩, ⟨.int .u8 9, .slice (some ⟨w8.heap.size, 0, none⟩) 1 1, 8⟩, ⟨.int .u8 10, .slice (some ⟨w9.heap.size, 0, none⟩) 1 1, 9⟩] 10) :: seg true (w9.heap.size) 0 ((usesOf 10).map useV) :: seg true (w8.heap.size) 0 ((usesOf 9).map useV) :: seg true (w7.heap.size) 0 ((usesOf 8).map useV) :: seg true (w6.heap.size) 0 ((usesOf 7).map useV) :: seg true (w5.heap.size) 0 ((usesOf 6).map useV) :: seg true (w4.heap.size) 0 ((usesOf 5).map useV) :: seg true (w3.heap.size) 0 ((usesOf 4).map useV) :: seg true (w2.heap.size) 0 ((usesOf 3).map useV) :: seg true (w1.heap.size) 0 ((usesOf 2).map useV) :: seg true (w0.heap.size) 0 ((usesOf 1).map useV) :: L) := s10
 have s11 : Sat W0 _ (seg true (w0.heap.size) 0 ((usesOf 1).map useV) :: seg true (w1.heap.size) 0 ((usesOf 2).map useV) :: seg true (w2.heap.size) 0 ((usesOf 3).map useV) :: seg true (w3.heap.size) 0 ((usesOf 4).map useV) :: seg true (w4.heap.size) 0 ((usesOf 5).map useV) :: seg true (w5.heap.size) 0 ((usesOf 6).map useV) :: seg true (w6.heap.size) 0 ((usesOf 7).map useV) :: seg true (w7.heap.size) 0 ((usesOf 8).map useV) :: seg true (w8.heap.size) 0 ((usesOf 9).map useV) :: seg true (w9.heap.size) 0 ((usesOf 10).map useV) :: obj r (.map #[⟨.int .u8 1, .slice (some ⟨w0.heap.size, 0, none⟩) 1 1, 0⟩, ⟨.int .u8 2, .slice (some ⟨w1.heap.size, 0, none⟩) 4 4, 1⟩, ⟨.int .u8 3, .slice (some ⟨w2.heap.size, 0, none⟩) 2 2, 2⟩, ⟨.int .u8 4, .slice (some ⟨w3.heap.size, 0, none⟩) 1 1, 3⟩, ⟨.int .u8 5, .slice (some ⟨w4.heap.size, 0, none⟩) 2 2, 4⟩, ⟨.int .u8 6, .slice (some ⟨w5.heap.size, 0, none⟩) 1 1, 5⟩, ⟨.int .u8 7, .slice (some ⟨w6.heap.size, 0, none⟩) 5 5, 6⟩, ⟨.int .u8 8, .slice (some ⟨w7.heap.size, 0, none⟩) 5 5, 7⟩, ⟨.int .u8 9, .slice (some ⟨w8.heap.size, 0, none⟩) 1 1, 8⟩, ⟨.int .u8 10, .slice (some ⟨w9.heap.size, 0, none⟩) 1 1, 9⟩] 10) :: L) := sY.f
 have HS := Lib.hid s11; clear s10 s11 sY
 go_ret
 exact ⟨r, rfl, gsOf [w0.heap.size, w1.heap.size, w2.heap.size, w3.heap.size, w4.heap.size, w5.heap.size, w6.heap.size, w7.heap.size, w8.heap.size, w9.heap.size], (Sat.bigShut (K := usesL (gsOf [w0.heap.size, w1.heap.size, w2.heap.size, w3.heap.size, w4.heap.size, w5.heap.size, w6.heap.size, w7.heap.size, w8.heap.size, w9.heap.size])) HS.out).swap⟩
end Go.Proofs.YtbefjaodpbgpcaaGreat
namespace Go.Sep
open Go.RowKit
section
variable {P : Program} {W0 w : World}
theorem run_mapGet {mty kt et : TypeId} {r clock : Nat} {es : Array MapEntry} {kd : IntKind} {z : Int} {i : Nat} {v : Value} (hm : P.underlying mty = some (.map kt et)) (hk : P.underlying kt = some (.int kd)) (hb : w.heap[r]? = some (.map es clock))
  (hf : Instr.findNow (.int kd) (.int kd z) es.toList 0 = some (some (i, v))) :
  (Instr.lookup mty (.map (some r)) (.int kd z) false).run P w = .ok v w := by
 have hc : (Instr.checkKey es.isEmpty 10000 kt (.int kd z)).run P w = .ok () w := MapKept.run_checkKey (k := .int kd z) hk (by simp [MapKept.IsKey]) _ 9999
 simp [Instr.lookup, run_underlying hm, MapKept.run_getObj_map hb, hc, MapKept.run_findKey hk hf, Result.andThen]
theorem run_mapGetNot {mty kt et : TypeId} {r clock : Nat} {es : Array MapEntry} {kd : IntKind} {z : Int} {v : Value} (hm : P.underlying mty = some (.map kt et)) (hk : P.underlying kt = some (.int kd)) (hb : w.heap[r]? = some (.map es clock))
  (hf : Instr.findNow (.int kd) (.int kd z) es.toList 0 = some none) (hz : (zeroValue et).run P w = .ok v w) :
  (Instr.lookup mty (.map (some r)) (.int kd z) false).run P w = .ok v w := by
 have hc : (Instr.checkKey es.isEmpty 10000 kt (.int kd z)).run P w = .ok () w := MapKept.run_checkKey (k := .int kd z) hk (by simp [MapKept.IsKey]) _ 9999
 simp [Instr.lookup, run_underlying hm, MapKept.run_getObj_map hb, hc, MapKept.run_findKey hk hf, hz, Result.andThen]
end
end Go.Sep
namespace Go.Proofs.YtbefjaodpbgpcaaGreat
open Go.RowKit Go.Sep Go.Bv
def usesP (gs : Nat → Nat) (kd : Nat) : Option Addr := if kd = 0 ∨ 10 < kd then none else some ⟨gs kd, 0, none⟩
theorem kd_cases {kd : Nat} (h : ¬ (kd = 0 ∨ 10 < kd)) : kd = 1 ∨ kd = 2 ∨ kd = 3 ∨ kd = 4 ∨ kd = 5 ∨ kd = 6 ∨ kd = 7 ∨ kd = 8 ∨ kd = 9 ∨ kd = 10 := by omega
theorem usesOf_none {kd : Nat} (h : kd = 0 ∨ 10 < kd) : usesOf kd = [] := by
 rcases h with rfl | h
 ·rfl
 ·obtain ⟨n, rfl⟩ : ∃ n, kd = n + 11 := ⟨kd - 11, by omega⟩
  rfl
theorem usesLook {W0 w : World} {L : List Assn} {r : Nat} {gs : Nat → Nat} (kd : Nat) (hs : Sat W0 w (obj r (.map (usesM gs) 10) :: L)) :
  (Instr.lookup 115 (.map (some r)) (.int .u8 (kd : Int)) false).run Tryz.prog w = .ok (.slice (usesP gs kd) (usesOf kd).length (usesOf kd).length) w := by
 by_cases h : kd = 0 ∨ 10 < kd
 ·unfold usesP
  rw [if_pos h, usesOf_none h]
  refine run_mapGetNot Tryz.underlying115 Tryz.underlying23 hs.obj.1 ?_ (by kernel_rfl)
  have hz : ∀ j : Int, 1 ≤ j → j ≤ 10 → Instr.sameNow (.int .u8) (.int .u8 (kd : Int)) (.int .u8 j) = some false := by
   intro j h1 h2
   have h3 : ((kd : Int) == j) = false := by rw [beq_eq_false_iff_ne]; omega
   simp [Instr.sameNow, h3]
  simp [usesM, Instr.findNow, hz]
 ·rcases kd_cases h with rfl | rfl | rfl | rfl | rfl | rfl | rfl | rfl | rfl | rfl
  ·exact run_mapGet (i := 0) Tryz.underlying115 Tryz.underlying23 hs.obj.1 (by rfl)
  ·exact run_mapGet (i := 1) Tryz.underlying115 Tryz.underlying23 hs.obj.1 (by rfl)
  ·exact run_mapGet (i := 2) Tryz.underlying115 Tryz.underlying23 hs.obj.1 (by rfl)
  ·exact run_mapGet (i := 3) Tryz.underlying115 Tryz.underlying23 hs.obj.1 (by rfl)
  ·exact run_mapGet (i := 4) Tryz.underlying115 Tryz.underlying23 hs.obj.1 (by rfl)
  ·exact run_mapGet (i := 5) Tryz.underlying115 Tryz.underlying23 hs.obj.1 (by rfl)
  ·exact run_mapGet (i := 6) Tryz.underlying115 Tryz.underlying23 hs.obj.1 (by rfl)
  ·exact run_mapGet (i := 7) Tryz.underlying115 Tryz.underlying23 hs.obj.1 (by rfl)
  ·exact run_mapGet (i := 8) Tryz.underlying115 Tryz.underlying23 hs.obj.1 (by rfl)
  ·exact run_mapGet (i := 9) Tryz.underlying115 Tryz.underlying23 hs.obj.1 (by rfl)
theorem usesAt {W0 w : World} {L : List Assn} {gs : Nat → Nat} {kd i u : Nat} (hu : (usesOf kd)[i]? = some u) (hs : Sat W0 w (big (usesL gs) :: L)) :
  w.cell? ⟨gs kd, i, none⟩ = some (useV u) ∧ gs kd < w.heap.size ∧ usesP gs kd = some ⟨gs kd, 0, none⟩ ∧ 1 ≤ u ∧ u ≤ 6 := by
 by_cases h : kd = 0 ∨ 10 < kd
 ·rw [usesOf_none h] at hu; cases hu
 ·have hp : usesP gs kd = some ⟨gs kd, 0, none⟩ := if_neg h
  have hs2 : Sat W0 w (usesL gs ++ L) := hs.bigOpen
  have key : ∀ k, Sat W0 w (seg true (gs kd) 0 ((usesOf kd).map useV) :: k) → w.cell? ⟨gs kd, i, none⟩ = some (useV u) ∧ gs kd < w.heap.size := fun k s => by
   have hc : w.cell? ⟨gs kd, i, none⟩ = some (useV u) := s.at i (by rw [List.getElem?_map, hu]; rfl)
   exact ⟨hc, World.block_lt_of_cell? _ _ hc⟩
  have hb : ∀ x ∈ usesOf kd, 1 ≤ x ∧ x ≤ 6 := by
   rcases kd_cases h with rfl | rfl | rfl | rfl | rfl | rfl | rfl | rfl | rfl | rfl <;> decide
  have hm := hb u (List.mem_of_getElem? hu)
  have hk : ∃ k, Sat W0 w (seg true (gs kd) 0 ((usesOf kd).map useV) :: k) := by
   clear key hb hm hp
   rcases kd_cases h with rfl | rfl | rfl | rfl | rfl | rfl | rfl | rfl | rfl | rfl
   ·exact ⟨_, hs2.pull 0⟩
   ·exact ⟨_, hs2.pull 1⟩
   ·exact ⟨_, hs2.pull 2⟩
   ·exact ⟨_, hs2.pull 3⟩
   ·exact ⟨_, hs2.pull 4⟩
   ·exact ⟨_, hs2.pull 5⟩
   ·exact ⟨_, hs2.pull 6⟩
   ·exact ⟨_, hs2.pull 7⟩
   ·exact ⟨_, hs2.pull 8⟩
   ·exact ⟨_, hs2.pull 9⟩
  obtain ⟨k, hk⟩ := hk
  obtain ⟨h1, h2⟩ := key k hk
  exact ⟨h1, h2, hp, hm.1, hm.2⟩
def foldU (s : OpS) (l : List Nat) : OpS := l.foldl (fun t i => useS i s t) ⟨s.kind, 0, 0, 0, 0, 0, 0⟩
def plainS (s : OpS) : OpS := foldU s (usesOf s.kind)
theorem foldU_snoc (s : OpS) (l : List Nat) (i u : Nat) (h : l[i]? = some u) : foldU s (l.take (i + 1)) = useS u s (foldU s (l.take i)) := by
 obtain ⟨h1, h2⟩ := List.getElem?_eq_some_iff.1 h
 unfold foldU
 rw [List.take_succ_eq_append_getElem h1, List.foldl_append, h2]
 rfl
theorem plainW {W0 w : World} {L : List Assn} (s : OpS) (hk : s.kind < 256) (hs : Sat W0 w L) :
  Calls Tryz.prog 34 #[skV s] w fun e w' => e = .returned (skV (plainS s)) ∧ Sat W0 w' L := by
 have HU := Lib.hid (And.intro (fun (w : World) (X : List Assn) (sx : Sat W0 w X) => usesW sx) (And.intro (fun (r : Nat) (gs : Nat → Nat) (w : World) (X : List Assn) (sx : Sat W0 w (obj r (.map (usesM gs) 10) :: X)) => usesLook s.kind sx) (fun (w : World) (X : List Assn) (g u : Nat) (t : OpS) (hi : 1 ≤ u ∧ u ≤ 6) (sx : Sat W0 w (seg true g 0 (skC t) :: X)) => useW u hi s t sx)))
 go_enter Tryz.func34, Tryz.ntmps34
 go_wp2_with (first | (refine wpl_box rfl 38 (.tmp 0) rfl (skC s) rfl hs ?_; intro w1 b s1 _; clear hs) | (refine wpl_alloc_agg rfl 38 rfl s1 (skC sk0) (zero_sk _) ?_; intro w2 ga s2' _; clear s1; have s2 : Sat W0 w2 (seg true b 0 (skC s) :: seg true ga 0 (skC sk0) :: L) := s2'.f; clear s2'; have o0 := s2.at 0 rfl; have zo := s2.lt (by simp)) | (refine wpl_build rfl 38 rfl (skV ⟨s.kind, 0, 0, 0, 0, 0, 0⟩) (by simp only [List.map_toArray, List.map_cons, List.map_nil]; exact build_sk1 _ _) ?_) | (refine wpl_alloc_agg rfl 38 rfl s2 (skC sk0) (zero_sk _) ?_; intro w3 gp s3 _; clear s2 o0 zo) | (refine wpl_stSk rfl rfl (.tmp 3) (.tmp 8) rfl (s' := ⟨s.kind, 0, 0, 0, 0, 0, 0⟩) s3 rfl rfl ?_; intro w4 s4'; clear s3; have s4 : Sat W0 w4 (seg true b 0 (skC s) :: seg true ga 0 (skC sk0) :: seg true gp 0 (skC ⟨s.kind, 0, 0, 0, 0, 0, 0⟩) :: L) := s4'.f; clear s4'))
 have s4d := s4.drew
 have hs4 : w4.drew.cell? ⟨b, 0, none⟩ = some (.int .u8 (s.kind : Int)) ∧ b < w4.drew.heap.size := ⟨s4d.at 0 rfl, s4d.lt (by simp)⟩
 refine region_E (fun w' => w'.cell? ⟨b, 0, none⟩ = some (.int .u8 (s.kind : Int)) ∧ b < w'.heap.size) [2] (by kernel_rfl) ?_
 have hHeld := hs4
 iterate 2
  first | refine autoT' hHeld (h := ?_) | refine autoP' (h := ?_)
  try simp only [pA1, pA2, pA3, pA4]
 refine anyE_pure (i := 5) (x := ?_) (v := ?_) ?_ (by kernel_rfl) (by kernel_rfl) (by kernel_rfl) ?_ ?_ ?_
 rotate_left 2
 ·(simp only [gE1, gE2, gE3]; rfl)
 ·exact fun _ _ _ h => h
 ·refine Or.inl ⟨by rfl, fun w hSw => ?_⟩
  (try dsimp only at hSw)
  go_simp
  try (with_reducible rfl)
 try simp only [pA1, pA2, pA3, pA4]
 refine anyE_one' (i := 0) (h := fun K hK => ?_)
 go_simp
 refine (HU.out.1 _ _ s4d).mono ?_
 rintro e w8 ⟨r, gs, rfl, s8⟩
 have hlk := HU.out.2.1 r gs w8 _ s8
 have hk8 : w8.cell? ⟨b, 0, none⟩ = some (.int .u8 (s.kind : Int)) ∧ b < w8.heap.size := ⟨(s8.pick [2]).at 0 rfl, (s8.pick [2]).lt (by simp)⟩
 go_wp2_with fail
 refine hK.out _ _ hk8 ?_
 clear hK K hHeld
 have hHeld := hk8
 try simp only [pA1, pA2, pA3, pA4]
 clear s4d hs4 s4
 refine anyE_last' (i := 3) (h := fun K hK => ?_)
 go_simp
 go_wp2_with fail
 refine hK.out _ _ ?_
 clear hK K
 try simp only [pA1, pA2, pA3, pA4]
 iterate 1
  first | refine autoT' hHeld (h := ?_) | refine autoP' (h := ?_)
  try simp only [pA1, pA2, pA3, pA4]
 refine anyE_done (by kernel_rfl) ?_ _
 clear hlk hk8
 obtain ⟨us, hus⟩ : ∃ us, us = usesOf s.kind := ⟨_, rfl⟩
 obtain ⟨n, hn⟩ : ∃ n, n = us.length := ⟨_, rfl⟩
 obtain ⟨p, hp⟩ : ∃ p, p = usesP gs s.kind := ⟨_, rfl⟩
 rw [← hus, ← hp, ← hn]
 have hle : n ≤ 5 := by
  rw [hn, hus]
  by_cases h : s.kind = 0 ∨ 10 < s.kind
  ·rw [usesOf_none h]; decide
  ·rcases kd_cases h with h | h | h | h | h | h | h | h | h | h <;> rw [h] <;> decide
 have HN := Lib.hid (And.intro hus (And.intro hn hp)); clear hus hn hp
 have s9 : Sat W0 w8 (seg true gp 0 (skC (foldU s (us.take 0))) :: seg true b 0 (skC s) :: seg true ga 0 (skC sk0) :: big (usesL gs) :: L) := by
  have h : Sat W0 w8 (seg true gp 0 (skC ⟨s.kind, 0, 0, 0, 0, 0, 0⟩) :: seg true b 0 (skC s) :: seg true ga 0 (skC sk0) :: big (usesL gs) :: L) := s8.f
  rw [List.take_zero]
  exact h
 clear s8
 go_wp2
 go_loopw [14] (fun t14 wr => ∃ i : Nat, i ≤ n ∧ t14 = .int .i64 (i : Int) ∧ Sat W0 wr (seg true gp 0 (skC (foldU s (us.take i))) :: seg true b 0 (skC s) :: seg true ga 0 (skC sk0) :: big (usesL gs) :: L)) (fun t14 _ => n - (intOf t14).toNat)
 case atStart => exact ⟨0, Nat.zero_le _, rfl, s9⟩
 case round =>
  clear s9
  obtain ⟨i, hi, rfl, sr⟩ := hrel
  by_cases hlt : i < n
  ·obtain ⟨u, hu⟩ : ∃ u, us[i]? = some u := ⟨us[i]'(by rw [← HN.out.2.1]; exact hlt), List.getElem?_eq_getElem _⟩
   have hfs := foldU_snoc s us i u hu
   have sx : Sat W0 wr (big (usesL gs) :: seg true gp 0 (skC (foldU s (us.take i))) :: seg true b 0 (skC s) :: seg true ga 0 (skC sk0) :: L) := sr.f
   obtain ⟨hc, hz, hpp, hu1, hu6⟩ := usesAt (kd := s.kind) (i := i) (u := u) (by rw [← HN.out.1]; exact hu) sx
   rw [← HN.out.2.2] at hpp
   subst hpp
   have sy : Sat W0 wr (seg true b 0 (skC s) :: seg true gp 0 (skC (foldU s (us.take i))) :: seg true ga 0 (skC sk0) :: big (usesL gs) :: L) := sr.f
   have hcf := useCall u
   have hwk := HU.out.2.2
   obtain ⟨fid, hfid⟩ : ∃ f, f = useF u := ⟨_, rfl⟩
   have hv : useV u = .func (.func fid) #[] #[] := by rw [hfid]; rfl
   rw [hv] at hc
   rw [← hfid] at hcf
   have hlt' : (i : Int) < (n : Int) := by omega
   have HX := Lib.hid (And.intro hfs (And.intro hfid (And.intro hu1 (And.intro hu6 hwk)))); clear hfs hfid hu1 hu6 hwk hv sx sr hu
   go_wp2_with (refine wpl_ldSk rfl (.tmp 1) rfl sy rfl ?_)
   rw [HX.out.2.1]
   refine (HX.out.2.2.2.2 _ (seg true b 0 (skC s) :: seg true ga 0 (skC sk0) :: big (usesL gs) :: L) gp u (foldU s (us.take i)) ⟨HX.out.2.2.1, HX.out.2.2.2.1⟩ sy.f).mono ?_
   rintro e w5 ⟨rfl, s5⟩
   rw [← HX.out.1] at s5
   have HS := Lib.hid s5; clear s5 sy hc hz hcf
   go_wp2_with fail
   go_roundw
   case measure => simp [intOf]; omega
   case rel => exact ⟨i + 1, by omega, by go_num, HS.out⟩
  ·obtain rfl : i = n := by omega
   have sr2 : Sat W0 wr (seg true gp 0 (skC (plainS s)) :: seg true ga 0 (skC sk0) :: L) := by
    have h : Sat W0 wr (seg true gp 0 (skC (foldU s (us.take i))) :: seg true ga 0 (skC sk0) :: L) := sr.f
    rw [HN.out.2.1, List.take_length, HN.out.1] at h
    exact h
   clear sr
   go_wp2_with (first | (refine wpl_ldSk rfl (.tmp 3) rfl sr2 rfl ?_; have sr3 : Sat W0 wr (seg true ga 0 (skC sk0) :: L) := sr2.tail; clear sr2) | (refine wpl_stSk rfl rfl (.tmp 2) (.tmp 22) rfl (s' := plainS s) sr3 rfl rfl ?_; intro w6 s6; clear sr3))
   have hr := skLd s6
   have HS := Lib.hid s6.tail; clear s6
   refine bodyPost_ret (v := skV (plainS s)) (by simp [results, Tryz.results34, asAddr]; exact hr) rfl ⟨rfl, HS.out⟩
end Go.Proofs.YtbefjaodpbgpcaaGreat
