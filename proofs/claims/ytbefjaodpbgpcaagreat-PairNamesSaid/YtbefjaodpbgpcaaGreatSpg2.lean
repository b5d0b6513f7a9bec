
/- The sponge: made, copied, wiped, its form; under the conditions that each names. -/
import Derived.Test.YtbefjaodpbgpcaaGreatSpg
import Derived.Test.YtbefjaodpbgpcaaGreatGG
namespace Go.Sep
open Go.RowKit Go.Bv
set_option linter.unusedVariables false
set_option linter.unusedSimpArgs false
section
variable {P : Program} {o : Oper} {a : Act} {K : Act → World → Prop} {Q : Exit → Act → World → Prop} {W0 w : World} {L : List Assn}
/-- append onto a slice that is full: what it told stays as it was. -/
theorem op_grow8 (s x : Operand) (t e : TypeId) (ho : o.op = .call { callee := .builtin .append, args := #[s, x], argTypes := #[t, t] }) {i : TypeInfo} {z : Value} (ht : P.underlying t = some (.slice e)) (hi : P.info? e = some i) (hz : i.zero = some z) (hsize : i.size = 1) (hby : i.bytes = 1) (hzs : z.cells.size = 1)
  {m m2 : Bool} {b o1 n k c2 : Nat} {xs ys : List Byte} {b2 o2 : Nat} (hv : a.eval s = .slice (some ⟨b, o1, none⟩) n n) (hx : a.eval x = .slice (some ⟨b2, o2, none⟩) k c2) (hs : Sat W0 w (seg m b o1 (u8s xs) :: seg m2 b2 o2 (u8s ys) :: L)) (hn : xs.length = n) (hk : ys.length = k) (hk0 : 0 < k) (hb : n + k ≤ 140737488355328)
  (h : ∀ g' c' w', Sat W0 w' (row (some ⟨g', 0, none⟩) c' 1 (n + k) (u8s (xs ++ ys)) :: seg m b o1 (u8s xs) :: seg m2 b2 o2 (u8s ys) :: L) → K (a.put o.dst (.slice (some ⟨g', 0, none⟩) (n + k) c')) w') : Oper.wp P o a w K Q := by
 have h1 : ∀ j v, (u8s xs)[j]? = some v → w.cell? ((⟨b, o1, none⟩ : Addr).add j) = some v := fun j v hv => by rw [add_lit']; exact hs.cell hv
 have h2 : ∀ j v, (u8s ys)[j]? = some v → w.cell? ((⟨b2, o2, none⟩ : Addr).add j) = some v := fun j v hv => by rw [add_lit']; exact (hs.pull 1 : Sat W0 w (seg m2 b2 o2 (u8s ys) :: _)).cell hv
 have hr := run_append_grow (P := P) w t o.type e i z ht hi hz ⟨b, o1, none⟩ n n (u8s xs) (by rw [u8s_len, hsize, hn, Nat.mul_one]) h1 ⟨b2, o2, none⟩ k c2 (u8s ys) (by rw [u8s_len, hsize, hk, Nat.mul_one]) h2 (by omega) (by omega) (growslice_fits (by omega) (by rw [hby, Nat.mul_one]; exact hb))
 have hge := grownCap_ge w (n + k) n e
 have hal := hs.drew.alloc ((u8s xs).toArray ++ (u8s ys).toArray ++ Builtin.zeroCells z.cells (grownCap w (n + k) n e - (n + k))) e
 simp only [Array.toList_append] at hal
 have hfin := hal.rowMade (sz := 1) (n := n + k) (cap := grownCap w (n + k) n e) (xs := u8s xs ++ u8s ys) (by rw [List.length_append, u8s_len, u8s_len, hn, hk, Nat.mul_one]) (by
  rw [List.length_append, List.length_append, u8s_len, u8s_len, hn, hk, Array.length_toList, size_zeroCells, hzs, Nat.mul_one, Nat.mul_one]; omega) hge (grownCap_le_maxLen w _ _ e (by unfold maxLen; omega))
 rw [← u8s_append] at hfin
 unfold Oper.wp execOp
 simp only [ho, resolve, invoke, builtin, Sem.run_bind, Sem.run_pure, Result.andThen_ok, List.map_toArray, List.map_cons, List.map_nil, hv, hx, hr]
 exact h _ _ _ hfin
end
end Go.Sep
namespace Go.Proofs.YtbefjaodpbgpcaaGreat
open Go.RowKit Go.Sep Go.Bv Go.Kec
set_option linter.unusedVariables false
set_option linter.unusedSimpArgs false
theorem Tryz.size_sp : (Tryz.prog.info? 253).map (·.size) = some 204 := by kernel_rfl
def spTail (r suf k : Int) (shut : Bool) : List Value := [.int .i64 r, .int .u8 suf, .int .i64 k, .bool shut]
def spAll (B : List Byte) (r suf k : Int) (shut : Bool) : List Value := u8s B ++ spTail r suf k shut
theorem spAll_len (B : List Byte) (r suf k : Int) (shut : Bool) (h : B.length = 200) : (spAll B r suf k shut).length = 204 := by unfold spAll; rw [List.length_append, u8s_len, h]; rfl
theorem spAll_one (B : List Byte) (r suf k : Int) (shut : Bool) : ∀ u ∈ spAll B r suf k shut, u.oneCell' = true := by
 intro u hu
 unfold spAll at hu
 rcases List.mem_append.1 hu with h | h
 ·exact u8s_one _ u h
 ·unfold spTail at h
  simp only [List.mem_cons, List.not_mem_nil, or_false] at h
  rcases h with rfl | rfl | rfl | rfl <;> rfl
theorem spPart {W0 w : World} {L : List Assn} {g r k : Nat} {suf : Int} {shut : Bool} {B : List Byte} (hB : B.length = 200) (h : Sat W0 w (seg true g 0 (spAll B (r : Int) suf (k : Int) shut) :: L)) : Sat W0 w (spS g B r suf k shut L) :=
 Sat.part (xs := u8s B) (ys := spTail (r : Int) suf (k : Int) shut) h (by rw [u8s_len, hB])
theorem spJoin {W0 w : World} {L : List Assn} {g r k : Nat} {suf : Int} {shut : Bool} {B : List Byte} (hB : B.length = 200) (h : Sat W0 w (spS g B r suf k shut L)) : Sat W0 w (seg true g 0 (spAll B (r : Int) suf (k : Int) shut) :: L) :=
 Sat.join (xs := u8s B) (ys := spTail (r : Int) suf (k : Int) shut) h (by rw [u8s_len, hB])
theorem build_sp (r suf : Int) (w : World) : (Instr.build 253 #[(1, .int .i64 r), (2, .int .u8 suf)]).run Tryz.prog w = .ok (.agg (spAll nought200 r suf 0 false).toArray) w := by kernel_rfl
theorem build_sp0 (w : World) : (Instr.build 253 #[]).run Tryz.prog w = .ok (.agg (spAll nought200 0 0 0 false).toArray) w := by kernel_rfl
theorem zero_sp (w : World) : (zeroValue 253).run Tryz.prog w = .ok (.agg (spAll nought200 0 0 0 false).toArray) w := by kernel_rfl
set_option maxRecDepth 100000 in
set_option maxHeartbeats 1000000 in
theorem spNew {W0 w : World} {L : List Assn} {rv : Int} (r : Nat) (suf : Int) (hr : r = 168 ∨ r = 136) (hv : rv = (r : Int)) (hs : Sat W0 w L) :
  Calls Tryz.prog 172 #[.int .i64 rv, .int .u8 suf] w fun e w' => ∃ g, e = .returned (.tuple #[.pointer (some ⟨g, 0, none⟩), .int .i64 0]) ∧ Sat W0 w' (spS g nought200 r suf 0 false L) := by
 subst hv
 rcases hr with rfl | rfl
 all_goals
  have hbd := fun w r => build_sp r suf w
  go_enter Tryz.func172, Tryz.ntmps172
  go_wp2_with (first | (refine wpl_build rfl 253 rfl (.agg (spAll nought200 _ suf 0 false).toArray) (by simp only [List.map_toArray, List.map_cons, List.map_nil]; exact hbd _ _) ?_) | (refine wpl_box rfl 253 (.tmp 19) rfl (spAll nought200 _ suf 0 false) rfl hs ?_; intro w2 g s2 _))
  have s3 := spPart (k := 0) rfl s2
  have HS := Lib.hid s3; clear s3 s2 hs
  exact bodyPost_ret (v := .tuple #[.pointer (some ⟨g, 0, none⟩), .int .i64 0]) (by simp [results, Tryz.results172, go_sem]) rfl ⟨g, rfl, HS.out⟩
set_option maxHeartbeats 1000000 in
theorem spRate {W0 w : World} {L : List Assn} {g r : Nat} {x y z : Value} (hs : Sat W0 w (seg true g 200 [.int .i64 (r : Int), x, y, z] :: L)) :
  Calls Tryz.prog 140 #[.pointer (some ⟨g, 0, none⟩)] w fun e w' => e = .returned (.int .i64 (r : Int)) ∧ w' = w := by
 have c0 : w.cell? ⟨g, 200, none⟩ = some (.int .i64 (r : Int)) := hs.cell (i := 0) rfl
 have z0 := satLt hs (by simp)
 go_enter Tryz.func140, Tryz.ntmps140
 go_wp2
 go_ret
 exact ⟨rfl, rfl⟩
/-- A sponge's bytes behind Close. -/
def spPad (r : Nat) (sf : Byte) (s : SpSt) : List Byte :=
 (s.1.set s.2 (s.1.getD s.2 0 ^^^ sf)).set (r - 1) ((s.1.set s.2 (s.1.getD s.2 0 ^^^ sf)).getD (r - 1) 0 ^^^ 128)
theorem spPad_len (r : Nat) (sf : Byte) (s : SpSt) (h : s.1.length = 200) : (spPad r sf s).length = 200 := by unfold spPad; rw [List.length_set, List.length_set]; exact h
def spEnd (r : Nat) (sf : Byte) (s : SpSt) : List Byte := perm (spPad r sf s)
set_option maxRecDepth 100000 in
set_option maxHeartbeats 4000000 in
theorem spClose {W0 w : World} {L : List Assn} {g r k : Nat} {pv : Value} (p : Option Nat) (rs : List Run3) (B : List Byte) (sf : Byte) (hp : pv = ptrO p) (hB : B.length = 200) (hr : 0 < r) (hr2 : r ≤ 200) (hk : k < r) (hb : tot rs + 1 ≤ 4611686018427387904) (hl : rs.length ≤ 4294967296)
  (hs : Sat W0 w (ledO p rs :: spS g B r (v8 sf) k false L)) :
  Calls Tryz.prog 195 #[.pointer (some ⟨g, 0, none⟩), pv] w fun e w' => e = .returned (.int .i64 0) ∧ Sat W0 w' (ledO p (note rs 3 200 1) :: spS g (spEnd r sf (B, k)) r (v8 sf) 0 true L) := by
 subst hp
 have hno := spNone hr (hs.f : Sat W0 w (seg true g 200 [.int .i64 (r : Int), .int .u8 (v8 sf), .int .i64 (k : Int), .bool false] :: []))
 have sT : Sat W0 w (seg true g 200 [.int .i64 (r : Int), .int .u8 (v8 sf), .int .i64 (k : Int), .bool false] :: []) := hs.f
 have z0 := satLt sT (by simp)
 have c0 : w.cell? ⟨g, 203, none⟩ = some (.bool false) := sT.cell (i := 3) rfl
 have c1 : w.cell? ⟨g, 202, none⟩ = some (.int .i64 (k : Int)) := sT.cell (i := 2) rfl
 have c2 : w.cell? ⟨g, 201, none⟩ = some (.int .u8 (v8 sf)) := sT.cell (i := 1) rfl
 have c3 : w.cell? ⟨g, 200, none⟩ = some (.int .i64 (r : Int)) := sT.cell (i := 0) rfl
 clear sT
 have sB : Sat W0 w (seg true g 0 (u8s B) :: ledO p rs :: seg true g 200 [.int .i64 (r : Int), .int .u8 (v8 sf), .int .i64 (k : Int), .bool false] :: L) := hs.f
 have hk2 : k < 200 := by omega
 obtain ⟨q, hq⟩ : ∃ q, q = r - 1 := ⟨_, rfl⟩
 have hq2 : q < 200 := by omega
 have hq3 : IntKind.i64.wrap ((r : Int) - 1) = (q : Int) := by rw [IntKind.wrap_i64]; omega
 have ck := sB.at k (u8s_get B k (by rw [hB]; exact hk2))
 have fk := sB.fr k (by rw [u8s_len, hB]; exact hk2)
 obtain ⟨x, hx⟩ : ∃ x, x = B.getD k 0 := ⟨_, rfl⟩
 rw [← hx] at ck
 obtain ⟨C, hC⟩ : ∃ C, C = B.set k (x ^^^ sf) := ⟨_, rfl⟩
 have hCl : C.length = 200 := by rw [hC, List.length_set]; exact hB
 obtain ⟨y, hy⟩ : ∃ y, y = C.getD q 0 := ⟨_, rfl⟩
 have hpad : spPad r sf (B, k) = C.set q (y ^^^ 128) := by rw [hy, hC, hx, hq]; rfl
 have hend : spEnd r sf (B, k) = perm (C.set q (y ^^^ 128)) := by unfold spEnd; rw [hpad]
 obtain ⟨E, hE⟩ : ∃ E, E = spEnd r sf (B, k) := ⟨_, rfl⟩
 rw [← hE] at hend ⊢
 have hpm := fun (w : World) (s : Sat W0 w (ledO p rs :: seg true g 0 (u8s (C.set q (y ^^^ 128))) :: seg true g 200 [.int .i64 (r : Int), .int .u8 (v8 sf), .int .i64 (k : Int), .bool false] :: L)) => spPermute (pv := ptrO p) p rs _ rfl (by rw [List.length_set]; exact hCl) hb hl s
 rw [← hend] at hpm
 have hC0 : B.length = 200 := hB
 have HN := Lib.hid (And.intro hno (And.intro hB (And.intro hCl (And.intro hy (And.intro hC hpm))))); clear hno hB hCl hy hC hpm hpad hend hE hs hx hC0 hr hr2 hk hb hl hq
 go_enter Tryz.func195, Tryz.ntmps195
 go_wp2_with fail
 refine HN.out.1.mono ?_
 rintro e w1 ⟨rfl, rfl⟩
 go_wp2_with fail
 refine wp_region_quiet_tail_lit 16 (by kernel_rfl) (by kernel_rfl) ?_
 simp only [List.take_succ_cons, List.take_zero, List.drop_succ_cons, List.drop_zero]
 repeat (go_big_quiet_step (fail))
 refine wpQuiet_nil ?_
 rintro _ ⟨nr, rfl⟩
 go_wp2_with fail
 rw [vxor8]
 have st := (sB.drewN nr).store (i := k) (by rw [u8s_len, HN.out.2.1]; exact hk2) (.int .u8 (v8 (x ^^^ sf))) (q := k) (by simp)
 rw [u8s_set, ← HN.out.2.2.2.2.1] at st
 clear sB ck fk c0 c1 c2 c3 z0
 obtain ⟨w2, hw2⟩ : ∃ w2, w2 = (w1.drewN nr).setCell ⟨g, k, none⟩ (.int .u8 (v8 (x ^^^ sf))) := ⟨_, rfl⟩
 rw [← hw2] at st ⊢
 clear hw2
 have sT : Sat W0 w2 (seg true g 200 [.int .i64 (r : Int), .int .u8 (v8 sf), .int .i64 (k : Int), .bool false] :: []) := st.f
 have z0 := satLt sT (by simp)
 have c3 : w2.cell? ⟨g, 200, none⟩ = some (.int .i64 (r : Int)) := sT.cell (i := 0) rfl
 clear sT
 have cq := st.at q (u8s_get C q (by rw [HN.out.2.2.1]; exact hq2))
 have fq := st.fr q (by rw [u8s_len, HN.out.2.2.1]; exact hq2)
 rw [← HN.out.2.2.2.1] at cq
 refine wp_region_quiet_tail_lit 13 (by kernel_rfl) (by kernel_rfl) ?_
 simp only [List.take_succ_cons, List.take_zero, List.drop_succ_cons, List.drop_zero]
 repeat (go_big_quiet_step (fail))
 refine wpQuiet_nil ?_
 rintro _ ⟨nt, rfl⟩
 go_wp2_with fail
 have h128 : bits .xor .u8 (v8 y) 128 = v8 (y ^^^ 128) := vxor8 y 128
 rw [h128]
 have st2 := (st.drewN nt).store (i := q) (by rw [u8s_len, HN.out.2.2.1]; exact hq2) (.int .u8 (v8 (y ^^^ 128))) (q := q) (by simp)
 rw [u8s_set] at st2
 clear st cq fq c3 z0
 refine (HN.out.2.2.2.2.2 _ st2.f).mono ?_
 rintro e w3 ⟨rfl, s3⟩
 clear st2
 have s4 : Sat W0 w3 (seg true g 200 [.int .i64 (r : Int), .int .u8 (v8 sf), .int .i64 ((0 : Nat) : Int), .bool false] :: ledO p (note rs 3 200 1) :: seg true g 0 (u8s E) :: L) := s3.f
 have z0 := satLt s4 (by simp)
 have c3 : w3.cell? ⟨g, 203, none⟩ = some (.bool false) := s4.cell (i := 3) rfl
 have f3 : w3.frozen? ⟨g, 203, none⟩ = false := (s4.free (i := 3) (by simp)).1
 have s5 := s4.store (i := 3) (by simp) (.bool true) (q := 203) rfl
 have s6 : Sat W0 (w3.setCell ⟨g, 203, none⟩ (.bool true)) (seg true g 200 [.int .i64 (r : Int), .int .u8 (v8 sf), .int .i64 ((0 : Nat) : Int), .bool true] :: ledO p (note rs 3 200 1) :: seg true g 0 (u8s E) :: L) := s5
 have HS := Lib.hid (s6.f : Sat W0 (w3.setCell ⟨g, 203, none⟩ (.bool true)) (ledO p (note rs 3 200 1) :: spS g E r (v8 sf) 0 true L)); clear s3 s4 s5 s6
 go_wp2_with fail
 go_ret
 exact ⟨rfl, HS.out⟩
set_option maxRecDepth 100000 in
set_option maxHeartbeats 2000000 in
theorem spClone {W0 w : World} {L : List Assn} {g r k : Nat} {suf : Int} {shut : Bool} (B : List Byte) (hB : B.length = 200) (hr : 0 < r) (hs : Sat W0 w (spS g B r suf k shut L)) :
  Calls Tryz.prog 179 #[.pointer (some ⟨g, 0, none⟩)] w fun e w' => ∃ d, e = .returned (.tuple #[.pointer (some ⟨d, 0, none⟩), .int .i64 0]) ∧ Sat W0 w' (spS d B r suf k shut (spS g B r suf k shut L)) := by
 have hno := spNone hr (hs.f : Sat W0 w (seg true g 200 [.int .i64 (r : Int), .int .u8 suf, .int .i64 (k : Int), .bool shut] :: []))
 have sj := spJoin hB hs
 clear hs
 have hcl := spAll_len B (r : Int) suf (k : Int) shut hB
 have h1 := spAll_one B (r : Int) suf (k : Int) shut
 have hbk := fun (w : World) (L : List Assn) (g : Nat) (h : Sat W0 w (seg true g 0 (spAll B (r : Int) suf (k : Int) shut) :: L)) => spPart hB h
 obtain ⟨cs, hcs⟩ : ∃ cs, cs = spAll B (r : Int) suf (k : Int) shut := ⟨_, rfl⟩
 rw [← hcs] at sj hcl h1 hbk
 have ht : (cs.drop 0).take 204 = cs := by rw [List.drop_zero]; exact List.take_of_length_le (by omega)
 have hzl : (spAll nought200 0 0 0 false).length = 204 := spAll_len _ _ _ _ _ rfl
 have z0 := satLt sj (by rw [hcl]; decide)
 have HN := Lib.hid (And.intro hno (And.intro hcl (And.intro h1 (And.intro ht (And.intro hzl hbk))))); clear hno hcl h1 ht hzl hbk hcs hB hr
 go_enter Tryz.func179, Tryz.ntmps179
 go_wp2_with fail
 refine HN.out.1.mono ?_
 rintro e w1 ⟨rfl, rfl⟩
 go_wp2_with (first | (refine wpl_load_agg rfl 253 (.tmp 8) rfl Tryz.underlying253 rfl Tryz.size_sp sj 0 0 rfl rfl (by rw [HN.out.2.1]; exact Nat.le_refl _) ?_; rw [HN.out.2.2.2.1]) | (refine wpl_alloc_agg rfl 253 rfl sj _ (zero_sp _) ?_; intro w2 d s2 _) | (refine wpl_store_agg rfl rfl 253 (.tmp 4) (.tmp 9) rfl (cs := cs) s2 0 0 (by rw [HN.out.2.1]; exact Tryz.size_sp) rfl rfl rfl (by rw [HN.out.2.1, HN.out.2.2.2.2.1]; decide) HN.out.2.2.1 ?_; intro w3 s3; rw [setL_all _ _ (by rw [HN.out.2.1, HN.out.2.2.2.2.1])] at s3))
 have s4 := HN.out.2.2.2.2.2 _ _ _ s3
 have s5 := HN.out.2.2.2.2.2 _ _ _ (show Sat W0 w3 (seg true g 0 cs :: spS d B r suf k shut L) from s4.f)
 have HS := Lib.hid (s5.f : Sat W0 w3 (spS d B r suf k shut (spS g B r suf k shut L))); clear s4 s5 s3 s2 sj
 exact bodyPost_ret (v := .tuple #[.pointer (some ⟨d, 0, none⟩), .int .i64 0]) (by simp [results, Tryz.results179, go_sem]) rfl ⟨d, rfl, HS.out⟩
set_option maxRecDepth 100000 in
set_option maxHeartbeats 2000000 in
theorem spWipe {W0 w : World} {L : List Assn} {g r k : Nat} {suf : Int} {shut : Bool} {pv : Value} (p : Option Nat) (rs : List Run3) (B : List Byte) (hp : pv = ptrO p) (hB : B.length = 200) (hr : 0 < r) (hb : tot rs + 1 ≤ 4611686018427387904) (hl : rs.length ≤ 4294967296)
  (hs : Sat W0 w (ledO p rs :: spS g B r suf k shut L)) :
  Calls Tryz.prog 177 #[.pointer (some ⟨g, 0, none⟩), pv] w fun e w' => e = .returned (.int .i64 0) ∧ Sat W0 w' (ledO p (note rs 8 203 1) :: L) := by
 subst hp
 have hno := spNone hr (hs.f : Sat W0 w (seg true g 200 [.int .i64 (r : Int), .int .u8 suf, .int .i64 (k : Int), .bool shut] :: []))
 have hnt := fun (w : World) (X : List Assn) (s : Sat W0 w (ledO p rs :: X)) => noteOne p rs 8 203 s hb hl
 have sj : Sat W0 w (seg true g 0 (spAll B (r : Int) suf (k : Int) shut) :: ledO p rs :: L) := spJoin hB hs.f
 clear hs
 have hcl := spAll_len B (r : Int) suf (k : Int) shut hB
 obtain ⟨cs, hcs⟩ : ∃ cs, cs = spAll B (r : Int) suf (k : Int) shut := ⟨_, rfl⟩
 rw [← hcs] at sj hcl
 have hzl : (spAll nought200 0 0 0 false).length = 204 := spAll_len _ _ _ _ _ rfl
 have HN := Lib.hid (And.intro hno (And.intro hnt (And.intro hcl hzl))); clear hno hnt hcl hzl hcs hB hr
 go_enter Tryz.func177, Tryz.ntmps177
 go_wp2_with fail
 refine HN.out.1.mono ?_
 rintro e w1 ⟨rfl, rfl⟩
 go_wp2_with fail
 refine (HN.out.2.1 _ (seg true g 0 cs :: L) (sj.pull 1)).mono ?_
 rintro e w2 ⟨rfl, s2'⟩
 have s2 : Sat W0 w2 (seg true g 0 cs :: ledO p (note rs 8 203 1) :: L) := s2'.f
 clear s2' sj
 have z0 := satLt s2 (by rw [HN.out.2.2.1]; decide)
 go_wp2_with (first | (refine wpl_build rfl 253 rfl (.agg (spAll nought200 0 0 0 false).toArray) (build_sp0 _) ?_) | (refine wpl_store_agg rfl rfl 253 (.tmp 12) (.tmp 11) rfl (cs := spAll nought200 0 0 0 false) s2 0 0 (by rw [HN.out.2.2.2]; exact Tryz.size_sp) rfl rfl rfl (by rw [HN.out.2.2.2, HN.out.2.2.1]; decide) (spAll_one _ _ _ _ _) ?_; intro w3 s3))
 exact bodyPost_ret (v := .int .i64 0) (by simp [results, Tryz.results177, go_sem]) rfl ⟨rfl, s3.tail⟩
end Go.Proofs.YtbefjaodpbgpcaaGreat
