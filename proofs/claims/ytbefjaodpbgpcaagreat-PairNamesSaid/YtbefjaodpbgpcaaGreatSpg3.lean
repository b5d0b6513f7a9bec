
/- The sponge: read once, its form; under the conditions that each names. -/
import Derived.Test.YtbefjaodpbgpcaaGreatSpg2
import Derived.Test.YtbefjaodpbgpcaaGreatGK
namespace Go.Sep
open Go.RowKit Go.Bv
set_option linter.unusedVariables false
set_option linter.unusedSimpArgs false
section
variable {P : Program} {T U : TypeId} {n : Nat}
theorem run_sliceBoth (hu : P.underlying T = some (.array n U)) (hz : (P.info? U).map (·.size) = some 1) (b o i j : Nat) (hi : i < n) (hij : i ≤ j) (hj : j ≤ n) (w : World) :
  (Instr.sliceAt T (.pointer (some ⟨b, o, none⟩)) (some (.int .i64 (i : Int))) (some (.int .i64 (j : Int))) none).run P w = .ok (.slice (some ⟨b, o + i, none⟩) (j - i) (n - i)) w := by
 cases hq : P.info? U with
 | none => simp [hq] at hz
 | some inf =>
  have hz' : inf.size = 1 := by simpa [hq] using hz
  have h2 : i ≤ n := by omega
  have h3 : ¬ n = i := by omega
  simp [Instr.sliceAt, Instr.sliceBounds, Instr.sliceBound, asIntOf, Instr.sureAddr, run_underlying hu, h2, h3, hij, hj, sizeOf, typeInfo, hq, hz', Addr.add]
theorem run_sliceCap (hu : P.underlying T = some (.array n U)) (hz : (P.info? U).map (·.size) = some 1) (b o : Nat) (hn : 0 < n) (w : World) :
  (Instr.sliceAt T (.pointer (some ⟨b, o, none⟩)) none (some (.int .i64 (n : Int))) (some (.int .i64 (n : Int)))).run P w = .ok (.slice (some ⟨b, o, none⟩) n n) w := by
 cases hq : P.info? U with
 | none => simp [hq] at hz
 | some inf =>
  have hz' : inf.size = 1 := by simpa [hq] using hz
  have h3 : ¬ n = 0 := by omega
  simp [Instr.sliceAt, Instr.sliceBounds, Instr.sliceBound, asIntOf, Instr.sureAddr, run_underlying hu, h3, sizeOf, typeInfo, hq, hz', Addr.add]
end
end Go.Sep
namespace Go.Proofs.YtbefjaodpbgpcaaGreat
open Go.RowKit Go.Sep Go.Bv Go.Kec
set_option linter.unusedVariables false
set_option linter.unusedSimpArgs false
set_option maxRecDepth 100000 in
set_option maxHeartbeats 4000000 in
theorem spRead {W0 w : World} {L : List Assn} {g r k : Nat} {pv : Value} (p : Option Nat) (rs : List Run3) (B : List Byte) (sf : Byte) (n : Nat) (hp : pv = ptrO p) (hB : B.length = 200) (hr : 0 < r) (hr2 : r ≤ 200) (hk : k < r) (hn0 : 0 < n) (hn : n ≤ r) (hb : tot rs + 1 ≤ 4611686018427387904) (hl : rs.length ≤ 4294967296)
  (hs : Sat W0 w (ledO p rs :: spS g B r (v8 sf) k false L)) :
  Calls Tryz.prog 181 #[.pointer (some ⟨g, 0, none⟩), pv, .int .i64 (n : Int)] w fun e w' => ∃ q, e = .returned (.tuple #[.slice (some ⟨q, 0, none⟩) n n, .int .i64 0]) ∧ Sat W0 w' (seg true q 0 (u8s ((spEnd r sf (B, k)).take n)) :: ledO p (note rs 3 200 1) :: L) := by
 subst hp
 obtain ⟨i3, hi3, hz3, hs3, hb3⟩ := info_parts Tryz.info_u8
 have hno := spNone hr (hs.f : Sat W0 w (seg true g 200 [.int .i64 (r : Int), .int .u8 (v8 sf), .int .i64 (k : Int), .bool false] :: []))
 have sT : Sat W0 w (seg true g 200 [.int .i64 (r : Int), .int .u8 (v8 sf), .int .i64 (k : Int), .bool false] :: []) := hs.f
 have z0 := satLt sT (by simp)
 have c0 : w.cell? ⟨g, 203, none⟩ = some (.bool false) := sT.cell (i := 3) rfl
 clear sT
 have hcl := spClose (pv := ptrO p) p rs B sf rfl hB hr hr2 hk hb hl hs
 have hEl : (spEnd r sf (B, k)).length = 200 := by unfold spEnd; exact perm_len _
 obtain ⟨E, hE⟩ : ∃ E, E = spEnd r sf (B, k) := ⟨_, rfl⟩
 rw [← hE] at hcl hEl ⊢
 have hTl : (E.take n).length = n := by rw [List.length_take, hEl]; omega
 have hput : putB (List.replicate n 0) 0 (E.take n) = E.take n := by
  unfold putB
  rw [List.take_zero, List.nil_append, hTl, List.drop_eq_nil_of_le (by simp), List.append_nil]
 obtain ⟨F, hF⟩ : ∃ F, F = E.take n := ⟨_, rfl⟩
 rw [← hF] at hTl hput ⊢
 have hsrc : ∀ (j : Nat) (v : Value), (u8s F)[j]? = some v → (u8s E)[j]? = some v := by
  intro j v hv
  rw [hF, ← u8s_take, List.getElem?_take] at hv
  split at hv
  ·exact hv
  ·cases hv
 have e0 : ((0 : Int) == (r : Int)) = false := by rw [beq_eq_false_iff_ne]; omega
 have hmin : F.length = Nat.min r n := by rw [hTl]; exact (Nat.min_eq_right hn).symm
 have hn2 : n ≤ 200 := by omega
 have hsl : ∀ w, (Instr.sliceAt 251 (.pointer (some ⟨g, 0, none⟩)) (some (.int .i64 0)) (some (.int .i64 (r : Int))) none).run Tryz.prog w = .ok (.slice (some ⟨g, 0, none⟩) r 200) w := fun w => run_sliceBoth (P := Tryz.prog) (T := 251) (U := 5) Tryz.underlying251 (by kernel_rfl) g 0 0 r (by decide) (by omega) hr2 w
 have HN := Lib.hid (And.intro hno (And.intro hcl (And.intro hEl (And.intro hTl (And.intro hput (And.intro hsrc hmin)))))); clear hno hcl hEl hTl hput hsrc hmin hE hF hs hB hk hb hl
 go_enter Tryz.func181, Tryz.ntmps181
 go_wp2_with fail
 refine HN.out.1.mono ?_
 rintro e w1 ⟨rfl, rfl⟩
 go_wp2_with fail
 refine HN.out.2.1.mono ?_
 rintro e w2 ⟨rfl, s2⟩
 clear c0 z0
 have s3 : Sat W0 w2 (spS g E r (v8 sf) 0 true (ledO p (note rs 3 200 1) :: L)) := s2.f
 clear s2
 go_wp2_with (refine wpl_make rfl 25 5 (.tmp 29) (.tmp 29) rfl Tryz.underlying25 hi3 hz3 hs3 hb3 rfl n rfl rfl (by omega) (by omega) s3 ?_; intro w4 q s4 _; rw [u8s_zero] at s4; clear s3)
 clear hi3 hz3 hs3 hb3
 go_loopw [9] (fun t9 wr => (t9 = .int .i64 0 ∧ Sat W0 wr (seg true q 0 (u8s (List.replicate n 0)) :: spS g E r (v8 sf) 0 true (ledO p (note rs 3 200 1) :: L))) ∨ (t9 = .int .i64 (n : Int) ∧ Sat W0 wr (seg true q 0 (u8s F) :: ledO p (note rs 3 200 1) :: L))) (fun t9 _ => n - (intOf t9).toNat)
 case atStart => exact .inl ⟨rfl, s4⟩
 case round =>
  clear s4
  rcases hrel with ⟨rfl, s⟩ | ⟨rfl, s⟩
  ·have sT : Sat W0 wr (seg true g 200 [.int .i64 (r : Int), .int .u8 (v8 sf), .int .i64 0, .bool true] :: seg true g 0 (u8s E) :: seg true q 0 (u8s (List.replicate n 0)) :: ledO p (note rs 3 200 1) :: L) := by
    have sT' : Sat W0 wr (seg true g 200 [.int .i64 (r : Int), .int .u8 (v8 sf), .int .i64 ((0 : Nat) : Int), .bool true] :: seg true g 0 (u8s E) :: seg true q 0 (u8s (List.replicate n 0)) :: ledO p (note rs 3 200 1) :: L) := s.f
    exact sT'
   clear s
   have hfact : ∀ wx X, Sat W0 wx (seg true g 200 [.int .i64 (r : Int), .int .u8 (v8 sf), .int .i64 0, .bool true] :: X) → (wx.cell? ⟨g, 202, none⟩ = some (.int .i64 0) ∧ wx.cell? ⟨g, 200, none⟩ = some (.int .i64 (r : Int)) ∧ g < wx.heap.size) := fun wx X h => ⟨h.cell (i := 2) rfl, h.cell (i := 0) rfl, satLt h (by simp)⟩
   obtain ⟨cp, cr, zg⟩ := hfact _ _ sT
   have HF := Lib.hid hfact; clear hfact
   have hlt : ((0 : Int) < (n : Int)) := by omega
   go_wp2_with fail
   go_quiet (fail)
   go_wp2_with fail
   have sQ := sT.drewN nq
   clear sT cp cr zg
   obtain ⟨w5, hw5⟩ : ∃ w5, w5 = wr.drewN nq := ⟨_, rfl⟩
   rw [← hw5] at sQ ⊢
   clear hw5
   refine region_E (fun w' => w'.cell? ⟨g, 202, none⟩ = some (.int .i64 0) ∧ w'.cell? ⟨g, 200, none⟩ = some (.int .i64 (r : Int)) ∧ g < w'.heap.size) [9, 13] (by kernel_rfl) ?_
   have hHeld := HF.out _ _ sQ.drew
   iterate 15
    first | refine autoT hHeld (by rfl) (by rfl) (x := ?_) (v := ?_) ?_ (by kernel_rfl) ?_ ?_ ?_ | refine autoP (by rfl) (x := ?_) (v := ?_) ?_ (by kernel_rfl) ?_ ?_ ?_
    rotate_left 2
    ·(simp only [gE1, gE2, gE3]; rfl)
    ·exact fun _ _ _ h => h
    ·refine Or.inl ⟨by rfl, fun w hSw => ?_⟩
     (try dsimp only at hSw)
     go_simp
     try (with_reducible rfl)
    try simp only [pA1, pA2, pA3, pA4]
   refine anyE_one (i := 15) (x := ?_) ?_ (by kernel_rfl) (fun K hK => ?_)
   rotate_left
   ·(simp only [gE1, gE2, gE3]; rfl)
   rw [if_pos (by rfl)]
   have sR : Sat W0 w5.drew (seg true q 0 (u8s (List.replicate n 0)) :: seg true g 0 (u8s E) :: seg true g 200 [.int .i64 (r : Int), .int .u8 (v8 sf), .int .i64 0, .bool true] :: ledO p (note rs 3 200 1) :: L) := sQ.drew.f
   have hnews := (sR.pull 1 : Sat W0 _ (seg true g 0 (u8s E) :: _)).news
   refine op_copy (.tmp 48) (.tmp 60) 25 25 rfl Tryz.underlying25 (by kernel_rfl) sR 0 0 n n r 200 (some ⟨g, 0, none⟩) (u8s F) (by first | rfl | (simp; done)) (by first | rfl | (simp; done)) (by omega) (by rw [u8s_len]; exact HN.out.2.2.2.2.2.2) (by rw [u8s_len, u8s_len, HN.out.2.2.2.1, List.length_replicate]; omega) (fun j v hv => hnews j v (HN.out.2.2.2.2.2.1 j v hv)) (u8s_one _) ?_
   intro w6 s6
   rw [setL_u8s _ _ _ (by rw [HN.out.2.2.2.1, List.length_replicate]; omega), HN.out.2.2.2.2.1] at s6
   rw [u8s_len, HN.out.2.2.2.1]
   try simp only [Act.put, List.setIfInBounds_toArray, List.set_cons_zero, List.set_cons_succ]
   have hK6 := HF.out _ _ (s6.f : Sat W0 w6 (seg true g 200 [.int .i64 (r : Int), .int .u8 (v8 sf), .int .i64 0, .bool true] :: []))
   refine hK.out _ _ hK6 ?_
   clear hK K hHeld sQ sR hnews hK6
   try simp only [pA1, pA2, pA3, pA4]
   iterate 1
    first | refine autoT hHeld (by rfl) (by rfl) (x := ?_) (v := ?_) ?_ (by kernel_rfl) ?_ ?_ ?_ | refine autoP (by rfl) (x := ?_) (v := ?_) ?_ (by kernel_rfl) ?_ ?_ ?_
    rotate_left 2
    ·(simp only [gE1, gE2, gE3]; rfl)
    ·exact fun _ _ _ h => h
    ·refine Or.inl ⟨by rfl, fun w hSw => ?_⟩
     (try dsimp only at hSw)
     go_simp
     try (with_reducible rfl)
    try simp only [pA1, pA2, pA3, pA4]
   refine anyE_done (by kernel_rfl) ?_ _
   have sC : Sat W0 w6 (seg true g 200 [.int .i64 (r : Int), .int .u8 (v8 sf), .int .i64 0, .bool true] :: seg true q 0 (u8s F) :: ledO p (note rs 3 200 1) :: L) := s6.f
   obtain ⟨cp, cr, zg⟩ := HF.out _ _ sC
   have fp : w6.frozen? ⟨g, 202, none⟩ = false := (sC.free (i := 2) (by simp)).1
   have sD := sC.store (i := 2) (by simp) (.int .i64 (n : Int)) (q := 202) rfl
   have hD := Lib.hid sD.tail; clear s6 sC sD
   go_wp2_with fail
   go_roundw
   case rel => exact .inr ⟨rfl, hD.out⟩
   case measure => simp [intOf]; omega
  ·have HS := Lib.hid s; clear s
   go_wp2_with fail
   exact bodyPost_ret (v := .tuple #[.slice (some ⟨q, 0, none⟩) n n, .int .i64 0]) (by simp [results, Tryz.results181, go_sem]) rfl ⟨q, rfl, HS.out⟩
/-- A sponge's form. -/
def spForm (B : List Byte) (k : Nat) (shut : Bool) : List Byte := B ++ [BitVec.ofNat 8 (k / 256), BitVec.ofNat 8 k, if shut then 1 else 0]
theorem spForm_len (B : List Byte) (k : Nat) (shut : Bool) (h : B.length = 200) : (spForm B k shut).length = 203 := by unfold spForm; rw [List.length_append, h]; rfl
set_option maxRecDepth 100000 in
set_option maxHeartbeats 4000000 in
theorem spFormOf {W0 w : World} {L : List Assn} {g r k : Nat} {suf : Int} (B : List Byte) (hB : B.length = 200) (hr : 0 < r) (hk : k < 256) (hs : Sat W0 w (spS g B r suf k false L)) :
  Calls Tryz.prog 178 #[.pointer (some ⟨g, 0, none⟩)] w fun e w' => ∃ q c, e = .returned (.slice (some ⟨q, 0, none⟩) 203 c) ∧ Sat W0 w' (row (some ⟨q, 0, none⟩) c 1 203 (u8s (spForm B k false)) :: spS g B r suf k false L) := by
 obtain ⟨i3, hi3, hz3, hs3, hb3⟩ := info_parts Tryz.info_u8
 have hno := spNone hr (hs.f : Sat W0 w (seg true g 200 [.int .i64 (r : Int), .int .u8 suf, .int .i64 (k : Int), .bool false] :: []))
 have hfact : ∀ wx X, Sat W0 wx (seg true g 200 [.int .i64 (r : Int), .int .u8 suf, .int .i64 (k : Int), .bool false] :: X) → (wx.cell? ⟨g, 202, none⟩ = some (.int .i64 (k : Int)) ∧ wx.cell? ⟨g, 203, none⟩ = some (.bool false) ∧ g < wx.heap.size) := fun wx X h => ⟨h.cell (i := 2) rfl, h.cell (i := 3) rfl, satLt h (by simp)⟩
 have hsl := fun w => run_sliceCap (P := Tryz.prog) (T := 251) (U := 5) Tryz.underlying251 (by kernel_rfl) g 0 (by decide) w
 have hsh : IntKind.u8.wrap ((k : Int) / 256) = 0 := by rw [IntKind.wrap_u8]; omega
 have hsh2 : (k : Int) / 256 = 0 := by omega
 have hk8 : IntKind.u8.wrap (k : Int) = (k : Int) := by rw [IntKind.wrap_u8]; omega
 have hb3v : u8s [BitVec.ofNat 8 (k / 256), BitVec.ofNat 8 k, 0] = [.int .u8 0, .int .u8 (k : Int), .int .u8 0] := by
  have h1 := v8_small k hk
  have h2 : k / 256 = 0 := by omega
  rw [h2]
  show [Value.int .u8 (v8 (BitVec.ofNat 8 0)), .int .u8 (v8 (BitVec.ofNat 8 k)), .int .u8 (v8 0)] = _
  rw [h1]
  rfl
 obtain ⟨T3, hT3⟩ : ∃ T3, T3 = [BitVec.ofNat 8 (k / 256), BitVec.ofNat 8 k, (0 : Byte)] := ⟨_, rfl⟩
 rw [← hT3] at hb3v
 have hT3l : T3.length = 3 := by rw [hT3]; rfl
 have hfin : spForm B k false = B ++ T3 := by rw [hT3]; rfl
 rw [hfin]
 have hs0 : Sat W0 w (spS g B r suf k false L) := hs
 have HN := Lib.hid (And.intro hno (And.intro hB (And.intro hfact (And.intro hb3v hT3l)))); clear hno hB hfact hb3v hT3l hT3 hfin hs0
 go_enter Tryz.func178, Tryz.ntmps178
 go_wp2_with fail
 refine HN.out.1.mono ?_
 rintro e w1 ⟨rfl, rfl⟩
 go_wp2_with fail
 refine region_E (fun w' => w'.cell? ⟨g, 202, none⟩ = some (.int .i64 (k : Int)) ∧ g < w'.heap.size) [7, 13] (by kernel_rfl) ?_
 have hHeld := (And.intro (HN.out.2.2.1 _ _ (hs.drew.f : Sat W0 w1.drew (seg true g 200 [.int .i64 (r : Int), .int .u8 suf, .int .i64 (k : Int), .bool false] :: []))).1 (HN.out.2.2.1 _ _ (hs.drew.f : Sat W0 w1.drew (seg true g 200 [.int .i64 (r : Int), .int .u8 suf, .int .i64 (k : Int), .bool false] :: []))).2.2)
 iterate 15
  first | refine autoT hHeld (by rfl) (by rfl) (x := ?_) (v := ?_) ?_ (by kernel_rfl) ?_ ?_ ?_ | refine autoP (by rfl) (x := ?_) (v := ?_) ?_ (by kernel_rfl) ?_ ?_ ?_
  rotate_left 2
  ·(simp only [gE1, gE2, gE3]; rfl)
  ·exact fun _ _ _ h => h
  ·refine Or.inl ⟨by rfl, fun w hSw => ?_⟩
   (try dsimp only at hSw)
   go_simp
   try (with_reducible rfl)
  try simp only [pA1, pA2, pA3, pA4]
 have sA : Sat W0 (w1.drew.alloc (.cells #[.int .u8 0, .int .u8 (k : Int), .int .u8 0] 5)) (seg true w1.drew.heap.size 0 (u8s T3) :: spS g B r suf k false L) := by rw [HN.out.2.2.2.1]; exact hs.drew.alloc #[.int .u8 0, .int .u8 (k : Int), .int .u8 0] 5
 refine anyE_one (i := 15) (x := ?_) ?_ (by kernel_rfl) (fun K hK => ?_)
 rotate_left
 ·(simp only [gE1, gE2, gE3]; rfl)
 go_simp
 skip
 go_wp2_with fail
 have hKp := (And.intro (HN.out.2.2.1 _ _ (sA.f : Sat W0 _ (seg true g 200 [.int .i64 (r : Int), .int .u8 suf, .int .i64 (k : Int), .bool false] :: []))).1 (HN.out.2.2.1 _ _ (sA.f : Sat W0 _ (seg true g 200 [.int .i64 (r : Int), .int .u8 suf, .int .i64 (k : Int), .bool false] :: []))).2.2)
 refine hK.out _ _ hKp ?_
 clear hK K hHeld
 have hHeld := hKp
 clear hKp
 try simp only [pA1, pA2, pA3, pA4]
 refine anyE_one (i := 16) (x := ?_) ?_ (by kernel_rfl) (fun K hK => ?_)
 rotate_left
 ·(simp only [gE1, gE2, gE3]; rfl)
 rw [if_pos (by rfl)]
 have sB : Sat W0 (w1.drew.alloc (.cells #[.int .u8 0, .int .u8 (k : Int), .int .u8 0] 5)) (seg true g 0 (u8s B) :: seg true w1.drew.heap.size 0 (u8s T3) :: seg true g 200 [.int .i64 (r : Int), .int .u8 suf, .int .i64 (k : Int), .bool false] :: L) := sA.f
 clear sA hs
 refine op_grow8 (.tmp 9) (.tmp 21) 25 5 rfl Tryz.underlying25 hi3 hz3 hs3 hb3 rfl (by first | rfl | (simp; done)) (by first | rfl | (simp; done)) sB HN.out.2.1 HN.out.2.2.2.2 (by decide) (by decide) ?_
 intro g7 c7 w7 s7
 try simp only [Act.put, List.setIfInBounds_toArray, List.set_cons_zero, List.set_cons_succ]
 have hK7 := HN.out.2.2.1 _ _ (s7.f : Sat W0 w7 (seg true g 200 [.int .i64 (r : Int), .int .u8 suf, .int .i64 (k : Int), .bool false] :: []))
 refine hK.out _ _ (And.intro hK7.1 hK7.2.2) ?_
 clear hK K sB hK7
 try simp only [pA1, pA2, pA3, pA4]
 iterate 1
  first | refine autoT hHeld (by rfl) (by rfl) (x := ?_) (v := ?_) ?_ (by kernel_rfl) ?_ ?_ ?_ | refine autoP (by rfl) (x := ?_) (v := ?_) ?_ (by kernel_rfl) ?_ ?_ ?_
  rotate_left 2
  ·(simp only [gE1, gE2, gE3]; rfl)
  ·exact fun _ _ _ h => h
  ·refine Or.inl ⟨by rfl, fun w hSw => ?_⟩
   (try dsimp only at hSw)
   go_simp
   try (with_reducible rfl)
  try simp only [pA1, pA2, pA3, pA4]
 refine anyE_done (by kernel_rfl) ?_ _
 have sZ : Sat W0 w7 (seg true g 200 [.int .i64 (r : Int), .int .u8 suf, .int .i64 (k : Int), .bool false] :: seg true g 0 (u8s B) :: row (some ⟨g7, 0, none⟩) c7 1 203 (u8s (B ++ T3)) :: L) := s7.f
 obtain ⟨cp, cs, zg⟩ := HN.out.2.2.1 _ _ sZ
 clear s7
 go_wp2_with fail
 have HS := Lib.hid sZ; clear sZ
 go_ret
 have sF := HS.out
 exact ⟨g7, c7, rfl, sF.f⟩
end Go.Proofs.YtbefjaodpbgpcaaGreat
