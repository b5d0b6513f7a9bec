/- Idl4, Idl5, Idl6, Idl7: texts that lie apart elsewhere, as one; each under the conditions that it names. -/
import Derived.Test.YtpiiklfnakkdiaaGreatHD
import Derived.Test.YtpiiklfnakkdiaaGreatHeldE

/- The ideal vault: refusals, copies, what stands under a handle; under the conditions that each names. -/
namespace Go.Proofs.YtpiiklfnakkdiaaGreat
open Go.RowKit Go.Sep Go.Bv Go.Kec Go.Aes Go.Sha
set_option linter.unusedVariables false
set_option linter.unusedSimpArgs false
abbrev ans0 : List Value := [.int .i64 0, .int .i64 0, .bool false, .slice none 0 0]
theorem zero_ans (w : World) : (zeroValue 35).run Tryz.prog w = .ok (.agg ans0.toArray) w := by kernel_rfl
theorem Tryz.size_ans : (Tryz.prog.info? 35).map (·.size) = some 4 := by kernel_rfl
theorem Tryz.size_hold : (Tryz.prog.info? 49).map (·.size) = some 6 := by kernel_rfl
theorem ans_one (a b : Int) (c : Bool) (p : Option Addr) (n k : Nat) : ∀ v ∈ [Value.int .i64 a, .int .i64 b, .bool c, .slice p n k], v.oneCell' = true := by
 intro v hv; simp only [List.mem_cons, List.not_mem_nil, or_false] at hv; rcases hv with rfl | rfl | rfl | rfl <;> rfl
theorem ansLd {W0 w : World} {L : List Assn} {ga : Nat} {a b : Int} {c : Bool} {p : Option Addr} {n k : Nat} (ss : Sat W0 w (seg true ga 0 [.int .i64 a, .int .i64 b, .bool c, .slice p n k] :: L)) : Sem.run Tryz.prog (loadVar 35 ⟨ga, 0, none⟩) w = Result.ok (.agg #[.int .i64 a, .int .i64 b, .bool c, .slice p n k]) w :=
 run_loadVar_agg (P := Tryz.prog) (ty := 35) Tryz.underlying35 rfl Tryz.size_ans ss 0 0 rfl (Nat.le_refl 4)
theorem wpl_stAns {W0 w : World} {L : List Assn} {ops : Array Oper} {Q : Exit → Act → World → Prop} {o : Oper} {rest : List Oper} {a : Act} (hgd : o.guard = none) (hdst : o.dst = none) (x y : Operand) (ho : o.op = .store 35 x y) {ga : Nat} {v0 v1 v2 v3 : Value} {c h : Int} {s : Bool} {q : Option Addr} {n k : Nat}
  (hs : Sat W0 w (seg true ga 0 [v0, v1, v2, v3] :: L)) (hx : a.eval x = .pointer (some ⟨ga, 0, none⟩)) (hy : a.eval y = .agg #[.int .i64 c, .int .i64 h, .bool s, .slice q n k])
  (H : ∀ w', Sat W0 w' (seg true ga 0 [.int .i64 c, .int .i64 h, .bool s, .slice q n k] :: L) → wpList Tryz.prog ops Q rest a w') : wpList Tryz.prog ops Q (o :: rest) a w := by
 refine wpl_store_agg hgd hdst 35 x y ho (cs := [.int .i64 c, .int .i64 h, .bool s, .slice q n k]) hs 0 0 Tryz.size_ans hx hy rfl (Nat.le_refl 4) (ans_one _ _ _ _ _ _) ?_
 intro w' ss
 rw [setL_all _ _ (by rfl)] at ss
 exact H w' ss
set_option maxHeartbeats 1000000 in
theorem iNo {W0 w : World} {L : List Assn} (e : Int) (hs : Sat W0 w L) :
  Calls Tryz.prog 27 #[.int .i64 e] w fun x w' => x = .returned (.agg #[.int .i64 e, .int .i64 0, .bool false, .slice none 0 0]) ∧ Sat W0 w' L := by
 go_enter Tryz.func27, Tryz.ntmps27
 go_wp2_with (first | (refine wpl_alloc_agg rfl 35 rfl hs _ (zero_ans _) ?_; intro w1 g s1 _; clear hs) | (refine wpl_store_agg rfl rfl 35 (.tmp 2) (.tmp 4) rfl (cs := [.int .i64 e, .int .i64 0, .bool false, .slice none 0 0]) s1 0 0 Tryz.size_ans rfl rfl rfl (Nat.le_refl 4) (ans_one _ _ _ _ _ _) ?_; intro w2 s2; rw [setL_all _ _ (by rfl)] at s2; clear s1))
 have hr := run_loadVar_agg (P := Tryz.prog) (ty := 35) Tryz.underlying35 rfl Tryz.size_ans s2 0 0 rfl (Nat.le_refl 4)
 have hr2 : Sem.run Tryz.prog (loadVar 35 ⟨g, 0, none⟩) w2 = Result.ok (.agg #[.int .i64 e, .int .i64 0, .bool false, .slice none 0 0]) w2 := hr
 have HS := Lib.hid s2.tail; clear s2 hr
 refine bodyPost_ret (v := .agg #[.int .i64 e, .int .i64 0, .bool false, .slice none 0 0]) (by simp [results, Tryz.results27, asAddr]; exact hr2) rfl ⟨rfl, HS.out⟩
set_option maxRecDepth 100000 in
set_option maxHeartbeats 4000000 in
theorem iCopied {W0 w : World} {L : List Assn} {mk mc mm : Bool} {kp cp mp : Option Addr} {nk ck nc cc nm cm : Nat} (i : Nat) (H : Hold) (hk : H.kb.length = nk) (hc : H.cb.length = nc) (hm : H.mb.length = nm) (bk : nk ≤ 1000000000) (bc : nc ≤ 1000000000) (bm : nm ≤ 1000000000)
  (hs : Sat W0 w (bytes mk kp H.kb :: bytes mc cp H.cb :: bytes mm mp H.mb :: L)) :
  Calls Tryz.prog 28 #[.agg #[.int .i64 (i : Int), .int .u8 (H.alg : Int), .int .i64 (H.out : Int), .slice kp nk ck, .slice cp nc cc, .slice mp nm cm]] w fun e w' => ∃ g, e = .returned (.pointer (some ⟨g, 0, none⟩)) ∧ Sat W0 w' (holdA g i H :: bytes mk kp H.kb :: bytes mc cp H.cb :: bytes mm mp H.mb :: L) := by
 have HL := Lib.hid (And.intro hk (And.intro hc hm)); clear hk hc hm
 obtain ⟨al, hal⟩ : ∃ al, al = H.alg := ⟨_, rfl⟩
 obtain ⟨ou, hou⟩ : ∃ ou, ou = H.out := ⟨_, rfl⟩
 rw [← hal, ← hou]
 have HA := Lib.hid (And.intro hal hou); clear hal hou
 have hS : ∀ g wx X, Sat W0 wx (seg true g 0 [.int .i64 (i : Int), .int .u8 (al : Int), .int .i64 (ou : Int), .slice kp nk ck, .slice cp nc cc, .slice mp nm cm] :: X) → wx.cell? ⟨g, 3, none⟩ = some (.slice kp nk ck) ∧ wx.cell? ⟨g, 4, none⟩ = some (.slice cp nc cc) ∧ wx.cell? ⟨g, 5, none⟩ = some (.slice mp nm cm) ∧ g < wx.heap.size := fun g wx X h => ⟨h.at 3 rfl, h.at 4 rfl, h.at 5 rfl, h.lt (by simp)⟩
 have HSS := Lib.hid hS; clear hS
 go_enter Tryz.func28, Tryz.ntmps28
 go_wp2_with (refine wpl_box rfl 49 (.tmp 0) rfl [.int .i64 (i : Int), .int .u8 (al : Int), .int .i64 (ou : Int), .slice kp nk ck, .slice cp nc cc, .slice mp nm cm] rfl hs ?_; intro w1 g s1 _; clear hs)
 have s1d := s1.drew
 refine region_E (fun w' => w'.cell? ⟨g, 3, none⟩ = some (.slice kp nk ck) ∧ w'.cell? ⟨g, 4, none⟩ = some (.slice cp nc cc) ∧ w'.cell? ⟨g, 5, none⟩ = some (.slice mp nm cm) ∧ g < w'.heap.size) [1, 4, 7] (by kernel_rfl) ?_
 have hHeld := HSS.out _ _ _ s1d
 iterate 6
  first | refine autoT hHeld (by rfl) (by rfl) (x := ?_) (v := ?_) ?_ (by kernel_rfl) ?_ ?_ ?_ | refine autoP (by rfl) (x := ?_) (v := ?_) ?_ (by kernel_rfl) ?_ ?_ ?_
  rotate_left 2
  ·(simp only [gE1, gE2, gE3]; rfl)
  ·exact fun _ _ _ h => h
  ·refine Or.inl ⟨by rfl, fun w hSw => ?_⟩
   (try dsimp only at hSw)
   go_simp
   try (with_reducible rfl)
  try simp only [pA1, pA2, pA3, pA4]
 refine anyE_one (i := 2) (x := ?_) ?_ (by kernel_rfl) (fun K hK => ?_)
 rotate_left
 ·(simp only [gE1, gE2, gE3]; rfl)
 go_simp
 refine (bClone H.kb HL.out.1 (by omega) ((Sat.sub (s1d) (by with_reducible repeat first | exact Fr1 | exact Fr2 | (apply Fr3; focus ((repeat (first | exact Tk1 | apply Tk2)); done)) | apply Fr4)) : Sat W0 _ (bytes mk kp H.kb :: bytes mc cp H.cb :: bytes mm mp H.mb :: seg true g 0 [.int .i64 (i : Int), .int .u8 (al : Int), .int .i64 (ou : Int), .slice kp nk ck, .slice cp nc cc, .slice mp nm cm] :: L))).mono ?_
 rintro e w2 ⟨x1, c1, rfl, s2⟩
 have hk2 := HSS.out g w2 _ ((Sat.sub (s2) (by with_reducible repeat first | exact Fr1 | exact Fr2 | (apply Fr3; focus ((repeat (first | exact Tk1 | apply Tk2)); done)) | apply Fr4)) : Sat W0 w2 (seg true g 0 [.int .i64 (i : Int), .int .u8 (al : Int), .int .i64 (ou : Int), .slice kp nk ck, .slice cp nc cc, .slice mp nm cm] :: []))
 go_wp2_with fail
 refine hK.out _ _ hk2 ?_
 clear hK K hHeld
 have hHeld := hk2
 try simp only [pA1, pA2, pA3, pA4]
 clear s1 s1d
 refine anyE_one (i := 5) (x := ?_) ?_ (by kernel_rfl) (fun K hK => ?_)
 rotate_left
 ·(simp only [gE1, gE2, gE3]; rfl)
 go_simp
 refine (bClone H.cb HL.out.2.1 (by omega) ((Sat.sub (s2) (by with_reducible repeat first | exact Fr1 | exact Fr2 | (apply Fr3; focus ((repeat (first | exact Tk1 | apply Tk2)); done)) | apply Fr4)) : Sat W0 _ (bytes mc cp H.cb :: row x1 c1 1 nk (u8s H.kb) :: bytes mk kp H.kb :: bytes mm mp H.mb :: seg true g 0 [.int .i64 (i : Int), .int .u8 (al : Int), .int .i64 (ou : Int), .slice kp nk ck, .slice cp nc cc, .slice mp nm cm] :: L))).mono ?_
 rintro e w3 ⟨x2, c2, rfl, s3⟩
 have hk3 := HSS.out g w3 _ ((Sat.sub (s3) (by with_reducible repeat first | exact Fr1 | exact Fr2 | (apply Fr3; focus ((repeat (first | exact Tk1 | apply Tk2)); done)) | apply Fr4)) : Sat W0 w3 (seg true g 0 [.int .i64 (i : Int), .int .u8 (al : Int), .int .i64 (ou : Int), .slice kp nk ck, .slice cp nc cc, .slice mp nm cm] :: []))
 go_wp2_with fail
 refine hK.out _ _ hk3 ?_
 clear hK K hHeld
 have hHeld := hk3
 try simp only [pA1, pA2, pA3, pA4]
 clear s2 hk2
 refine anyE_one (i := 8) (x := ?_) ?_ (by kernel_rfl) (fun K hK => ?_)
 rotate_left
 ·(simp only [gE1, gE2, gE3]; rfl)
 go_simp
 refine (bClone H.mb HL.out.2.2 (by omega) ((Sat.sub (s3) (by with_reducible repeat first | exact Fr1 | exact Fr2 | (apply Fr3; focus ((repeat (first | exact Tk1 | apply Tk2)); done)) | apply Fr4)) : Sat W0 _ (bytes mm mp H.mb :: row x2 c2 1 nc (u8s H.cb) :: row x1 c1 1 nk (u8s H.kb) :: bytes mk kp H.kb :: bytes mc cp H.cb :: seg true g 0 [.int .i64 (i : Int), .int .u8 (al : Int), .int .i64 (ou : Int), .slice kp nk ck, .slice cp nc cc, .slice mp nm cm] :: L))).mono ?_
 rintro e w4 ⟨x3, c3, rfl, s4'⟩
 have s4 : Sat W0 w4 (seg true g 0 [.int .i64 (i : Int), .int .u8 (al : Int), .int .i64 (ou : Int), .slice kp nk ck, .slice cp nc cc, .slice mp nm cm] :: row x1 c1 1 nk (u8s H.kb) :: row x2 c2 1 nc (u8s H.cb) :: row x3 c3 1 nm (u8s H.mb) :: bytes mk kp H.kb :: bytes mc cp H.cb :: bytes mm mp H.mb :: L) := (Sat.sub (s4') (by with_reducible repeat first | exact Fr1 | exact Fr2 | (apply Fr3; focus ((repeat (first | exact Tk1 | apply Tk2)); done)) | apply Fr4))
 have hk4 := HSS.out g w4 _ s4
 go_wp2_with fail
 refine hK.out _ _ hk4 ?_
 clear hK K hHeld
 have hHeld := hk4
 try simp only [pA1, pA2, pA3, pA4]
 clear s3 s4' hk3
 have f3 := s4.fr 3 (by simp)
 have f4 := s4.fr 4 (by simp)
 have f5 := s4.fr 5 (by simp)
 iterate 1
  first | refine autoT hHeld (by rfl) (by rfl) (x := ?_) (v := ?_) ?_ (by kernel_rfl) ?_ ?_ ?_ | refine autoP (by rfl) (x := ?_) (v := ?_) ?_ (by kernel_rfl) ?_ ?_ ?_
  rotate_left 2
  ·(simp only [gE1, gE2, gE3]; rfl)
  ·exact fun _ _ _ h => h
  ·refine Or.inl ⟨by rfl, fun w hSw => ?_⟩
   (try dsimp only at hSw)
   go_simp
   try (with_reducible rfl)
  try simp only [pA1, pA2, pA3, pA4]
 refine anyE_last (i := 10) (x := ?_) ?_ (by kernel_rfl) (by kernel_rfl) (fun K hK => ?_)
 rotate_left
 ·(simp only [gE1, gE2, gE3]; rfl)
 go_simp
 refine hK.out _ _ ?_
 clear hK K
 try simp only [pA1, pA2, pA3, pA4]
 iterate 1
  first | refine autoT hHeld (by rfl) (by rfl) (x := ?_) (v := ?_) ?_ (by kernel_rfl) ?_ ?_ ?_ | refine autoP (by rfl) (x := ?_) (v := ?_) ?_ (by kernel_rfl) ?_ ?_ ?_
  rotate_left 2
  ·(simp only [gE1, gE2, gE3]; rfl)
  ·exact fun _ _ _ h => h
  ·refine Or.inl ⟨by rfl, fun w hSw => ?_⟩
   (try dsimp only at hSw)
   go_simp
   try (with_reducible rfl)
  try simp only [pA1, pA2, pA3, pA4]
 refine anyE_last (i := 12) (x := ?_) ?_ (by kernel_rfl) (by kernel_rfl) (fun K hK => ?_)
 rotate_left
 ·(simp only [gE1, gE2, gE3]; rfl)
 go_simp
 refine hK.out _ _ ?_
 clear hK K
 try simp only [pA1, pA2, pA3, pA4]
 iterate 1
  first | refine autoT hHeld (by rfl) (by rfl) (x := ?_) (v := ?_) ?_ (by kernel_rfl) ?_ ?_ ?_ | refine autoP (by rfl) (x := ?_) (v := ?_) ?_ (by kernel_rfl) ?_ ?_ ?_
  rotate_left 2
  ·(simp only [gE1, gE2, gE3]; rfl)
  ·exact fun _ _ _ h => h
  ·refine Or.inl ⟨by rfl, fun w hSw => ?_⟩
   (try dsimp only at hSw)
   go_simp
   try (with_reducible rfl)
  try simp only [pA1, pA2, pA3, pA4]
 refine anyE_last (i := 14) (x := ?_) ?_ (by kernel_rfl) (by kernel_rfl) (fun K hK => ?_)
 rotate_left
 ·(simp only [gE1, gE2, gE3]; rfl)
 go_simp
 refine hK.out _ _ ?_
 clear hK K
 try simp only [pA1, pA2, pA3, pA4]
 have s8' := ((s4.store (i := 3) (by simp) (.slice x1 nk c1) (q := 3) rfl).store (i := 4) (by simp) (.slice x2 nc c2) (q := 4) rfl).store (i := 5) (by simp) (.slice x3 nm c3) (q := 5) rfl
 have s8 : Sat W0 _ (row x1 c1 1 nk (u8s H.kb) :: row x2 c2 1 nc (u8s H.cb) :: seg true g 0 [.int .i64 (i : Int), .int .u8 (al : Int), .int .i64 (ou : Int), .slice x1 nk c1, .slice x2 nc c2, .slice x3 nm c3] :: row x3 c3 1 nm (u8s H.mb) :: bytes mk kp H.kb :: bytes mc cp H.cb :: bytes mm mp H.mb :: L) := s8'.sub (.cons (.there .here) (.cons (.there .here) (.cons .here .done)))
 clear s4 s8' f3 f4 f5 hk4
 refine anyE_done (by kernel_rfl) ?_ _
 have HS := Lib.hid s8; clear s8
 go_wp2_with fail
 go_ret
 refine ⟨g, rfl, ?_⟩
 have s9 := HS.out
 obtain ⟨w9, hw9⟩ : ∃ w9, w9 = ((w4.setCell ⟨g, 3, none⟩ (.slice x1 nk c1)).setCell ⟨g, 4, none⟩ (.slice x2 nc c2)).setCell ⟨g, 5, none⟩ (.slice x3 nm c3) := ⟨_, rfl⟩
 rw [← hw9] at s9 ⊢
 clear hw9
 obtain ⟨l1, a1, b1, s10⟩ := rowBytes s9
 obtain ⟨l2, a2, b2, s11⟩ := rowBytes ((Sat.sub (s10) (by with_reducible repeat first | exact Fr1 | exact Fr2 | (apply Fr3; focus ((repeat (first | exact Tk1 | apply Tk2)); done)) | apply Fr4)) : Sat W0 w9 (row x2 c2 1 nc (u8s H.cb) :: bytes true x1 H.kb :: seg true g 0 [.int .i64 (i : Int), .int .u8 (al : Int), .int .i64 (ou : Int), .slice x1 nk c1, .slice x2 nc c2, .slice x3 nm c3] :: row x3 c3 1 nm (u8s H.mb) :: bytes mk kp H.kb :: bytes mc cp H.cb :: bytes mm mp H.mb :: L))
 have s12 : Sat W0 w9 (holdL g i H ⟨x1, c1, x2, c2, x3, c3⟩ (bytes mk kp H.kb :: bytes mc cp H.cb :: bytes mm mp H.mb :: L)) := by
  unfold holdL holdC
  rw [HL.out.1, HL.out.2.1, HL.out.2.2, ← HA.out.1, ← HA.out.2]
  exact (Sat.sub (s11) (by with_reducible repeat first | exact Fr1 | exact Fr2 | (apply Fr3; focus ((repeat (first | exact Tk1 | apply Tk2)); done)) | apply Fr4))
 exact holdShut ⟨x1, c1, x2, c2, x3, c3⟩ ⟨by rw [HL.out.1]; exact a1, b1, by rw [HL.out.2.1]; exact a2, b2⟩ s12
end Go.Proofs.YtpiiklfnakkdiaaGreat

/- The ideal vault: what stands under a handle; a thing is taken in; under the conditions that each names. -/
namespace Go.Proofs.YtpiiklfnakkdiaaGreat
open Go.RowKit Go.Sep Go.Bv Go.Kec Go.Aes Go.Sha
set_option linter.unusedVariables false
set_option linter.unusedSimpArgs false
theorem cellsT_len (T : Held) : (cellsT T).length = T.length := by simp [cellsT]
theorem namesT_len (T : Held) : (namesT T).length = T.length := by simp [namesT]
theorem namesT_get {T : Held} {k : Nat} {x : Option (Nat × Hold)} (h : T[k]? = some x) : (namesT T)[k]? = some (x.map Prod.snd) := by simp [namesT, h]
theorem cellsT_get {T : Held} {k : Nat} {x : Option (Nat × Hold)} (h : T[k]? = some x) : (Value.bool true :: cellsT T)[1 + k]? = some (ptrO (x.map Prod.fst)) := by rw [Nat.add_comm]; simp [cellsT, h]
theorem namesT_none {T : Held} {k : Nat} (h : (namesT T)[k]? = some none) : T[k]? = some none := by
 simp only [namesT, List.getElem?_map, Option.map_eq_some_iff] at h
 obtain ⟨a, h1, h2⟩ := h
 cases a with
 | none => exact h1
 | some a => cases h2
theorem namesT_some {T : Held} {k : Nat} {H : Hold} (h : (namesT T)[k]? = some (some H)) : ∃ p, T[k]? = some (some (p, H)) := by
 simp only [namesT, List.getElem?_map, Option.map_eq_some_iff] at h
 obtain ⟨a, h1, h2⟩ := h
 cases a with
 | none => exact absurd h2 (by simp)
 | some a =>
  obtain ⟨p, H'⟩ := a
  have h3 : H' = H := by simpa using h2
  exact ⟨p, by rw [h1, h3]⟩
theorem neNat (al : Nat) : ((al : Int) != 0) = (al != 0) := by
 rcases Nat.eq_zero_or_pos al with h0 | h0
 ·subst h0; rfl
 ·have e1 : ((al : Int) != 0) = true := by rw [bne_iff_ne]; omega
  have e2 : (al != 0) = true := by rw [bne_iff_ne]; omega
  rw [e1, e2]
theorem holdAlg {W0 w : World} {L : List Assn} {p i : Nat} {H : Hold} (h : Sat W0 w (holdA p i H :: L)) : w.cell? ⟨p, 1, none⟩ = some (.int .u8 (H.alg : Int)) ∧ w.cell? ⟨p, 2, none⟩ = some (.int .i64 (H.out : Int)) ∧ p < w.heap.size := by
 obtain ⟨q, _, s⟩ := holdOpen h
 exact ⟨s.at 1 rfl, s.at 2 rfl, s.lt (by simp)⟩
set_option maxRecDepth 100000 in
set_option maxHeartbeats 4000000 in
theorem iAtW {W0 w : World} {L : List Assn} {v : Nat} (T : Held) (hT : T.length = 64) (h : Int) (sess : Bool) (hs : Sat W0 w (seg true v 0 (.bool true :: cellsT T) :: slotsA 0 T :: L)) :
  Calls Tryz.prog 63 #[.pointer (some ⟨v, 0, none⟩), .int .i64 h, .bool sess] w fun e w' => w' = w ∧
   ((∃ c, iAt (namesT T) h sess = (c, none) ∧ (c = 5 ∨ c = 6) ∧ e = .returned (.tuple #[.pointer none, .int .i64 c])) ∨
    (∃ p H, 0 ≤ h ∧ h < 64 ∧ iAt (namesT T) h sess = (0, some H) ∧ T[h.toNat]? = some (some (p, H)) ∧ (H.alg != 0) = sess ∧ e = .returned (.tuple #[.pointer (some ⟨p, 0, none⟩), .int .i64 0]))) := by
 have hc := iAt_cases (namesT T) (by rw [namesT_len, hT]) h sess
 have z0 := hs.lt (by simp)
 have hno : ∀ c : Int, iAt (namesT T) h sess = (c, none) → (c = 5 ∨ c = 6) → Calls Tryz.prog 63 #[.pointer (some ⟨v, 0, none⟩), .int .i64 h, .bool sess] w (fun e w' => e = .returned (.tuple #[.pointer none, .int .i64 c]) ∧ w' = w) → _ := fun c h1 h2 h3 => h3.mono (fun e w' he => (⟨he.2, .inl ⟨c, h1, h2, he.1⟩⟩ : w' = w ∧
   ((∃ c, iAt (namesT T) h sess = (c, none) ∧ (c = 5 ∨ c = 6) ∧ e = .returned (.tuple #[.pointer none, .int .i64 c])) ∨
    (∃ p H, 0 ≤ h ∧ h < 64 ∧ iAt (namesT T) h sess = (0, some H) ∧ T[h.toNat]? = some (some (p, H)) ∧ (H.alg != 0) = sess ∧ e = .returned (.tuple #[.pointer (some ⟨p, 0, none⟩), .int .i64 0])))))
 rcases hc with ⟨he, hr⟩ | ⟨h1, h2, H, hH, hx⟩
 ·refine hno 5 he (.inl rfl) ?_
  clear hno he
  rcases hr with hr | hr | ⟨h1, h2, hN⟩
  ·go_enter Tryz.func63, Tryz.ntmps63
   go_wp2
   exact bodyPost_ret (v := .tuple #[.pointer none, .int .i64 5]) (by simp [results, Tryz.results63, go_sem]) rfl ⟨rfl, rfl⟩
  ·have g : ¬ h < 0 := by omega
   go_enter Tryz.func63, Tryz.ntmps63
   go_wp2
   exact bodyPost_ret (v := .tuple #[.pointer none, .int .i64 5]) (by simp [results, Tryz.results63, go_sem]) rfl ⟨rfl, rfl⟩
  ·obtain ⟨k, rfl⟩ : ∃ k : Nat, h = (k : Int) := ⟨h.toNat, by omega⟩
   rw [Int.toNat_natCast] at hN
   have c1 := hs.at (1 + k) (cellsT_get (namesT_none hN))
   have g1 : ¬ (k : Int) < 0 := by omega
   have g2 : ¬ (64 : Int) ≤ (k : Int) := by omega
   simp only [Option.map_none, ptrO] at c1
   clear hN h1
   go_enter Tryz.func63, Tryz.ntmps63
   go_wp2
   exact bodyPost_ret (v := .tuple #[.pointer none, .int .i64 5]) (by simp [results, Tryz.results63, go_sem]) rfl ⟨rfl, rfl⟩
 ·obtain ⟨k, hk⟩ : ∃ k : Nat, h = (k : Int) := ⟨h.toNat, by omega⟩
  rw [hk, Int.toNat_natCast] at hH
  obtain ⟨p, hp⟩ := namesT_some hH
  have c1 := hs.at (1 + k) (cellsT_get hp)
  have so := slotsOpen k hp (hs.pull 1 : Sat W0 w (slotsA 0 T :: _))
  obtain ⟨c2, _, zp⟩ := holdAlg so
  have g1 : ¬ (k : Int) < 0 := by omega
  have g2 : ¬ (64 : Int) ≤ (k : Int) := by omega
  simp only [Option.map_some, ptrO] at c1
  obtain ⟨al, hal⟩ : ∃ al, al = H.alg := ⟨_, rfl⟩
  rcases hx with ⟨he, ha⟩ | ⟨he, ha⟩
  ·have key : Calls Tryz.prog 63 #[.pointer (some ⟨v, 0, none⟩), .int .i64 h, .bool sess] w (fun e w' => e = .returned (.tuple #[.pointer (some ⟨p, 0, none⟩), .int .i64 0]) ∧ w' = w) := by
    subst hk
    rw [← hal] at ha c2
    clear he hno h1 h2 hH hp hal so hs
    have ha2 : ((al : Int) != 0) = sess := (neNat al).trans ha
    clear ha
    cases sess with
    | false =>
     go_enter Tryz.func63, Tryz.ntmps63
     go_wp2
     exact bodyPost_ret (v := .tuple #[.pointer (some ⟨p, 0, none⟩), .int .i64 0]) (by simp [results, Tryz.results63, go_sem]) rfl ⟨rfl, rfl⟩
    | true =>
     go_enter Tryz.func63, Tryz.ntmps63
     go_wp2
     exact bodyPost_ret (v := .tuple #[.pointer (some ⟨p, 0, none⟩), .int .i64 0]) (by simp [results, Tryz.results63, go_sem]) rfl ⟨rfl, rfl⟩
   exact key.mono fun e w' hh => ⟨hh.2, .inr ⟨p, H, h1, h2, he, by rw [hk, Int.toNat_natCast]; exact hp, ha, hh.1⟩⟩
  ·refine hno 6 he (.inr rfl) ?_
   subst hk
   rw [← hal] at ha c2
   clear he hno h1 h2 hH hp hal so hs
   have ha2 : ((al : Int) != 0) = !sess := (neNat al).trans ha
   clear ha
   cases sess with
   | false =>
    simp only [Bool.not_false] at ha2
    go_enter Tryz.func63, Tryz.ntmps63
    go_wp2
    exact bodyPost_ret (v := .tuple #[.pointer none, .int .i64 6]) (by simp [results, Tryz.results63, go_sem]) rfl ⟨rfl, rfl⟩
   | true =>
    simp only [Bool.not_true] at ha2
    go_enter Tryz.func63, Tryz.ntmps63
    go_wp2
    exact bodyPost_ret (v := .tuple #[.pointer none, .int .i64 6]) (by simp [results, Tryz.results63, go_sem]) rfl ⟨rfl, rfl⟩
end Go.Proofs.YtpiiklfnakkdiaaGreat

/- The ideal vault: a thing is taken in; under the conditions that each names. -/
namespace Go.Proofs.YtpiiklfnakkdiaaGreat
open Go.RowKit Go.Sep Go.Bv Go.Kec Go.Aes Go.Sha
set_option linter.unusedVariables false
set_option linter.unusedSimpArgs false
theorem Tryz.size_slots : (Tryz.prog.info? 30).map (·.size) = some 64 := by kernel_rfl
theorem find_some {S : Slots} {i : Nat} (h : S[i]? = some none) (hb : ∀ j, j < i → ∃ H, S[j]? = some (some H)) : S.findIdx? (·.isNone) = some i := by
 obtain ⟨hi, hv⟩ := List.getElem?_eq_some_iff.1 h
 rw [List.findIdx?_eq_some_iff_getElem]
 refine ⟨hi, by rw [hv]; rfl, fun j hj => ?_⟩
 obtain ⟨H, hH⟩ := hb j hj
 obtain ⟨hj', hv'⟩ := List.getElem?_eq_some_iff.1 hH
 rw [hv']; simp
theorem find_none {S : Slots} (hb : ∀ j, j < S.length → ∃ H, S[j]? = some (some H)) : S.findIdx? (·.isNone) = none := by
 rw [List.findIdx?_eq_none_iff]
 intro x hx
 obtain ⟨j, hj, rfl⟩ := List.getElem_of_mem hx
 obtain ⟨H, hH⟩ := hb j hj
 rw [List.getElem?_eq_getElem hj] at hH
 have h2 := Option.some.inj hH
 rw [h2]; rfl
theorem iTake_at {S : Slots} {H : Hold} {i : Nat} (h : S[i]? = some none) (hb : ∀ j, j < i → ∃ H, S[j]? = some (some H)) : iTake S H = (S.set i (some H), ⟨0, i, false, []⟩) := by
 unfold iTake; rw [find_some h hb]
theorem iTake_full {S : Slots} {H : Hold} (hb : ∀ j, j < S.length → ∃ H, S[j]? = some (some H)) : iTake S H = (S, noA 8) := by
 unfold iTake; rw [find_none hb]
theorem namesT_set (T : Held) (i : Nat) (x : Option (Nat × Hold)) : namesT (T.set i x) = (namesT T).set i (x.map Prod.snd) := by simp [namesT, List.map_set]
theorem cellsT_set (T : Held) (i : Nat) (x : Option (Nat × Hold)) : (Value.bool true :: cellsT T).set (1 + i) (ptrO (x.map Prod.fst)) = Value.bool true :: cellsT (T.set i x) := by rw [Nat.add_comm]; simp [cellsT, List.map_set]
set_option maxRecDepth 100000 in
set_option maxHeartbeats 8000000 in
theorem iTakeW {W0 w : World} {L : List Assn} {v : Nat} {mk mc mm : Bool} {kp cp mp : Option Addr} {nk ck nc cc nm cm : Nat} (T T' : Held) (H : Hold) (h0 : Int) (hT : T.length = 64) (hTT : ∀ j : Nat, T[j]? = some none → T'[j]? = some none)
  (hk : H.kb.length = nk) (hc : H.cb.length = nc) (hm : H.mb.length = nm) (bk : nk ≤ 1000000000) (bc : nc ≤ 1000000000) (bm : nm ≤ 1000000000)
  (hs : Sat W0 w (seg true v 0 (.bool true :: cellsT T) :: slotsA 0 T' :: bytes mk kp H.kb :: bytes mc cp H.cb :: bytes mm mp H.mb :: L)) :
  Calls Tryz.prog 62 #[.pointer (some ⟨v, 0, none⟩), .agg #[.int .i64 h0, .int .u8 (H.alg : Int), .int .i64 (H.out : Int), .slice kp nk ck, .slice cp nc cc, .slice mp nm cm]] w fun e w' =>
   (∃ i p, T[i]? = some none ∧ iTake (namesT T) H = ((namesT T).set i (some H), ⟨0, i, false, []⟩) ∧ e = .returned (.agg #[.int .i64 0, .int .i64 (i : Int), .bool false, .slice none 0 0]) ∧ Sat W0 w' (seg true v 0 (.bool true :: cellsT (T.set i (some (p, H)))) :: slotsA 0 (T'.set i (some (p, H))) :: bytes mk kp H.kb :: bytes mc cp H.cb :: bytes mm mp H.mb :: L)) ∨
   (iTake (namesT T) H = (namesT T, noA 8) ∧ e = .returned (.agg #[.int .i64 8, .int .i64 0, .bool false, .slice none 0 0]) ∧ Sat W0 w' (seg true v 0 (.bool true :: cellsT T) :: slotsA 0 T' :: bytes mk kp H.kb :: bytes mc cp H.cb :: bytes mm mp H.mb :: L)) := by
 have hcop := fun (w : World) (X : List Assn) (i : Nat) (s : Sat W0 w (bytes mk kp H.kb :: bytes mc cp H.cb :: bytes mm mp H.mb :: X)) => iCopied (ck := ck) (cc := cc) (cm := cm) i H hk hc hm bk bc bm s
 have HN := Lib.hid (And.intro hcop (And.intro hT hTT)); clear hcop hk hc hm bk bc bm hT hTT
 obtain ⟨al, hal⟩ : ∃ al, al = H.alg := ⟨_, rfl⟩
 obtain ⟨ou, hou⟩ : ∃ ou, ou = H.out := ⟨_, rfl⟩
 rw [← hal, ← hou] at HN ⊢
 clear hal hou
 have hS : ∀ g z wx X, Sat W0 wx (seg true g 0 [.int .i64 z, .int .u8 (al : Int), .int .i64 (ou : Int), .slice kp nk ck, .slice cp nc cc, .slice mp nm cm] :: X) → wx.cell? ⟨g, 0, none⟩ = some (.int .i64 z) ∧ wx.cell? ⟨g, 1, none⟩ = some (.int .u8 (al : Int)) ∧ wx.cell? ⟨g, 2, none⟩ = some (.int .i64 (ou : Int)) ∧ wx.cell? ⟨g, 3, none⟩ = some (.slice kp nk ck) ∧ wx.cell? ⟨g, 4, none⟩ = some (.slice cp nc cc) ∧ wx.cell? ⟨g, 5, none⟩ = some (.slice mp nm cm) ∧ g < wx.heap.size := fun g z wx X h => ⟨h.at 0 rfl, h.at 1 rfl, h.at 2 rfl, h.at 3 rfl, h.at 4 rfl, h.at 5 rfl, h.lt (by simp)⟩
 have HSS := Lib.hid hS; clear hS
 go_enter Tryz.func62, Tryz.ntmps62
 go_wp2_with (first | (refine wpl_box rfl 49 (.tmp 1) rfl [.int .i64 h0, .int .u8 (al : Int), .int .i64 (ou : Int), .slice kp nk ck, .slice cp nc cc, .slice mp nm cm] rfl hs ?_; intro w1 g s1 _; clear hs) | (refine wpl_alloc_agg rfl 35 rfl s1 _ (zero_ans _) ?_; intro w2 ga s2' _; clear s1; have s2 : Sat W0 w2 (seg true v 0 (.bool true :: cellsT T) :: seg true g 0 [.int .i64 h0, .int .u8 (al : Int), .int .i64 (ou : Int), .slice kp nk ck, .slice cp nc cc, .slice mp nm cm] :: seg true ga 0 ans0 :: slotsA 0 T' :: bytes mk kp H.kb :: bytes mc cp H.cb :: bytes mm mp H.mb :: L) := (Sat.sub (s2') (by with_reducible repeat first | exact Fr1 | exact Fr2 | (apply Fr3; focus ((repeat (first | exact Tk1 | apply Tk2)); done)) | apply Fr4)); clear s2'; have zv := s2.lt (by simp)) | (refine wpl_load_agg rfl 30 (.tmp 9) rfl Tryz.underlying30 rfl Tryz.size_slots s2 1 1 rfl rfl (by rw [List.length_cons, cellsT_len, HN.out.2.1]; omega) ?_; rw [List.drop_succ_cons, List.drop_zero, List.take_of_length_le (by rw [cellsT_len, HN.out.2.1]; omega)]))
 go_loopw [11] (fun t11 wr => ∃ i : Nat, i ≤ 64 ∧ t11 = .int .i64 (i : Int) ∧ (∀ j, j < i → ∃ H, (namesT T)[j]? = some (some H)) ∧ wr = w2) (fun t11 _ => 64 - (intOf t11).toNat)
 case atStart => exact ⟨0, Nat.zero_le _, rfl, fun j hj => absurd hj (Nat.not_lt_zero j), rfl⟩
 case round =>
  obtain ⟨i, hi, rfl, hb, rfl⟩ := hrel
  by_cases hlt : i < 64
  ·have hix := fun w => run_index_list (P := Tryz.prog) (t := 30) (e := 29) Tryz.underlying30 (by kernel_rfl) (fun w => by simp [go_sem]) (cellsT T) (by rw [cellsT_len, HN.out.2.1]) i hlt w
   have hit : i < T.length := by rw [HN.out.2.1]; exact hlt
   have hgd : ∀ x, T[i]? = some x → (cellsT T).getD i undef = ptrO (x.map Prod.fst) := fun x hx => by rw [List.getD_eq_getElem?_getD, cellsT, List.getElem?_map, hx]; rfl
   rcases hx : T[i]? with _ | _ | ⟨p, H'⟩
   ·rw [List.getElem?_eq_none_iff] at hx; omega
   ·rw [hgd _ hx] at hix
    simp only [Option.map_none] at hix
    have hX := Lib.hid (And.intro hx (And.intro hb hit)); clear hx hb hgd hit
    have sg : Sat W0 wr (seg true g 0 [.int .i64 h0, .int .u8 (al : Int), .int .i64 (ou : Int), .slice kp nk ck, .slice cp nc cc, .slice mp nm cm] :: seg true v 0 (.bool true :: cellsT T) :: seg true ga 0 ans0 :: slotsA 0 T' :: bytes mk kp H.kb :: bytes mc cp H.cb :: bytes mm mp H.mb :: L) := (Sat.sub (s2) (by with_reducible repeat first | exact Fr1 | exact Fr2 | (apply Fr3; focus ((repeat (first | exact Tk1 | apply Tk2)); done)) | apply Fr4))
    obtain ⟨d0, _, _, _, _, _, zg⟩ := HSS.out _ _ _ _ sg
    have f0 := sg.fr 0 (by simp)
    go_wp2_with fail
    have sg2' := sg.store (i := 0) (by simp) (.int .i64 (i : Int)) (q := 0) rfl
    have sg2 : Sat W0 (wr.setCell ⟨g, 0, none⟩ (.int .i64 (i : Int))) (seg true g 0 [.int .i64 (i : Int), .int .u8 (al : Int), .int .i64 (ou : Int), .slice kp nk ck, .slice cp nc cc, .slice mp nm cm] :: seg true v 0 (.bool true :: cellsT T) :: seg true ga 0 ans0 :: slotsA 0 T' :: bytes mk kp H.kb :: bytes mc cp H.cb :: bytes mm mp H.mb :: L) := sg2'
    obtain ⟨w3, hw3⟩ : ∃ w3, w3 = wr.setCell ⟨g, 0, none⟩ (.int .i64 (i : Int)) := ⟨_, rfl⟩
    rw [← hw3] at sg2 ⊢
    clear hw3 sg sg2' d0 zg f0 s2 zv
    have sg2d := sg2.drew
    have hltI : (i : Int) < 64 := by omega
    refine region_E (fun w' => w'.cell? ⟨g, 0, none⟩ = some (.int .i64 (i : Int)) ∧ w'.cell? ⟨g, 1, none⟩ = some (.int .u8 (al : Int)) ∧ w'.cell? ⟨g, 2, none⟩ = some (.int .i64 (ou : Int)) ∧ w'.cell? ⟨g, 3, none⟩ = some (.slice kp nk ck) ∧ w'.cell? ⟨g, 4, none⟩ = some (.slice cp nc cc) ∧ w'.cell? ⟨g, 5, none⟩ = some (.slice mp nm cm) ∧ g < w'.heap.size) [2] (by kernel_rfl) ?_
    have hHeld := HSS.out _ _ _ _ sg2d
    iterate 5
     first | refine autoT hHeld (by rfl) (by rfl) (x := ?_) (v := ?_) ?_ (by kernel_rfl) ?_ ?_ ?_ | refine autoP (by rfl) (x := ?_) (v := ?_) ?_ (by kernel_rfl) ?_ ?_ ?_
     rotate_left 2
     ·(simp only [gE1, gE2, gE3]; rfl)
     ·exact fun _ _ _ h => h
     ·refine Or.inl ⟨by rfl, fun w hSw => ?_⟩
      (try dsimp only at hSw)
      go_simp
      try (with_reducible rfl)
     try simp only [pA1, pA2, pA3, pA4]
    refine anyE_one (i := 3) (x := ?_) ?_ (by kernel_rfl) (fun K hK => ?_)
    rotate_left
    ·(simp only [gE1, gE2, gE3]; rfl)
    go_simp
    refine (HN.out.1 _ (seg true g 0 [.int .i64 (i : Int), .int .u8 (al : Int), .int .i64 (ou : Int), .slice kp nk ck, .slice cp nc cc, .slice mp nm cm] :: seg true v 0 (.bool true :: cellsT T) :: seg true ga 0 ans0 :: slotsA 0 T' :: L) i (Sat.sub (sg2d) (by with_reducible repeat first | exact Fr1 | exact Fr2 | (apply Fr3; focus ((repeat (first | exact Tk1 | apply Tk2)); done)) | apply Fr4))).mono ?_
    rintro e w4 ⟨g4, rfl, s4'⟩
    have s4 : Sat W0 w4 (seg true v 0 (.bool true :: cellsT T) :: holdA g4 (0 + i) H :: slotsA 0 T' :: seg true g 0 [.int .i64 (i : Int), .int .u8 (al : Int), .int .i64 (ou : Int), .slice kp nk ck, .slice cp nc cc, .slice mp nm cm] :: seg true ga 0 ans0 :: bytes mk kp H.kb :: bytes mc cp H.cb :: bytes mm mp H.mb :: L) := by
     rw [Nat.zero_add]; exact (Sat.sub (s4') (by with_reducible repeat first | exact Fr1 | exact Fr2 | (apply Fr3; focus ((repeat (first | exact Tk1 | apply Tk2)); done)) | apply Fr4))
    have hk4 := HSS.out _ _ _ _ ((Sat.sub (s4) (by with_reducible repeat first | exact Fr1 | exact Fr2 | (apply Fr3; focus ((repeat (first | exact Tk1 | apply Tk2)); done)) | apply Fr4)) : Sat W0 w4 (seg true g 0 [.int .i64 (i : Int), .int .u8 (al : Int), .int .i64 (ou : Int), .slice kp nk ck, .slice cp nc cc, .slice mp nm cm] :: []))
    go_wp2_with fail
    refine hK.out _ _ hk4 ?_
    clear hK K hHeld
    have hHeld := hk4
    try simp only [pA1, pA2, pA3, pA4]
    clear sg2 sg2d s4' hk4
    have hvl : 1 + i < (Value.bool true :: cellsT T).length := by rw [List.length_cons, cellsT_len, HN.out.2.1]; omega
    have fv := s4.fr (1 + i) hvl
    have cv := s4.at (1 + i) (cellsT_get hX.out.1)
    have zv := s4.lt (by simp)
    iterate 1
     first | refine autoT hHeld (by rfl) (by rfl) (x := ?_) (v := ?_) ?_ (by kernel_rfl) ?_ ?_ ?_ | refine autoP (by rfl) (x := ?_) (v := ?_) ?_ (by kernel_rfl) ?_ ?_ ?_
     rotate_left 2
     ·(simp only [gE1, gE2, gE3]; rfl)
     ·exact fun _ _ _ h => h
     ·refine Or.inl ⟨by rfl, fun w hSw => ?_⟩
      (try dsimp only at hSw)
      go_simp
      try (with_reducible rfl)
     try simp only [pA1, pA2, pA3, pA4]
    refine anyE_last (i := 7) (x := ?_) ?_ (by kernel_rfl) (by kernel_rfl) (fun K hK => ?_)
    rotate_left
    ·(simp only [gE1, gE2, gE3]; rfl)
    go_simp
    refine hK.out _ _ ?_
    clear hK K
    try simp only [pA1, pA2, pA3, pA4]
    have s5' := s4.store (i := 1 + i) hvl (.pointer (some ⟨g4, 0, none⟩)) (q := 1 + i) (by omega)
    have e5 : (Value.bool true :: cellsT T).set (1 + i) (.pointer (some ⟨g4, 0, none⟩)) = Value.bool true :: cellsT (T.set i (some (g4, H))) := cellsT_set T i (some (g4, H))
    rw [e5] at s5'
    have s5 := slotsShut i (HN.out.2.2 i hX.out.1) (s5'.pull 1 |>.sub (.cons .here (.cons (.there .here) .done)))
    clear s4 s5' e5 fv zv hvl cv
    refine anyE_done (by kernel_rfl) ?_ _
    have HS5 := Lib.hid s5; clear s5
    have sr0 : Sat W0 _ (seg true ga 0 ans0 :: seg true v 0 (.bool true :: cellsT (T.set i (some (g4, H)))) :: slotsA 0 (T'.set i (some (g4, H))) :: bytes mk kp H.kb :: bytes mc cp H.cb :: bytes mm mp H.mb :: L) := (Sat.sub (HS5.out) (by with_reducible repeat first | exact Fr1 | exact Fr2 | (apply Fr3; focus ((repeat (first | exact Tk1 | apply Tk2)); done)) | apply Fr4))
    go_wp2_with (refine wpl_stAns rfl rfl (.tmp 4) (.tmp 27) rfl sr0 rfl rfl ?_; intro ws ss; clear sr0)
    have hr := ansLd ss
    have HS := Lib.hid ss.tail; clear ss
    refine bodyPost_ret (v := .agg #[.int .i64 0, .int .i64 (i : Int), .bool false, .slice none 0 0]) (by simp [results, Tryz.results62, asAddr]; exact hr) rfl ?_
    exact .inl ⟨i, g4, hX.out.1, iTake_at (namesT_get hX.out.1) hX.out.2.1, rfl, HS.out⟩
   ·rw [hgd _ hx] at hix
    simp only [Option.map_some] at hix
    have hX := Lib.hid (And.intro hx (And.intro hb hit)); clear hx hb hgd hit
    go_wp2_with fail
    refine ⟨⟨i + 1, by omega, by go_num, fun j hj => ?_, trivial⟩, by simp [intOf]; omega⟩
    rcases Nat.lt_succ_iff_lt_or_eq.1 hj with h | h
    ·exact hX.out.2.1 j h
    ·rw [h]; exact ⟨H', namesT_get hX.out.1⟩
  ·obtain rfl : i = 64 := by omega
   have hfull := iTake_full (S := namesT T) (H := H) (fun j hj => hb j (by rw [namesT_len, HN.out.2.1] at hj; exact hj))
   have hX := Lib.hid hfull; clear hfull hb
   go_wp2_with fail
   refine (iNo 8 s2).mono ?_
   rintro e w3 ⟨rfl, s3⟩
   clear s2 zv
   have sr0 : Sat W0 _ (seg true ga 0 ans0 :: seg true v 0 (.bool true :: cellsT T) :: slotsA 0 T' :: bytes mk kp H.kb :: bytes mc cp H.cb :: bytes mm mp H.mb :: L) := (Sat.sub (s3) (by with_reducible repeat first | exact Fr1 | exact Fr2 | (apply Fr3; focus ((repeat (first | exact Tk1 | apply Tk2)); done)) | apply Fr4))
   go_wp2_with (refine wpl_stAns rfl rfl (.tmp 4) (.tmp 29) rfl sr0 rfl rfl ?_; intro ws ss; clear sr0)
   have hr := ansLd ss
   have HS := Lib.hid ss.tail; clear ss
   refine bodyPost_ret (v := .agg #[.int .i64 8, .int .i64 0, .bool false, .slice none 0 0]) (by simp [results, Tryz.results62, asAddr]; exact hr) rfl ?_
   exact .inr ⟨hX.out, rfl, HS.out⟩
end Go.Proofs.YtpiiklfnakkdiaaGreat

/- The ideal vault: a key is put; under the conditions that each names. -/
namespace Go.Proofs.YtpiiklfnakkdiaaGreat
open Go.RowKit Go.Sep Go.Bv Go.Kec Go.Aes Go.Sha
set_option linter.unusedVariables false
set_option linter.unusedSimpArgs false
theorem Tryz.size_op : (Tryz.prog.info? 26).map (·.size) = some 7 := by kernel_rfl
/-- What a method answers, and what is held then. -/
def ansP (W0 : World) (v : Nat) (r : Slots × Ans) (R : List Assn) (e : Ending) (w' : World) : Prop :=
 ∃ (q : Option Addr) (c : Nat), e = .returned (.agg #[.int .i64 r.2.code, .int .i64 (r.2.handle : Int), .bool r.2.same, .slice q r.2.bytes.length c]) ∧ r.2.bytes.length ≤ c ∧ c ≤ maxLen ∧ Sat W0 w' (vaultA v r.1 :: bytes true q r.2.bytes :: R)
theorem ansP_no {W0 w' : World} {v : Nat} {S : Slots} {R : List Assn} {c : Int} (h : Sat W0 w' (vaultA v S :: R)) : ansP W0 v (S, noA c) R (.returned (.agg #[.int .i64 c, .int .i64 0, .bool false, .slice none 0 0])) w' := by
 have h2 := bytesNil true none (h.pull 0)
 exact ⟨none, 0, rfl, Nat.le_refl _, Nat.zero_le _, h2.pull 1⟩
theorem ansP_h {W0 w' : World} {v i : Nat} {S : Slots} {R : List Assn} (h : Sat W0 w' (vaultA v S :: R)) : ansP W0 v (S, ⟨0, i, false, []⟩) R (.returned (.agg #[.int .i64 0, .int .i64 (i : Int), .bool false, .slice none 0 0])) w' := by
 have h2 := bytesNil true none (h.pull 0)
 exact ⟨none, 0, rfl, Nat.le_refl _, Nat.zero_le _, h2.pull 1⟩
theorem hOp (W0 : World) : ∀ g wx X (v0 v1 v2 v3 v4 v5 v6 : Value), Sat W0 wx (seg true g 0 [v0, v1, v2, v3, v4, v5, v6] :: X) → wx.cell? ⟨g, 0, none⟩ = some v0 ∧ wx.cell? ⟨g, 1, none⟩ = some v1 ∧ wx.cell? ⟨g, 2, none⟩ = some v2 ∧ wx.cell? ⟨g, 3, none⟩ = some v3 ∧ wx.cell? ⟨g, 4, none⟩ = some v4 ∧ wx.cell? ⟨g, 5, none⟩ = some v5 ∧ wx.cell? ⟨g, 6, none⟩ = some v6 ∧ g < wx.heap.size := fun g wx X v0 v1 v2 v3 v4 v5 v6 h => ⟨h.at 0 rfl, h.at 1 rfl, h.at 2 rfl, h.at 3 rfl, h.at 4 rfl, h.at 5 rfl, h.at 6 rfl, h.lt (by simp)⟩
set_option maxRecDepth 100000 in
set_option maxHeartbeats 8000000 in
theorem iPutW {W0 w : World} {L : List Assn} {v : Nat} {md mm : Bool} {dp ep : Option Addr} {dn dc en ec : Nat} (S : Slots) (kd : Nat) (hd : Int) (ag : Nat) (ct ot : Int) (data more : List Byte) (hS : S.length = 64) (hdn : data.length = dn) (hdb : dn ≤ 1000000000)
  (hs : Sat W0 w (vaultA v S :: bytes md dp data :: bytes mm ep more :: L)) :
  Calls Tryz.prog 41 #[.pointer (some ⟨v, 0, none⟩), .agg #[.int .u8 (kd : Int), .int .i64 hd, .int .u8 (ag : Int), .int .i64 ct, .int .i64 ot, .slice dp dn dc, .slice ep en ec]] w fun e w' => ansP W0 v (iPut S ⟨kd, hd, ag, ct, ot, data, more⟩) (bytes md dp data :: bytes mm ep more :: L) e w' := by
 obtain ⟨T, rfl, s0⟩ := vOpen hs
 have hT : T.length = 64 := by rw [← namesT_len]; exact hS
 have htk := fun (w : World) (X : List Assn) (s : Sat W0 w (seg true v 0 (.bool true :: cellsT T) :: slotsA 0 T :: bytes md dp data :: bytes true none [] :: bytes true none [] :: X)) => iTakeW (v := v) (ck := dc) (cc := 0) (cm := 0) T T (.key data) 0 hT (fun j h => h) hdn rfl rfl hdb (Nat.zero_le _) (Nat.zero_le _) s
 have HN := Lib.hid (And.intro htk hdn); clear htk hS hT hdn hs
 have HO := Lib.hid (hOp W0)
 by_cases hlt : 512 < dn
 ·have e0 : iPut (namesT T) ⟨kd, hd, ag, ct, ot, data, more⟩ = (namesT T, noA 7) := by unfold iPut; rw [if_pos (by rw [HN.out.2]; exact hlt)]
  rw [e0]
  clear e0
  have hlI : (512 : Int) < (dn : Int) := by omega
  go_enter Tryz.func41, Tryz.ntmps41
  go_wp2_with (first | (refine wpl_box rfl 26 (.tmp 1) rfl [.int .u8 (kd : Int), .int .i64 hd, .int .u8 (ag : Int), .int .i64 ct, .int .i64 ot, .slice dp dn dc, .slice ep en ec] rfl s0 ?_; intro w1 g s1 _; clear s0) | (refine wpl_alloc_agg rfl 35 rfl s1 _ (zero_ans _) ?_; intro w2 ga s2' _; clear s1; have s2 : Sat W0 w2 (seg true g 0 [.int .u8 (kd : Int), .int .i64 hd, .int .u8 (ag : Int), .int .i64 ct, .int .i64 ot, .slice dp dn dc, .slice ep en ec] :: seg true ga 0 ans0 :: seg true v 0 (.bool true :: cellsT T) :: slotsA 0 T :: bytes md dp data :: bytes mm ep more :: L) := (Sat.sub (s2') (by with_reducible repeat first | exact Fr1 | exact Fr2 | (apply Fr3; focus ((repeat (first | exact Tk1 | apply Tk2)); done)) | apply Fr4)); clear s2'; obtain ⟨o0, o1, o2, o3, o4, o5, o6, zo⟩ := HO.out _ _ _ _ _ _ _ _ _ _ s2))
  refine (iNo 7 s2).mono ?_
  rintro e w3 ⟨rfl, s3⟩
  clear s2 o0 o1 o2 o3 o4 o5 o6 zo
  have sr0 : Sat W0 _ (seg true ga 0 ans0 :: seg true v 0 (.bool true :: cellsT T) :: slotsA 0 T :: bytes md dp data :: bytes mm ep more :: L) := (Sat.sub (s3) (by with_reducible repeat first | exact Fr1 | exact Fr2 | (apply Fr3; focus ((repeat (first | exact Tk1 | apply Tk2)); done)) | apply Fr4))
  go_wp2_with (refine wpl_stAns rfl rfl (.tmp 4) (.tmp 9) rfl sr0 rfl rfl ?_; intro ws ss; clear sr0)
  have hr := ansLd ss
  have HS := Lib.hid ss.tail; clear ss
  refine bodyPost_ret (v := .agg #[.int .i64 7, .int .i64 0, .bool false, .slice none 0 0]) (by simp [results, Tryz.results41, asAddr]; exact hr) rfl ?_
  exact ansP_no (vShut T rfl HS.out)
 ·have e0 : iPut (namesT T) ⟨kd, hd, ag, ct, ot, data, more⟩ = iTake (namesT T) (.key data) := by unfold iPut; rw [if_neg (by rw [HN.out.2]; exact hlt)]
  rw [e0]
  clear e0
  have hlI : ¬ (512 : Int) < (dn : Int) := by omega
  go_enter Tryz.func41, Tryz.ntmps41
  go_wp2_with (first | (refine wpl_box rfl 26 (.tmp 1) rfl [.int .u8 (kd : Int), .int .i64 hd, .int .u8 (ag : Int), .int .i64 ct, .int .i64 ot, .slice dp dn dc, .slice ep en ec] rfl s0 ?_; intro w1 g s1 _; clear s0) | (refine wpl_alloc_agg rfl 35 rfl s1 _ (zero_ans _) ?_; intro w2 ga s2' _; clear s1; have s2 : Sat W0 w2 (seg true g 0 [.int .u8 (kd : Int), .int .i64 hd, .int .u8 (ag : Int), .int .i64 ct, .int .i64 ot, .slice dp dn dc, .slice ep en ec] :: seg true ga 0 ans0 :: seg true v 0 (.bool true :: cellsT T) :: slotsA 0 T :: bytes md dp data :: bytes mm ep more :: L) := (Sat.sub (s2') (by with_reducible repeat first | exact Fr1 | exact Fr2 | (apply Fr3; focus ((repeat (first | exact Tk1 | apply Tk2)); done)) | apply Fr4)); clear s2'; obtain ⟨o0, o1, o2, o3, o4, o5, o6, zo⟩ := HO.out _ _ _ _ _ _ _ _ _ _ s2))
  refine (HN.out.1 _ (seg true ga 0 ans0 :: bytes mm ep more :: L) (by have h1 := bytesNil true none (bytesNil true none s2); exact (Sat.sub (h1) (by with_reducible repeat first | exact Fr1 | exact Fr2 | (apply Fr3; focus ((repeat (first | exact Tk1 | apply Tk2)); done)) | apply Fr4)))).mono ?_
  rintro e w3 (⟨i, p, hin, hit, rfl, s3⟩ | ⟨hit, rfl, s3⟩)
  ·have s3b : Sat W0 w3 (seg true v 0 (.bool true :: cellsT (T.set i (some (p, .key data)))) :: slotsA 0 (T.set i (some (p, .key data))) :: bytes md dp data :: bytes true none [] :: bytes true none [] :: seg true ga 0 ans0 :: bytes mm ep more :: L) := s3
   clear s2 s3 o0 o1 o2 o3 o4 o5 o6 zo
   have sr0 : Sat W0 _ (seg true ga 0 ans0 :: seg true v 0 (.bool true :: cellsT (T.set i (some (p, .key data)))) :: slotsA 0 (T.set i (some (p, .key data))) :: bytes md dp data :: bytes mm ep more :: L) := (Sat.sub (s3b) (by with_reducible repeat first | exact Fr1 | exact Fr2 | (apply Fr3; focus ((repeat (first | exact Tk1 | apply Tk2)); done)) | apply Fr4))
   go_wp2_with (refine wpl_stAns rfl rfl (.tmp 4) (.tmp 14) rfl sr0 rfl rfl ?_; intro ws ss; clear sr0)
   have hr := ansLd ss
   have HS := Lib.hid ss.tail; clear ss
   refine bodyPost_ret (v := .agg #[.int .i64 0, .int .i64 (i : Int), .bool false, .slice none 0 0]) (by simp [results, Tryz.results41, asAddr]; exact hr) rfl ?_
   rw [hit]
   exact ansP_h (vShut (T.set i (some (p, .key data))) (namesT_set _ _ _) HS.out)
  ·have s3b : Sat W0 w3 (seg true v 0 (.bool true :: cellsT T) :: slotsA 0 T :: bytes md dp data :: bytes true none [] :: bytes true none [] :: seg true ga 0 ans0 :: bytes mm ep more :: L) := s3
   clear s2 s3 o0 o1 o2 o3 o4 o5 o6 zo
   have sr0 : Sat W0 _ (seg true ga 0 ans0 :: seg true v 0 (.bool true :: cellsT T) :: slotsA 0 T :: bytes md dp data :: bytes mm ep more :: L) := (Sat.sub (s3b) (by with_reducible repeat first | exact Fr1 | exact Fr2 | (apply Fr3; focus ((repeat (first | exact Tk1 | apply Tk2)); done)) | apply Fr4))
   go_wp2_with (refine wpl_stAns rfl rfl (.tmp 4) (.tmp 14) rfl sr0 rfl rfl ?_; intro ws ss; clear sr0)
   have hr := ansLd ss
   have HS := Lib.hid ss.tail; clear ss
   refine bodyPost_ret (v := .agg #[.int .i64 8, .int .i64 0, .bool false, .slice none 0 0]) (by simp [results, Tryz.results41, asAddr]; exact hr) rfl ?_
   rw [hit]
   exact ansP_no (vShut T rfl HS.out)
end Go.Proofs.YtpiiklfnakkdiaaGreat
