
/- IdealKnown: the document's examples; no condition. -/
import Derived.Test.YtpiiklfnakkdiaaGreatIdl19
namespace Go.Proofs.YtpiiklfnakkdiaaGreat
open Go.RowKit Go.Sep Go.Bv Go.Kec Go.Aes Go.Sha
set_option linter.unusedVariables false
set_option linter.unusedSimpArgs false
theorem op_mk8 {o : Oper} {a : Act} {K : Act → World → Prop} {Q : Exit → Act → World → Prop} {W0 w : World} {L : List Assn} (n : Nat) (x y : Operand) (ho : o.op = .makeSlice 24 x y) (hx : a.eval x = .int .i64 (n : Int)) (hy : a.eval y = .int .i64 (n : Int)) (hn : n ≤ 1000000) (hs : Sat W0 w L)
  (h : ∀ w' g, Sat W0 w' (bytes true (some ⟨g, 0, none⟩) (List.replicate n 0) :: L) → K (a.put o.dst (.slice (some ⟨g, 0, none⟩) n n)) w') : Oper.wp Tryz.prog o a w K Q := by
 obtain ⟨i3, hi3, hz3, hs3, hb3⟩ := info_parts Tryz.info_u8
 have hr := run_make (P := Tryz.prog) w 24 5 i3 _ Tryz.underlying24 hi3 hz3 .i64 .i64 (n : Int) (n : Int) (by omega) (by omega) (by rw [hb3]; omega) (by omega)
 rw [hs3, Int.toNat_natCast, Nat.mul_one] at hr
 unfold Oper.wp execOp
 simp only [ho, hx, hy, Sem.run_bind, Sem.run_pure, Result.andThen_ok, hr]
 have s1 := hs.make (.int .u8 0) n 5
 have e1 : u8s (List.replicate n (0 : Byte)) = List.replicate n (.int .u8 0) := by rw [u8s, List.map_replicate]; rfl
 rw [← e1] at s1
 exact h _ _ (bytesOf s1)
@[go_sem] theorem field_ans0 (c h : Int) (s : Bool) (q : Option Addr) (n k : Nat) (w : World) : Sem.run Tryz.prog (Instr.field 35 (.agg #[.int .i64 c, .int .i64 h, .bool s, .slice q n k]) 0) w = .ok (.int .i64 c) w := by kernel_rfl
def K4 : Slots := some (.key key25) :: some (.sn .cm 4 key25 [] []) :: List.replicate 62 none
def salt25 : List Byte := [115, 97, 108, 116]
def tag4 : List Byte := [187, 29, 105, 41]
theorem k1 : iDo A1 ⟨2, 0, 3, 0, 17, [], []⟩ = (A1, ⟨11, 0, false, []⟩) := by kernel_rfl
theorem k2 : iDo A1 ⟨2, 0, 8, 0, 16, [], []⟩ = (A1, ⟨4, 0, false, []⟩) := by kernel_rfl
theorem k3 : iDo A1 ⟨2, 0, 3, 0, 16, [1], []⟩ = (A1, ⟨2, 0, false, []⟩) := by kernel_rfl
theorem k4 : iDo A1 ⟨8, 0, 1, 1, 513, salt25, []⟩ = (A1, ⟨7, 0, false, []⟩) := by kernel_rfl
theorem k5 : iDo A1 ⟨8, 0, 1, 1, 0, salt25, []⟩ = (A1, ⟨7, 0, false, []⟩) := by kernel_rfl
theorem k6 : iDo A1 ⟨8, 0, 1, 0, 1, salt25, []⟩ = (A1, ⟨10, 0, false, []⟩) := by kernel_rfl
theorem k7 : iDo A1 ⟨2, 0, 3, 0, 4, [], []⟩ = (K4, ⟨0, 1, false, []⟩) := by kernel_rfl
theorem k8 : iDo K4 ⟨5, 1, 0, 0, 0, List.replicate 5 0, []⟩ = (K4, ⟨11, 0, false, []⟩) := by kernel_rfl
theorem k9 : iDo K4 ⟨5, 1, 0, 0, 0, List.replicate 3 0, []⟩ = (K4, ⟨11, 0, false, []⟩) := by kernel_rfl
theorem tag4_eq : (Hold.sn .cm 4 key25 [] []).tag = tag4 := by decide +kernel
theorem k10 : iDo K4 ⟨5, 1, 0, 0, 0, tag4, []⟩ = (A1, ⟨0, 0, true, []⟩) := by
 show (K4.set 1 none, (⟨0, 0, decide ((Hold.sn .cm 4 key25 [] []).tag = tag4), []⟩ : Ans)) = _
 rw [tag4_eq]
 rfl
theorem k11 : iDo A1 ⟨9, 0, 0, 0, 0, [], []⟩ = (A1, ⟨0, 0, false, key25⟩) := by kernel_rfl
theorem k12 : iDo A1 ⟨10, 0, 0, 0, 0, [], []⟩ = (S0, ⟨0, 0, false, []⟩) := by kernel_rfl
theorem k13 : iDo S0 ⟨10, 0, 0, 0, 0, [], []⟩ = (S0, ⟨5, 0, false, []⟩) := by kernel_rfl
theorem k14 : iDo S0 ⟨11, 0, 0, 0, 0, [], []⟩ = (S0, ⟨3, 0, false, []⟩) := by kernel_rfl
theorem K4_ok : okS 131072 K4 := by have h := iDo_ok (o := ⟨2, 0, 3, 0, 4, [], []⟩) A1_ok; rw [k7] at h; exact h
theorem K4_held : (heldL 0 K4).length = 2 := by kernel_rfl
theorem S0_held : (heldL 0 S0).length = 0 := by kernel_rfl
abbrev pv25 (gv v : Nat) : Assn := seg true gv 0 [.pointer (some ⟨v, 0, none⟩)]
set_option maxRecDepth 100000 in
set_option maxHeartbeats 4000000 in
theorem knBegin {W0 w : World} {L : List Assn} {gv v B : Nat} {md : Bool} {dp : Option Addr} {dn dc : Nat} {S S' : Slots} (ag : Nat) (ot : Int) (data : List Byte) {code : Int} {h : Nat} {same : Bool} {av ov : Value}
  (e0 : iDo S ⟨2, 0, ag, 0, ot, data, []⟩ = (S', ⟨code, h, same, []⟩)) (hav : av = .int .u8 (ag : Int)) (hov : ov = .int .i64 ot) (hS : okS B S) (hB : B ≤ 1000000000) (hdn : data.length = dn) (hdc : dn ≤ dc) (hdm : dc ≤ maxLen) (hdb : dn ≤ 1000000000)
  (hs : Sat W0 w (pv25 gv v :: vaultA v S :: bytes md dp data :: L)) :
  Calls Tryz.prog 23 #[av, ov, .slice dp dn dc, .pointer (some ⟨gv, 0, none⟩)] w fun e w' => e = .returned (.int .i64 code) ∧ Sat W0 w' (pv25 gv v :: vaultA v S' :: bytes md dp data :: L) := by
 subst hav hov
 have hd := iDoY (v0 := .int .u8 2) (v1 := .int .i64 0) (v2 := .int .u8 (ag : Int)) (v3 := .int .i64 0) (v4 := .int .i64 ot) (v := v) (dp := dp) (md := md) (L := pv25 gv v :: L) 2 0 ag 0 ot data e0 rfl rfl rfl rfl rfl rfl hS hB hdn hdc hdm hdb ((Sat.sub (hs) (by with_reducible repeat first | exact Fr1 | exact Fr2 | (apply Fr3; focus ((repeat (first | exact Tk1 | apply Tk2)); done)) | apply Fr4)) : Sat W0 w (vaultA v S :: bytes md dp data :: pv25 gv v :: L))
 have c0 := hs.at 0 rfl
 have z0 := hs.lt (by simp)
 have HD := Lib.hid hd; clear hd hs e0 hS hB hdn hdc hdm hdb
 go_enter Tryz.func23, Tryz.ntmps23
 go_wp2_with fail
 refine HD.out.mono ?_
 rintro e w1 ⟨q, c, rfl, _, _, s1⟩
 have HS := Lib.hid s1; clear s1
 go_wp2_with fail
 go_ret
 have s1 := HS.out
 exact ⟨rfl, (Sat.sub (s1) (by with_reducible repeat first | exact Fr1 | exact Fr2 | (apply Fr3; focus ((repeat (first | exact Tk1 | apply Tk2)); done)) | apply Fr4))⟩
set_option maxRecDepth 100000 in
set_option maxHeartbeats 4000000 in
theorem knPbkdf {W0 w : World} {L : List Assn} {gv v B : Nat} {S S' : Slots} (ct ot : Int) {code : Int} {h : Nat} {same : Bool} {cv ov : Value}
  (e0 : iDo S ⟨8, 0, 1, ct, ot, salt25, []⟩ = (S', ⟨code, h, same, []⟩)) (hcv : cv = .int .i64 ct) (hov : ov = .int .i64 ot) (hS : okS B S) (hB : B ≤ 1000000000)
  (hs : Sat W0 w (pv25 gv v :: vaultA v S :: L)) :
  Calls Tryz.prog 24 #[cv, ov, .pointer (some ⟨gv, 0, none⟩)] w fun e w' => e = .returned (.int .i64 code) ∧ Sat W0 w' (pv25 gv v :: vaultA v S' :: L) := by
 subst hcv hov
 have kc := fun (w : World) (C : Array Value) (n c g : Nat) (hg : g = w.heap.size) => Joins.run_convert_bytes_const_at (P := Tryz.prog) w 24 5 C n c g hg Tryz.underlying24 Tryz.underlying5
 have s1 := bytesOf (bs := salt25) (hs.allocMark (u8s salt25).toArray 5)
 have hd := iDoY (v0 := .int .u8 8) (v1 := .int .i64 0) (v2 := .int .u8 1) (v3 := .int .i64 ct) (v4 := .int .i64 ot) (v := v) (dc := 4) (L := pv25 gv v :: L) 8 0 1 ct ot salt25 e0 rfl rfl rfl rfl rfl rfl hS hB rfl (Nat.le_refl _) (by decide) (by decide) ((Sat.sub (s1) (by with_reducible repeat first | exact Fr1 | exact Fr2 | (apply Fr3; focus ((repeat (first | exact Tk1 | apply Tk2)); done)) | apply Fr4)) : Sat W0 _ (vaultA v S :: bytes true (some ⟨w.heap.size, 0, none⟩) salt25 :: pv25 gv v :: L))
 have c0 := hs.at 0 rfl
 have z0 := hs.lt (by simp)
 have HD := Lib.hid hd; clear hd hs s1 e0 hS hB
 go_enter Tryz.func24, Tryz.ntmps24
 go_wp2_with fail
 refine HD.out.mono ?_
 rintro e w1 ⟨q, c, rfl, _, _, s1⟩
 have HS := Lib.hid s1; clear s1
 go_wp2_with fail
 go_ret
 have s1 := HS.out
 exact ⟨rfl, (Sat.sub (s1) (by with_reducible repeat first | exact Fr1 | exact Fr2 | (apply Fr3; focus ((repeat (first | exact Tk1 | apply Tk2)); done)) | apply Fr4))⟩
set_option maxRecDepth 100000 in
set_option maxHeartbeats 16000000 in
theorem idealKnown_any (W : World) :
  Calls Tryz.prog 7 #[] W fun e W' => e = .returned (.bool true) ∧ Below W.heap.size W W' := by
 have s0 := Sat.nil W
 go_enter Tryz.func7, Tryz.ntmps7
 go_wp2_with fail
 refine (iNew s0).mono ?_
 rintro e w1 ⟨v, rfl, s1'⟩
 have s1 : Sat W w1 (vaultA v S0 :: []) := (Sat.sub (s1') (by with_reducible repeat first | exact Fr1 | exact Fr2 | (apply Fr3; focus ((repeat (first | exact Tk1 | apply Tk2)); done)) | apply Fr4))
 clear s0 s1'
 go_wp2_with (refine wpl_alloc rfl 28 rfl s1 (z := .pointer none) (by kernel_rfl) ?_; intro w1a gv s1a _ _; clear s1; have f1a := s1a.fr 0 (by decide); have c1a := s1a.at 0 (v := .pointer none) rfl; have z1a := s1a.lt (by decide))
 have s2' := s1a.store (i := 0) (by decide) (.pointer (some ⟨v, 0, none⟩)) (q := 0) rfl
 obtain ⟨w2, hw2⟩ : ∃ w2, w2 = w1a.setCell ⟨gv, 0, none⟩ (.pointer (some ⟨v, 0, none⟩)) := ⟨_, rfl⟩
 rw [← hw2] at s2' ⊢
 have s2 : Sat W w2.drew (pv25 gv v :: vaultA v S0 :: []) := Sat.drew s2'
 clear hw2 s1a f1a c1a z1a s2'
 have HK := Lib.hid (fun (w' : World) (s : Sat W w' (pv25 gv v :: [])) => (⟨s.at 0 rfl, s.lt (by simp)⟩ : w'.cell? ⟨gv, 0, none⟩ = some (.pointer (some ⟨v, 0, none⟩)) ∧ gv < w'.heap.size))
 refine region_E (fun w' => w'.cell? ⟨gv, 0, none⟩ = some (.pointer (some ⟨v, 0, none⟩)) ∧ gv < w'.heap.size) [0] (by kernel_rfl) ?_
 have hHeld := (HK.out _ (Sat.sub (s2) (by with_reducible repeat first | exact Fr1 | exact Fr2 | (apply Fr3; focus ((repeat (first | exact Tk1 | apply Tk2)); done)) | apply Fr4)))
 iterate 1
  first | refine autoT hHeld (by rfl) (by rfl) (x := ?_) (v := ?_) ?_ (by kernel_rfl) ?_ ?_ ?_ | refine autoP (by rfl) (x := ?_) (v := ?_) ?_ (by kernel_rfl) ?_ ?_ ?_
  rotate_left 2
  ·(simp only [gE1, gE2, gE3]; rfl)
  ·exact fun _ _ _ h => h
  ·refine Or.inl ⟨by rfl, fun w hSw => ?_⟩
   (try dsimp only at hSw)
   go_simp
   try (with_reducible rfl)
  try simp only [pA1, pA2, pA3, pA4]
 refine anyE_one (i := 1) (x := ?_) ?_ (by kernel_rfl) (fun K hK => ?_)
 rotate_left
 ·(simp only [gE1, gE2, gE3]; rfl)
 go_simp
 refine (iKey25 s2).mono ?_
 rintro e w3 ⟨g3, rfl, s3'⟩
 have s3 : Sat W w3 (vaultA v S0 :: bytes true (some ⟨g3, 0, none⟩) key25 :: pv25 gv v :: []) := (Sat.sub (s3') (by with_reducible repeat first | exact Fr1 | exact Fr2 | (apply Fr3; focus ((repeat (first | exact Tk1 | apply Tk2)); done)) | apply Fr4))
 clear s2 s3'
 go_wp2_with fail
 have hKp := (HK.out _ (Sat.sub (s3) (by with_reducible repeat first | exact Fr1 | exact Fr2 | (apply Fr3; focus ((repeat (first | exact Tk1 | apply Tk2)); done)) | apply Fr4)))
 refine hK.out _ _ hKp ?_
 clear hK K hHeld
 have hHeld := hKp
 clear hKp
 try simp only [pA1, pA2, pA3, pA4]
 iterate 1
  first | refine autoT hHeld (by rfl) (by rfl) (x := ?_) (v := ?_) ?_ (by kernel_rfl) ?_ ?_ ?_ | refine autoP (by rfl) (x := ?_) (v := ?_) ?_ (by kernel_rfl) ?_ ?_ ?_
  rotate_left 2
  ·(simp only [gE1, gE2, gE3]; rfl)
  ·exact fun _ _ _ h => h
  ·refine Or.inl ⟨by rfl, fun w hSw => ?_⟩
   (try dsimp only at hSw)
   go_simp
   try (with_reducible rfl)
  try simp only [pA1, pA2, pA3, pA4]
 refine anyE_one (i := 3) (x := ?_) ?_ (by kernel_rfl) (fun K hK => ?_)
 rotate_left
 ·(simp only [gE1, gE2, gE3]; rfl)
 go_simp
 refine (iDoY (dc := 16) 1 0 0 0 0 key25 a1 rfl rfl rfl rfl rfl rfl (S0_ok 0) (by decide) rfl (by decide) (by decide) (by decide) s3).mono ?_
 rintro e w4 ⟨q4, c4, rfl, _, _, s4'⟩
 have s4 : Sat W w4 (pv25 gv v :: vaultA v A1 :: bytes true none [] :: []) := by
  have s5 := bytesNil true none s4'
  exact (Sat.sub (s5) (by with_reducible repeat first | exact Fr1 | exact Fr2 | (apply Fr3; focus ((repeat (first | exact Tk1 | apply Tk2)); done)) | apply Fr4))
 clear s3 s4'
 go_wp2_with fail
 have hKp := (HK.out _ (Sat.sub (s4) (by with_reducible repeat first | exact Fr1 | exact Fr2 | (apply Fr3; focus ((repeat (first | exact Tk1 | apply Tk2)); done)) | apply Fr4)))
 refine hK.out _ _ hKp ?_
 clear hK K hHeld
 have hHeld := hKp
 clear hKp
 try simp only [pA1, pA2, pA3, pA4]
 clear hHeld
 refine anyE_done (by kernel_rfl) ?_ _
 go_wp2_with fail
 refine (knBegin (dp := none) (md := true) (dc := 0) 3 17 [] k1 rfl rfl A1_ok (by decide) rfl (Nat.le_refl _) (Nat.zero_le _) (by decide) (Sat.sub (s4) (by with_reducible repeat first | exact Fr1 | exact Fr2 | (apply Fr3; focus ((repeat (first | exact Tk1 | apply Tk2)); done)) | apply Fr4))).mono ?_
 rintro e w5 ⟨rfl, s5⟩
 clear s4
 go_wp2_with fail
 refine (knBegin (dp := none) (md := true) (dc := 0) 8 16 [] k2 rfl rfl A1_ok (by decide) rfl (Nat.le_refl _) (Nat.zero_le _) (by decide) (Sat.sub (s5) (by with_reducible repeat first | exact Fr1 | exact Fr2 | (apply Fr3; focus ((repeat (first | exact Tk1 | apply Tk2)); done)) | apply Fr4))).mono ?_
 rintro e w6 ⟨rfl, s6⟩
 clear s5
 go_wp2_with fail
 have sb := bytesOf (bs := [1]) (s6.alloc #[.int .u8 1] 5)
 refine (knBegin (dc := 1) 3 16 [1] k3 rfl rfl A1_ok (by decide) rfl (Nat.le_refl _) (by decide) (by decide) (Sat.sub (sb) (by with_reducible repeat first | exact Fr1 | exact Fr2 | (apply Fr3; focus ((repeat (first | exact Tk1 | apply Tk2)); done)) | apply Fr4))).mono ?_
 rintro e w7 ⟨rfl, s7'⟩
 have s7 : Sat W w7 (pv25 gv v :: vaultA v A1 :: bytes true none [] :: []) := (Sat.sub (s7') (by with_reducible repeat first | exact Fr1 | exact Fr2 | (apply Fr3; focus ((repeat (first | exact Tk1 | apply Tk2)); done)) | apply Fr4))
 clear s6 sb s7'
 go_wp2_with fail
 refine (knPbkdf 1 513 k4 rfl rfl A1_ok (by decide) s7).mono ?_
 rintro e w8 ⟨rfl, s8⟩
 clear s7
 go_wp2_with fail
 refine (knPbkdf 1 0 k5 rfl rfl A1_ok (by decide) s8).mono ?_
 rintro e w9 ⟨rfl, s9⟩
 clear s8
 go_wp2_with fail
 refine (knPbkdf 0 1 k6 rfl rfl A1_ok (by decide) s9).mono ?_
 rintro e w10 ⟨rfl, s10⟩
 clear s9
 go_wp2_with fail
 refine (knBegin (dp := none) (md := true) (dc := 0) 3 4 [] k7 rfl rfl A1_ok (by decide) rfl (Nat.le_refl _) (Nat.zero_le _) (by decide) (Sat.sub (s10) (by with_reducible repeat first | exact Fr1 | exact Fr2 | (apply Fr3; focus ((repeat (first | exact Tk1 | apply Tk2)); done)) | apply Fr4))).mono ?_
 rintro e w11 ⟨rfl, s11⟩
 clear s10
 go_wp2_with fail
 have s20 : Sat W _ (pv25 gv v :: vaultA v K4 :: []) := Sat.drew ((Sat.sub (s11) (by with_reducible repeat first | exact Fr1 | exact Fr2 | (apply Fr3; focus ((repeat (first | exact Tk1 | apply Tk2)); done)) | apply Fr4)) : Sat W w11 (pv25 gv v :: vaultA v K4 :: []))
 clear s11
 refine region_E (fun w' => w'.cell? ⟨gv, 0, none⟩ = some (.pointer (some ⟨v, 0, none⟩)) ∧ gv < w'.heap.size) [0, 7, 15] (by kernel_rfl) ?_
 have hHeld := (HK.out _ (Sat.sub (s20) (by with_reducible repeat first | exact Fr1 | exact Fr2 | (apply Fr3; focus ((repeat (first | exact Tk1 | apply Tk2)); done)) | apply Fr4)))
 iterate 1
  first | refine autoT hHeld (by rfl) (by rfl) (x := ?_) (v := ?_) ?_ (by kernel_rfl) ?_ ?_ ?_ | refine autoP (by rfl) (x := ?_) (v := ?_) ?_ (by kernel_rfl) ?_ ?_ ?_
  rotate_left 2
  ·(simp only [gE1, gE2, gE3]; rfl)
  ·exact fun _ _ _ h => h
  ·refine Or.inl ⟨by rfl, fun w hSw => ?_⟩
   (try dsimp only at hSw)
   go_simp
   try (with_reducible rfl)
  try simp only [pA1, pA2, pA3, pA4]
 refine anyE_one (i := 1) (x := ?_) ?_ (by kernel_rfl) (fun K hK => ?_)
 rotate_left
 ·(simp only [gE1, gE2, gE3]; rfl)
 rw [if_pos (by rfl)]
 refine op_mk8 5 _ _ rfl rfl rfl (by decide) s20 ?_
 intro w21 g21 s21
 clear s20
 have hKp := (HK.out _ (Sat.sub (s21) (by with_reducible repeat first | exact Fr1 | exact Fr2 | (apply Fr3; focus ((repeat (first | exact Tk1 | apply Tk2)); done)) | apply Fr4)))
 refine hK.out _ _ hKp ?_
 clear hK K hHeld
 have hHeld := hKp
 clear hKp
 try simp only [pA1, pA2, pA3, pA4]
 iterate 1
  first | refine autoT hHeld (by rfl) (by rfl) (x := ?_) (v := ?_) ?_ (by kernel_rfl) ?_ ?_ ?_ | refine autoP (by rfl) (x := ?_) (v := ?_) ?_ (by kernel_rfl) ?_ ?_ ?_
  rotate_left 2
  ·(simp only [gE1, gE2, gE3]; rfl)
  ·exact fun _ _ _ h => h
  ·refine Or.inl ⟨by rfl, fun w hSw => ?_⟩
   (try dsimp only at hSw)
   go_simp
   try (with_reducible rfl)
  try simp only [pA1, pA2, pA3, pA4]
 refine anyE_one (i := 3) (x := ?_) ?_ (by kernel_rfl) (fun K hK => ?_)
 rotate_left
 ·(simp only [gE1, gE2, gE3]; rfl)
 go_simp
 refine (iDoY (dc := 5) 5 1 0 0 0 (List.replicate 5 0) k8 rfl rfl rfl rfl rfl rfl K4_ok (by decide) rfl (by decide) (by decide) (by decide) ((Sat.sub (s21) (by with_reducible repeat first | exact Fr1 | exact Fr2 | (apply Fr3; focus ((repeat (first | exact Tk1 | apply Tk2)); done)) | apply Fr4)) : Sat W _ (vaultA v K4 :: bytes true (some ⟨g21, 0, none⟩) (List.replicate 5 0) :: pv25 gv v :: []))).mono ?_
 rintro e w22 ⟨_, _, rfl, _, _, s22'⟩
 have s22 : Sat W w22 (pv25 gv v :: vaultA v K4 :: []) := (Sat.sub (s22') (by with_reducible repeat first | exact Fr1 | exact Fr2 | (apply Fr3; focus ((repeat (first | exact Tk1 | apply Tk2)); done)) | apply Fr4))
 clear s21 s22'
 go_wp2_with fail
 have hKp := (HK.out _ (Sat.sub (s22) (by with_reducible repeat first | exact Fr1 | exact Fr2 | (apply Fr3; focus ((repeat (first | exact Tk1 | apply Tk2)); done)) | apply Fr4)))
 refine hK.out _ _ hKp ?_
 clear hK K hHeld
 have hHeld := hKp
 clear hKp
 try simp only [pA1, pA2, pA3, pA4]
 iterate 4
  first | refine autoT hHeld (by rfl) (by rfl) (x := ?_) (v := ?_) ?_ (by kernel_rfl) ?_ ?_ ?_ | refine autoP (by rfl) (x := ?_) (v := ?_) ?_ (by kernel_rfl) ?_ ?_ ?_
  rotate_left 2
  ·(simp only [gE1, gE2, gE3]; rfl)
  ·exact fun _ _ _ h => h
  ·refine Or.inl ⟨by rfl, fun w hSw => ?_⟩
   (try dsimp only at hSw)
   go_simp
   try (with_reducible rfl)
  try simp only [pA1, pA2, pA3, pA4]
 refine anyE_one (i := 8) (x := ?_) ?_ (by kernel_rfl) (fun K hK => ?_)
 rotate_left
 ·(simp only [gE1, gE2, gE3]; rfl)
 rw [if_pos (by rfl)]
 refine op_mk8 3 _ _ rfl rfl rfl (by decide) s22 ?_
 intro w23 g23 s23
 clear s22
 have hKp := (HK.out _ (Sat.sub (s23) (by with_reducible repeat first | exact Fr1 | exact Fr2 | (apply Fr3; focus ((repeat (first | exact Tk1 | apply Tk2)); done)) | apply Fr4)))
 refine hK.out _ _ hKp ?_
 clear hK K hHeld
 have hHeld := hKp
 clear hKp
 try simp only [pA1, pA2, pA3, pA4]
 iterate 1
  first | refine autoT hHeld (by rfl) (by rfl) (x := ?_) (v := ?_) ?_ (by kernel_rfl) ?_ ?_ ?_ | refine autoP (by rfl) (x := ?_) (v := ?_) ?_ (by kernel_rfl) ?_ ?_ ?_
  rotate_left 2
  ·(simp only [gE1, gE2, gE3]; rfl)
  ·exact fun _ _ _ h => h
  ·refine Or.inl ⟨by rfl, fun w hSw => ?_⟩
   (try dsimp only at hSw)
   go_simp
   try (with_reducible rfl)
  try simp only [pA1, pA2, pA3, pA4]
 refine anyE_one (i := 10) (x := ?_) ?_ (by kernel_rfl) (fun K hK => ?_)
 rotate_left
 ·(simp only [gE1, gE2, gE3]; rfl)
 go_simp
 refine (iDoY (dc := 3) 5 1 0 0 0 (List.replicate 3 0) k9 rfl rfl rfl rfl rfl rfl K4_ok (by decide) rfl (by decide) (by decide) (by decide) ((Sat.sub (s23) (by with_reducible repeat first | exact Fr1 | exact Fr2 | (apply Fr3; focus ((repeat (first | exact Tk1 | apply Tk2)); done)) | apply Fr4)) : Sat W _ (vaultA v K4 :: bytes true (some ⟨g23, 0, none⟩) (List.replicate 3 0) :: pv25 gv v :: []))).mono ?_
 rintro e w24 ⟨_, _, rfl, _, _, s24'⟩
 have s24 : Sat W w24 (pv25 gv v :: vaultA v K4 :: []) := (Sat.sub (s24') (by with_reducible repeat first | exact Fr1 | exact Fr2 | (apply Fr3; focus ((repeat (first | exact Tk1 | apply Tk2)); done)) | apply Fr4))
 clear s23 s24'
 go_wp2_with fail
 have hKp := (HK.out _ (Sat.sub (s24) (by with_reducible repeat first | exact Fr1 | exact Fr2 | (apply Fr3; focus ((repeat (first | exact Tk1 | apply Tk2)); done)) | apply Fr4)))
 refine hK.out _ _ hKp ?_
 clear hK K hHeld
 have hHeld := hKp
 clear hKp
 try simp only [pA1, pA2, pA3, pA4]
 iterate 5
  first | refine autoT hHeld (by rfl) (by rfl) (x := ?_) (v := ?_) ?_ (by kernel_rfl) ?_ ?_ ?_ | refine autoP (by rfl) (x := ?_) (v := ?_) ?_ (by kernel_rfl) ?_ ?_ ?_
  rotate_left 2
  ·(simp only [gE1, gE2, gE3]; rfl)
  ·exact fun _ _ _ h => h
  ·refine Or.inl ⟨by rfl, fun w hSw => ?_⟩
   (try dsimp only at hSw)
   go_simp
   try (with_reducible rfl)
  try simp only [pA1, pA2, pA3, pA4]
 refine anyE_one (i := 16) (x := ?_) ?_ (by kernel_rfl) (fun K hK => ?_)
 rotate_left
 ·(simp only [gE1, gE2, gE3]; rfl)
 go_simp
 refine (iHeld K4 K4_ok (by decide) ((Sat.sub (s24) (by with_reducible repeat first | exact Fr1 | exact Fr2 | (apply Fr3; focus ((repeat (first | exact Tk1 | apply Tk2)); done)) | apply Fr4)) : Sat W _ (vaultA v K4 :: pv25 gv v :: []))).mono ?_
 rintro e w25 ⟨hn, hp, hc, hhn, rfl, s25'⟩
 rw [K4_held] at hhn
 subst hhn
 have s25 : Sat W w25 (pv25 gv v :: vaultA v K4 :: []) := (Sat.sub (s25') (by with_reducible repeat first | exact Fr1 | exact Fr2 | (apply Fr3; focus ((repeat (first | exact Tk1 | apply Tk2)); done)) | apply Fr4))
 clear s24 s25'
 go_wp2_with fail
 have hKp := (HK.out _ (Sat.sub (s25) (by with_reducible repeat first | exact Fr1 | exact Fr2 | (apply Fr3; focus ((repeat (first | exact Tk1 | apply Tk2)); done)) | apply Fr4)))
 refine hK.out _ _ hKp ?_
 clear hK K hHeld
 have hHeld := hKp
 clear hKp
 try simp only [pA1, pA2, pA3, pA4]
 iterate 4
  first | refine autoT hHeld (by rfl) (by rfl) (x := ?_) (v := ?_) ?_ (by kernel_rfl) ?_ ?_ ?_ | refine autoP (by rfl) (x := ?_) (v := ?_) ?_ (by kernel_rfl) ?_ ?_ ?_
  rotate_left 2
  ·(simp only [gE1, gE2, gE3]; rfl)
  ·exact fun _ _ _ h => h
  ·refine Or.inl ⟨by rfl, fun w hSw => ?_⟩
   (try dsimp only at hSw)
   go_simp
   try (with_reducible rfl)
  try simp only [pA1, pA2, pA3, pA4]
 clear hHeld
 refine anyE_done (by kernel_rfl) ?_ _
 obtain ⟨cv, zv⟩ := HK.out _ ((Sat.sub (s25) (by with_reducible repeat first | exact Fr1 | exact Fr2 | (apply Fr3; focus ((repeat (first | exact Tk1 | apply Tk2)); done)) | apply Fr4)) : Sat W _ (pv25 gv v :: []))
 go_wp2_with fail
 have sb := bytesOf (bs := tag4) (s25.alloc (u8s tag4).toArray 5)
 refine (iDoY (dc := 4) 5 1 0 0 0 tag4 k10 rfl rfl rfl rfl rfl rfl K4_ok (by decide) rfl (by decide) (by decide) (by decide) ((Sat.sub (sb) (by with_reducible repeat first | exact Fr1 | exact Fr2 | (apply Fr3; focus ((repeat (first | exact Tk1 | apply Tk2)); done)) | apply Fr4)) : Sat W _ (vaultA v K4 :: bytes true (some ⟨w25.heap.size, 0, none⟩) tag4 :: pv25 gv v :: []))).mono ?_
 rintro e w26 ⟨qa, ca, rfl, _, _, s26'⟩
 have s26 : Sat W w26 (pv25 gv v :: vaultA v A1 :: []) := (Sat.sub (s26') (by with_reducible repeat first | exact Fr1 | exact Fr2 | (apply Fr3; focus ((repeat (first | exact Tk1 | apply Tk2)); done)) | apply Fr4))
 clear s25 s26' sb cv zv
 go_wp2_with (first | (refine wpl_alloc_agg rfl 35 rfl s26 _ (zero_ans _) ?_; intro w27a ga s26a _; clear s26) | (refine wpl_stAns rfl rfl (.tmp 7) (.tmp 76) rfl s26a rfl rfl ?_; intro w27 s27x; clear s26a; have s27 : Sat W w27 (pv25 gv v :: vaultA v A1 :: seg true ga 0 [.int .i64 0, .int .i64 0, .bool true, .slice qa 0 ca] :: []) := (Sat.sub (s27x) (by with_reducible repeat first | exact Fr1 | exact Fr2 | (apply Fr3; focus ((repeat (first | exact Tk1 | apply Tk2)); done)) | apply Fr4)); clear s27x; obtain ⟨cv, zv⟩ := HK.out _ ((Sat.sub (s27) (by with_reducible repeat first | exact Fr1 | exact Fr2 | (apply Fr3; focus ((repeat (first | exact Tk1 | apply Tk2)); done)) | apply Fr4)) : Sat W _ (pv25 gv v :: []))))
 go_wp2_with fail
 refine (iDoZ (bn := 16) 9 0 0 0 0 k11 rfl rfl rfl rfl rfl rfl A1_ok (by decide) ((Sat.sub (s27) (by with_reducible repeat first | exact Fr1 | exact Fr2 | (apply Fr3; focus ((repeat (first | exact Tk1 | apply Tk2)); done)) | apply Fr4)) : Sat W _ (vaultA v A1 :: pv25 gv v :: seg true ga 0 [.int .i64 0, .int .i64 0, .bool true, .slice qa 0 ca] :: []))).mono ?_
 rintro e w28 ⟨qb, cb, rfl, _, _, s28'⟩
 have s28 : Sat W w28 (pv25 gv v :: vaultA v A1 :: bytes true qb key25 :: seg true ga 0 [.int .i64 0, .int .i64 0, .bool true, .slice qa 0 ca] :: []) := (Sat.sub (s28') (by with_reducible repeat first | exact Fr1 | exact Fr2 | (apply Fr3; focus ((repeat (first | exact Tk1 | apply Tk2)); done)) | apply Fr4))
 clear s27 s28' cv zv
 go_wp2_with (first | (refine wpl_alloc_agg rfl 35 rfl s28 _ (zero_ans _) ?_; intro w29a gb s28a _; clear s28) | (refine wpl_stAns rfl rfl (.tmp 8) (.tmp 79) rfl s28a rfl rfl ?_; intro w29 s29x; clear s28a; have s29 : Sat W w29 (pv25 gv v :: vaultA v A1 :: bytes true qb key25 :: seg true ga 0 [.int .i64 0, .int .i64 0, .bool true, .slice qa 0 ca] :: seg true gb 0 [.int .i64 0, .int .i64 0, .bool false, .slice qb 16 cb] :: []) := (Sat.sub (s29x) (by with_reducible repeat first | exact Fr1 | exact Fr2 | (apply Fr3; focus ((repeat (first | exact Tk1 | apply Tk2)); done)) | apply Fr4)); clear s29x; obtain ⟨cv, zv⟩ := HK.out _ ((Sat.sub (s29) (by with_reducible repeat first | exact Fr1 | exact Fr2 | (apply Fr3; focus ((repeat (first | exact Tk1 | apply Tk2)); done)) | apply Fr4)) : Sat W _ (pv25 gv v :: []))))
 go_wp2_with fail
 refine (iDoZ (bn := 0) 10 0 0 0 0 k12 rfl rfl rfl rfl rfl rfl A1_ok (by decide) ((Sat.sub (s29) (by with_reducible repeat first | exact Fr1 | exact Fr2 | (apply Fr3; focus ((repeat (first | exact Tk1 | apply Tk2)); done)) | apply Fr4)) : Sat W _ (vaultA v A1 :: pv25 gv v :: bytes true qb key25 :: seg true ga 0 [.int .i64 0, .int .i64 0, .bool true, .slice qa 0 ca] :: seg true gb 0 [.int .i64 0, .int .i64 0, .bool false, .slice qb 16 cb] :: []))).mono ?_
 rintro e w30 ⟨qc, cc, rfl, _, _, s30'⟩
 have s30 : Sat W w30 (pv25 gv v :: vaultA v S0 :: bytes true qb key25 :: seg true ga 0 [.int .i64 0, .int .i64 0, .bool true, .slice qa 0 ca] :: seg true gb 0 [.int .i64 0, .int .i64 0, .bool false, .slice qb 16 cb] :: []) := (Sat.sub (s30') (by with_reducible repeat first | exact Fr1 | exact Fr2 | (apply Fr3; focus ((repeat (first | exact Tk1 | apply Tk2)); done)) | apply Fr4))
 clear s29 s30' cv zv
 go_wp2_with (first | (refine wpl_alloc_agg rfl 35 rfl s30 _ (zero_ans _) ?_; intro w31a gc s30a _; clear s30) | (refine wpl_stAns rfl rfl (.tmp 9) (.tmp 82) rfl s30a rfl rfl ?_; intro w31 s31x; clear s30a; have s31 : Sat W w31 (pv25 gv v :: vaultA v S0 :: bytes true qb key25 :: seg true ga 0 [.int .i64 0, .int .i64 0, .bool true, .slice qa 0 ca] :: seg true gb 0 [.int .i64 0, .int .i64 0, .bool false, .slice qb 16 cb] :: seg true gc 0 [.int .i64 0, .int .i64 0, .bool false, .slice qc 0 cc] :: []) := (Sat.sub (s31x) (by with_reducible repeat first | exact Fr1 | exact Fr2 | (apply Fr3; focus ((repeat (first | exact Tk1 | apply Tk2)); done)) | apply Fr4)); clear s31x; obtain ⟨cv, zv⟩ := HK.out _ ((Sat.sub (s31) (by with_reducible repeat first | exact Fr1 | exact Fr2 | (apply Fr3; focus ((repeat (first | exact Tk1 | apply Tk2)); done)) | apply Fr4)) : Sat W _ (pv25 gv v :: []))))
 go_wp2_with fail
 refine (iDoZ (bn := 0) 10 0 0 0 0 k13 rfl rfl rfl rfl rfl rfl (S0_ok 0) (by decide) ((Sat.sub (s31) (by with_reducible repeat first | exact Fr1 | exact Fr2 | (apply Fr3; focus ((repeat (first | exact Tk1 | apply Tk2)); done)) | apply Fr4)) : Sat W _ (vaultA v S0 :: pv25 gv v :: bytes true qb key25 :: seg true ga 0 [.int .i64 0, .int .i64 0, .bool true, .slice qa 0 ca] :: seg true gb 0 [.int .i64 0, .int .i64 0, .bool false, .slice qb 16 cb] :: seg true gc 0 [.int .i64 0, .int .i64 0, .bool false, .slice qc 0 cc] :: []))).mono ?_
 rintro e w32 ⟨qd, cd, rfl, _, _, s32'⟩
 have s32 : Sat W w32 (pv25 gv v :: vaultA v S0 :: bytes true qb key25 :: seg true ga 0 [.int .i64 0, .int .i64 0, .bool true, .slice qa 0 ca] :: seg true gb 0 [.int .i64 0, .int .i64 0, .bool false, .slice qb 16 cb] :: seg true gc 0 [.int .i64 0, .int .i64 0, .bool false, .slice qc 0 cc] :: []) := (Sat.sub (s32') (by with_reducible repeat first | exact Fr1 | exact Fr2 | (apply Fr3; focus ((repeat (first | exact Tk1 | apply Tk2)); done)) | apply Fr4))
 clear s31 s32' cv zv
 go_wp2_with (first | (refine wpl_alloc_agg rfl 35 rfl s32 _ (zero_ans _) ?_; intro w33a gd s32a _; clear s32) | (refine wpl_stAns rfl rfl (.tmp 10) (.tmp 85) rfl s32a rfl rfl ?_; intro w33 s33x; clear s32a; have s33 : Sat W w33 (pv25 gv v :: vaultA v S0 :: bytes true qb key25 :: seg true ga 0 [.int .i64 0, .int .i64 0, .bool true, .slice qa 0 ca] :: seg true gb 0 [.int .i64 0, .int .i64 0, .bool false, .slice qb 16 cb] :: seg true gc 0 [.int .i64 0, .int .i64 0, .bool false, .slice qc 0 cc] :: seg true gd 0 [.int .i64 5, .int .i64 0, .bool false, .slice qd 0 cd] :: []) := (Sat.sub (s33x) (by with_reducible repeat first | exact Fr1 | exact Fr2 | (apply Fr3; focus ((repeat (first | exact Tk1 | apply Tk2)); done)) | apply Fr4)); clear s33x; obtain ⟨cv, zv⟩ := HK.out _ ((Sat.sub (s33) (by with_reducible repeat first | exact Fr1 | exact Fr2 | (apply Fr3; focus ((repeat (first | exact Tk1 | apply Tk2)); done)) | apply Fr4)) : Sat W _ (pv25 gv v :: []))))
 go_wp2_with fail
 refine (iDoZ (bn := 0) 11 0 0 0 0 k14 rfl rfl rfl rfl rfl rfl (S0_ok 0) (by decide) ((Sat.sub (s33) (by with_reducible repeat first | exact Fr1 | exact Fr2 | (apply Fr3; focus ((repeat (first | exact Tk1 | apply Tk2)); done)) | apply Fr4)) : Sat W _ (vaultA v S0 :: pv25 gv v :: bytes true qb key25 :: seg true ga 0 [.int .i64 0, .int .i64 0, .bool true, .slice qa 0 ca] :: seg true gb 0 [.int .i64 0, .int .i64 0, .bool false, .slice qb 16 cb] :: seg true gc 0 [.int .i64 0, .int .i64 0, .bool false, .slice qc 0 cc] :: seg true gd 0 [.int .i64 5, .int .i64 0, .bool false, .slice qd 0 cd] :: []))).mono ?_
 rintro e w34 ⟨qe, ce, rfl, _, _, s34'⟩
 have s34 : Sat W w34 (pv25 gv v :: vaultA v S0 :: bytes true qb key25 :: seg true ga 0 [.int .i64 0, .int .i64 0, .bool true, .slice qa 0 ca] :: seg true gb 0 [.int .i64 0, .int .i64 0, .bool false, .slice qb 16 cb] :: seg true gc 0 [.int .i64 0, .int .i64 0, .bool false, .slice qc 0 cc] :: seg true gd 0 [.int .i64 5, .int .i64 0, .bool false, .slice qd 0 cd] :: []) := (Sat.sub (s34') (by with_reducible repeat first | exact Fr1 | exact Fr2 | (apply Fr3; focus ((repeat (first | exact Tk1 | apply Tk2)); done)) | apply Fr4))
 clear s33 s34' cv zv
 go_wp2_with (first | (refine wpl_alloc_agg rfl 35 rfl s34 _ (zero_ans _) ?_; intro w35a ge s34a _; clear s34) | (refine wpl_stAns rfl rfl (.tmp 11) (.tmp 88) rfl s34a rfl rfl ?_; intro w35 s35x; clear s34a; have s35 : Sat W w35 (pv25 gv v :: vaultA v S0 :: bytes true qb key25 :: seg true ga 0 [.int .i64 0, .int .i64 0, .bool true, .slice qa 0 ca] :: seg true gb 0 [.int .i64 0, .int .i64 0, .bool false, .slice qb 16 cb] :: seg true gc 0 [.int .i64 0, .int .i64 0, .bool false, .slice qc 0 cc] :: seg true gd 0 [.int .i64 5, .int .i64 0, .bool false, .slice qd 0 cd] :: seg true ge 0 [.int .i64 3, .int .i64 0, .bool false, .slice qe 0 ce] :: []) := (Sat.sub (s35x) (by with_reducible repeat first | exact Fr1 | exact Fr2 | (apply Fr3; focus ((repeat (first | exact Tk1 | apply Tk2)); done)) | apply Fr4)); clear s35x; obtain ⟨cv, zv⟩ := HK.out _ ((Sat.sub (s35) (by with_reducible repeat first | exact Fr1 | exact Fr2 | (apply Fr3; focus ((repeat (first | exact Tk1 | apply Tk2)); done)) | apply Fr4)) : Sat W _ (pv25 gv v :: []))))
 go_wp2_with fail
 have hkeep : ∀ w', Sat W w' (pv25 gv v :: seg true ga 0 [.int .i64 0, .int .i64 0, .bool true, .slice qa 0 ca] :: seg true gb 0 [.int .i64 0, .int .i64 0, .bool false, .slice qb 16 cb] :: seg true gc 0 [.int .i64 0, .int .i64 0, .bool false, .slice qc 0 cc] :: seg true gd 0 [.int .i64 5, .int .i64 0, .bool false, .slice qd 0 cd] :: seg true ge 0 [.int .i64 3, .int .i64 0, .bool false, .slice qe 0 ce] :: []) →  w'.cell? ⟨gv, 0, none⟩ = some (.pointer (some ⟨v, 0, none⟩)) ∧ w'.cell? ⟨ga, 2, none⟩ = some (.bool true) ∧ w'.cell? ⟨ga, 0, none⟩ = some (.int .i64 0) ∧ w'.cell? ⟨gb, 3, none⟩ = some (.slice qb 16 cb) ∧ w'.cell? ⟨gc, 0, none⟩ = some (.int .i64 0) ∧ w'.cell? ⟨gd, 0, none⟩ = some (.int .i64 5) ∧ w'.cell? ⟨ge, 0, none⟩ = some (.int .i64 3) ∧ gv < w'.heap.size ∧ ga < w'.heap.size ∧ gb < w'.heap.size ∧ gc < w'.heap.size ∧ gd < w'.heap.size ∧ ge < w'.heap.size := fun w' s => ⟨((Sat.sub (s) (by with_reducible repeat first | exact Fr1 | exact Fr2 | (apply Fr3; focus ((repeat (first | exact Tk1 | apply Tk2)); done)) | apply Fr4)) : Sat W w' (pv25 gv v :: [])).at 0 rfl, ((Sat.sub (s) (by with_reducible repeat first | exact Fr1 | exact Fr2 | (apply Fr3; focus ((repeat (first | exact Tk1 | apply Tk2)); done)) | apply Fr4)) : Sat W w' (seg true ga 0 [.int .i64 0, .int .i64 0, .bool true, .slice qa 0 ca] :: [])).at 2 rfl, ((Sat.sub (s) (by with_reducible repeat first | exact Fr1 | exact Fr2 | (apply Fr3; focus ((repeat (first | exact Tk1 | apply Tk2)); done)) | apply Fr4)) : Sat W w' (seg true ga 0 [.int .i64 0, .int .i64 0, .bool true, .slice qa 0 ca] :: [])).at 0 rfl, ((Sat.sub (s) (by with_reducible repeat first | exact Fr1 | exact Fr2 | (apply Fr3; focus ((repeat (first | exact Tk1 | apply Tk2)); done)) | apply Fr4)) : Sat W w' (seg true gb 0 [.int .i64 0, .int .i64 0, .bool false, .slice qb 16 cb] :: [])).at 3 rfl, ((Sat.sub (s) (by with_reducible repeat first | exact Fr1 | exact Fr2 | (apply Fr3; focus ((repeat (first | exact Tk1 | apply Tk2)); done)) | apply Fr4)) : Sat W w' (seg true gc 0 [.int .i64 0, .int .i64 0, .bool false, .slice qc 0 cc] :: [])).at 0 rfl, ((Sat.sub (s) (by with_reducible repeat first | exact Fr1 | exact Fr2 | (apply Fr3; focus ((repeat (first | exact Tk1 | apply Tk2)); done)) | apply Fr4)) : Sat W w' (seg true gd 0 [.int .i64 5, .int .i64 0, .bool false, .slice qd 0 cd] :: [])).at 0 rfl, ((Sat.sub (s) (by with_reducible repeat first | exact Fr1 | exact Fr2 | (apply Fr3; focus ((repeat (first | exact Tk1 | apply Tk2)); done)) | apply Fr4)) : Sat W w' (seg true ge 0 [.int .i64 3, .int .i64 0, .bool false, .slice qe 0 ce] :: [])).at 0 rfl, ((Sat.sub (s) (by with_reducible repeat first | exact Fr1 | exact Fr2 | (apply Fr3; focus ((repeat (first | exact Tk1 | apply Tk2)); done)) | apply Fr4)) : Sat W w' (pv25 gv v :: [])).lt (by simp), ((Sat.sub (s) (by with_reducible repeat first | exact Fr1 | exact Fr2 | (apply Fr3; focus ((repeat (first | exact Tk1 | apply Tk2)); done)) | apply Fr4)) : Sat W w' (seg true ga 0 [.int .i64 0, .int .i64 0, .bool true, .slice qa 0 ca] :: [])).lt (by simp), ((Sat.sub (s) (by with_reducible repeat first | exact Fr1 | exact Fr2 | (apply Fr3; focus ((repeat (first | exact Tk1 | apply Tk2)); done)) | apply Fr4)) : Sat W w' (seg true gb 0 [.int .i64 0, .int .i64 0, .bool false, .slice qb 16 cb] :: [])).lt (by simp), ((Sat.sub (s) (by with_reducible repeat first | exact Fr1 | exact Fr2 | (apply Fr3; focus ((repeat (first | exact Tk1 | apply Tk2)); done)) | apply Fr4)) : Sat W w' (seg true gc 0 [.int .i64 0, .int .i64 0, .bool false, .slice qc 0 cc] :: [])).lt (by simp), ((Sat.sub (s) (by with_reducible repeat first | exact Fr1 | exact Fr2 | (apply Fr3; focus ((repeat (first | exact Tk1 | apply Tk2)); done)) | apply Fr4)) : Sat W w' (seg true gd 0 [.int .i64 5, .int .i64 0, .bool false, .slice qd 0 cd] :: [])).lt (by simp), ((Sat.sub (s) (by with_reducible repeat first | exact Fr1 | exact Fr2 | (apply Fr3; focus ((repeat (first | exact Tk1 | apply Tk2)); done)) | apply Fr4)) : Sat W w' (seg true ge 0 [.int .i64 3, .int .i64 0, .bool false, .slice qe 0 ce] :: [])).lt (by simp)⟩
 have HKEEP := Lib.hid hkeep; clear hkeep cv zv
 have s36 : Sat W _ (bytes true qb key25 :: vaultA v S0 :: pv25 gv v :: seg true ga 0 [.int .i64 0, .int .i64 0, .bool true, .slice qa 0 ca] :: seg true gb 0 [.int .i64 0, .int .i64 0, .bool false, .slice qb 16 cb] :: seg true gc 0 [.int .i64 0, .int .i64 0, .bool false, .slice qc 0 cc] :: seg true gd 0 [.int .i64 5, .int .i64 0, .bool false, .slice qd 0 cd] :: seg true ge 0 [.int .i64 3, .int .i64 0, .bool false, .slice qe 0 ce] :: []) := Sat.drew ((Sat.sub (s35) (by with_reducible repeat first | exact Fr1 | exact Fr2 | (apply Fr3; focus ((repeat (first | exact Tk1 | apply Tk2)); done)) | apply Fr4)) : Sat W w35 (bytes true qb key25 :: vaultA v S0 :: pv25 gv v :: seg true ga 0 [.int .i64 0, .int .i64 0, .bool true, .slice qa 0 ca] :: seg true gb 0 [.int .i64 0, .int .i64 0, .bool false, .slice qb 16 cb] :: seg true gc 0 [.int .i64 0, .int .i64 0, .bool false, .slice qc 0 cc] :: seg true gd 0 [.int .i64 5, .int .i64 0, .bool false, .slice qd 0 cd] :: seg true ge 0 [.int .i64 3, .int .i64 0, .bool false, .slice qe 0 ce] :: []))
 clear s35
 refine region_E (fun w' => w'.cell? ⟨gv, 0, none⟩ = some (.pointer (some ⟨v, 0, none⟩)) ∧ w'.cell? ⟨ga, 2, none⟩ = some (.bool true) ∧ w'.cell? ⟨ga, 0, none⟩ = some (.int .i64 0) ∧ w'.cell? ⟨gb, 3, none⟩ = some (.slice qb 16 cb) ∧ w'.cell? ⟨gc, 0, none⟩ = some (.int .i64 0) ∧ w'.cell? ⟨gd, 0, none⟩ = some (.int .i64 5) ∧ w'.cell? ⟨ge, 0, none⟩ = some (.int .i64 3) ∧ gv < w'.heap.size ∧ ga < w'.heap.size ∧ gb < w'.heap.size ∧ gc < w'.heap.size ∧ gd < w'.heap.size ∧ ge < w'.heap.size) [12, 16, 21, 27, 32, 37, 41] (by kernel_rfl) ?_
 have hHeld := (HKEEP.out _ (Sat.sub (s36) (by with_reducible repeat first | exact Fr1 | exact Fr2 | (apply Fr3; focus ((repeat (first | exact Tk1 | apply Tk2)); done)) | apply Fr4)))
 refine anyE_one (i := 0) (x := ?_) ?_ (by kernel_rfl) (fun K hK => ?_)
 rotate_left
 ·(simp only [gE1, gE2, gE3]; rfl)
 go_simp
 refine (awake25 s36).mono ?_
 rintro e w37 ⟨rfl, s37⟩
 clear s36
 go_wp2_with fail
 have hKp := (HKEEP.out _ (Sat.sub (s37) (by with_reducible repeat first | exact Fr1 | exact Fr2 | (apply Fr3; focus ((repeat (first | exact Tk1 | apply Tk2)); done)) | apply Fr4)))
 refine hK.out _ _ hKp ?_
 clear hK K hHeld
 have hHeld := hKp
 clear hKp
 try simp only [pA1, pA2, pA3, pA4]
 iterate 21
  first | refine autoT hHeld (by rfl) (by rfl) (x := ?_) (v := ?_) ?_ (by kernel_rfl) ?_ ?_ ?_ | refine autoP (by rfl) (x := ?_) (v := ?_) ?_ (by kernel_rfl) ?_ ?_ ?_
  rotate_left 2
  ·(simp only [gE1, gE2, gE3]; rfl)
  ·exact fun _ _ _ h => h
  ·refine Or.inl ⟨by rfl, fun w hSw => ?_⟩
   (try dsimp only at hSw)
   go_simp
   try (with_reducible rfl)
  try simp only [pA1, pA2, pA3, pA4]
 refine anyE_one (i := 22) (x := ?_) ?_ (by kernel_rfl) (fun K hK => ?_)
 rotate_left
 ·(simp only [gE1, gE2, gE3]; rfl)
 go_simp
 refine (iKey25 s37).mono ?_
 rintro e w38 ⟨gk, rfl, s38'⟩
 have s38 : Sat W w38 (bytes true qb key25 :: bytes true (some ⟨gk, 0, none⟩) key25 :: vaultA v S0 :: pv25 gv v :: seg true ga 0 [.int .i64 0, .int .i64 0, .bool true, .slice qa 0 ca] :: seg true gb 0 [.int .i64 0, .int .i64 0, .bool false, .slice qb 16 cb] :: seg true gc 0 [.int .i64 0, .int .i64 0, .bool false, .slice qc 0 cc] :: seg true gd 0 [.int .i64 5, .int .i64 0, .bool false, .slice qd 0 cd] :: seg true ge 0 [.int .i64 3, .int .i64 0, .bool false, .slice qe 0 ce] :: []) := (Sat.sub (s38') (by with_reducible repeat first | exact Fr1 | exact Fr2 | (apply Fr3; focus ((repeat (first | exact Tk1 | apply Tk2)); done)) | apply Fr4))
 clear s37 s38'
 go_wp2_with fail
 have hKp := (HKEEP.out _ (Sat.sub (s38) (by with_reducible repeat first | exact Fr1 | exact Fr2 | (apply Fr3; focus ((repeat (first | exact Tk1 | apply Tk2)); done)) | apply Fr4)))
 refine hK.out _ _ hKp ?_
 clear hK K hHeld
 have hHeld := hKp
 clear hKp
 try simp only [pA1, pA2, pA3, pA4]
 refine anyE_one (i := 23) (x := ?_) ?_ (by kernel_rfl) (fun K hK => ?_)
 rotate_left
 ·(simp only [gE1, gE2, gE3]; rfl)
 go_simp
 refine (sameT (ca := cb) (cb := 16) key25 key25 rfl rfl (by decide) rfl s38).mono ?_
 rintro e w39 ⟨rfl, s39'⟩
 have s39 : Sat W w39 (vaultA v S0 :: pv25 gv v :: seg true ga 0 [.int .i64 0, .int .i64 0, .bool true, .slice qa 0 ca] :: seg true gb 0 [.int .i64 0, .int .i64 0, .bool false, .slice qb 16 cb] :: seg true gc 0 [.int .i64 0, .int .i64 0, .bool false, .slice qc 0 cc] :: seg true gd 0 [.int .i64 5, .int .i64 0, .bool false, .slice qd 0 cd] :: seg true ge 0 [.int .i64 3, .int .i64 0, .bool false, .slice qe 0 ce] :: []) := (Sat.sub (s39') (by with_reducible repeat first | exact Fr1 | exact Fr2 | (apply Fr3; focus ((repeat (first | exact Tk1 | apply Tk2)); done)) | apply Fr4))
 clear s38 s39'
 go_wp2_with fail
 have hKp := (HKEEP.out _ (Sat.sub (s39) (by with_reducible repeat first | exact Fr1 | exact Fr2 | (apply Fr3; focus ((repeat (first | exact Tk1 | apply Tk2)); done)) | apply Fr4)))
 refine hK.out _ _ hKp ?_
 clear hK K hHeld
 have hHeld := hKp
 clear hKp
 try simp only [pA1, pA2, pA3, pA4]
 iterate 18
  first | refine autoT hHeld (by rfl) (by rfl) (x := ?_) (v := ?_) ?_ (by kernel_rfl) ?_ ?_ ?_ | refine autoP (by rfl) (x := ?_) (v := ?_) ?_ (by kernel_rfl) ?_ ?_ ?_
  rotate_left 2
  ·(simp only [gE1, gE2, gE3]; rfl)
  ·exact fun _ _ _ h => h
  ·refine Or.inl ⟨by rfl, fun w hSw => ?_⟩
   (try dsimp only at hSw)
   go_simp
   try (with_reducible rfl)
  try simp only [pA1, pA2, pA3, pA4]
 refine anyE_one (i := 42) (x := ?_) ?_ (by kernel_rfl) (fun K hK => ?_)
 rotate_left
 ·(simp only [gE1, gE2, gE3]; rfl)
 go_simp
 refine (iHeld S0 (S0_ok 0) (by decide) s39).mono ?_
 rintro e w40 ⟨hn, hp, hc, hhn, rfl, s40⟩
 rw [S0_held] at hhn
 subst hhn
 clear s39
 go_wp2_with fail
 have hKp := (HKEEP.out _ (Sat.sub (s40) (by with_reducible repeat first | exact Fr1 | exact Fr2 | (apply Fr3; focus ((repeat (first | exact Tk1 | apply Tk2)); done)) | apply Fr4)))
 refine hK.out _ _ hKp ?_
 clear hK K hHeld
 have hHeld := hKp
 clear hKp
 try simp only [pA1, pA2, pA3, pA4]
 iterate 4
  first | refine autoT hHeld (by rfl) (by rfl) (x := ?_) (v := ?_) ?_ (by kernel_rfl) ?_ ?_ ?_ | refine autoP (by rfl) (x := ?_) (v := ?_) ?_ (by kernel_rfl) ?_ ?_ ?_
  rotate_left 2
  ·(simp only [gE1, gE2, gE3]; rfl)
  ·exact fun _ _ _ h => h
  ·refine Or.inl ⟨by rfl, fun w hSw => ?_⟩
   (try dsimp only at hSw)
   go_simp
   try (with_reducible rfl)
  try simp only [pA1, pA2, pA3, pA4]
 refine anyE_done (by kernel_rfl) ?_ _
 have HS := Lib.hid s40; clear s40
 go_wp2_with fail
 go_ret
 exact ⟨rfl, HS.out.below⟩
end Go.Proofs.YtpiiklfnakkdiaaGreat
