
import Derived.Test.YtbefjaodpbgpcaaGreatHG
set_option linter.unusedVariables false
set_option linter.unusedSimpArgs false
set_option maxRecDepth 100000
set_option maxHeartbeats 16000000
namespace Go.Proofs.YtbefjaodpbgpcaaGreat
open Go.RowKit Go.Sep Go.Bv
section
variable {σ : Type}
def atLast (R : Sts σ × Ans × List Run3) : Sts σ × Ans × List Run3 := (R.1, if R.2.1.code = 0 then R.2.1 else noA R.2.1.code, note R.2.2 12 R.2.1.code 1)
def callsM (v : Nat) : Array MapEntry := #[⟨.int .u8 1, .func (.func 49) #[.pointer (some ⟨v, 0, none⟩)] #[], 0⟩, ⟨.int .u8 2, .func (.func 50) #[.pointer (some ⟨v, 0, none⟩)] #[], 1⟩, ⟨.int .u8 3, .func (.func 51) #[.pointer (some ⟨v, 0, none⟩)] #[], 2⟩, ⟨.int .u8 4, .func (.func 52) #[.pointer (some ⟨v, 0, none⟩)] #[], 3⟩, ⟨.int .u8 5, .func (.func 53) #[.pointer (some ⟨v, 0, none⟩)] #[], 4⟩, ⟨.int .u8 6, .func (.func 54) #[.pointer (some ⟨v, 0, none⟩)] #[], 5⟩, ⟨.int .u8 7, .func (.func 55) #[.pointer (some ⟨v, 0, none⟩)] #[], 6⟩, ⟨.int .u8 8, .func (.func 56) #[.pointer (some ⟨v, 0, none⟩)] #[], 7⟩, ⟨.int .u8 9, .func (.func 57) #[.pointer (some ⟨v, 0, none⟩)] #[], 8⟩, ⟨.int .u8 10, .func (.func 58) #[.pointer (some ⟨v, 0, none⟩)] #[], 9⟩]
theorem vCalls {W0 w : World} {L : List Assn} (v : Nat) (hs : Sat W0 w L) :
  Calls Tryz.prog 39 #[.pointer (some ⟨v, 0, none⟩)] w fun e w' => ∃ r, e = .returned (.map (some r)) ∧ Sat W0 w' (obj r (.map (callsM v) 10) :: L) := by
 go_enter Tryz.func39, Tryz.ntmps39
 go_wp2_with (first | (refine wpl_makeMap rfl 94 none rfl rfl hs ?_; intro w1 r s0; clear hs) | (refine wpl_mapPut rfl rfl 94 (.tmp 3) (.const (.int .u8 1)) (.tmp 5) (.inr rfl) Tryz.underlying94 Tryz.underlying23 s0 rfl rfl rfl (by rfl) ?_; intro w2 s1; clear s0) | (refine wpl_mapPut rfl rfl 94 (.tmp 3) (.const (.int .u8 2)) (.tmp 7) (.inr rfl) Tryz.underlying94 Tryz.underlying23 s1 rfl rfl rfl (by rfl) ?_; intro w3 s2; clear s1) | (refine wpl_mapPut rfl rfl 94 (.tmp 3) (.const (.int .u8 3)) (.tmp 9) (.inr rfl) Tryz.underlying94 Tryz.underlying23 s2 rfl rfl rfl (by rfl) ?_; intro w4 s3; clear s2) | (refine wpl_mapPut rfl rfl 94 (.tmp 3) (.const (.int .u8 4)) (.tmp 11) (.inr rfl) Tryz.underlying94 Tryz.underlying23 s3 rfl rfl rfl (by rfl) ?_; intro w5 s4; clear s3) | (refine wpl_mapPut rfl rfl 94 (.tmp 3) (.const (.int .u8 5)) (.tmp 13) (.inr rfl) Tryz.underlying94 Tryz.underlying23 s4 rfl rfl rfl (by rfl) ?_; intro w6 s5; clear s4) | (refine wpl_mapPut rfl rfl 94 (.tmp 3) (.const (.int .u8 6)) (.tmp 15) (.inr rfl) Tryz.underlying94 Tryz.underlying23 s5 rfl rfl rfl (by rfl) ?_; intro w7 s6; clear s5) | (refine wpl_mapPut rfl rfl 94 (.tmp 3) (.const (.int .u8 7)) (.tmp 17) (.inr rfl) Tryz.underlying94 Tryz.underlying23 s6 rfl rfl rfl (by rfl) ?_; intro w8 s7; clear s6) | (refine wpl_mapPut rfl rfl 94 (.tmp 3) (.const (.int .u8 8)) (.tmp 19) (.inr rfl) Tryz.underlying94 Tryz.underlying23 s7 rfl rfl rfl (by rfl) ?_; intro w9 s8; clear s7) | (refine wpl_mapPut rfl rfl 94 (.tmp 3) (.const (.int .u8 9)) (.tmp 21) (.inr rfl) Tryz.underlying94 Tryz.underlying23 s8 rfl rfl rfl (by rfl) ?_; intro w10 s9; clear s8) | (refine wpl_mapPut rfl rfl 94 (.tmp 3) (.const (.int .u8 10)) (.tmp 23) (.inr rfl) Tryz.underlying94 Tryz.underlying23 s9 rfl rfl rfl (by rfl) ?_; intro w11 s10; clear s9))
 have HS := Lib.hid s10; clear s10
 go_ret
 exact ⟨r, rfl, HS.out⟩
theorem vDo_fn {W0 w : World} {L : List Assn} {I : SesI σ} {v : Nat} {l : Option Nat} {rs : List Run3} {md mm : Bool} {dp ep : Option Addr} {dn dc en ec : Nat} {ix fid : Nat} (S : Sts σ) (R : Sts σ × Ans × List Run3) (kd : Nat) (hd : Int) (ag : Nat) (ct ot : Int) (data more : List Byte) (hk : kd < 256)
  (hcf : ∀ (x y : Value) (w : World), (callFunc fid #[x, y]).run Tryz.prog w = .ok (.enter fid #[x, y]) w) (hf : ∀ v, Instr.findNow (.int .u8) (.int .u8 (kd : Int)) (callsM v).toList 0 = some (some (ix, .func (.func fid) #[.pointer (some ⟨v, 0, none⟩)] #[])))
  (hR : tot rs + 1 ≤ 4611686018427387904 ∧ rs.length ≤ 4294967296) (hR2 : tot R.2.2 + 1 ≤ 4611686018427387904 ∧ R.2.2.length ≤ 4294967296)
  (hc : ∀ (w : World) (X : List Assn), Sat W0 w (ledO l (note rs 11 (kd : Int) 1) :: vlt I v l S :: bytes md dp data :: bytes mm ep more :: X) → Calls Tryz.prog fid #[.pointer (some ⟨v, 0, none⟩), .agg #[.int .u8 (kd : Int), .int .i64 hd, .int .u8 (ag : Int), .int .i64 ct, .int .i64 ot, .slice dp dn dc, .slice ep en ec]] w fun e w' => ansV I W0 v l R (bytes md dp data :: bytes mm ep more :: X) e w')
  (hs : Sat W0 w (ledO l rs :: vlt I v l S :: bytes md dp data :: bytes mm ep more :: L)) :
  Calls Tryz.prog 15 #[.pointer (some ⟨v, 0, none⟩), .agg #[.int .u8 (kd : Int), .int .i64 hd, .int .u8 (ag : Int), .int .i64 ct, .int .i64 ot, .slice dp dn dc, .slice ep en ec]] w fun e w' => ansV I W0 v l (atLast R) (bytes md dp data :: bytes mm ep more :: L) e w' := by
 have hfind := fun (r : Nat) (w : World) (X : List Assn) (s : Sat W0 w (obj r (.map (callsM v) 10) :: X)) => run_mapHas (P := Tryz.prog) (mty := 94) (kd := .u8) (z := (kd : Int)) (i := ix) (v := .func (.func fid) #[.pointer (some ⟨v, 0, none⟩)] #[]) Tryz.underlying94 Tryz.underlying23 s.obj.1 (hf v)
 clear hf
 have hnt := fun (w : World) (X : List Assn) (s : Sat W0 w (ledO l rs :: X)) => noteOne l rs 11 (kd : Int) s (by omega) (by omega)
 have hwk : IntKind.i64.wrap (kd : Int) = (kd : Int) := by rw [IntKind.wrap_i64]; omega
 have hnt2 := fun (w : World) (X : List Assn) (s : Sat W0 w (ledO l R.2.2 :: X)) => noteOne l R.2.2 12 R.2.1.code s hR2.1 hR2.2
 have HN := Lib.hid (And.intro hnt (And.intro hnt2 hc)); clear hnt hnt2 hc hR hR2
 have HO := Lib.hid (hOp W0)
 obtain ⟨t, hb, vb, T, hTS, hS, hT, s0'⟩ := vltOpen (show Sat W0 w (vlt I v l S :: ledO l rs :: bytes md dp data :: bytes mm ep more :: L) from hs.pull 1)
 have s0 : Sat W0 w (seg true v 0 (vlC t l T) :: tabC t hb vb (heldC T) (valsC T) (stars (T.map (Slt.A I)) :: ledO l rs :: bytes md dp data :: bytes mm ep more :: L)) := s0'
 clear hs s0'
 have HT := Lib.hid (And.intro hTS (And.intro hS hT)); clear hTS hS hT
 go_enter Tryz.func15, Tryz.ntmps15
 go_wp2_with (first | (refine wpl_box rfl 27 (.tmp 1) rfl (opC kd hd ag ct ot dp dn dc ep en ec) rfl s0 ?_; intro w1 g s1 _; clear s0) | (refine wpl_alloc_agg rfl 44 rfl s1 _ (zero_ans _) ?_; intro w2 ga s20 _; clear s1; have s2 : Sat W0 w2 (seg true v 0 (vlC t l T) :: seg true g 0 (opC kd hd ag ct ot dp dn dc ep en ec) :: seg true ga 0 ans0 :: ledO l rs :: tabC t hb vb (heldC T) (valsC T) (stars (T.map (Slt.A I)) :: bytes md dp data :: bytes mm ep more :: L)) := s20.f; clear s20))
 refine (vIs s2).mono ?_
 rintro e w3 ⟨rfl, rfl⟩
 go_wp2_with fail
 have hK1 : ∀ (w' : World) (X : List Assn), Sat W0 w' (seg true v 0 (vlC t l T) :: seg true g 0 (opC kd hd ag ct ot dp dn dc ep en ec) :: X) → w'.cell? ⟨v, 1, none⟩ = some (ptrO l) ∧ v < w'.heap.size ∧ w'.cell? ⟨g, 0, none⟩ = some (.int .u8 (kd : Int)) ∧ g < w'.heap.size := fun w' X s => by
  have sg := s.pull 1
  exact ⟨s.at 1 rfl, s.lt (by simp [vlC]), Sat.at sg 0 rfl, Sat.lt sg (by simp)⟩
 have HK1 := Lib.hid hK1; clear hK1
 have s2d := s2.drew
 clear s2
 refine region_E (fun w' => w'.cell? ⟨v, 1, none⟩ = some (ptrO l) ∧ v < w'.heap.size ∧ w'.cell? ⟨g, 0, none⟩ = some (.int .u8 (kd : Int)) ∧ g < w'.heap.size) [3, 5] (by kernel_rfl) ?_
 have hHeld := HK1.out _ _ s2d
 iterate 8
  first | refine autoT' hHeld (h := ?_) | refine autoP' (h := ?_)
  try simp only [pA1, pA2, pA3, pA4]
 refine anyE_one' (i := 8) (h := fun K hK => ?_)
 go_simp
 refine (HN.out.1 _ (seg true v 0 (vlC t l T) :: seg true g 0 (opC kd hd ag ct ot dp dn dc ep en ec) :: seg true ga 0 ans0 :: tabC t hb vb (heldC T) (valsC T) (stars (T.map (Slt.A I)) :: bytes md dp data :: bytes mm ep more :: L)) s2d.f).mono ?_
 rintro e w3 ⟨rfl, s3'⟩
 have s3 : Sat W0 w3 (seg true v 0 (vlC t l T) :: seg true g 0 (opC kd hd ag ct ot dp dn dc ep en ec) :: seg true ga 0 ans0 :: ledO l (note rs 11 (kd : Int) 1) :: tabC t hb vb (heldC T) (valsC T) (stars (T.map (Slt.A I)) :: bytes md dp data :: bytes mm ep more :: L)) := s3'.f
 clear s2d s3'
 go_wp2_with fail
 have hKp := HK1.out _ _ s3
 refine hK.out _ _ hKp ?_
 clear hK K hHeld
 have hHeld := hKp
 clear hKp
 try simp only [pA1, pA2, pA3, pA4]
 refine anyE_done (by kernel_rfl) ?_ _
 clear hHeld
 have s4 : Sat W0 w3 (vlt I v l S :: seg true g 0 (opC kd hd ag ct ot dp dn dc ep en ec) :: seg true ga 0 ans0 :: ledO l (note rs 11 (kd : Int) 1) :: bytes md dp data :: bytes mm ep more :: L) := vltShut HT.out.1 HT.out.2.1 s3.f
 clear s3 HK1
 go_wp2_with (first | (refine wpl_alloc_agg rfl 44 rfl s4 _ (zero_ans _) ?_; intro w5 gb s5 _; clear s4) | (refine wpl_stAns rfl rfl (.tmp 5) (.tmp 21) rfl s5 rfl rfl ?_; intro w6 s6; clear s5))
 have s7 : Sat W0 w6 (seg true g 0 (opC kd hd ag ct ot dp dn dc ep en ec) :: seg true gb 0 [.int .i64 3, .int .i64 0, .bool false, .slice none 0 0] :: seg true ga 0 ans0 :: ledO l (note rs 11 (kd : Int) 1) :: vlt I v l S :: bytes md dp data :: bytes mm ep more :: L) := s6.f
 clear s6
 have s7d := s7.drew
 have hs7 : w6.drew.cell? ⟨g, 0, none⟩ = some (.int .u8 (kd : Int)) ∧ g < w6.drew.heap.size := ⟨s7d.at 0 rfl, s7d.lt (by simp)⟩
 refine region_E (fun w' => w'.cell? ⟨g, 0, none⟩ = some (.int .u8 (kd : Int)) ∧ g < w'.heap.size) [3] (by kernel_rfl) ?_
 have hHeld := hs7
 iterate 3
  first | refine autoT' hHeld (h := ?_) | refine autoP' (h := ?_)
  try simp only [pA1, pA2, pA3, pA4]
 refine anyE_one' (i := 1) (h := fun K hK => ?_)
 go_simp
 refine (vCalls v s7d).mono ?_
 rintro e w8 ⟨r, rfl, s8⟩
 have hlk := hfind r w8 _ s8
 have hk8 : w8.cell? ⟨g, 0, none⟩ = some (.int .u8 (kd : Int)) ∧ g < w8.heap.size := ⟨(s8.pick [1]).at 0 rfl, (s8.pick [1]).lt (by simp)⟩
 go_wp2_with fail
 refine hK.out _ _ hk8 ?_
 clear hK K hHeld
 have hHeld := hk8
 try simp only [pA1, pA2, pA3, pA4]
 clear s7d hs7 s7
 refine anyE_last' (i := 4) (h := fun K hK => ?_)
 go_simp
 go_wp2_with fail
 refine hK.out _ _ ?_
 clear hK K
 try simp only [pA1, pA2, pA3, pA4]
 iterate 5
  first | refine autoT' hHeld (h := ?_) | refine autoP' (h := ?_)
  try simp only [pA1, pA2, pA3, pA4]
 refine anyE_done (by kernel_rfl) ?_ _
 clear hlk hk8 hfind
 have sg : Sat W0 w8 (seg true g 0 (opC kd hd ag ct ot dp dn dc ep en ec) :: ledO l (note rs 11 (kd : Int) 1) :: vlt I v l S :: bytes md dp data :: bytes mm ep more :: seg true gb 0 [.int .i64 3, .int .i64 0, .bool false, .slice none 0 0] :: seg true ga 0 ans0 :: obj r (.map (callsM v) 10) :: L) := s8.f
 clear s8
 go_wp2_with (refine wpl_ldOp rfl (.tmp 3) rfl sg rfl ?_)
 refine (HN.out.2.2 w8 (seg true g 0 (opC kd hd ag ct ot dp dn dc ep en ec) :: seg true gb 0 [.int .i64 3, .int .i64 0, .bool false, .slice none 0 0] :: seg true ga 0 ans0 :: obj r (.map (callsM v) 10) :: L) sg.f).mono ?_
 rintro e w9 ⟨q, c, rfl, hq1, hq2, s9⟩
 clear sg
 have HQ := Lib.hid (And.intro hq1 hq2); clear hq1 hq2
 obtain ⟨b1, hb1⟩ : ∃ b, b = R.2.1.same := ⟨_, rfl⟩
 obtain ⟨c1, hc1⟩ : ∃ b, b = R.2.1.code := ⟨_, rfl⟩
 obtain ⟨h1, hh1⟩ : ∃ b, b = R.2.1.handle := ⟨_, rfl⟩
 obtain ⟨l1, hl1⟩ : ∃ b, b = R.2.1.bytes.length := ⟨_, rfl⟩
 have hnt2 := HN.out.2.1
 rw [← hb1, ← hc1, ← hh1, ← hl1]
 rw [← hc1] at hnt2
 have HB := Lib.hid (And.intro hb1 (And.intro hc1 (And.intro hh1 (And.intro hl1 hnt2)))); clear hb1 hc1 hh1 hl1 hnt2
 have sr0 : Sat W0 w9 (seg true gb 0 [.int .i64 3, .int .i64 0, .bool false, .slice none 0 0] :: seg true ga 0 ans0 :: ledO l R.2.2 :: vlt I v l R.1 :: bytes true q R.2.1.bytes :: bytes md dp data :: bytes mm ep more :: L) := s9.f
 clear s9
 by_cases hc0 : c1 = 0
 ·subst hc0
  go_wp2_with (refine wpl_stAns rfl rfl (.tmp 5) (.tmp 33) rfl sr0 rfl rfl ?_; intro wa sa; clear sr0; have ca := sa.at 0 rfl; have za := sa.lt (by simp))
  clear ca za
  obtain ⟨t, hb, vb, T, hTS, hS, hT, sv'⟩ := vltOpen (sa.f : Sat W0 wa (vlt I v l R.1 :: seg true gb 0 [.int .i64 0, .int .i64 (h1 : Int), .bool b1, .slice q l1 c] :: seg true ga 0 ans0 :: ledO l R.2.2 :: bytes true q R.2.1.bytes :: bytes md dp data :: bytes mm ep more :: L))
  have sv : Sat W0 wa (seg true v 0 (vlC t l T) :: seg true gb 0 [.int .i64 0, .int .i64 (h1 : Int), .bool b1, .slice q l1 c] :: ledO l R.2.2 :: tabC t hb vb (heldC T) (valsC T) (stars (T.map (Slt.A I)) :: seg true ga 0 ans0 :: bytes true q R.2.1.bytes :: bytes md dp data :: bytes mm ep more :: L)) := sv'.f
  have HT2 := Lib.hid (And.intro hTS hS); clear sa sv' hTS hS hT
  have hK2 : ∀ (w' : World) (X : List Assn), Sat W0 w' (seg true v 0 (vlC t l T) :: seg true gb 0 [.int .i64 0, .int .i64 (h1 : Int), .bool b1, .slice q l1 c] :: X) → w'.cell? ⟨v, 1, none⟩ = some (ptrO l) ∧ v < w'.heap.size ∧ w'.cell? ⟨gb, 0, none⟩ = some (.int .i64 0) ∧ gb < w'.heap.size := fun w' X s => by
   have sg := s.pull 1
   exact ⟨s.at 1 rfl, s.lt (by simp [vlC]), Sat.at sg 0 rfl, Sat.lt sg (by simp)⟩
  have HK2 := Lib.hid hK2; clear hK2
  have svd := sv.drew
  clear sv
  refine region_E (fun w' => w'.cell? ⟨v, 1, none⟩ = some (ptrO l) ∧ v < w'.heap.size ∧ w'.cell? ⟨gb, 0, none⟩ = some (.int .i64 0) ∧ gb < w'.heap.size) [3, 5] (by kernel_rfl) ?_
  have hHeld := HK2.out _ _ svd
  iterate 7
   first | refine autoT' hHeld (h := ?_) | refine autoP' (h := ?_)
   try simp only [pA1, pA2, pA3, pA4]
  refine anyE_one' (i := 7) (h := fun K hK => ?_)
  go_simp
  refine (HB.out.2.2.2.2 _ (seg true v 0 (vlC t l T) :: seg true gb 0 [.int .i64 0, .int .i64 (h1 : Int), .bool b1, .slice q l1 c] :: tabC t hb vb (heldC T) (valsC T) (stars (T.map (Slt.A I)) :: seg true ga 0 ans0 :: bytes true q R.2.1.bytes :: bytes md dp data :: bytes mm ep more :: L)) svd.f).mono ?_
  rintro e wb ⟨rfl, sw'⟩
  have sw : Sat W0 wb (seg true v 0 (vlC t l T) :: seg true gb 0 [.int .i64 0, .int .i64 (h1 : Int), .bool b1, .slice q l1 c] :: tabC t hb vb (heldC T) (valsC T) (stars (T.map (Slt.A I)) :: ledO l (note R.2.2 12 0 1) :: seg true ga 0 ans0 :: bytes true q R.2.1.bytes :: bytes md dp data :: bytes mm ep more :: L)) := sw'.f
  clear svd sw'
  go_wp2_with fail
  have hKp := HK2.out _ _ sw
  refine hK.out _ _ hKp ?_
  clear hK K hHeld
  have hHeld := hKp
  clear hKp
  try simp only [pA1, pA2, pA3, pA4]
  refine anyE_done (by kernel_rfl) ?_ _
  clear hHeld
  have sb0 := vltShut HT2.out.1 HT2.out.2 (sw.f : Sat W0 wb (vltL I v l t hb vb T (seg true gb 0 [.int .i64 0, .int .i64 (h1 : Int), .bool b1, .slice q l1 c] :: ledO l (note R.2.2 12 0 1) :: seg true ga 0 ans0 :: bytes true q R.2.1.bytes :: bytes md dp data :: bytes mm ep more :: L)))
  have sb : Sat W0 wb (seg true gb 0 [.int .i64 0, .int .i64 (h1 : Int), .bool b1, .slice q l1 c] :: seg true ga 0 ans0 :: ledO l (note R.2.2 12 0 1) :: vlt I v l R.1 :: bytes true q R.2.1.bytes :: bytes md dp data :: bytes mm ep more :: L) := sb0.f
  clear sw sb0 HK2 HT2
  go_wp2_with (first | (refine wpl_ldAns rfl (.tmp 5) rfl sb rfl ?_; have sc : Sat W0 wb (seg true ga 0 ans0 :: ledO l (note R.2.2 12 0 1) :: vlt I v l R.1 :: bytes true q R.2.1.bytes :: bytes md dp data :: bytes mm ep more :: L) := sb.f; clear sb) | (refine wpl_stAns rfl rfl (.tmp 4) (.tmp 48) rfl sc rfl rfl ?_; intro ws ss; clear sc))
  have hr := ansLd ss
  have HS := Lib.hid ss.tail; clear ss
  refine bodyPost_ret (v := .agg #[.int .i64 0, .int .i64 (h1 : Int), .bool b1, .slice q l1 c]) (by simp [results, Tryz.results15, asAddr]; exact hr) rfl ?_
  have e9 : atLast R = (R.1, R.2.1, note R.2.2 12 0 1) := by unfold atLast; rw [if_pos HB.out.2.1.symm, ← HB.out.2.1]
  rw [e9]
  refine ⟨q, c, ?_, HQ.out.1, HQ.out.2, HS.out⟩
  rw [← HB.out.1, ← HB.out.2.1, ← HB.out.2.2.1, ← HB.out.2.2.2.1]
 ·have hcd : (c1 != 0) = true := by rw [bne_iff_ne]; exact hc0
  have HC0 := Lib.hid hc0; clear hc0
  go_wp2_with (first | (refine wpl_stAns rfl rfl (.tmp 5) (.tmp 33) rfl sr0 rfl rfl ?_; intro wa sa1; clear sr0; have ca := sa1.at 0 rfl; have za := sa1.lt (by simp)) | (refine wpl_stAns rfl rfl (.tmp 5) (.tmp 39) rfl sa1 rfl rfl ?_; intro wa sa; clear sa1 ca za))
  obtain ⟨t, hb, vb, T, hTS, hS, hT, sv'⟩ := vltOpen (sa.f : Sat W0 wa (vlt I v l R.1 :: seg true gb 0 [.int .i64 c1, .int .i64 0, .bool false, .slice none 0 0] :: seg true ga 0 ans0 :: ledO l R.2.2 :: bytes md dp data :: bytes mm ep more :: L))
  have sv : Sat W0 wa (seg true v 0 (vlC t l T) :: seg true gb 0 [.int .i64 c1, .int .i64 0, .bool false, .slice none 0 0] :: ledO l R.2.2 :: tabC t hb vb (heldC T) (valsC T) (stars (T.map (Slt.A I)) :: seg true ga 0 ans0 :: bytes md dp data :: bytes mm ep more :: L)) := sv'.f
  have HT2 := Lib.hid (And.intro hTS hS); clear sa sv' hTS hS hT
  have hK2 : ∀ (w' : World) (X : List Assn), Sat W0 w' (seg true v 0 (vlC t l T) :: seg true gb 0 [.int .i64 c1, .int .i64 0, .bool false, .slice none 0 0] :: X) → w'.cell? ⟨v, 1, none⟩ = some (ptrO l) ∧ v < w'.heap.size ∧ w'.cell? ⟨gb, 0, none⟩ = some (.int .i64 c1) ∧ gb < w'.heap.size := fun w' X s => by
   have sg := s.pull 1
   exact ⟨s.at 1 rfl, s.lt (by simp [vlC]), Sat.at sg 0 rfl, Sat.lt sg (by simp)⟩
  have HK2 := Lib.hid hK2; clear hK2
  have svd := sv.drew
  clear sv
  refine region_E (fun w' => w'.cell? ⟨v, 1, none⟩ = some (ptrO l) ∧ v < w'.heap.size ∧ w'.cell? ⟨gb, 0, none⟩ = some (.int .i64 c1) ∧ gb < w'.heap.size) [3, 5] (by kernel_rfl) ?_
  have hHeld := HK2.out _ _ svd
  iterate 7
   first | refine autoT' hHeld (h := ?_) | refine autoP' (h := ?_)
   try simp only [pA1, pA2, pA3, pA4]
  refine anyE_one' (i := 7) (h := fun K hK => ?_)
  go_simp
  refine (HB.out.2.2.2.2 _ (seg true v 0 (vlC t l T) :: seg true gb 0 [.int .i64 c1, .int .i64 0, .bool false, .slice none 0 0] :: tabC t hb vb (heldC T) (valsC T) (stars (T.map (Slt.A I)) :: seg true ga 0 ans0 :: bytes md dp data :: bytes mm ep more :: L)) svd.f).mono ?_
  rintro e wb ⟨rfl, sw'⟩
  have sw : Sat W0 wb (seg true v 0 (vlC t l T) :: seg true gb 0 [.int .i64 c1, .int .i64 0, .bool false, .slice none 0 0] :: tabC t hb vb (heldC T) (valsC T) (stars (T.map (Slt.A I)) :: ledO l (note R.2.2 12 c1 1) :: seg true ga 0 ans0 :: bytes md dp data :: bytes mm ep more :: L)) := sw'.f
  clear svd sw'
  go_wp2_with fail
  have hKp := HK2.out _ _ sw
  refine hK.out _ _ hKp ?_
  clear hK K hHeld
  have hHeld := hKp
  clear hKp
  try simp only [pA1, pA2, pA3, pA4]
  refine anyE_done (by kernel_rfl) ?_ _
  clear hHeld
  have sb0 := vltShut HT2.out.1 HT2.out.2 (sw.f : Sat W0 wb (vltL I v l t hb vb T (seg true gb 0 [.int .i64 c1, .int .i64 0, .bool false, .slice none 0 0] :: ledO l (note R.2.2 12 c1 1) :: seg true ga 0 ans0 :: bytes md dp data :: bytes mm ep more :: L)))
  have sb : Sat W0 wb (seg true gb 0 [.int .i64 c1, .int .i64 0, .bool false, .slice none 0 0] :: seg true ga 0 ans0 :: ledO l (note R.2.2 12 c1 1) :: vlt I v l R.1 :: bytes md dp data :: bytes mm ep more :: L) := sb0.f
  clear sw sb0 HK2 HT2
  go_wp2_with (first | (refine wpl_ldAns rfl (.tmp 5) rfl sb rfl ?_; have sc : Sat W0 wb (seg true ga 0 ans0 :: ledO l (note R.2.2 12 c1 1) :: vlt I v l R.1 :: bytes md dp data :: bytes mm ep more :: L) := sb.f; clear sb) | (refine wpl_stAns rfl rfl (.tmp 4) (.tmp 48) rfl sc rfl rfl ?_; intro ws ss; clear sc))
  have hr := ansLd ss
  have HS := Lib.hid ss.tail; clear ss
  refine bodyPost_ret (v := .agg #[.int .i64 c1, .int .i64 0, .bool false, .slice none 0 0]) (by simp [results, Tryz.results15, asAddr]; exact hr) rfl ?_
  have e9 : atLast R = (R.1, noA c1, note R.2.2 12 c1 1) := by unfold atLast; rw [if_neg (by rw [← HB.out.2.1]; exact HC0.out), ← HB.out.2.1]
  rw [e9]
  exact ansV_no HS.out
theorem vDo_none {W0 w : World} {L : List Assn} {I : SesI σ} {v : Nat} {l : Option Nat} {rs : List Run3} {md mm : Bool} {dp ep : Option Addr} {dn dc en ec : Nat} (S : Sts σ) (kd : Nat) (hd : Int) (ag : Nat) (ct ot : Int) (data more : List Byte) (hk : kd < 256)
  (hf : ∀ v, Instr.findNow (.int .u8) (.int .u8 (kd : Int)) (callsM v).toList 0 = some none) (hR : tot rs + 2 ≤ 4611686018427387904 ∧ rs.length + 1 ≤ 4294967296)
  (hs : Sat W0 w (ledO l rs :: vlt I v l S :: bytes md dp data :: bytes mm ep more :: L)) :
  Calls Tryz.prog 15 #[.pointer (some ⟨v, 0, none⟩), .agg #[.int .u8 (kd : Int), .int .i64 hd, .int .u8 (ag : Int), .int .i64 ct, .int .i64 ot, .slice dp dn dc, .slice ep en ec]] w fun e w' => ansV I W0 v l (S, noA 3, note (note rs 11 (kd : Int) 1) 12 3 1) (bytes md dp data :: bytes mm ep more :: L) e w' := by
 have hfind := fun (r : Nat) (w : World) (X : List Assn) (s : Sat W0 w (obj r (.map (callsM v) 10) :: X)) => run_mapHasNot (P := Tryz.prog) (mty := 94) (kd := .u8) (z := (kd : Int)) (v := .nilFunc) Tryz.underlying94 Tryz.underlying23 s.obj.1 (hf v) (by kernel_rfl)
 clear hf
 have hnt := fun (w : World) (X : List Assn) (s : Sat W0 w (ledO l rs :: X)) => noteOne l rs 11 (kd : Int) s (by omega) (by omega)
 have hwk : IntKind.i64.wrap (kd : Int) = (kd : Int) := by rw [IntKind.wrap_i64]; omega
 have hnt2 := fun (w : World) (X : List Assn) (s : Sat W0 w (ledO l (note rs 11 (kd : Int) 1) :: X)) => noteOne l (note rs 11 (kd : Int) 1) 12 3 s (by rw [tot_note]; omega) (by have := note_len rs 11 (kd : Int) 1; omega)
 have HN := Lib.hid (And.intro hnt hnt2); clear hnt hnt2 hR
 have HO := Lib.hid (hOp W0)
 obtain ⟨t, hb, vb, T, hTS, hS, hT, s0'⟩ := vltOpen (show Sat W0 w (vlt I v l S :: ledO l rs :: bytes md dp data :: bytes mm ep more :: L) from hs.pull 1)
 have s0 : Sat W0 w (seg true v 0 (vlC t l T) :: tabC t hb vb (heldC T) (valsC T) (stars (T.map (Slt.A I)) :: ledO l rs :: bytes md dp data :: bytes mm ep more :: L)) := s0'
 clear hs s0'
 have HT := Lib.hid (And.intro hTS (And.intro hS hT)); clear hTS hS hT
 go_enter Tryz.func15, Tryz.ntmps15
 go_wp2_with (first | (refine wpl_box rfl 27 (.tmp 1) rfl (opC kd hd ag ct ot dp dn dc ep en ec) rfl s0 ?_; intro w1 g s1 _; clear s0) | (refine wpl_alloc_agg rfl 44 rfl s1 _ (zero_ans _) ?_; intro w2 ga s20 _; clear s1; have s2 : Sat W0 w2 (seg true v 0 (vlC t l T) :: seg true g 0 (opC kd hd ag ct ot dp dn dc ep en ec) :: seg true ga 0 ans0 :: ledO l rs :: tabC t hb vb (heldC T) (valsC T) (stars (T.map (Slt.A I)) :: bytes md dp data :: bytes mm ep more :: L)) := s20.f; clear s20))
 refine (vIs s2).mono ?_
 rintro e w3 ⟨rfl, rfl⟩
 go_wp2_with fail
 have hK1 : ∀ (w' : World) (X : List Assn), Sat W0 w' (seg true v 0 (vlC t l T) :: seg true g 0 (opC kd hd ag ct ot dp dn dc ep en ec) :: X) → w'.cell? ⟨v, 1, none⟩ = some (ptrO l) ∧ v < w'.heap.size ∧ w'.cell? ⟨g, 0, none⟩ = some (.int .u8 (kd : Int)) ∧ g < w'.heap.size := fun w' X s => by
  have sg := s.pull 1
  exact ⟨s.at 1 rfl, s.lt (by simp [vlC]), Sat.at sg 0 rfl, Sat.lt sg (by simp)⟩
 have HK1 := Lib.hid hK1; clear hK1
 have s2d := s2.drew
 clear s2
 refine region_E (fun w' => w'.cell? ⟨v, 1, none⟩ = some (ptrO l) ∧ v < w'.heap.size ∧ w'.cell? ⟨g, 0, none⟩ = some (.int .u8 (kd : Int)) ∧ g < w'.heap.size) [3, 5] (by kernel_rfl) ?_
 have hHeld := HK1.out _ _ s2d
 iterate 8
  first | refine autoT' hHeld (h := ?_) | refine autoP' (h := ?_)
  try simp only [pA1, pA2, pA3, pA4]
 refine anyE_one' (i := 8) (h := fun K hK => ?_)
 go_simp
 refine (HN.out.1 _ (seg true v 0 (vlC t l T) :: seg true g 0 (opC kd hd ag ct ot dp dn dc ep en ec) :: seg true ga 0 ans0 :: tabC t hb vb (heldC T) (valsC T) (stars (T.map (Slt.A I)) :: bytes md dp data :: bytes mm ep more :: L)) s2d.f).mono ?_
 rintro e w3 ⟨rfl, s3'⟩
 have s3 : Sat W0 w3 (seg true v 0 (vlC t l T) :: seg true g 0 (opC kd hd ag ct ot dp dn dc ep en ec) :: seg true ga 0 ans0 :: ledO l (note rs 11 (kd : Int) 1) :: tabC t hb vb (heldC T) (valsC T) (stars (T.map (Slt.A I)) :: bytes md dp data :: bytes mm ep more :: L)) := s3'.f
 clear s2d s3'
 go_wp2_with fail
 have hKp := HK1.out _ _ s3
 refine hK.out _ _ hKp ?_
 clear hK K hHeld
 have hHeld := hKp
 clear hKp
 try simp only [pA1, pA2, pA3, pA4]
 refine anyE_done (by kernel_rfl) ?_ _
 clear hHeld
 have s4 : Sat W0 w3 (vlt I v l S :: seg true g 0 (opC kd hd ag ct ot dp dn dc ep en ec) :: seg true ga 0 ans0 :: ledO l (note rs 11 (kd : Int) 1) :: bytes md dp data :: bytes mm ep more :: L) := vltShut HT.out.1 HT.out.2.1 s3.f
 clear s3 HK1
 go_wp2_with (first | (refine wpl_alloc_agg rfl 44 rfl s4 _ (zero_ans _) ?_; intro w5 gb s5 _; clear s4) | (refine wpl_stAns rfl rfl (.tmp 5) (.tmp 21) rfl s5 rfl rfl ?_; intro w6 s6; clear s5))
 have s7 : Sat W0 w6 (seg true g 0 (opC kd hd ag ct ot dp dn dc ep en ec) :: seg true gb 0 [.int .i64 3, .int .i64 0, .bool false, .slice none 0 0] :: seg true ga 0 ans0 :: ledO l (note rs 11 (kd : Int) 1) :: vlt I v l S :: bytes md dp data :: bytes mm ep more :: L) := s6.f
 clear s6
 have s7d := s7.drew
 have hs7 : w6.drew.cell? ⟨g, 0, none⟩ = some (.int .u8 (kd : Int)) ∧ g < w6.drew.heap.size := ⟨s7d.at 0 rfl, s7d.lt (by simp)⟩
 refine region_E (fun w' => w'.cell? ⟨g, 0, none⟩ = some (.int .u8 (kd : Int)) ∧ g < w'.heap.size) [3] (by kernel_rfl) ?_
 have hHeld := hs7
 iterate 3
  first | refine autoT' hHeld (h := ?_) | refine autoP' (h := ?_)
  try simp only [pA1, pA2, pA3, pA4]
 refine anyE_one' (i := 1) (h := fun K hK => ?_)
 go_simp
 refine (vCalls v s7d).mono ?_
 rintro e w8 ⟨r, rfl, s8⟩
 have hlk := hfind r w8 _ s8
 have hk8 : w8.cell? ⟨g, 0, none⟩ = some (.int .u8 (kd : Int)) ∧ g < w8.heap.size := ⟨(s8.pick [1]).at 0 rfl, (s8.pick [1]).lt (by simp)⟩
 go_wp2_with fail
 refine hK.out _ _ hk8 ?_
 clear hK K hHeld
 have hHeld := hk8
 try simp only [pA1, pA2, pA3, pA4]
 clear s7d hs7 s7
 refine anyE_last' (i := 4) (h := fun K hK => ?_)
 go_simp
 go_wp2_with fail
 refine hK.out _ _ ?_
 clear hK K
 try simp only [pA1, pA2, pA3, pA4]
 iterate 5
  first | refine autoT' hHeld (h := ?_) | refine autoP' (h := ?_)
  try simp only [pA1, pA2, pA3, pA4]
 refine anyE_done (by kernel_rfl) ?_ _
 clear hlk hk8 hfind
 have sa1 : Sat W0 w8 (seg true gb 0 [.int .i64 3, .int .i64 0, .bool false, .slice none 0 0] :: seg true ga 0 ans0 :: ledO l (note rs 11 (kd : Int) 1) :: vlt I v l S :: bytes md dp data :: bytes mm ep more :: L) := s8.f
 have ca := sa1.at 0 rfl
 have za := sa1.lt (by simp)
 clear s8
 go_wp2_with (refine wpl_stAns rfl rfl (.tmp 5) (.tmp 39) rfl sa1 rfl rfl ?_; intro wa sa; clear sa1 ca za)
 obtain ⟨t, hb, vb, T, hTS, hS, hT, sv'⟩ := vltOpen (sa.f : Sat W0 wa (vlt I v l S :: seg true gb 0 [.int .i64 3, .int .i64 0, .bool false, .slice none 0 0] :: seg true ga 0 ans0 :: ledO l (note rs 11 (kd : Int) 1) :: bytes md dp data :: bytes mm ep more :: L))
 have sv : Sat W0 wa (seg true v 0 (vlC t l T) :: seg true gb 0 [.int .i64 3, .int .i64 0, .bool false, .slice none 0 0] :: ledO l (note rs 11 (kd : Int) 1) :: tabC t hb vb (heldC T) (valsC T) (stars (T.map (Slt.A I)) :: seg true ga 0 ans0 :: bytes md dp data :: bytes mm ep more :: L)) := sv'.f
 have HT2 := Lib.hid (And.intro hTS hS); clear sa sv' hTS hS hT
 have hK2 : ∀ (w' : World) (X : List Assn), Sat W0 w' (seg true v 0 (vlC t l T) :: seg true gb 0 [.int .i64 3, .int .i64 0, .bool false, .slice none 0 0] :: X) → w'.cell? ⟨v, 1, none⟩ = some (ptrO l) ∧ v < w'.heap.size ∧ w'.cell? ⟨gb, 0, none⟩ = some (.int .i64 3) ∧ gb < w'.heap.size := fun w' X s => by
  have sg := s.pull 1
  exact ⟨s.at 1 rfl, s.lt (by simp [vlC]), Sat.at sg 0 rfl, Sat.lt sg (by simp)⟩
 have HK2 := Lib.hid hK2; clear hK2
 have svd := sv.drew
 clear sv
 refine region_E (fun w' => w'.cell? ⟨v, 1, none⟩ = some (ptrO l) ∧ v < w'.heap.size ∧ w'.cell? ⟨gb, 0, none⟩ = some (.int .i64 3) ∧ gb < w'.heap.size) [3, 5] (by kernel_rfl) ?_
 have hHeld := HK2.out _ _ svd
 iterate 7
  first | refine autoT' hHeld (h := ?_) | refine autoP' (h := ?_)
  try simp only [pA1, pA2, pA3, pA4]
 refine anyE_one' (i := 7) (h := fun K hK => ?_)
 go_simp
 refine (HN.out.2 _ (seg true v 0 (vlC t l T) :: seg true gb 0 [.int .i64 3, .int .i64 0, .bool false, .slice none 0 0] :: tabC t hb vb (heldC T) (valsC T) (stars (T.map (Slt.A I)) :: seg true ga 0 ans0 :: bytes md dp data :: bytes mm ep more :: L)) svd.f).mono ?_
 rintro e wb ⟨rfl, sw'⟩
 have sw : Sat W0 wb (seg true v 0 (vlC t l T) :: seg true gb 0 [.int .i64 3, .int .i64 0, .bool false, .slice none 0 0] :: tabC t hb vb (heldC T) (valsC T) (stars (T.map (Slt.A I)) :: ledO l (note (note rs 11 (kd : Int) 1) 12 3 1) :: seg true ga 0 ans0 :: bytes md dp data :: bytes mm ep more :: L)) := sw'.f
 clear svd sw'
 go_wp2_with fail
 have hKp := HK2.out _ _ sw
 refine hK.out _ _ hKp ?_
 clear hK K hHeld
 have hHeld := hKp
 clear hKp
 try simp only [pA1, pA2, pA3, pA4]
 refine anyE_done (by kernel_rfl) ?_ _
 clear hHeld
 have sb0 := vltShut HT2.out.1 HT2.out.2 (sw.f : Sat W0 wb (vltL I v l t hb vb T (seg true gb 0 [.int .i64 3, .int .i64 0, .bool false, .slice none 0 0] :: ledO l (note (note rs 11 (kd : Int) 1) 12 3 1) :: seg true ga 0 ans0 :: bytes md dp data :: bytes mm ep more :: L)))
 have sb : Sat W0 wb (seg true gb 0 [.int .i64 3, .int .i64 0, .bool false, .slice none 0 0] :: seg true ga 0 ans0 :: ledO l (note (note rs 11 (kd : Int) 1) 12 3 1) :: vlt I v l S :: bytes md dp data :: bytes mm ep more :: L) := sb0.f
 clear sw sb0 HK2 HT2
 go_wp2_with (first | (refine wpl_ldAns rfl (.tmp 5) rfl sb rfl ?_; have sc : Sat W0 wb (seg true ga 0 ans0 :: ledO l (note (note rs 11 (kd : Int) 1) 12 3 1) :: vlt I v l S :: bytes md dp data :: bytes mm ep more :: L) := sb.f; clear sb) | (refine wpl_stAns rfl rfl (.tmp 4) (.tmp 48) rfl sc rfl rfl ?_; intro ws ss; clear sc))
 have hr := ansLd ss
 have HS := Lib.hid ss.tail; clear ss
 refine bodyPost_ret (v := .agg #[.int .i64 3, .int .i64 0, .bool false, .slice none 0 0]) (by simp [results, Tryz.results15, asAddr]; exact hr) rfl ?_
 exact ansV_no HS.out
end
end Go.Proofs.YtbefjaodpbgpcaaGreat
