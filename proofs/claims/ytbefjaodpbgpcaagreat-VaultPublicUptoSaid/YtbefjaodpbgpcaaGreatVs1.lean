
import Derived.Test.YtbefjaodpbgpcaaGreatHG
import Derived.Test.YtbefjaodpbgpcaaGreatHD
set_option linter.unusedVariables false
set_option linter.unusedSimpArgs false
set_option maxRecDepth 100000
set_option maxHeartbeats 16000000
namespace Go.Proofs.YtbefjaodpbgpcaaGreat
open Go.RowKit Go.Sep Go.Bv Go.Kec Go.Aes Go.Sha
structure SesD where
 K : MKind
 out : Nat
 key : List Byte
 custom : List Byte
 msg : List Byte
def sesI : SesI SesD := ⟨fun x s => ses x.K s x.key x.custom x.out x.msg, fun x => x.K.form x.key x.custom x.msg⟩
def SesD.ok (B : Nat) (x : SesD) : Prop := x.K.fits x.key x.custom x.out ∧ x.key.length ≤ 512 ∧ x.msg.length ≤ B
theorem Tryz.size_ses : (Tryz.prog.info? 136).map (·.size) = some 1 := by kernel_rfl
theorem formN_le (K : MKind) (key custom : List Byte) (out : Nat) (h : K.fits key custom out) : K.formN key.length ≤ 1024 := by
 cases K with
 | hm wide => cases wide <;> (show 3 * fsz _ ≤ 1024; decide)
 | cm =>
  have hk := h.2.2.2.2
  unfold MKind.formN
  unfold cmKey at hk
  rcases hk with h1 | h1 | h1 <;> (rw [h1]; decide)
 | km large xof => unfold MKind.formN; first | decide | simp | omega
@[go_sem] theorem invs_form (x : Value) (w : World) : (callMethod (.iface 136 (.agg #[x])) "turnkey/vault.form" #[]).run Tryz.prog w = .ok (.enter 78 #[.agg #[x]]) w := by kernel_rfl
theorem sFormW {W0 w : World} {L : List Assn} {s B : Nat} (x : SesD) (hx : x.ok B) (hB : B ≤ 1000000000) (hs : Sat W0 w (sesI.A x s :: L)) :
  Calls Tryz.prog 78 #[.agg #[.pointer (some ⟨s, 0, none⟩)]] w fun e w' => ∃ q n c, e = .returned (.slice q n c) ∧ (sesI.form x).length = n ∧ n ≤ 1024 ∧ Sat W0 w' (bytes true q (sesI.form x) :: sesI.A x s :: L) := by
 have hfm := fun (w : World) (X : List Assn) (h : Sat W0 w (ses x.K s x.key x.custom x.out x.msg :: X)) => sesForm x.K x.key x.custom x.msg hx.1 (Nat.le_trans hx.2.2 hB) h
 have hle := formN_le _ _ _ _ hx.1
 have HN := Lib.hid (And.intro hfm hle); clear hfm hle hx
 go_enter Tryz.func78, Tryz.ntmps78
 go_wp2_with (refine wpl_box rfl 136 (.tmp 0) rfl [.pointer (some ⟨s, 0, none⟩)] rfl hs ?_; intro w1 g s1 _; clear hs; have c0 := s1.at 0 rfl; have z0 := s1.lt (by simp))
 refine (HN.out.1 _ (seg true g 0 [.pointer (some ⟨s, 0, none⟩)] :: L) (s1.pull 1)).mono ?_
 rintro e w2 ⟨q, c, rfl, s2⟩
 clear s1 c0 z0
 obtain ⟨h1, _, _, s3⟩ := rowBytes s2
 have HS := Lib.hid (And.intro h1 s3); clear s2 s3 h1
 go_wp2_with fail
 go_ret
 refine ⟨q, _, c, rfl, HS.out.1, HN.out.2, ?_⟩
 have s4 : Sat W0 w2 (bytes true q (sesI.form x) :: sesI.A x s :: seg true g 0 [.pointer (some ⟨s, 0, none⟩)] :: L) := HS.out.2
 exact s4.f
section
variable {σ : Type}
theorem sesAtNo {W0 w : World} {L : List Assn} {I : SesI σ} {v t hb vb : Nat} {l : Option Nat} {T : List (Slt σ)} (h : Int) (hno : (decide (0 ≤ h) && (heldC T).getD h.toNat false) = false) (hT : T.length = 64) (hs : Sat W0 w (vltL I v l t hb vb T L)) :
  Calls Tryz.prog 75 #[.pointer (some ⟨v, 0, none⟩), .int .i64 h] w fun e w' => e = .returned (.tuple #[.agg #[.pointer none], .int .i64 5]) ∧ Sat W0 w' (vltL I v l t hb vb T L) := by
 have hgt := fun (w : World) (X : List Assn) (s : Sat W0 w (tabC t hb vb (heldC T) (valsC T) X)) => get_no_th h hno (heldC_len hT) (valsC_len hT) (by decide) (by decide) s
 have HN := Lib.hid hgt; clear hgt hno hT
 go_enter Tryz.func75, Tryz.ntmps75
 go_wp2_with (refine wpl_alloc_agg rfl 136 rfl hs [.pointer none] (by kernel_rfl) ?_; intro w1 ga s1 _; clear hs; have s2 : Sat W0 w1 (seg true v 0 (vlC t l T) :: tabC t hb vb (heldC T) (valsC T) (seg true ga 0 [.pointer none] :: stars (T.map (Slt.A I)) :: L)) := s1.f; clear s1; have c0 := s2.at 0 rfl; have z0 := s2.lt (by simp [vlC]))
 refine (HN.out _ (seg true v 0 (vlC t l T) :: seg true ga 0 [.pointer none] :: stars (T.map (Slt.A I)) :: L) s2.f).mono ?_
 rintro e w2 ⟨rfl, s3⟩
 have s4 : Sat W0 w2 (seg true ga 0 [.pointer none] :: vltL I v l t hb vb T L) := s3.f
 clear s2 s3 c0 z0
 go_wp2_with (refine wpl_store_agg rfl rfl 136 (.tmp 4) (.tmp 22) rfl (cs := [.pointer none]) s4 0 0 Tryz.size_ses rfl rfl rfl (Nat.le_refl 1) (fun v hv => by simp at hv; subst hv; rfl) ?_; intro w5 s5; rw [setL_all _ _ (by rfl)] at s5; clear s4)
 have hr := run_loadVar_agg (P := Tryz.prog) (ty := 136) Tryz.underlying136 rfl Tryz.size_ses s5 0 0 rfl (Nat.le_refl 1)
 have hr2 : Sem.run Tryz.prog (loadVar 136 ⟨ga, 0, none⟩) w5 = Result.ok (.agg #[.pointer none]) w5 := hr
 have HS := Lib.hid s5.tail; clear s5 hr
 refine bodyPost_ret (v := .tuple #[.agg #[.pointer none], .int .i64 5]) (by simp [results, Tryz.results75, asAddr]; rw [hr2]; rfl) rfl ⟨rfl, HS.out⟩
theorem sesAtKey {W0 w : World} {L : List Assn} {I : SesI σ} {v t hb vb k m c : Nat} {l : Option Nat} {T : List (Slt σ)} {p : Option Addr} {b : List Byte} (hk : T[k]? = some ⟨m, some (.key b p c)⟩) (hT : T.length = 64) (hs : Sat W0 w (vltL I v l t hb vb T L)) :
  Calls Tryz.prog 75 #[.pointer (some ⟨v, 0, none⟩), .int .i64 (k : Int)] w fun e w' => e = .returned (.tuple #[.agg #[.pointer none], .int .i64 6]) ∧ Sat W0 w' (vltL I v l t hb vb T L) := by
 have hgt := fun (w : World) (X : List Assn) (s : Sat W0 w (tabC t hb vb (heldC T) (valsC T) X)) => get_yes_th k (heldC_get hk) (valsC_get hk) (heldC_len hT) (valsC_len hT) (by decide) (by decide) s
 have e1 : Slt.v (σ := σ) ⟨m, some (.key b p c)⟩ = .iface 128 (.agg #[.slice p b.length c]) := rfl
 rw [e1] at hgt
 have HN := Lib.hid hgt; clear hgt hk e1 hT
 go_enter Tryz.func75, Tryz.ntmps75
 go_wp2_with (refine wpl_alloc_agg rfl 136 rfl hs [.pointer none] (by kernel_rfl) ?_; intro w1 ga s1 _; clear hs; have s2 : Sat W0 w1 (seg true v 0 (vlC t l T) :: tabC t hb vb (heldC T) (valsC T) (seg true ga 0 [.pointer none] :: stars (T.map (Slt.A I)) :: L)) := s1.f; clear s1; have c0 := s2.at 0 rfl; have z0 := s2.lt (by simp [vlC]))
 refine (HN.out _ (seg true v 0 (vlC t l T) :: seg true ga 0 [.pointer none] :: stars (T.map (Slt.A I)) :: L) s2.f).mono ?_
 rintro e w2 ⟨rfl, s3⟩
 have s4 : Sat W0 w2 (seg true ga 0 [.pointer none] :: vltL I v l t hb vb T L) := s3.f
 clear s2 s3 c0 z0
 go_wp2_with (refine wpl_store_agg rfl rfl 136 (.tmp 4) (.tmp 25) rfl (cs := [.pointer none]) s4 0 0 Tryz.size_ses rfl rfl rfl (Nat.le_refl 1) (fun v hv => by simp at hv; subst hv; rfl) ?_; intro w5 s5; rw [setL_all _ _ (by rfl)] at s5; clear s4)
 have hr := run_loadVar_agg (P := Tryz.prog) (ty := 136) Tryz.underlying136 rfl Tryz.size_ses s5 0 0 rfl (Nat.le_refl 1)
 have hr2 : Sem.run Tryz.prog (loadVar 136 ⟨ga, 0, none⟩) w5 = Result.ok (.agg #[.pointer none]) w5 := hr
 have HS := Lib.hid s5.tail; clear s5 hr
 refine bodyPost_ret (v := .tuple #[.agg #[.pointer none], .int .i64 6]) (by simp [results, Tryz.results75, asAddr]; rw [hr2]; rfl) rfl ⟨rfl, HS.out⟩
theorem sesAtSes {W0 w : World} {L : List Assn} {I : SesI σ} {v t hb vb k m s : Nat} {l : Option Nat} {T : List (Slt σ)} {x : σ} (hk : T[k]? = some ⟨m, some (.ses x s)⟩) (hT : T.length = 64) (hs : Sat W0 w (vltL I v l t hb vb T L)) :
  Calls Tryz.prog 75 #[.pointer (some ⟨v, 0, none⟩), .int .i64 (k : Int)] w fun e w' => e = .returned (.tuple #[.agg #[.pointer (some ⟨s, 0, none⟩)], .int .i64 0]) ∧ Sat W0 w' (vltL I v l t hb vb T L) := by
 have hgt := fun (w : World) (X : List Assn) (s : Sat W0 w (tabC t hb vb (heldC T) (valsC T) X)) => get_yes_th k (heldC_get hk) (valsC_get hk) (heldC_len hT) (valsC_len hT) (by decide) (by decide) s
 have e1 : Slt.v (σ := σ) ⟨m, some (.ses x s)⟩ = .iface 136 (.agg #[.pointer (some ⟨s, 0, none⟩)]) := rfl
 rw [e1] at hgt
 have HN := Lib.hid hgt; clear hgt hk e1 hT
 go_enter Tryz.func75, Tryz.ntmps75
 go_wp2_with (refine wpl_alloc_agg rfl 136 rfl hs [.pointer none] (by kernel_rfl) ?_; intro w1 ga s1 _; clear hs; have s2 : Sat W0 w1 (seg true v 0 (vlC t l T) :: tabC t hb vb (heldC T) (valsC T) (seg true ga 0 [.pointer none] :: stars (T.map (Slt.A I)) :: L)) := s1.f; clear s1; have c0 := s2.at 0 rfl; have z0 := s2.lt (by simp [vlC]))
 refine (HN.out _ (seg true v 0 (vlC t l T) :: seg true ga 0 [.pointer none] :: stars (T.map (Slt.A I)) :: L) s2.f).mono ?_
 rintro e w2 ⟨rfl, s3⟩
 have s4 : Sat W0 w2 (seg true ga 0 [.pointer none] :: vltL I v l t hb vb T L) := s3.f
 clear s2 s3 c0 z0
 go_wp2_with (first | (refine wpl_alloc_agg rfl 136 rfl s4 [.pointer none] (by kernel_rfl) ?_; intro w3 g8 s6 _; clear s4) | (refine wpl_store_agg rfl rfl 136 (.tmp 8) (.tmp 28) rfl (cs := [.pointer (some ⟨s, 0, none⟩)]) s6 0 0 Tryz.size_ses rfl rfl rfl (Nat.le_refl 1) (fun v hv => by simp at hv; subst hv; rfl) ?_; intro w4 s7; rw [setL_all _ _ (by rfl)] at s7; clear s6) | (refine wpl_load_agg rfl 136 (.tmp 8) rfl Tryz.underlying136 rfl Tryz.size_ses s7 0 0 rfl rfl (Nat.le_refl 1) ?_; have s8 : Sat W0 w4 (seg true ga 0 [.pointer none] :: vltL I v l t hb vb T L) := s7.f; clear s7) | (refine wpl_store_agg rfl rfl 136 (.tmp 4) (.tmp 29) rfl (cs := [.pointer (some ⟨s, 0, none⟩)]) s8 0 0 Tryz.size_ses rfl rfl rfl (Nat.le_refl 1) (fun v hv => by simp at hv; subst hv; rfl) ?_; intro w5 s5; rw [setL_all _ _ (by rfl)] at s5; clear s8))
 have hr := run_loadVar_agg (P := Tryz.prog) (ty := 136) Tryz.underlying136 rfl Tryz.size_ses s5 0 0 rfl (Nat.le_refl 1)
 have hr2 : Sem.run Tryz.prog (loadVar 136 ⟨ga, 0, none⟩) w5 = Result.ok (.agg #[.pointer (some ⟨s, 0, none⟩)]) w5 := hr
 have HS := Lib.hid s5.tail; clear s5 hr
 refine bodyPost_ret (v := .tuple #[.agg #[.pointer (some ⟨s, 0, none⟩)], .int .i64 0]) (by simp [results, Tryz.results75, asAddr]; rw [hr2]; rfl) rfl ⟨rfl, HS.out⟩
end
theorem freeKey {W0 w : World} {L : List Assn} {v t hb vb k m c : Nat} {l : Option Nat} {rs : List Run3} {T : List (Slt SesD)} {p : Option Addr} {b : List Byte} (hk : T[k]? = some ⟨m, some (.key b p c)⟩) (hT : T.length = 64) (hb1 : tot rs + 1 ≤ 4611686018427387904) (hl1 : rs.length ≤ 4294967296) (hs : Sat W0 w (ledO l rs :: vltL sesI v l t hb vb T L)) :
  Calls Tryz.prog 80 #[.pointer (some ⟨v, 0, none⟩), .int .i64 (k : Int)] w fun e w' => e = .returned (.tuple #[]) ∧ Sat W0 w' (ledO l (note rs 8 1024 1) :: vltL sesI v l t hb vb (T.set k ⟨m, none⟩) L) := by
 have hdr := fun (w : World) (X : List Assn) (s : Sat W0 w (tabC t hb vb (heldC T) (valsC T) X)) => drop_yes_th k (heldC_get hk) (valsC_get hk) (heldC_len hT) (valsC_len hT) (by decide) (by decide) s
 have e1 : Slt.v (σ := SesD) ⟨m, some (.key b p c)⟩ = .iface 128 (.agg #[.slice p b.length c]) := rfl
 rw [e1] at hdr
 have hk64 : k < 64 := by rw [← hT]; exact (List.getElem?_eq_some_iff.1 hk).1
 have hwp := fun (w : World) (X : List Assn) (o : List Byte) (s : Sat W0 w (ledO l rs :: memA m o :: X)) => memWipe (pv := ptrO l) l rs rfl hb1 hl1 s
 have hC := fun (wx : World) (X : List Assn) (s : Sat W0 wx (seg true v 0 (vlC t l T) :: X)) => And.intro (s.at (k + 2) (vlC_slot hk)) (And.intro (s.at 1 rfl) (s.lt (by simp [vlC])))
 have HN := Lib.hid (And.intro hdr (And.intro hwp (And.intro hC (And.intro hk trivial)))); clear hdr hwp hC hk e1 hT hb1 hl1 
 have hkI : (k : Int) < 64 := by omega
 have s0 : Sat W0 w (seg true v 0 (vlC t l T) :: tabC t hb vb (heldC T) (valsC T) (stars (T.map (Slt.A sesI)) :: ledO l rs :: L)) := hs.f
 clear hs
 have c0 := s0.at 0 rfl
 have z0 := s0.lt (by simp [vlC])
 go_enter Tryz.func80, Tryz.ntmps80
 go_wp2_with fail
 refine (HN.out.1 _ (seg true v 0 (vlC t l T) :: stars (T.map (Slt.A sesI)) :: ledO l rs :: L) s0.f).mono ?_
 rintro e w1 ⟨rfl, s1⟩
 clear s0 c0 z0
 have s2 := sltOut HN.out.2.2.2.1 (s1.f : Sat W0 w1 (stars (T.map (Slt.A sesI)) :: seg true v 0 (vlC t l T) :: ledO l rs :: tabC t hb vb ((heldC T).set k false) ((valsC T).set k .nilIface) L))
 have s3 : Sat W0 w1 (locO sesI (some (.key b p c)) :: seg true v 0 (vlC t l T) :: memA m (formO sesI (Slt.th (σ := SesD) ⟨m, some (.key b p c)⟩)) :: ledO l rs :: stars ((T.map (Slt.A sesI)).eraseIdx k) :: tabC t hb vb ((heldC T).set k false) ((valsC T).set k .nilIface) L) := s2.f
 clear s1 s2
 obtain ⟨n, hn⟩ : ∃ n, n = b.length := ⟨_, rfl⟩
 rw [← hn]
 clear hn
 have s4 : Sat W0 w1 (seg true v 0 (vlC t l T) :: memA m (formO sesI (Slt.th (σ := SesD) ⟨m, some (.key b p c)⟩)) :: ledO l rs :: stars ((T.map (Slt.A sesI)).eraseIdx k) :: tabC t hb vb ((heldC T).set k false) ((valsC T).set k .nilIface) L) := s3.tail
 clear s3
 go_wp2_with (first | (refine wpl_alloc_agg rfl 136 rfl s4 [.pointer none] (by kernel_rfl) ?_; intro w3 g6 s6 _; clear s4) | (refine wpl_store_agg rfl rfl 136 (.tmp 6) (.tmp 23) rfl (cs := [.pointer none]) s6 0 0 Tryz.size_ses rfl rfl rfl (Nat.le_refl 1) (fun v hv => by simp at hv; subst hv; rfl) ?_; intro w5 s7; rw [setL_all _ _ (by rfl)] at s7; clear s6))
 have s5 := s7.tail
 clear s7
 have sd := s5.drew
 have hk0 : w5.drew.cell? ⟨v, 2 + k, none⟩ = some (.pointer (some ⟨m, 0, none⟩)) ∧ w5.drew.cell? ⟨v, 1, none⟩ = some (ptrO l) ∧ v < w5.drew.heap.size := by rw [Nat.add_comm]; exact HN.out.2.2.1 _ _ sd
 clear s5
 refine region_E (fun w' => w'.cell? ⟨v, 2 + k, none⟩ = some (.pointer (some ⟨m, 0, none⟩)) ∧ w'.cell? ⟨v, 1, none⟩ = some (ptrO l) ∧ v < w'.heap.size) [5, 9] (by kernel_rfl) ?_
 have hHeld := hk0
 iterate 10
  first | refine autoT' hHeld (h := ?_) | refine autoP' (h := ?_)
  try simp only [pA1, pA2, pA3, pA4]
 refine anyE_last' (i := 10) (h := fun K hK => ?_)
 go_simp
 refine (HN.out.2.1 _ _ _ (sd.f : Sat W0 _ (ledO l rs :: memA m (formO sesI (Slt.th (σ := SesD) ⟨m, some (.key b p c)⟩)) :: seg true v 0 (vlC t l T) :: stars ((T.map (Slt.A sesI)).eraseIdx k) :: tabC t hb vb ((heldC T).set k false) ((valsC T).set k .nilIface) L))).mono ?_
 rintro e w6 ⟨rfl, s6⟩
 clear sd hk0
 go_wp2_with fail
 refine hK.out _ _ ?_
 clear hK K
 try simp only [pA1, pA2, pA3, pA4]
 refine anyE_done (by kernel_rfl) ?_ _
 clear hHeld
 have HS := Lib.hid s6; clear s6
 go_wp2_with fail
 refine bodyPost_end (results_none rfl _ _ _) rfl ⟨rfl, ?_⟩
 have s7 : Sat W0 _ (memA m [] :: seg true v 0 (vlC t l T) :: ledO l (note rs 8 1024 1) :: stars ((T.map (Slt.A sesI)).eraseIdx k) :: tabC t hb vb ((heldC T).set k false) ((valsC T).set k .nilIface) L) := HS.out.f
 have s8 : Sat W0 _ (locO sesI (none : Option (Loc SesD)) :: memA m [] :: seg true v 0 (vlC t l T) :: ledO l (note rs 8 1024 1) :: stars ((T.map (Slt.A sesI)).eraseIdx k) :: tabC t hb vb ((heldC T).set k false) ((valsC T).set k .nilIface) L) := s7.addEmp
 have s9 := sltIn (s' := ⟨m, none⟩) HN.out.2.2.2.1 (s8.f : Sat W0 _ (memA m [] :: locO sesI (none : Option (Loc SesD)) :: stars ((T.map (Slt.A sesI)).eraseIdx k) :: seg true v 0 (vlC t l T) :: ledO l (note rs 8 1024 1) :: tabC t hb vb ((heldC T).set k false) ((valsC T).set k .nilIface) L))
 have e2 : heldC (T.set k ⟨m, none⟩) = (heldC T).set k false := heldC_set T k m none
 have e3 : valsC (T.set k ⟨m, none⟩) = (valsC T).set k .nilIface := valsC_set T k ⟨m, none⟩
 have e4 := vlC_set (t := t) (l := l) (s' := ⟨m, none⟩) HN.out.2.2.2.1 rfl
 unfold vltL
 rw [e2, e3, e4]
 exact s9.f
theorem freeSes {W0 w : World} {L : List Assn} {v t hb vb k m s B : Nat} {l : Option Nat} {rs : List Run3} {T : List (Slt SesD)} {x : SesD} (hx : x.ok B) (hB : B ≤ 1000000000) (hk : T[k]? = some ⟨m, some (.ses x s)⟩) (hT : T.length = 64) (hb1 : tot rs + 1 ≤ 4611686018427387904) (hl1 : rs.length ≤ 4294967296) (hs : Sat W0 w (ledO l rs :: vltL sesI v l t hb vb T L)) :
  Calls Tryz.prog 80 #[.pointer (some ⟨v, 0, none⟩), .int .i64 (k : Int)] w fun e w' => e = .returned (.tuple #[]) ∧ Sat W0 w' (ledO l (note rs 8 1024 1) :: vltL sesI v l t hb vb (T.set k ⟨m, none⟩) L) := by
 have hdr := fun (w : World) (X : List Assn) (s : Sat W0 w (tabC t hb vb (heldC T) (valsC T) X)) => drop_yes_th k (heldC_get hk) (valsC_get hk) (heldC_len hT) (valsC_len hT) (by decide) (by decide) s
 have e1 : Slt.v (σ := SesD) ⟨m, some (.ses x s)⟩ = .iface 136 (.agg #[.pointer (some ⟨s, 0, none⟩)]) := rfl
 rw [e1] at hdr
 have hk64 : k < 64 := by rw [← hT]; exact (List.getElem?_eq_some_iff.1 hk).1
 have hwp := fun (w : World) (X : List Assn) (o : List Byte) (s : Sat W0 w (ledO l rs :: memA m o :: X)) => memWipe (pv := ptrO l) l rs rfl hb1 hl1 s
 have hsw := fun (w : World) (X : List Assn) (h : Sat W0 w (ledO none [] :: ses x.K s x.key x.custom x.out x.msg :: X)) => macWipe (pv := .pointer none) x.K none [] x.key x.custom x.msg rfl hx.1 ⟨by decide, by decide⟩ (Nat.le_trans hx.2.2 hB) h
 have hC := fun (wx : World) (X : List Assn) (s : Sat W0 wx (seg true v 0 (vlC t l T) :: X)) => And.intro (s.at (k + 2) (vlC_slot hk)) (And.intro (s.at 1 rfl) (s.lt (by simp [vlC])))
 have HN := Lib.hid (And.intro hdr (And.intro hwp (And.intro hC (And.intro hk hsw)))); clear hdr hwp hC hk e1 hT hb1 hl1 hsw hx
 have hkI : (k : Int) < 64 := by omega
 have s0 : Sat W0 w (seg true v 0 (vlC t l T) :: tabC t hb vb (heldC T) (valsC T) (stars (T.map (Slt.A sesI)) :: ledO l rs :: L)) := hs.f
 clear hs
 have c0 := s0.at 0 rfl
 have z0 := s0.lt (by simp [vlC])
 go_enter Tryz.func80, Tryz.ntmps80
 go_wp2_with fail
 refine (HN.out.1 _ (seg true v 0 (vlC t l T) :: stars (T.map (Slt.A sesI)) :: ledO l rs :: L) s0.f).mono ?_
 rintro e w1 ⟨rfl, s1⟩
 clear s0 c0 z0
 have s2 := sltOut HN.out.2.2.2.1 (s1.f : Sat W0 w1 (stars (T.map (Slt.A sesI)) :: seg true v 0 (vlC t l T) :: ledO l rs :: tabC t hb vb ((heldC T).set k false) ((valsC T).set k .nilIface) L))
 have s3 : Sat W0 w1 (locO sesI (some (.ses x s)) :: seg true v 0 (vlC t l T) :: memA m (formO sesI (Slt.th (σ := SesD) ⟨m, some (.ses x s)⟩)) :: ledO l rs :: stars ((T.map (Slt.A sesI)).eraseIdx k) :: tabC t hb vb ((heldC T).set k false) ((valsC T).set k .nilIface) L) := s2.f
 clear s1 s2
 go_wp2_with (first | (refine wpl_alloc_agg rfl 136 rfl s3 [.pointer none] (by kernel_rfl) ?_; intro w3 g6 s6 _; clear s3) | (refine wpl_store_agg rfl rfl 136 (.tmp 6) (.tmp 23) rfl (cs := [.pointer (some ⟨s, 0, none⟩)]) s6 0 0 Tryz.size_ses rfl rfl rfl (Nat.le_refl 1) (fun v hv => by simp at hv; subst hv; rfl) ?_; intro w4 s7; rw [setL_all _ _ (by rfl)] at s7; clear s6; have c7 := s7.at 0 rfl; have z7 := s7.lt (by simp)))
 refine (HN.out.2.2.2.2 _ (seg true g6 0 [.pointer (some ⟨s, 0, none⟩)] :: seg true v 0 (vlC t l T) :: memA m (formO sesI (Slt.th (σ := SesD) ⟨m, some (.ses x s)⟩)) :: ledO l rs :: stars ((T.map (Slt.A sesI)).eraseIdx k) :: tabC t hb vb ((heldC T).set k false) ((valsC T).set k .nilIface) L) (by
  have h1 := ledNone s7
  have h2 : Sat W0 w4 (ledO none [] :: seg true g6 0 [.pointer (some ⟨s, 0, none⟩)] :: ses x.K s x.key x.custom x.out x.msg :: seg true v 0 (vlC t l T) :: memA m (formO sesI (Slt.th (σ := SesD) ⟨m, some (.ses x s)⟩)) :: ledO l rs :: stars ((T.map (Slt.A sesI)).eraseIdx k) :: tabC t hb vb ((heldC T).set k false) ((valsC T).set k .nilIface) L) := h1
  exact h2.f)).mono ?_
 rintro e w5 ⟨rfl, s8⟩
 clear s7 c7 z7
 have s5 : Sat W0 w5 (seg true v 0 (vlC t l T) :: memA m (formO sesI (Slt.th (σ := SesD) ⟨m, some (.ses x s)⟩)) :: ledO l rs :: stars ((T.map (Slt.A sesI)).eraseIdx k) :: tabC t hb vb ((heldC T).set k false) ((valsC T).set k .nilIface) L) := s8.f
 clear s8
 go_wp2_with fail
 have sd := s5.drew
 have hk0 : w5.drew.cell? ⟨v, 2 + k, none⟩ = some (.pointer (some ⟨m, 0, none⟩)) ∧ w5.drew.cell? ⟨v, 1, none⟩ = some (ptrO l) ∧ v < w5.drew.heap.size := by rw [Nat.add_comm]; exact HN.out.2.2.1 _ _ sd
 clear s5
 refine region_E (fun w' => w'.cell? ⟨v, 2 + k, none⟩ = some (.pointer (some ⟨m, 0, none⟩)) ∧ w'.cell? ⟨v, 1, none⟩ = some (ptrO l) ∧ v < w'.heap.size) [5, 9] (by kernel_rfl) ?_
 have hHeld := hk0
 iterate 10
  first | refine autoT' hHeld (h := ?_) | refine autoP' (h := ?_)
  try simp only [pA1, pA2, pA3, pA4]
 refine anyE_last' (i := 10) (h := fun K hK => ?_)
 go_simp
 refine (HN.out.2.1 _ _ _ (sd.f : Sat W0 _ (ledO l rs :: memA m (formO sesI (Slt.th (σ := SesD) ⟨m, some (.ses x s)⟩)) :: seg true v 0 (vlC t l T) :: stars ((T.map (Slt.A sesI)).eraseIdx k) :: tabC t hb vb ((heldC T).set k false) ((valsC T).set k .nilIface) L))).mono ?_
 rintro e w6 ⟨rfl, s6⟩
 clear sd hk0
 go_wp2_with fail
 refine hK.out _ _ ?_
 clear hK K
 try simp only [pA1, pA2, pA3, pA4]
 refine anyE_done (by kernel_rfl) ?_ _
 clear hHeld
 have HS := Lib.hid s6; clear s6
 go_wp2_with fail
 refine bodyPost_end (results_none rfl _ _ _) rfl ⟨rfl, ?_⟩
 have s7 : Sat W0 _ (memA m [] :: seg true v 0 (vlC t l T) :: ledO l (note rs 8 1024 1) :: stars ((T.map (Slt.A sesI)).eraseIdx k) :: tabC t hb vb ((heldC T).set k false) ((valsC T).set k .nilIface) L) := HS.out.f
 have s8 : Sat W0 _ (locO sesI (none : Option (Loc SesD)) :: memA m [] :: seg true v 0 (vlC t l T) :: ledO l (note rs 8 1024 1) :: stars ((T.map (Slt.A sesI)).eraseIdx k) :: tabC t hb vb ((heldC T).set k false) ((valsC T).set k .nilIface) L) := s7.addEmp
 have s9 := sltIn (s' := ⟨m, none⟩) HN.out.2.2.2.1 (s8.f : Sat W0 _ (memA m [] :: locO sesI (none : Option (Loc SesD)) :: stars ((T.map (Slt.A sesI)).eraseIdx k) :: seg true v 0 (vlC t l T) :: ledO l (note rs 8 1024 1) :: tabC t hb vb ((heldC T).set k false) ((valsC T).set k .nilIface) L))
 have e2 : heldC (T.set k ⟨m, none⟩) = (heldC T).set k false := heldC_set T k m none
 have e3 : valsC (T.set k ⟨m, none⟩) = (valsC T).set k .nilIface := valsC_set T k ⟨m, none⟩
 have e4 := vlC_set (t := t) (l := l) (s' := ⟨m, none⟩) HN.out.2.2.2.1 rfl
 unfold vltL
 rw [e2, e3, e4]
 exact s9.f
theorem takeSes {W0 w : World} {L : List Assn} {v t hb vb s B : Nat} {l : Option Nat} {T : List (Slt SesD)} (x : SesD) (hx : x.ok B) (hB : B ≤ 1000000000) (hT : T.length = 64) (hs : Sat W0 w (sesI.A x s :: vltL sesI v l t hb vb T L)) :
  Calls Tryz.prog 69 #[.pointer (some ⟨v, 0, none⟩), .iface 136 (.agg #[.pointer (some ⟨s, 0, none⟩)])] w fun e w' =>
   (∃ i m, T[i]? = some ⟨m, none⟩ ∧ vTake (T.map Slt.th) (.ses x) = ((T.map Slt.th).set i (some (.ses x)), ⟨0, i, false, []⟩) ∧ e = .returned (.agg #[.int .i64 0, .int .i64 (i : Int), .bool false, .slice none 0 0]) ∧ Sat W0 w' (vltL sesI v l t hb vb (T.set i ⟨m, some (.ses x s)⟩) L)) ∨
   (vTake (T.map Slt.th) (.ses x) = (T.map Slt.th, noA 8) ∧ e = .returned (.agg #[.int .i64 8, .int .i64 0, .bool false, .slice none 0 0]) ∧ Sat W0 w' (sesI.A x s :: vltL sesI v l t hb vb T L)) := by
 have hadd := fun (w : World) (X : List Assn) (sz : Sat W0 w (tabC t hb vb (heldC T) (valsC T) X)) => add_th 136 (.agg #[.pointer (some ⟨s, 0, none⟩)]) (heldC_len hT) (valsC_len hT) (by decide) (by decide) sz
 have HN := Lib.hid (And.intro hadd hT); clear hadd hT
 have hfo := fun (w : World) (X : List Assn) (h : Sat W0 w (sesI.A x s :: X)) => sFormW x hx hB h
 obtain ⟨SA, hSA⟩ : ∃ A, A = sesI.A x s := ⟨_, rfl⟩
 rw [← hSA] at hfo hs ⊢
 have HL := Lib.hid (And.intro hfo hSA); clear hfo hx hSA
 go_enter Tryz.func69, Tryz.ntmps69
 go_wp2_with (refine wpl_alloc_agg rfl 44 rfl hs _ (zero_ans _) ?_; intro w1 ga s1 _; clear hs; have s2 : Sat W0 w1 (seg true v 0 (vlC t l T) :: tabC t hb vb (heldC T) (valsC T) (stars (T.map (Slt.A sesI)) :: SA :: seg true ga 0 ans0 :: L)) := s1.f; clear s1; have c0 := s2.at 0 rfl; have z0 := s2.lt (by simp [vlC]))
 refine (HN.out.1 _ (seg true v 0 (vlC t l T) :: stars (T.map (Slt.A sesI)) :: SA :: seg true ga 0 ans0 :: L) s2.f).mono ?_
 rintro e w2 (⟨i, hi, hall, hfree, rfl, s3⟩ | ⟨hall, rfl, s3⟩)
 ·obtain ⟨⟨m, him⟩, htk⟩ := free_at (T := T) (by rw [HN.out.2]; exact hi) hall hfree
  clear s2 c0 z0
  have s4 := sltOut him (s3.f : Sat W0 w2 (stars (T.map (Slt.A sesI)) :: seg true v 0 (vlC t l T) :: SA :: seg true ga 0 ans0 :: tabC t hb vb ((heldC T).set i true) ((valsC T).set i (.iface 136 (.agg #[.pointer (some ⟨s, 0, none⟩)]))) L))
  have s5 : Sat W0 w2 (seg true v 0 (vlC t l T) :: memA m [] :: SA :: seg true ga 0 ans0 :: stars ((T.map (Slt.A sesI)).eraseIdx i) :: tabC t hb vb ((heldC T).set i true) ((valsC T).set i (.iface 136 (.agg #[.pointer (some ⟨s, 0, none⟩)]))) L) := by
   have s6 : Sat W0 w2 (memA m [] :: emp :: stars ((T.map (Slt.A sesI)).eraseIdx i) :: seg true v 0 (vlC t l T) :: SA :: seg true ga 0 ans0 :: tabC t hb vb ((heldC T).set i true) ((valsC T).set i (.iface 136 (.agg #[.pointer (some ⟨s, 0, none⟩)]))) L) := s4
   exact s6.f
  have hC := fun (wx : World) (X : List Assn) (s : Sat W0 wx (seg true v 0 (vlC t l T) :: X)) => And.intro (s.at (i + 2) (vlC_slot him)) (s.lt (by simp [vlC]))
  have HX := Lib.hid (And.intro him (And.intro htk hC)); clear him htk hC hall hfree s3 s4
  have hiI : (i : Int) < 64 := by omega
  go_wp2_with fail
  have s5d := s5.drew
  have hk0 : w2.drew.cell? ⟨v, 2 + i, none⟩ = some (.pointer (some ⟨m, 0, none⟩)) ∧ v < w2.drew.heap.size := by rw [Nat.add_comm]; exact HX.out.2.2 _ _ s5d
  refine region_E (fun w' => w'.cell? ⟨v, 2 + i, none⟩ = some (.pointer (some ⟨m, 0, none⟩)) ∧ v < w'.heap.size) [5] (by kernel_rfl) ?_
  have hHeld := hk0
  iterate 7
   first | refine autoT' hHeld (h := ?_) | refine autoP' (h := ?_)
   try simp only [pA1, pA2, pA3, pA4]
  refine anyE_one' (i := 7) (h := fun K hK => ?_)
  go_simp
  refine (HL.out.1 _ _ (s5d.f : Sat W0 _ (SA :: seg true v 0 (vlC t l T) :: memA m [] :: seg true ga 0 ans0 :: stars ((T.map (Slt.A sesI)).eraseIdx i) :: tabC t hb vb ((heldC T).set i true) ((valsC T).set i (.iface 136 (.agg #[.pointer (some ⟨s, 0, none⟩)]))) L))).mono ?_
  rintro e w3 ⟨q, n, c, rfl, hfn, hf4, s6'⟩
  have s6 : Sat W0 w3 (seg true v 0 (vlC t l T) :: bytes true q (sesI.form x) :: memA m [] :: SA :: seg true ga 0 ans0 :: stars ((T.map (Slt.A sesI)).eraseIdx i) :: tabC t hb vb ((heldC T).set i true) ((valsC T).set i (.iface 136 (.agg #[.pointer (some ⟨s, 0, none⟩)]))) L) := s6'.f
  have hk3 : w3.cell? ⟨v, 2 + i, none⟩ = some (.pointer (some ⟨m, 0, none⟩)) ∧ v < w3.heap.size := by rw [Nat.add_comm]; exact HX.out.2.2 _ _ s6
  go_wp2_with fail
  refine hK.out _ _ hk3 ?_
  clear hK K hHeld
  have hHeld := hk3
  try simp only [pA1, pA2, pA3, pA4]
  clear s5 s5d hk3 hk0 s6'
  refine anyE_last' (i := 8) (h := fun K hK => ?_)
  go_simp
  refine (memPut (m := m) (sesI.form x) hfn hf4 (s6.f : Sat W0 w3 (memA m [] :: bytes true q (sesI.form x) :: SA :: seg true v 0 (vlC t l T) :: seg true ga 0 ans0 :: stars ((T.map (Slt.A sesI)).eraseIdx i) :: tabC t hb vb ((heldC T).set i true) ((valsC T).set i (.iface 136 (.agg #[.pointer (some ⟨s, 0, none⟩)]))) L))).mono ?_
  rintro e w4 ⟨rfl, s8⟩
  clear s6 hfn hf4
  go_wp2_with fail
  refine hK.out _ _ ?_
  clear hK K
  try simp only [pA1, pA2, pA3, pA4]
  refine anyE_done (by kernel_rfl) ?_ _
  have sr0 : Sat W0 _ (seg true ga 0 ans0 :: memA m (sesI.form x) :: SA :: seg true v 0 (vlC t l T) :: stars ((T.map (Slt.A sesI)).eraseIdx i) :: tabC t hb vb ((heldC T).set i true) ((valsC T).set i (.iface 136 (.agg #[.pointer (some ⟨s, 0, none⟩)]))) L) := s8.f
  clear s8 hHeld
  go_wp2_with (refine wpl_stAns rfl rfl (.tmp 4) (.tmp 31) rfl sr0 rfl rfl ?_; intro ws ss; clear sr0)
  have hr := ansLd ss
  have HS := Lib.hid ss.tail; clear ss
  refine bodyPost_ret (v := .agg #[.int .i64 0, .int .i64 (i : Int), .bool false, .slice none 0 0]) (by simp [results, Tryz.results69, asAddr]; exact hr) rfl ?_
  refine .inl ⟨i, m, HX.out.1, HX.out.2.1 _, rfl, tabSet HX.out.1 ?_⟩
  have s9 := HS.out
  rw [HL.out.2] at s9
  have s10 : Sat W0 ws (memA m (sesI.form x) :: sesI.A x s :: stars ((T.map (Slt.A sesI)).eraseIdx i) :: seg true v 0 (vlC t l T) :: tabC t hb vb ((heldC T).set i true) ((valsC T).set i (.iface 136 (.agg #[.pointer (some ⟨s, 0, none⟩)]))) L) := s9.f
  have s13 := sltIn (s' := ⟨m, some (.ses x s)⟩) HX.out.1 s10
  have s14 : Sat W0 ws (tabC t hb vb ((heldC T).set i true) ((valsC T).set i (.iface 136 (.agg #[.pointer (some ⟨s, 0, none⟩)]))) (seg true v 0 (vlC t l T) :: stars ((T.set i ⟨m, some (.ses x s)⟩).map (Slt.A sesI)) :: L)) := s13.f
  exact s14
 ·have hfull := free_none (T := T) (by rw [HN.out.2]; exact hall) (.ses x)
  have HX := Lib.hid hfull; clear hfull hall s2 c0 z0
  go_wp2_with fail
  refine (vCode 8 s3).mono ?_
  rintro e w3 ⟨rfl, s4⟩
  clear s3
  have sr0 : Sat W0 _ (seg true ga 0 ans0 :: SA :: vltL sesI v l t hb vb T L) := s4.f
  go_wp2_with (refine wpl_stAns rfl rfl (.tmp 4) (.tmp 20) rfl sr0 rfl rfl ?_; intro ws ss; clear sr0)
  have hr := ansLd ss
  have HS := Lib.hid ss.tail; clear ss
  refine bodyPost_ret (v := .agg #[.int .i64 8, .int .i64 0, .bool false, .slice none 0 0]) (by simp [results, Tryz.results69, asAddr]; exact hr) rfl ?_
  exact .inr ⟨HX.out, rfl, HS.out⟩
end Go.Proofs.YtbefjaodpbgpcaaGreat
