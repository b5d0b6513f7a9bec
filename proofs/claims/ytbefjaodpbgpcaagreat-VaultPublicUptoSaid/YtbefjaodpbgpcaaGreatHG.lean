/- Vk, Vk2: texts that lie apart elsewhere, as one; each under the conditions that it names. -/
import Derived.Test.YtbefjaodpbgpcaaGreatHF
set_option linter.unusedVariables false
set_option linter.unusedSimpArgs false
set_option maxRecDepth 100000
set_option maxHeartbeats 16000000
namespace Go.Proofs.YtbefjaodpbgpcaaGreat
open Go.RowKit Go.Sep Go.Bv
section
variable {σ : Type}
def tAt (S : Sts σ) (h : Int) : Option (Th σ) := if h < 0 ∨ 64 ≤ h then none else S.getD h.toNat none
def vTake (S : Sts σ) (x : Th σ) : Sts σ × Ans :=
 match S.findIdx? (·.isNone) with
 | some i => (S.set i (some x), ⟨0, i, false, []⟩)
 | none => (S, noA 8)
def vPut (S : Sts σ) (o : OpC) : Sts σ × Ans := if 512 < o.data.length then (S, noA 7) else vTake S (.key o.data)
def vReveal (S : Sts σ) (o : OpC) : Sts σ × Ans :=
 match tAt S o.handle with
 | none => (S, noA 5)
 | some (.ses _) => (S, noA 6)
 | some (.key k) => (S, ⟨0, 0, false, k⟩)
theorem tAt_cases (T : List (Slt σ)) (hT : T.length = 64) (h : Int) : (tAt (T.map Slt.th) h = none ∧ (decide (0 ≤ h) && (heldC T).getD h.toNat false) = false) ∨ ∃ (k m : Nat) (l : Loc σ), h = (k : Int) ∧ k < 64 ∧ T[k]? = some ⟨m, some l⟩ ∧ tAt (T.map Slt.th) h = some l.th ∧ (heldC T).getD k false = true := by
 by_cases h0 : h < 0 ∨ 64 ≤ h
 ·refine .inl ⟨by unfold tAt; rw [if_pos h0], ?_⟩
  rcases h0 with h0 | h0
  ·have : decide (0 ≤ h) = false := by simp; omega
   rw [this]; rfl
  ·have : (heldC T).getD h.toNat false = false := by
    rw [List.getD_eq_getElem?_getD, List.getElem?_eq_none (by rw [heldC_len hT]; omega)]; rfl
   rw [this, Bool.and_false]
 ·obtain ⟨k, rfl⟩ : ∃ k : Nat, h = (k : Int) := ⟨h.toNat, by omega⟩
  have hk : k < T.length := by omega
  obtain ⟨⟨m, o⟩, hs⟩ : ∃ s, T[k]? = some s := ⟨T[k], List.getElem?_eq_getElem hk⟩
  have e : tAt (T.map Slt.th) (k : Int) = o.map Loc.th := by
   unfold tAt
   rw [if_neg h0, Int.toNat_natCast, List.getD_eq_getElem?_getD, List.getElem?_map, hs]; rfl
  have e2 := heldC_get hs
  cases o with
  | none => exact .inl ⟨e, by rw [Int.toNat_natCast, e2]; simp⟩
  | some l => exact .inr ⟨k, m, l, rfl, by omega, hs, e, e2⟩
theorem free_at {T : List (Slt σ)} {i : Nat} (hi : i < T.length) (hb : ∀ j, j < i → (heldC T).getD j false = true) (hf : (heldC T).getD i false = false) : (∃ m, T[i]? = some ⟨m, none⟩) ∧ ∀ x, vTake (T.map Slt.th) x = ((T.map Slt.th).set i (some x), ⟨0, i, false, []⟩) := by
 have key : ∀ j, (heldC T).getD j false = true → ∃ m l, T[j]? = some ⟨m, some l⟩ := fun j hj => by
  unfold heldC at hj
  rw [List.getD_eq_getElem?_getD, List.getElem?_map] at hj
  rcases hx : T[j]? with _ | ⟨m, o⟩
  ·rw [hx] at hj; cases hj
  ·rw [hx] at hj
   cases o with
   | none => cases hj
   | some l => exact ⟨m, l, rfl⟩
 obtain ⟨⟨m, o⟩, hs⟩ : ∃ s, T[i]? = some s := ⟨T[i], List.getElem?_eq_getElem hi⟩
 have e2 := heldC_get hs
 rw [hf] at e2
 cases o with
 | some l => cases e2
 | none =>
  refine ⟨⟨m, hs⟩, fun x => ?_⟩
  unfold vTake
  have : (T.map Slt.th).findIdx? (·.isNone) = some i := by
   rw [List.findIdx?_eq_some_iff_getElem]
   refine ⟨by simpa using hi, by rw [List.getElem_map, (List.getElem?_eq_some_iff.1 hs).2]; rfl, fun j hj => ?_⟩
   obtain ⟨m', l, hj'⟩ := key j (hb j hj)
   rw [List.getElem_map, (List.getElem?_eq_some_iff.1 hj').2]
   simp [Slt.th]
  rw [this]
theorem free_none {T : List (Slt σ)} (hb : ∀ j, j < T.length → (heldC T).getD j false = true) (x : Th σ) : vTake (T.map Slt.th) x = (T.map Slt.th, noA 8) := by
 unfold vTake
 have : (T.map Slt.th).findIdx? (·.isNone) = none := by
  rw [List.findIdx?_eq_none_iff]
  intro y hy
  obtain ⟨j, hj, rfl⟩ := List.getElem_of_mem hy
  rw [List.length_map] at hj
  have h1 := hb j hj
  rw [heldC_get (List.getElem?_eq_getElem hj)] at h1
  rw [List.getElem_map]
  cases ho : T[j].o with
  | none => rw [ho] at h1; cases h1
  | some l => simp [Slt.th, ho]
 rw [this]
theorem th_set (T : List (Slt σ)) (k : Nat) (s : Slt σ) : (T.set k s).map Slt.th = (T.map Slt.th).set k s.th := by rw [List.map_set]
theorem vIs {W0 w : World} {L : List Assn} {v t : Nat} {l : Option Nat} {T : List (Slt σ)} (hs : Sat W0 w (seg true v 0 (vlC t l T) :: L)) :
  Calls Tryz.prog 37 #[.pointer (some ⟨v, 0, none⟩)] w fun e w' => e = .returned (.bool true) ∧ w = w' := by
 have c0 := hs.at 0 rfl
 have z0 := hs.lt (by simp [vlC])
 go_enter Tryz.func37, Tryz.ntmps37
 go_wp2
 go_ret
 exact ⟨rfl, rfl⟩
theorem vCode {W0 w : World} {L : List Assn} (e : Int) (hs : Sat W0 w L) :
  Calls Tryz.prog 68 #[.int .i64 e] w fun x w' => x = .returned (.agg #[.int .i64 e, .int .i64 0, .bool false, .slice none 0 0]) ∧ Sat W0 w' L := by
 go_enter Tryz.func68, Tryz.ntmps68
 go_wp2_with (first | (refine wpl_alloc_agg rfl 44 rfl hs _ (zero_ans _) ?_; intro w1 g s1 _; clear hs) | (refine wpl_stAns rfl rfl (.tmp 2) (.tmp 4) rfl s1 rfl rfl ?_; intro w2 s2; clear s1))
 have hr2 := ansLd s2
 have HS := Lib.hid s2.tail; clear s2
 refine bodyPost_ret (v := .agg #[.int .i64 e, .int .i64 0, .bool false, .slice none 0 0]) (by simp [results, Tryz.results68, asAddr]; exact hr2) rfl ⟨rfl, HS.out⟩
theorem vCopied {W0 w : World} {L : List Assn} {m : Bool} {pp : Option Addr} {n cap : Nat} (bs : List Byte) (hn : bs.length = n) (hb : n ≤ 140737488355328) (hs : Sat W0 w (bytes m pp bs :: L)) :
  Calls Tryz.prog 70 #[.slice pp n cap] w fun e w' => ∃ q c, e = .returned (.slice q n c) ∧ n ≤ c ∧ c ≤ maxLen ∧ Sat W0 w' (bytes true q bs :: bytes m pp bs :: L) := by
 have s0 : Sat W0 w (row none 0 1 0 (u8s []) :: bytes m pp bs :: L) := hs.rowNil 1
 have HB := Lib.hid hb; clear hb hs
 go_enter Tryz.func70, Tryz.ntmps70
 go_wp2_with (refine wpl_app8 rfl (.const (.slice none 0 0)) (.tmp 3) rfl rfl rfl s0 hn (by have := HB.out; omega) ?_; intro p9 c9 w9 s9; clear s0)
 rw [Nat.zero_add, List.nil_append] at s9
 obtain ⟨_, h1, h2, s10⟩ := rowBytes s9
 have HS := Lib.hid (And.intro h1 (And.intro h2 s10)); clear h1 h2 s10 s9
 go_wp2_with fail
 go_ret
 exact ⟨p9, c9, rfl, HS.out⟩
theorem Tryz.size_key : (Tryz.prog.info? 128).map (·.size) = some 1 := by kernel_rfl
@[go_sem] theorem invk_form (x : Value) (w : World) : (callMethod (.iface 128 (.agg #[x])) "turnkey/vault.form" #[]).run Tryz.prog w = .ok (.enter 235 #[.agg #[x]]) w := by kernel_rfl
theorem kForm {W0 w : World} {L : List Assn} {p : Option Addr} {n c : Nat} (hs : Sat W0 w L) :
  Calls Tryz.prog 235 #[.agg #[.slice p n c]] w fun e w' => e = .returned (.slice p n c) ∧ Sat W0 w' L := by
 go_enter Tryz.func235, Tryz.ntmps235
 go_wp2_with (refine wpl_box rfl 128 (.tmp 0) rfl [.slice p n c] rfl hs ?_; intro w1 g s1 _; clear hs; have c0 := s1.at 0 rfl; have z0 := s1.lt (by simp))
 have HS := Lib.hid s1.tail; clear s1
 go_ret
 exact ⟨rfl, HS.out⟩
@[go_sem] theorem asKK (v : Value) (w : World) : (Instr.typeAssert (.iface 128 v) 79 128 true).run Tryz.prog w = .ok (.tuple #[v, .bool true]) w := by kernel_rfl
@[go_sem] theorem asSK (v : Value) (w : World) : (Instr.typeAssert (.iface 136 v) 79 128 true).run Tryz.prog w = .ok (.tuple #[.agg #[.slice none 0 0], .bool false]) w := by kernel_rfl
@[go_sem] theorem asKS (v : Value) (w : World) : (Instr.typeAssert (.iface 128 v) 79 136 true).run Tryz.prog w = .ok (.tuple #[.agg #[.pointer none], .bool false]) w := by kernel_rfl
@[go_sem] theorem asSS (v : Value) (w : World) : (Instr.typeAssert (.iface 136 v) 79 136 true).run Tryz.prog w = .ok (.tuple #[v, .bool true]) w := by kernel_rfl
theorem keyAtNo {W0 w : World} {L : List Assn} {I : SesI σ} {v t hb vb : Nat} {l : Option Nat} {T : List (Slt σ)} (h : Int) (hno : (decide (0 ≤ h) && (heldC T).getD h.toNat false) = false) (hT : T.length = 64) (hs : Sat W0 w (vltL I v l t hb vb T L)) :
  Calls Tryz.prog 71 #[.pointer (some ⟨v, 0, none⟩), .int .i64 h] w fun e w' => e = .returned (.tuple #[.slice none 0 0, .int .i64 5]) ∧ Sat W0 w' (vltL I v l t hb vb T L) := by
 have c0 := hs.at 0 rfl
 have z0 := hs.lt (by simp [vlC])
 have hg := get_no_th h hno (heldC_len hT) (valsC_len hT) (by decide) (by decide) (hs.sub (.cons (.there .here) (.cons (.there .here) (.cons (.there .here) .done))) : Sat W0 w (tabC t hb vb (heldC T) (valsC T) (seg true v 0 (vlC t l T) :: stars (T.map (Slt.A I)) :: L)))
 have HN := Lib.hid hg; clear hg hno hT hs
 go_enter Tryz.func71, Tryz.ntmps71
 go_wp2_with fail
 refine HN.out.mono ?_
 rintro e w1 ⟨rfl, s1⟩
 have HS := Lib.hid s1; clear s1
 go_wp2_with fail
 refine bodyPost_ret (v := .tuple #[.slice none 0 0, .int .i64 5]) (by simp [results, Tryz.results71, go_sem]) rfl ⟨rfl, ?_⟩
 have s2 := HS.out
 exact s2.f
theorem keyAtKey {W0 w : World} {L : List Assn} {I : SesI σ} {v t hb vb k m n c : Nat} {l : Option Nat} {T : List (Slt σ)} {p : Option Addr} {b : List Byte} (hk : T[k]? = some ⟨m, some (.key b p c)⟩) (hn : b.length = n) (hT : T.length = 64) (hs : Sat W0 w (vltL I v l t hb vb T L)) :
  Calls Tryz.prog 71 #[.pointer (some ⟨v, 0, none⟩), .int .i64 (k : Int)] w fun e w' => e = .returned (.tuple #[.slice p n c, .int .i64 0]) ∧ Sat W0 w' (vltL I v l t hb vb T L) := by
 have c0 := hs.at 0 rfl
 have z0 := hs.lt (by simp [vlC])
 have hg := get_yes_th k (heldC_get hk) (valsC_get hk) (heldC_len hT) (valsC_len hT) (by decide) (by decide) (hs.sub (.cons (.there .here) (.cons (.there .here) (.cons (.there .here) .done))) : Sat W0 w (tabC t hb vb (heldC T) (valsC T) (seg true v 0 (vlC t l T) :: stars (T.map (Slt.A I)) :: L)))
 have e1 : Slt.v (σ := σ) ⟨m, some (.key b p c)⟩ = .iface 128 (.agg #[.slice p n c]) := by rw [← hn]; rfl
 rw [e1] at hg
 have HN := Lib.hid hg; clear hg hk hT hs e1 hn
 go_enter Tryz.func71, Tryz.ntmps71
 go_wp2_with fail
 refine HN.out.mono ?_
 rintro e w1 ⟨rfl, s1⟩
 clear c0 z0
 go_wp2_with (first | (refine wpl_alloc_agg rfl 128 rfl s1 [.slice none 0 0] (by kernel_rfl) ?_; intro w2 g s2 _; clear s1) | (refine wpl_store_agg rfl rfl 128 (.tmp 8) (.tmp 26) rfl (cs := [.slice p n c]) s2 0 0 Tryz.size_key rfl rfl rfl (Nat.le_refl 1) (fun v hv => by simp at hv; subst hv; rfl) ?_; intro w3 s3; rw [setL_all _ _ (by rfl)] at s3; clear s2; have c3 := s3.at 0 rfl; have z3 := s3.lt (by simp)))
 have HS := Lib.hid s3.tail; clear s3
 refine bodyPost_ret (v := .tuple #[.slice p n c, .int .i64 0]) (by simp [results, Tryz.results71, go_sem]) rfl ⟨rfl, ?_⟩
 have s2 := HS.out
 exact s2.f
theorem keyAtSes {W0 w : World} {L : List Assn} {I : SesI σ} {v t hb vb k m s : Nat} {l : Option Nat} {T : List (Slt σ)} {x : σ} (hk : T[k]? = some ⟨m, some (.ses x s)⟩) (hT : T.length = 64) (hs : Sat W0 w (vltL I v l t hb vb T L)) :
  Calls Tryz.prog 71 #[.pointer (some ⟨v, 0, none⟩), .int .i64 (k : Int)] w fun e w' => e = .returned (.tuple #[.slice none 0 0, .int .i64 6]) ∧ Sat W0 w' (vltL I v l t hb vb T L) := by
 have c0 := hs.at 0 rfl
 have z0 := hs.lt (by simp [vlC])
 have hg := get_yes_th k (heldC_get hk) (valsC_get hk) (heldC_len hT) (valsC_len hT) (by decide) (by decide) (hs.sub (.cons (.there .here) (.cons (.there .here) (.cons (.there .here) .done))) : Sat W0 w (tabC t hb vb (heldC T) (valsC T) (seg true v 0 (vlC t l T) :: stars (T.map (Slt.A I)) :: L)))
 have e1 : Slt.v (σ := σ) ⟨m, some (.ses x s)⟩ = .iface 136 (.agg #[.pointer (some ⟨s, 0, none⟩)]) := rfl
 rw [e1] at hg
 have HN := Lib.hid hg; clear hg hk hT hs e1
 go_enter Tryz.func71, Tryz.ntmps71
 go_wp2_with fail
 refine HN.out.mono ?_
 rintro e w1 ⟨rfl, s1⟩
 clear c0 z0
 go_wp2_with (first | (refine wpl_alloc_agg rfl 128 rfl s1 [.slice none 0 0] (by kernel_rfl) ?_; intro w2 g s2 _; clear s1) | (refine wpl_store_agg rfl rfl 128 (.tmp 8) (.tmp 26) rfl (cs := [.slice none 0 0]) s2 0 0 Tryz.size_key rfl rfl rfl (Nat.le_refl 1) (fun v hv => by simp at hv; subst hv; rfl) ?_; intro w3 s3; rw [setL_all _ _ (by rfl)] at s3; clear s2))
 have HS := Lib.hid s3.tail; clear s3
 refine bodyPost_ret (v := .tuple #[.slice none 0 0, .int .i64 6]) (by simp [results, Tryz.results71, go_sem]) rfl ⟨rfl, ?_⟩
 have s2 := HS.out
 exact s2.f
theorem tabSet {W0 w : World} {L : List Assn} {I : SesI σ} {v t hb vb i m : Nat} {l : Option Nat} {T : List (Slt σ)} {y : Loc σ} (hi : T[i]? = some ⟨m, none⟩) (s : Sat W0 w (tabC t hb vb ((heldC T).set i true) ((valsC T).set i (.iface y.tid y.val)) (seg true v 0 (vlC t l T) :: stars ((T.set i ⟨m, some y⟩).map (Slt.A I)) :: L))) : Sat W0 w (vltL I v l t hb vb (T.set i ⟨m, some y⟩) L) := by
 have e1 := heldC_set T i m (some y)
 have e2 := valsC_set T i ⟨m, some y⟩
 have e3 := vlC_set (t := t) (l := l) (s' := ⟨m, some y⟩) hi rfl
 have s1 : Sat W0 w (seg true v 0 (vlC t l T) :: tabC t hb vb ((heldC T).set i true) ((valsC T).set i (.iface y.tid y.val)) (stars ((T.set i ⟨m, some y⟩).map (Slt.A I)) :: L)) := s.f
 unfold vltL
 rw [e1, e2, e3]
 exact s1
theorem takeKey {W0 w : World} {L : List Assn} {I : SesI σ} {v t hb vb n c : Nat} {l : Option Nat} {T : List (Slt σ)} {p : Option Addr} (b : List Byte) (hn : b.length = n) (hn2 : n ≤ 1024) (hc : n ≤ c) (hcm : c ≤ maxLen) (hT : T.length = 64) (hs : Sat W0 w (bytes true p b :: vltL I v l t hb vb T L)) :
  Calls Tryz.prog 69 #[.pointer (some ⟨v, 0, none⟩), .iface 128 (.agg #[.slice p n c])] w fun e w' =>
   (∃ i m, T[i]? = some ⟨m, none⟩ ∧ vTake (T.map Slt.th) (.key b) = ((T.map Slt.th).set i (some (.key b)), ⟨0, i, false, []⟩) ∧ e = .returned (.agg #[.int .i64 0, .int .i64 (i : Int), .bool false, .slice none 0 0]) ∧ Sat W0 w' (vltL I v l t hb vb (T.set i ⟨m, some (.key b p c)⟩) L)) ∨
   (vTake (T.map Slt.th) (.key b) = (T.map Slt.th, noA 8) ∧ e = .returned (.agg #[.int .i64 8, .int .i64 0, .bool false, .slice none 0 0]) ∧ Sat W0 w' (bytes true p b :: vltL I v l t hb vb T L)) := by
 have hadd := fun (w : World) (X : List Assn) (s : Sat W0 w (tabC t hb vb (heldC T) (valsC T) X)) => add_th 128 (.agg #[.slice p n c]) (heldC_len hT) (valsC_len hT) (by decide) (by decide) s
 have HN := Lib.hid (And.intro hadd hT); clear hadd hT
 have HL := Lib.hid (And.intro hn (And.intro hn2 (And.intro hc hcm))); clear hn hn2 hc hcm
 go_enter Tryz.func69, Tryz.ntmps69
 go_wp2_with (refine wpl_alloc_agg rfl 44 rfl hs _ (zero_ans _) ?_; intro w1 ga s1 _; clear hs; have s2 : Sat W0 w1 (seg true v 0 (vlC t l T) :: tabC t hb vb (heldC T) (valsC T) (stars (T.map (Slt.A I)) :: bytes true p b :: seg true ga 0 ans0 :: L)) := s1.f; clear s1; have c0 := s2.at 0 rfl; have z0 := s2.lt (by simp [vlC]))
 refine (HN.out.1 _ (seg true v 0 (vlC t l T) :: stars (T.map (Slt.A I)) :: bytes true p b :: seg true ga 0 ans0 :: L) s2.f).mono ?_
 rintro e w2 (⟨i, hi, hall, hfree, rfl, s3⟩ | ⟨hall, rfl, s3⟩)
 ·obtain ⟨⟨m, him⟩, htk⟩ := free_at (T := T) (by rw [HN.out.2]; exact hi) hall hfree
  clear s2 c0 z0
  have s4 := sltOut him (s3.f : Sat W0 w2 (stars (T.map (Slt.A I)) :: seg true v 0 (vlC t l T) :: bytes true p b :: seg true ga 0 ans0 :: tabC t hb vb ((heldC T).set i true) ((valsC T).set i (.iface 128 (.agg #[.slice p n c]))) L))
  have s5 : Sat W0 w2 (seg true v 0 (vlC t l T) :: memA m [] :: bytes true p b :: seg true ga 0 ans0 :: stars ((T.map (Slt.A I)).eraseIdx i) :: tabC t hb vb ((heldC T).set i true) ((valsC T).set i (.iface 128 (.agg #[.slice p n c]))) L) := by
   have s6 : Sat W0 w2 (memA m [] :: emp :: stars ((T.map (Slt.A I)).eraseIdx i) :: seg true v 0 (vlC t l T) :: bytes true p b :: seg true ga 0 ans0 :: tabC t hb vb ((heldC T).set i true) ((valsC T).set i (.iface 128 (.agg #[.slice p n c]))) L) := s4
   exact s6.f
  have hC := fun (wx : World) (X : List Assn) (s : Sat W0 wx (seg true v 0 (vlC t l T) :: X)) => And.intro (s.at (i + 2) (vlC_slot him)) (s.lt (by simp [vlC]))
  have HX := Lib.hid (And.intro him (And.intro htk hC)); clear him htk hC hall hfree s3 s4
  have hiI : (i : Int) < 64 := by omega
  go_wp2_with fail
  have s5d := s5.drew
  have hk0 : w2.drew.cell? ⟨v, 2 + i, none⟩ = some (.pointer (some ⟨m, 0, none⟩)) ∧ v < w2.drew.heap.size := by rw [Nat.add_comm]; exact HX.out.2.2 _ _ s5d
  refine region_E (fun w' => w'.cell? ⟨v, 2 + i, none⟩ = some (.pointer (some ⟨m, 0, none⟩)) ∧ v < w'.heap.size) [5] (by kernel_rfl) ?_
  have hHeld := hk0
  iterate 7
   first | refine autoT' hHeld (h := ?_) | refine autoP' (h := ?_)
   try simp only [pA1, pA2, pA3, pA4]
  refine anyE_one' (i := 7) (h := fun K hK => ?_)
  go_simp
  refine (kForm s5d).mono ?_
  rintro e w3 ⟨rfl, s6⟩
  have hk3 : w3.cell? ⟨v, 2 + i, none⟩ = some (.pointer (some ⟨m, 0, none⟩)) ∧ v < w3.heap.size := by rw [Nat.add_comm]; exact HX.out.2.2 _ _ s6
  go_wp2_with fail
  refine hK.out _ _ hk3 ?_
  clear hK K hHeld
  have hHeld := hk3
  try simp only [pA1, pA2, pA3, pA4]
  clear s5 s5d hk3 hk0
  refine anyE_last' (i := 8) (h := fun K hK => ?_)
  go_simp
  refine (memPut (m := m) b HL.out.1 HL.out.2.1 (s6.f : Sat W0 w3 (memA m [] :: bytes true p b :: seg true v 0 (vlC t l T) :: seg true ga 0 ans0 :: stars ((T.map (Slt.A I)).eraseIdx i) :: tabC t hb vb ((heldC T).set i true) ((valsC T).set i (.iface 128 (.agg #[.slice p n c]))) L))).mono ?_
  rintro e w4 ⟨rfl, s8⟩
  clear s6
  go_wp2_with fail
  refine hK.out _ _ ?_
  clear hK K
  try simp only [pA1, pA2, pA3, pA4]
  refine anyE_done (by kernel_rfl) ?_ _
  have sr0 : Sat W0 _ (seg true ga 0 ans0 :: memA m b :: bytes true p b :: seg true v 0 (vlC t l T) :: stars ((T.map (Slt.A I)).eraseIdx i) :: tabC t hb vb ((heldC T).set i true) ((valsC T).set i (.iface 128 (.agg #[.slice p n c]))) L) := s8.f
  clear s8 hHeld
  go_wp2_with (refine wpl_stAns rfl rfl (.tmp 4) (.tmp 31) rfl sr0 rfl rfl ?_; intro ws ss; clear sr0)
  have hr := ansLd ss
  have HS := Lib.hid ss.tail; clear ss
  refine bodyPost_ret (v := .agg #[.int .i64 0, .int .i64 (i : Int), .bool false, .slice none 0 0]) (by simp [results, Tryz.results69, asAddr]; exact hr) rfl ?_
  refine .inl ⟨i, m, HX.out.1, HX.out.2.1 _, rfl, tabSet HX.out.1 ?_⟩
  have s9 := HS.out
  have e0 : Slt.A I ⟨m, some (.key b p c)⟩ = sep (memA m b) (locO I (some (.key b p c))) := rfl
  have s10 : Sat W0 ws (memA m b :: locO I (some (.key b p c)) :: stars ((T.map (Slt.A I)).eraseIdx i) :: seg true v 0 (vlC t l T) :: tabC t hb vb ((heldC T).set i true) ((valsC T).set i (.iface 128 (.agg #[.slice p n c]))) L) := by
   have s11 : Sat W0 ws (bytes true p b :: memA m b :: stars ((T.map (Slt.A I)).eraseIdx i) :: seg true v 0 (vlC t l T) :: tabC t hb vb ((heldC T).set i true) ((valsC T).set i (.iface 128 (.agg #[.slice p n c]))) L) := s9.f
   have s12 : Sat W0 ws (locO I (some (.key b p c)) :: memA m b :: stars ((T.map (Slt.A I)).eraseIdx i) :: seg true v 0 (vlC t l T) :: tabC t hb vb ((heldC T).set i true) ((valsC T).set i (.iface 128 (.agg #[.slice p n c]))) L) := s11.imp fun x hx => ⟨⟨by rw [HL.out.1]; exact HL.out.2.2.1, HL.out.2.2.2⟩, hx⟩
   exact s12.f
  have s13 := sltIn (s' := ⟨m, some (.key b p c)⟩) HX.out.1 s10
  have e1 : (.iface (Loc.key (σ := σ) b p c).tid (Loc.key (σ := σ) b p c).val : Value) = .iface 128 (.agg #[.slice p n c]) := by rw [← HL.out.1]; rfl
  rw [e1]
  exact s13.f
 ·have hfull := free_none (T := T) (by rw [HN.out.2]; exact hall) (.key b)
  have HX := Lib.hid hfull; clear hfull hall s2 c0 z0
  go_wp2_with fail
  refine (vCode 8 s3).mono ?_
  rintro e w3 ⟨rfl, s4⟩
  clear s3
  have sr0 : Sat W0 _ (seg true ga 0 ans0 :: bytes true p b :: vltL I v l t hb vb T L) := s4.f
  go_wp2_with (refine wpl_stAns rfl rfl (.tmp 4) (.tmp 20) rfl sr0 rfl rfl ?_; intro ws ss; clear sr0)
  have hr := ansLd ss
  have HS := Lib.hid ss.tail; clear ss
  refine bodyPost_ret (v := .agg #[.int .i64 8, .int .i64 0, .bool false, .slice none 0 0]) (by simp [results, Tryz.results69, asAddr]; exact hr) rfl ?_
  exact .inr ⟨HX.out, rfl, HS.out⟩
end
end Go.Proofs.YtbefjaodpbgpcaaGreat
namespace Go.Proofs.YtbefjaodpbgpcaaGreat
open Go.RowKit Go.Sep Go.Bv
section
variable {σ : Type}
theorem vPutW {W0 w : World} {L : List Assn} {I : SesI σ} {v : Nat} {l : Option Nat} {rs : List Run3} {md mm : Bool} {dp ep : Option Addr} {dn dc en ec : Nat} (S : Sts σ) (kd : Nat) (hd : Int) (ag : Nat) (ct ot : Int) (data more : List Byte) (hdn : data.length = dn)
  (hs : Sat W0 w (ledO l rs :: vlt I v l S :: bytes md dp data :: bytes mm ep more :: L)) :
  Calls Tryz.prog 49 #[.pointer (some ⟨v, 0, none⟩), .agg #[.int .u8 (kd : Int), .int .i64 hd, .int .u8 (ag : Int), .int .i64 ct, .int .i64 ot, .slice dp dn dc, .slice ep en ec]] w fun e w' => ansV I W0 v l ((vPut S ⟨kd, hd, ag, ct, ot, data, more⟩).1, (vPut S ⟨kd, hd, ag, ct, ot, data, more⟩).2, rs) (bytes md dp data :: bytes mm ep more :: L) e w' := by
 obtain ⟨t, hb, vb, T, rfl, hS, hT, s0'⟩ := vltOpen (show Sat W0 w (vlt I v l S :: ledO l rs :: bytes md dp data :: bytes mm ep more :: L) from hs.pull 1)
 have s0 : Sat W0 w (vltL I v l t hb vb T (ledO l rs :: bytes md dp data :: bytes mm ep more :: L)) := s0'.f
 clear hs s0'
 have HO := Lib.hid (hOp W0)
 by_cases hlt : 512 < dn
 ·have e0 : vPut (T.map Slt.th) ⟨kd, hd, ag, ct, ot, data, more⟩ = (T.map Slt.th, noA 7) := by unfold vPut; rw [if_pos (by rw [hdn]; exact hlt)]
  rw [e0]
  clear e0
  have HN := Lib.hid (And.intro hS hT); clear hS hT
  have hlI : (512 : Int) < (dn : Int) := by omega
  go_enter Tryz.func49, Tryz.ntmps49
  go_wp2_with (first | (refine wpl_box rfl 27 (.tmp 1) rfl (opC kd hd ag ct ot dp dn dc ep en ec) rfl s0 ?_; intro w1 g s1 _; clear s0) | (refine wpl_alloc_agg rfl 44 rfl s1 _ (zero_ans _) ?_; intro w2 ga s2' _; clear s1; have s2 : Sat W0 w2 (seg true g 0 (opC kd hd ag ct ot dp dn dc ep en ec) :: seg true ga 0 ans0 :: vltL I v l t hb vb T (ledO l rs :: bytes md dp data :: bytes mm ep more :: L)) := s2'.f; clear s2'; obtain ⟨o0, o1, o2, o3, o4, o5, o6, zo⟩ := HO.out _ _ _ _ _ _ _ _ _ _ s2))
  refine (vCode 7 s2).mono ?_
  rintro e w3 ⟨rfl, s3⟩
  clear s2 o0 o1 o2 o3 o4 o5 o6 zo
  have sr0 : Sat W0 _ (seg true ga 0 ans0 :: vltL I v l t hb vb T (ledO l rs :: bytes md dp data :: bytes mm ep more :: L)) := s3.f
  go_wp2_with (refine wpl_stAns rfl rfl (.tmp 4) (.tmp 9) rfl sr0 rfl rfl ?_; intro ws ss; clear sr0)
  have hr := ansLd ss
  have HS := Lib.hid ss.tail; clear ss
  refine bodyPost_ret (v := .agg #[.int .i64 7, .int .i64 0, .bool false, .slice none 0 0]) (by simp [results, Tryz.results49, asAddr]; exact hr) rfl ?_
  exact ansV_no ((vltShut rfl HN.out.1 HS.out).pull 1)
 ·have e0 : vPut (T.map Slt.th) ⟨kd, hd, ag, ct, ot, data, more⟩ = vTake (T.map Slt.th) (.key data) := by unfold vPut; rw [if_neg (by rw [hdn]; exact hlt)]
  rw [e0]
  clear e0
  have hcp := fun (w : World) (X : List Assn) (s : Sat W0 w (bytes md dp data :: X)) => vCopied (cap := dc) data hdn (by omega) s
  have htk := fun (w : World) (X : List Assn) (q : Option Addr) (c : Nat) (h1 : dn ≤ c) (h2 : c ≤ maxLen) (s : Sat W0 w (bytes true q data :: vltL I v l t hb vb T X)) => takeKey data hdn (by omega) h1 h2 hT s
  have HN := Lib.hid (And.intro hS (And.intro hcp htk)); clear hS hT hcp htk hdn
  have hlI : ¬ (512 : Int) < (dn : Int) := by omega
  go_enter Tryz.func49, Tryz.ntmps49
  go_wp2_with (first | (refine wpl_box rfl 27 (.tmp 1) rfl (opC kd hd ag ct ot dp dn dc ep en ec) rfl s0 ?_; intro w1 g s1 _; clear s0) | (refine wpl_alloc_agg rfl 44 rfl s1 _ (zero_ans _) ?_; intro w2 ga s2' _; clear s1; have s2 : Sat W0 w2 (seg true g 0 (opC kd hd ag ct ot dp dn dc ep en ec) :: seg true ga 0 ans0 :: vltL I v l t hb vb T (ledO l rs :: bytes md dp data :: bytes mm ep more :: L)) := s2'.f; clear s2'; obtain ⟨o0, o1, o2, o3, o4, o5, o6, zo⟩ := HO.out _ _ _ _ _ _ _ _ _ _ s2))
  refine (HN.out.2.1 _ (seg true ga 0 ans0 :: vltL I v l t hb vb T (ledO l rs :: bytes mm ep more :: L)) s2.f).mono ?_
  rintro e w3 ⟨q, c, rfl, hc1, hc2, s3⟩
  clear s2 o0 o1 o2 o3 o4 o5 o6 zo
  have s3b : Sat W0 w3 (bytes true q data :: vltL I v l t hb vb T (seg true ga 0 ans0 :: ledO l rs :: bytes md dp data :: bytes mm ep more :: L)) := s3.f
  have hC := And.intro hc1 hc2
  have HC := Lib.hid hC; clear s3 hc1 hc2 hC
  go_wp2_with fail
  refine (HN.out.2.2 _ _ q c HC.out.1 HC.out.2 s3b).mono ?_
  rintro e w4 (⟨i, m, him, hit, rfl, s4⟩ | ⟨hit, rfl, s4⟩)
  ·clear s3b
   have sr0 : Sat W0 _ (seg true ga 0 ans0 :: vltL I v l t hb vb (T.set i ⟨m, some (.key data q c)⟩) (ledO l rs :: bytes md dp data :: bytes mm ep more :: L)) := s4.f
   clear s4
   go_wp2_with (refine wpl_stAns rfl rfl (.tmp 4) (.tmp 16) rfl sr0 rfl rfl ?_; intro ws ss; clear sr0)
   have hr := ansLd ss
   have HS := Lib.hid ss.tail; clear ss
   refine bodyPost_ret (v := .agg #[.int .i64 0, .int .i64 (i : Int), .bool false, .slice none 0 0]) (by simp [results, Tryz.results49, asAddr]; exact hr) rfl ?_
   rw [hit]
   exact ansV_h ((vltShut (th_set _ _ _) (by rw [List.length_set]; exact HN.out.1) HS.out).pull 1)
  ·clear s3b
   have sr0 : Sat W0 _ (seg true ga 0 ans0 :: vltL I v l t hb vb T (ledO l rs :: bytes md dp data :: bytes mm ep more :: L)) := s4.f
   clear s4
   go_wp2_with (refine wpl_stAns rfl rfl (.tmp 4) (.tmp 16) rfl sr0 rfl rfl ?_; intro ws ss; clear sr0)
   have hr := ansLd ss
   have HS := Lib.hid ss.tail; clear ss
   refine bodyPost_ret (v := .agg #[.int .i64 8, .int .i64 0, .bool false, .slice none 0 0]) (by simp [results, Tryz.results49, asAddr]; exact hr) rfl ?_
   rw [hit]
   exact ansV_no ((vltShut rfl HN.out.1 HS.out).pull 1)
theorem vRevealW {W0 w : World} {L : List Assn} {I : SesI σ} {v : Nat} {l : Option Nat} {rs : List Run3} {md mm : Bool} {dp ep : Option Addr} {dn dc en ec : Nat} (S : Sts σ) (kd : Nat) (hd : Int) (ag : Nat) (ct ot : Int) (data more : List Byte)
  (hs : Sat W0 w (ledO l rs :: vlt I v l S :: bytes md dp data :: bytes mm ep more :: L)) :
  Calls Tryz.prog 57 #[.pointer (some ⟨v, 0, none⟩), .agg #[.int .u8 (kd : Int), .int .i64 hd, .int .u8 (ag : Int), .int .i64 ct, .int .i64 ot, .slice dp dn dc, .slice ep en ec]] w fun e w' => ansV I W0 v l ((vReveal S ⟨kd, hd, ag, ct, ot, data, more⟩).1, (vReveal S ⟨kd, hd, ag, ct, ot, data, more⟩).2, rs) (bytes md dp data :: bytes mm ep more :: L) e w' := by
 obtain ⟨t, hb, vb, T, rfl, hS, hT, s0'⟩ := vltOpen (show Sat W0 w (vlt I v l S :: ledO l rs :: bytes md dp data :: bytes mm ep more :: L) from hs.pull 1)
 have s0 : Sat W0 w (vltL I v l t hb vb T (ledO l rs :: bytes md dp data :: bytes mm ep more :: L)) := s0'.f
 clear hs s0'
 have HO := Lib.hid (hOp W0)
 rcases tAt_cases T hT hd with ⟨e1, hno⟩ | ⟨k, m, y, rfl, hk64, hk, e1, hyes⟩
 ·have e0 : vReveal (T.map Slt.th) ⟨kd, hd, ag, ct, ot, data, more⟩ = (T.map Slt.th, noA 5) := by unfold vReveal; rw [e1]
  rw [e0]
  clear e0 e1
  have hka := fun (w : World) (X : List Assn) (s : Sat W0 w (vltL I v l t hb vb T X)) => keyAtNo hd hno hT s
  have HN := Lib.hid (And.intro hS hka); clear hS hT hka hno
  go_enter Tryz.func57, Tryz.ntmps57
  go_wp2_with (first | (refine wpl_box rfl 27 (.tmp 1) rfl (opC kd hd ag ct ot dp dn dc ep en ec) rfl s0 ?_; intro w1 g s1 _; clear s0) | (refine wpl_alloc_agg rfl 44 rfl s1 _ (zero_ans _) ?_; intro w2 ga s2' _; clear s1; have s2 : Sat W0 w2 (seg true g 0 (opC kd hd ag ct ot dp dn dc ep en ec) :: seg true ga 0 ans0 :: vltL I v l t hb vb T (ledO l rs :: bytes md dp data :: bytes mm ep more :: L)) := s2'.f; clear s2'; obtain ⟨o0, o1, o2, o3, o4, o5, o6, zo⟩ := HO.out _ _ _ _ _ _ _ _ _ _ s2))
  refine (HN.out.2 _ _ (s2.f : Sat W0 w2 (vltL I v l t hb vb T (seg true ga 0 ans0 :: ledO l rs :: bytes md dp data :: bytes mm ep more :: L)))).mono ?_
  rintro e w3 ⟨rfl, s3⟩
  clear s2 o0 o1 o2 o3 o4 o5 o6 zo
  go_wp2_with fail
  refine (vCode 5 s3).mono ?_
  rintro e w4 ⟨rfl, s4⟩
  clear s3
  have sr0 : Sat W0 _ (seg true ga 0 ans0 :: vltL I v l t hb vb T (ledO l rs :: bytes md dp data :: bytes mm ep more :: L)) := s4.f
  clear s4
  go_wp2_with (refine wpl_stAns rfl rfl (.tmp 4) (.tmp 17) rfl sr0 rfl rfl ?_; intro ws ss; clear sr0)
  have hr := ansLd ss
  have HS := Lib.hid ss.tail; clear ss
  refine bodyPost_ret (v := .agg #[.int .i64 5, .int .i64 0, .bool false, .slice none 0 0]) (by simp [results, Tryz.results57, asAddr]; exact hr) rfl ?_
  exact ansV_no ((vltShut rfl HN.out.1 HS.out).pull 1)
 ·cases y with
  | ses x s =>
   have e0 : vReveal (T.map Slt.th) ⟨kd, (k : Int), ag, ct, ot, data, more⟩ = (T.map Slt.th, noA 6) := by unfold vReveal; rw [e1]; rfl
   rw [e0]
   clear e0 e1
   have hka := fun (w : World) (X : List Assn) (s : Sat W0 w (vltL I v l t hb vb T X)) => keyAtSes hk hT s
   have HN := Lib.hid (And.intro hS hka); clear hS hT hka hk hyes
   go_enter Tryz.func57, Tryz.ntmps57
   go_wp2_with (first | (refine wpl_box rfl 27 (.tmp 1) rfl (opC kd (k : Int) ag ct ot dp dn dc ep en ec) rfl s0 ?_; intro w1 g s1 _; clear s0) | (refine wpl_alloc_agg rfl 44 rfl s1 _ (zero_ans _) ?_; intro w2 ga s2' _; clear s1; have s2 : Sat W0 w2 (seg true g 0 (opC kd (k : Int) ag ct ot dp dn dc ep en ec) :: seg true ga 0 ans0 :: vltL I v l t hb vb T (ledO l rs :: bytes md dp data :: bytes mm ep more :: L)) := s2'.f; clear s2'; obtain ⟨o0, o1, o2, o3, o4, o5, o6, zo⟩ := HO.out _ _ _ _ _ _ _ _ _ _ s2))
   refine (HN.out.2 _ _ (s2.f : Sat W0 w2 (vltL I v l t hb vb T (seg true ga 0 ans0 :: ledO l rs :: bytes md dp data :: bytes mm ep more :: L)))).mono ?_
   rintro e w3 ⟨rfl, s3⟩
   clear s2 o0 o1 o2 o3 o4 o5 o6 zo
   go_wp2_with fail
   refine (vCode 6 s3).mono ?_
   rintro e w4 ⟨rfl, s4⟩
   clear s3
   have sr0 : Sat W0 _ (seg true ga 0 ans0 :: vltL I v l t hb vb T (ledO l rs :: bytes md dp data :: bytes mm ep more :: L)) := s4.f
   clear s4
   go_wp2_with (refine wpl_stAns rfl rfl (.tmp 4) (.tmp 17) rfl sr0 rfl rfl ?_; intro ws ss; clear sr0)
   have hr := ansLd ss
   have HS := Lib.hid ss.tail; clear ss
   refine bodyPost_ret (v := .agg #[.int .i64 6, .int .i64 0, .bool false, .slice none 0 0]) (by simp [results, Tryz.results57, asAddr]; exact hr) rfl ?_
   exact ansV_no ((vltShut rfl HN.out.1 HS.out).pull 1)
  | key b p c =>
   have e0 : vReveal (T.map Slt.th) ⟨kd, (k : Int), ag, ct, ot, data, more⟩ = (T.map Slt.th, ⟨0, 0, false, b⟩) := by unfold vReveal; rw [e1]; rfl
   rw [e0]
   clear e0 e1
   obtain ⟨n, hn⟩ : ∃ n, n = b.length := ⟨_, rfl⟩
   have hka := fun (w : World) (X : List Assn) (s : Sat W0 w (vltL I v l t hb vb T X)) => keyAtKey hk hn.symm hT s
   have HN := Lib.hid (And.intro hS (And.intro hka (And.intro hk hn))); clear hS hT hka hk hyes hn
   go_enter Tryz.func57, Tryz.ntmps57
   go_wp2_with (first | (refine wpl_box rfl 27 (.tmp 1) rfl (opC kd (k : Int) ag ct ot dp dn dc ep en ec) rfl s0 ?_; intro w1 g s1 _; clear s0) | (refine wpl_alloc_agg rfl 44 rfl s1 _ (zero_ans _) ?_; intro w2 ga s2' _; clear s1; have s2 : Sat W0 w2 (seg true g 0 (opC kd (k : Int) ag ct ot dp dn dc ep en ec) :: seg true ga 0 ans0 :: vltL I v l t hb vb T (ledO l rs :: bytes md dp data :: bytes mm ep more :: L)) := s2'.f; clear s2'; obtain ⟨o0, o1, o2, o3, o4, o5, o6, zo⟩ := HO.out _ _ _ _ _ _ _ _ _ _ s2))
   refine (HN.out.2.1 _ _ (s2.f : Sat W0 w2 (vltL I v l t hb vb T (seg true ga 0 ans0 :: ledO l rs :: bytes md dp data :: bytes mm ep more :: L)))).mono ?_
   rintro e w3 ⟨rfl, s3⟩
   clear s2 o0 o1 o2 o3 o4 o5 o6 zo
   have s4 := sltOut HN.out.2.2.1 (s3.f : Sat W0 w3 (stars (T.map (Slt.A I)) :: seg true v 0 (vlC t l T) :: tabC t hb vb (heldC T) (valsC T) (seg true ga 0 ans0 :: ledO l rs :: bytes md dp data :: bytes mm ep more :: L)))
   have s5 : Sat W0 w3 (locO I (some (.key b p c)) :: memA m b :: stars ((T.map (Slt.A I)).eraseIdx k) :: seg true v 0 (vlC t l T) :: tabC t hb vb (heldC T) (valsC T) (seg true ga 0 ans0 :: ledO l rs :: bytes md dp data :: bytes mm ep more :: L)) := s4.pull 1
   have hfa : b.length ≤ c ∧ c ≤ maxLen := s5.fact fun x hx => hx.1
   have s6 : Sat W0 w3 (bytes true p b :: memA m b :: stars ((T.map (Slt.A I)).eraseIdx k) :: seg true v 0 (vlC t l T) :: tabC t hb vb (heldC T) (valsC T) (seg true ga 0 ans0 :: ledO l rs :: bytes md dp data :: bytes mm ep more :: L)) := s5.imp fun x hx => hx.2
   have hmb : b.length ≤ 1024 := by
    obtain ⟨_, _, h, _⟩ := memOpen (show Sat W0 w3 (memA m b :: _) from s6.pull 1)
    exact h
   have HB := Lib.hid (And.intro hfa hmb); clear s3 s4 s5 hfa hmb
   go_wp2_with fail
   refine (vCopied (cap := c) b HN.out.2.2.2.symm (by have := HB.out.2; have := HN.out.2.2.2; omega) s6).mono ?_
   rintro e w4 ⟨q, cq, rfl, hq1, hq2, s7⟩
   clear s6
   have HQ := Lib.hid (And.intro hq1 hq2); clear hq1 hq2
   have sr0 : Sat W0 _ (seg true ga 0 ans0 :: bytes true p b :: memA m b :: bytes true q b :: stars ((T.map (Slt.A I)).eraseIdx k) :: seg true v 0 (vlC t l T) :: tabC t hb vb (heldC T) (valsC T) (ledO l rs :: bytes md dp data :: bytes mm ep more :: L)) := s7.f
   clear s7
   go_wp2_with (refine wpl_stAns rfl rfl (.tmp 4) (.tmp 20) rfl sr0 rfl rfl ?_; intro ws ss; clear sr0)
   have hr := ansLd ss
   have HS := Lib.hid ss.tail; clear ss
   refine bodyPost_ret (v := .agg #[.int .i64 0, .int .i64 0, .bool false, .slice q n cq]) (by simp [results, Tryz.results57, asAddr]; exact hr) rfl ?_
   refine ansV_b HN.out.2.2.2.symm HQ.out.1 HQ.out.2 ?_
   have s8 : Sat W0 ws (locO I (some (.key b p c)) :: memA m b :: bytes true q b :: stars ((T.map (Slt.A I)).eraseIdx k) :: seg true v 0 (vlC t l T) :: tabC t hb vb (heldC T) (valsC T) (ledO l rs :: bytes md dp data :: bytes mm ep more :: L)) := HS.out.imp fun x hx => ⟨HB.out.1, hx⟩
   have s9 := sltIn (s' := ⟨m, some (.key b p c)⟩) HN.out.2.2.1 (s8.f : Sat W0 ws (memA m b :: locO I (some (.key b p c)) :: stars ((T.map (Slt.A I)).eraseIdx k) :: bytes true q b :: seg true v 0 (vlC t l T) :: tabC t hb vb (heldC T) (valsC T) (ledO l rs :: bytes md dp data :: bytes mm ep more :: L)))
   rw [set_same HN.out.2.2.1] at s9
   have s10 := vltShut rfl HN.out.1 (s9.f : Sat W0 ws (vltL I v l t hb vb T (ledO l rs :: bytes true q b :: bytes md dp data :: bytes mm ep more :: L)))
   exact s10.pull 1
end
end Go.Proofs.YtbefjaodpbgpcaaGreat
