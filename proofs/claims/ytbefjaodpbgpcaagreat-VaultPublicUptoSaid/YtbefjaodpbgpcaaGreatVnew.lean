
import Derived.Test.YtbefjaodpbgpcaaGreatHG
set_option linter.unusedVariables false
set_option linter.unusedSimpArgs false
set_option maxRecDepth 100000
set_option maxHeartbeats 16000000
namespace Go.Proofs.YtbefjaodpbgpcaaGreat
open Go.RowKit Go.Sep Go.Bv
def vNewC (t : Nat) (l : Option Nat) : List Value := .pointer (some ⟨t, 0, none⟩) :: ptrO l :: List.replicate 64 (.pointer none)
def vZeroC : List Value := .pointer none :: .pointer none :: List.replicate 64 (.pointer none)
theorem zero_vlt (w : World) : (zeroValue 85).run Tryz.prog w = .ok (.agg vZeroC.toArray) w := by kernel_rfl
theorem build_vlt (t : Nat) (l : Option Nat) (w : World) : (Instr.build 85 #[(0, .agg #[.pointer (some ⟨t, 0, none⟩)]), (1, ptrO l)]).run Tryz.prog w = .ok (.agg (vNewC t l).toArray) w := by
 refine run_build_struct Tryz.underlying85 (zero_vlt w) (places := #[(0, 1), (1, 1), (2, 64)]) (by kernel_rfl) ?_
 refine Eq.trans (fill_one (off := 0) (size := 1) (v := .agg #[.pointer (some ⟨t, 0, none⟩)]) rfl rfl (by decide)) ?_
 refine Eq.trans (fill_one (off := 1) (size := 1) (v := ptrO l) rfl rfl (by simp [length_setL, vZeroC])) ?_
 rfl
section
variable {σ : Type}
def vPart (t : Nat) (l : Option Nat) (T : List (Slt σ)) : List Value := vlC t l T ++ List.replicate (64 - T.length) (.pointer none)
theorem vPart_set (t : Nat) (l : Option Nat) (T : List (Slt σ)) (m i : Nat) (hi : T.length = i) (h : i < 64) : (vPart t l T).set (2 + i) (.pointer (some ⟨m, 0, none⟩)) = vPart t l (T ++ [⟨m, none⟩]) := by
 subst hi
 have e : (vlC t l T).length = 2 + T.length := by simp [vlC]; omega
 have e2 : 64 - T.length = (64 - (T.length + 1)) + 1 := by omega
 unfold vPart
 rw [List.set_append_right _ _ (by omega), e, Nat.sub_self, e2, List.replicate_succ, List.set_cons_zero, List.length_append]
 simp [vlC]
theorem vPart_len (t : Nat) (l : Option Nat) (T : List (Slt σ)) (h : T.length ≤ 64) : (vPart t l T).length = 66 := by simp [vPart, vlC]; omega
theorem starsSnoc {W0 w : World} {A : Assn} : ∀ {l L : List Assn}, Sat W0 w (A :: stars l :: L) → Sat W0 w (stars (l ++ [A]) :: L)
 | [], L, h => h.sepShut
 | B :: l, L, h => by
  have h1 : Sat W0 w (B :: stars l :: A :: L) := Sat.sepOpen (h.pull 1)
  have h2 := starsSnoc (h1.f : Sat W0 w (A :: stars l :: B :: L))
  exact (h2.pull 1).sepShut
theorem vNewW {W0 w : World} {L : List Assn} (I : SesI σ) (l : Option Nat) (hs : Sat W0 w L) :
  Calls Tryz.prog 9 #[ptrO l] w fun e w' => ∃ v, e = .returned (.pointer (some ⟨v, 0, none⟩)) ∧ Sat W0 w' (vlt I v l (List.replicate 64 none) :: L) := by
 go_enter Tryz.func9, Tryz.ntmps9
 go_wp2_with fail
 refine (new_th 64 (by decide) (by decide) hs).mono ?_
 rintro e w1 ⟨t, hb, vb, rfl, s1⟩
 clear hs
 go_wp2_with (first | (refine wpl_build rfl 85 rfl (.agg (vNewC t l).toArray) (by simp only [List.map_toArray, List.map_cons, List.map_nil]; exact build_vlt _ _ _) ?_) | (refine wpl_box rfl 85 (.tmp 14) rfl (vNewC t l) rfl s1 ?_; intro w2 v s2 _; clear s1))
 have e0 : vNewC t l = vPart (σ := σ) t l [] := rfl
 have s3 : Sat W0 w2 (seg true v 0 (vPart (σ := σ) t l []) :: stars (([] : List (Slt σ)).map (Slt.A I)) :: tabC t hb vb (List.replicate 64 false) (List.replicate 64 .nilIface) L) := by
  have h1 := s2.emp
  rw [e0] at h1
  have h2 : Sat W0 w2 (stars (([] : List (Slt σ)).map (Slt.A I)) :: seg true v 0 (vPart (σ := σ) t l []) :: tabC t hb vb (List.replicate 64 false) (List.replicate 64 .nilIface) L) := h1
  exact h2.pull 1
 clear s2 e0
 go_loopw [16] (fun t16 wr => ∃ (i : Nat) (T : List (Slt σ)), i ≤ 64 ∧ t16 = .int .i64 (i : Int) ∧ T.length = i ∧ (∀ s ∈ T, s.o = none) ∧ Sat W0 wr (seg true v 0 (vPart t l T) :: stars (T.map (Slt.A I)) :: tabC t hb vb (List.replicate 64 false) (List.replicate 64 .nilIface) L)) (fun t16 _ => 64 - (intOf t16).toNat)
 case atStart => exact ⟨0, [], by decide, rfl, rfl, fun s h => (by cases h), s3⟩
 case round =>
  clear s3
  obtain ⟨i, T, hi, rfl, hTl, hTn, s⟩ := hrel
  by_cases hlt : i < 64
  ·have hltI : (i : Int) < 64 := by omega
   have HT := Lib.hid (And.intro hTl hTn); clear hTl hTn
   go_wp2_with fail
   have sd := s.drew
   clear s
   refine region_E (fun _ => True) [] (by kernel_rfl) ?_
   have hHeld := trivial
   iterate 4
    first | refine autoT' hHeld (h := ?_) | refine autoP' (h := ?_)
    try simp only [pA1, pA2, pA3, pA4]
   refine anyE_one' (i := 2) (h := fun K hK => ?_)
   go_simp
   refine (memNew sd).mono ?_
   rintro e w3 ⟨m, rfl, s3⟩
   clear sd
   go_wp2_with fail
   refine hK.out _ _ trivial ?_
   clear hK K hHeld
   have hHeld := trivial
   try simp only [pA1, pA2, pA3, pA4]
   have s7 : Sat W0 w3 (memA m [] :: emp :: seg true v 0 (vPart t l T) :: stars (T.map (Slt.A I)) :: tabC t hb vb (List.replicate 64 false) (List.replicate 64 .nilIface) L) := by
    have h1 := s3.emp
    exact h1.pull 1
   have s8 : Sat W0 w3 (Slt.A I ⟨m, none⟩ :: seg true v 0 (vPart t l T) :: stars (T.map (Slt.A I)) :: tabC t hb vb (List.replicate 64 false) (List.replicate 64 .nilIface) L) := s7.sepShut
   have s9 := starsSnoc (s8.f : Sat W0 w3 (Slt.A I ⟨m, none⟩ :: stars (T.map (Slt.A I)) :: seg true v 0 (vPart t l T) :: tabC t hb vb (List.replicate 64 false) (List.replicate 64 .nilIface) L))
   have hl2 : 2 + i < (vPart t l T).length := by rw [vPart_len t l T (by rw [HT.out.1]; omega)]; omega
   have s10 := s9.swap
   have f0 := s10.fr (2 + i) hl2
   have c0 := s10.at (2 + i) (List.getElem?_eq_getElem hl2)
   have z0 := s10.lt (by omega)
   have s11 := s10.store hl2 (.pointer (some ⟨m, 0, none⟩)) (q := 2 + i) (by omega)
   rw [vPart_set t l T m i HT.out.1 hlt] at s11
   clear s3 s7 s8 s9 s10
   iterate 1
    first | refine autoT' hHeld (h := ?_) | refine autoP' (h := ?_)
    try simp only [pA1, pA2, pA3, pA4]
   refine anyE_last' (i := 6) (h := fun K hK => ?_)
   go_simp
   go_wp2_with fail
   refine hK.out _ _ ?_
   clear hK K
   try simp only [pA1, pA2, pA3, pA4]
   refine anyE_done (by kernel_rfl) ?_ _
   have HS := Lib.hid s11; clear s11
   go_wp2_with fail
   refine ⟨⟨i + 1, T ++ [⟨m, none⟩], by omega, by go_num, by rw [List.length_append, HT.out.1]; rfl, fun s h => ?_, ?_⟩, by simp [intOf]; omega⟩
   ·rcases List.mem_append.1 h with h | h
    ·exact HT.out.2 s h
    ·rw [List.mem_singleton.1 h]
   ·have s12 := HS.out
    simp only [List.map_append, List.map_cons, List.map_nil]
    exact s12.f
  ·obtain rfl : i = 64 := by omega
   have HS := Lib.hid (And.intro s (And.intro hTl hTn)); clear s hTl hTn
   go_wp2_with fail
   go_ret
   refine ⟨v, rfl, ?_⟩
   obtain ⟨s1, h1, h2⟩ := HS.out
   have e1 : heldC T = List.replicate 64 false := by
    refine List.eq_replicate_iff.2 ⟨by rw [heldC_len h1], fun b hb => ?_⟩
    unfold heldC at hb
    obtain ⟨s, hs, rfl⟩ := List.mem_map.1 hb
    rw [h2 s hs]; rfl
   have e2 : valsC T = List.replicate 64 .nilIface := by
    refine List.eq_replicate_iff.2 ⟨by rw [valsC_len h1], fun b hb => ?_⟩
    unfold valsC at hb
    obtain ⟨s, hs, rfl⟩ := List.mem_map.1 hb
    unfold Slt.v; rw [h2 s hs]
   have e3 : T.map Slt.th = List.replicate 64 none := by
    refine List.eq_replicate_iff.2 ⟨by rw [List.length_map, h1], fun b hb => ?_⟩
    obtain ⟨s, hs, rfl⟩ := List.mem_map.1 hb
    unfold Slt.th; rw [h2 s hs]; rfl
   have e4 : vPart t l T = vlC t l T := by unfold vPart; rw [h1]; simp
   rw [e4, ← e1, ← e2] at s1
   exact vltShut e3 (by simp) (s1.f : Sat W0 _ (vltL I v l t hb vb T L))
end
end Go.Proofs.YtbefjaodpbgpcaaGreat
