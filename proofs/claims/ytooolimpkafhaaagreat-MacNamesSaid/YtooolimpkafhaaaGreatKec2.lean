
/- Keccak's state out of bytes; under the conditions that each names. -/
import Derived.Test.YtooolimpkafhaaaGreatKec
import Derived.Test.YtooolimpkafhaaaGreatGD
import Derived.Test.YtooolimpkafhaaaGreatHeldE
namespace Go.Kec
open Go.Bv Go.Sep
set_option linter.unusedVariables false
/-- The lanes of 200 bytes: the first n of them. -/
def lanesTo (B : List Byte) (n : Nat) : List (BitVec 64) := (List.range 25).map fun i => if i < n then takeLE (B.drop (8 * i)) 8 else 0
def lanes (B : List Byte) : List (BitVec 64) := lanesTo B 25
def lane0 : List (BitVec 64) := List.replicate 25 0
theorem lane0_len : lane0.length = 25 := rfl
theorem lanesTo_len (B : List Byte) (n : Nat) : (lanesTo B n).length = 25 := by simp [lanesTo]
theorem lanesTo_zero (B : List Byte) : lanesTo B 0 = lane0 := by
  apply List.ext_getElem
  · simp [lanesTo, lane0]
  · intro j h1 h2
    simp only [lanesTo, lane0, List.getElem_map, List.getElem_range, List.getElem_replicate]
    rw [if_neg (by omega)]
theorem lanesTo_set (B : List Byte) (n : Nat) : (lanesTo B n).set n (takeLE (B.drop (8 * n)) 8) = lanesTo B (n + 1) := by
  apply List.ext_getElem
  · simp [lanesTo]
  · intro j h1 h2
    rw [List.getElem_set]
    by_cases e : n = j
    · subst e
      simp [lanesTo]
    · rw [if_neg e]
      simp only [lanesTo, List.getElem_map, List.getElem_range]
      by_cases h3 : j < n
      · rw [if_pos h3, if_pos (by omega)]
      · rw [if_neg h3, if_neg (by omega)]
end Go.Kec
namespace Go.Proofs.YtooolimpkafhaaaGreat
open Go.RowKit Go.Sep Go.Bv Go.Kec
set_option linter.unusedVariables false
set_option linter.unusedSimpArgs false
theorem Tryz.size_ks : (Tryz.prog.info? 251).map (·.size) = some 25 := by kernel_rfl
theorem Tryz.size_b200 : (Tryz.prog.info? 214).map (·.size) = some 200 := by kernel_rfl
theorem zero_ks (w : World) : (zeroValue 251).run Tryz.prog w = .ok (.agg (u64s lane0).toArray) w := by kernel_rfl
theorem run_ret64 {P : Program} {W0 w : World} {L : List Assn} {T U : TypeId} {n N : Nat} (hu : P.underlying T = some (.array N U)) (hi : (P.info? T).map (·.size) = some n) {m : Bool} {b : Nat} {B : List (BitVec 64)} (hs : Sat W0 w (seg m b 0 (u64s B) :: L)) (hB : B.length = n) : (loadVar T ⟨b, 0, none⟩).run P w = .ok (.agg (u64s B).toArray) w := by
  have hr := run_loadVar_agg (P := P) (ty := T) hu rfl hi hs 0 0 rfl (by rw [u64s_len]; omega)
  rw [List.drop_zero, List.take_of_length_le (by rw [u64s_len]; omega)] at hr
  exact hr
set_option maxRecDepth 100000 in
set_option maxHeartbeats 2000000 in
theorem kecFrom {W0 w : World} {L : List Assn} (B : List Byte) (hB : B.length = 200) (hs : Sat W0 w L) :
    Calls Tryz.prog 207 #[.agg (u8s B).toArray] w fun e w' => e = .returned (.agg (u64s (lanes B)).toArray) ∧ Sat W0 w' L := by
  have HN := Lib.hid hB; clear hB
  go_enter Tryz.func207, Tryz.ntmps207
  go_wp2_with (first | (refine wpl_box rfl 214 (.tmp 0) rfl (u8s B) rfl hs ?_; intro w1 gb s1 _; clear hs) | (refine wpl_alloc_agg rfl 251 rfl s1 _ (zero_ks _) ?_; intro w2 gr s2 _; clear s1) | (refine wpl_alloc_agg rfl 251 rfl s2 _ (zero_ks _) ?_; intro w3 go s3 _; clear s2))
  have s4 : Sat W0 w3 (seg true go 0 (u64s (lanesTo B 0)) :: seg true gb 0 (u8s B) :: seg true gr 0 (u64s lane0) :: L) := by rw [lanesTo_zero]; exact (Sat.sub (s3) (by (repeat (first | with_reducible exact Fr.done | with_reducible exact Fr.nil | (with_reducible apply Fr.cons; (focus ((repeat (first | with_reducible exact Take.here | with_reducible apply Take.there)); done))) | with_reducible apply Fr.skip))))
  clear s3
  go_loopw [5] (fun t5 wr => ∃ i : Nat, i ≤ 25 ∧ t5 = .int .i64 (i : Int) ∧ Sat W0 wr (seg true go 0 (u64s (lanesTo B i)) :: seg true gb 0 (u8s B) :: seg true gr 0 (u64s lane0) :: L)) (fun t5 _ => 25 - (intOf t5).toNat)
  case atStart => exact ⟨0, by omega, rfl, s4⟩
  case round =>
    clear s4
    obtain ⟨i, hi, rfl, s⟩ := hrel
    have hDl := lanesTo_len B i
    have zo := s.lt (by rw [u64s_len, hDl]; decide)
    have sb : Sat W0 _ (seg true gb 0 (u8s B) :: _) := s.pull 1
    have zb := sb.lt (by rw [u8s_len, HN.out]; decide)
    by_cases hlt : i < 25
    · have co := s.at i (u64s_get _ i (by rw [hDl]; exact hlt))
      have fo := s.fr i (by rw [u64s_len, hDl]; exact hlt)
      obtain ⟨q, hq⟩ : ∃ q, q = 8 * i := ⟨_, rfl⟩
      have hmul : IntKind.i64.wrap (8 * (i : Int)) = (q : Int) := by rw [IntKind.wrap_i64]; omega
      have hsl := fun w => run_sliceAll (P := Tryz.prog) (T := 214) (U := 5) Tryz.underlying214 (by kernel_rfl) gb 0 w
      have htk := takeLE64 (cap := 200) (len := 200) q sb HN.out (by omega) (by decide)
      have hst := lanesTo_set B i
      rw [← hq] at hst
      have hi1 : IntKind.i64.wrap ((i : Int) + 1) = ((i + 1 : Nat) : Int) := by rw [IntKind.wrap_i64]; omega
      obtain ⟨x, hx⟩ : ∃ x, x = takeLE (B.drop q) 8 := ⟨_, rfl⟩
      rw [← hx] at hst htk
      have HX := Lib.hid (And.intro hst (And.intro hDl htk)); clear hst hDl htk hq hx
      go_wp2_with fail
      refine HX.out.2.2.mono ?_
      rintro e w5 ⟨rfl, rfl⟩
      go_wp2_with fail
      go_roundw
      case rel =>
        refine ⟨i + 1, by omega, by go_num, ?_⟩
        have st := s.store (i := i) (by rw [u64s_len, HX.out.2.1]; exact hlt) (.int .u64 (v64 x)) (q := i) (by simp)
        rw [u64s_set, HX.out.1] at st
        exact st
      case measure => simp [intOf]; omega
    · obtain rfl : i = 25 := by omega
      have s5 : Sat W0 _ (seg true gr 0 (u64s lane0) :: seg true go 0 (u64s (lanes B)) :: seg true gb 0 (u8s B) :: L) := s.pull 2
      obtain ⟨R, hR⟩ : ∃ R, R = lanes B := ⟨_, rfl⟩
      have hRl : R.length = 25 := by rw [hR]; exact lanesTo_len B 25
      rw [← hR] at s5
      have s6 : Sat W0 _ (seg true go 0 (u64s R) :: _) := s5.pull 1
      have ht : ((u64s R).drop 0).take 25 = u64s R := by rw [List.drop_zero]; exact List.take_of_length_le (by rw [u64s_len]; omega)
      have HR := Lib.hid (And.intro hRl (And.intro ht hR)); clear hRl ht hDl hR
      go_wp2_with (first | (refine wpl_load_agg rfl 251 (.tmp 3) rfl Tryz.underlying251 rfl Tryz.size_ks s6 0 0 rfl rfl (by rw [u64s_len, HR.out.1]; exact Nat.le_refl _) ?_; rw [HR.out.2.1]) | (refine wpl_store_agg rfl rfl 251 (.tmp 2) (.tmp 15) rfl (cs := u64s R) s5 0 0 (by rw [u64s_len, HR.out.1]; exact Tryz.size_ks) rfl (by rfl) rfl (by rw [u64s_len, u64s_len, HR.out.1, lane0_len]; decide) (u64s_one _) ?_; intro w7 s7; rw [setL_all _ _ (by rw [u64s_len, u64s_len, HR.out.1, lane0_len])] at s7))
      refine bodyPost_ret (v := .agg (u64s R).toArray) ?_ rfl ⟨by rw [HR.out.2.2], ((s7.drop 0).drop 0).drop 0⟩
      have hr := run_ret64 Tryz.underlying251 Tryz.size_ks s7 HR.out.1
      simp [results, Tryz.results207, asAddr]; exact hr
end Go.Proofs.YtooolimpkafhaaaGreat
