
/- Keccak's state as bytes; under the conditions that each names. -/
import Derived.Test.YtooolimpkafhaaaGreatKec2
namespace Go.Kec
open Go.Bv Go.Sep
set_option linter.unusedVariables false
/-- The bytes of lanes. -/
def laneBytes (S : List (BitVec 64)) : List Byte := S.flatMap layLE
theorem laneBytes_len (S : List (BitVec 64)) : (laneBytes S).length = 8 * S.length := by
  induction S with
  | nil => rfl
  | cons x S ih => unfold laneBytes at *; rw [List.flatMap_cons, List.length_append, ih, layLE_len, List.length_cons]; omega
theorem laneBytes_next (S : List (BitVec 64)) (i : Nat) (h : i < S.length) : laneBytes (S.take (i + 1)) = laneBytes (S.take i) ++ layLE (S.getD i 0) := by
  rw [List.take_succ_eq_append_getElem h]
  unfold laneBytes
  rw [List.flatMap_append]
  simp [h]
section
variable {P : Program} {o : Oper} {a : Act} {K : Act → World → Prop} {Q : Exit → Act → World → Prop} {W0 w : World} {L : List Assn}
theorem op_copy (d s : Operand) (dT sT : TypeId) (ho : o.op = .call { callee := .builtin .copy, args := #[d, s], argTypes := #[dT, sT] }) {elem : TypeId} (hu : P.underlying dT = some (.slice elem)) (hsz : (P.info? elem).map (·.size) = some 1)
    {b off : Nat} {vs : List Value} (hs : Sat W0 w (seg true b off vs :: L)) (k q dLen dCap sLen sCap : Nat) (sp : Option Addr) (cs : List Value) (hd : a.eval d = .slice (some ⟨b, q, none⟩) dLen dCap) (hx : a.eval s = .slice sp sLen sCap)
    (hq : q = off + k) (hn : cs.length = Nat.min sLen dLen) (hfit : k + cs.length ≤ vs.length) (hsrc : ∀ j v, cs[j]? = some v → ∃ ad, sp = some ad ∧ w.cell? (ad.add j) = some v) (h1 : ∀ v ∈ cs, v.oneCell' = true)
    (h : ∀ w', Sat W0 w' (seg true b off (setL vs k cs) :: L) → K (a.put o.dst (.int .i64 (cs.length : Int))) w') : Oper.wp P o a w K Q := by
  cases hq' : P.info? elem with
  | none => simp [hq'] at hsz
  | some i =>
    have hsz' : i.size = 1 := by simpa [hq'] using hsz
    have hmin : Nat.min sLen dLen = cs.length := hn.symm
    obtain ⟨w', hr, hs'⟩ := Sat.run_storeCells (P := P) q k cs 0 vs w hs hq (by simpa using hfit) h1
    have hrun : (Builtin.copy_ #[dT, sT] o.type #[.slice (some ⟨b, q, none⟩) dLen dCap, .slice sp sLen sCap]).run P w = .ok (goInt cs.length) w' := by
      have hf : (Builtin.firstCells 1 cs.length (.slice sp sLen sCap)).run P w = .ok cs.toArray w := by
        cases sp with
        | none =>
          have : cs = [] := by
            cases cs with
            | nil => rfl
            | cons v r => obtain ⟨ad, h, _⟩ := hsrc 0 v rfl; cases h
          subst this
          rfl
        | some ad => exact run_firstCells_some w 1 cs.length ad sLen sCap cs (by simp) (fun j v hv => by obtain ⟨ad', h, hc⟩ := hsrc j v hv; cases h; exact hc)
      simp [Builtin.copy_, run_underlying hu, Builtin.lenOf, sizeOf, typeInfo, hq', hsz', hmin, hf, hr]
    unfold Oper.wp
    simp [execOp, ho, resolve, invoke, builtin, hd, hx, hrun, Result.andThen]
    exact h w' (by simpa using hs')
end
end Go.Kec
namespace Go.Proofs.YtooolimpkafhaaaGreat
open Go.RowKit Go.Sep Go.Bv Go.Kec
set_option linter.unusedVariables false
set_option linter.unusedSimpArgs false
/-- 200 bytes, none of them set. -/
def nought200 : List Byte := List.replicate 200 0
theorem nought200_len : nought200.length = 200 := by unfold nought200; exact List.length_replicate
theorem zero_b200 (w : World) : (zeroValue 214).run Tryz.prog w = .ok (.agg (u8s nought200).toArray) w := by kernel_rfl
set_option maxRecDepth 100000 in
set_option maxHeartbeats 2000000 in
theorem kecBytes {W0 w : World} {L : List Assn} (S : List (BitVec 64)) (hS : S.length = 25) (hs : Sat W0 w L) :
    Calls Tryz.prog 205 #[.agg (u64s S).toArray] w fun e w' => e = .returned (.agg (u8s (laneBytes S)).toArray) ∧ Sat W0 w' L := by
  have ht : ((u64s S).drop 0).take 25 = u64s S := by rw [List.drop_zero]; exact List.take_of_length_le (by rw [u64s_len]; omega)
  have hst : laneBytes (S.take 0) ++ List.replicate (200 - 8 * 0) 0 = nought200 := rfl
  have hfi : laneBytes (S.take 25) = laneBytes S := by rw [List.take_of_length_le (by omega)]
  have HN := Lib.hid (And.intro hS (And.intro ht (And.intro hst hfi))); clear hS ht hst hfi
  go_enter Tryz.func205, Tryz.ntmps205
  go_wp2_with (first | (refine wpl_box rfl 251 (.tmp 0) rfl (u64s S) rfl hs ?_; intro w1 gb s1 _; clear hs) | (refine wpl_alloc_agg rfl 214 rfl s1 _ (zero_b200 _) ?_; intro w2 gr s2 _; clear s1) | (refine wpl_alloc_agg rfl 214 rfl s2 _ (zero_b200 _) ?_; intro w3 go s3 _; clear s2; have s4 : Sat W0 w3 (seg true gb 0 (u64s S) :: seg true go 0 (u8s nought200) :: seg true gr 0 (u8s nought200) :: L) := s3.pull 2) | (refine wpl_load_agg rfl 251 (.tmp 1) rfl Tryz.underlying251 rfl Tryz.size_ks s4 0 0 rfl rfl (by rw [u64s_len, HN.out.1]; exact Nat.le_refl _) ?_; rw [HN.out.2.1]))
  have s5 : Sat W0 w3 (seg true go 0 (u8s (laneBytes (S.take 0) ++ List.replicate (200 - 8 * 0) 0)) :: seg true gr 0 (u8s nought200) :: L) := by rw [HN.out.2.2.1]; exact (Sat.sub (s4) (by (repeat (first | with_reducible exact Fr.done | with_reducible exact Fr.nil | (with_reducible apply Fr.cons; (focus ((repeat (first | with_reducible exact Take.here | with_reducible apply Take.there)); done))) | with_reducible apply Fr.skip))))
  clear s3 s4
  go_loopw [7] (fun t7 wr => ∃ i : Nat, i ≤ 25 ∧ t7 = .int .i64 (i : Int) ∧ Sat W0 wr (seg true go 0 (u8s (laneBytes (S.take i) ++ List.replicate (200 - 8 * i) 0)) :: seg true gr 0 (u8s nought200) :: L)) (fun t7 _ => 25 - (intOf t7).toNat)
  case atStart => exact ⟨0, by omega, rfl, s5⟩
  case round =>
    clear s5
    obtain ⟨i, hi, rfl, s⟩ := hrel
    have hWl : (laneBytes (S.take i)).length = 8 * i := by rw [laneBytes_len, List.length_take, HN.out.1]; omega
    have hZl : (laneBytes (S.take i) ++ List.replicate (200 - 8 * i) (0 : Byte)).length = 200 := by rw [List.length_append, hWl, List.length_replicate]; omega
    have zo := s.lt (by rw [u8s_len, hZl]; decide)
    by_cases hlt : i < 25
    · have hix := fun w => run_index_list (P := Tryz.prog) (t := 251) (e := 238) Tryz.underlying251 (by kernel_rfl) (fun w => by kernel_rfl) (u64s S) (by rw [u64s_len, HN.out.1]) i hlt w
      have hgd : (u64s S).getD i undef = .int .u64 (v64 (S.getD i 0)) := by rw [List.getD_eq_getElem?_getD, u64s_get S i (by rw [HN.out.1]; exact hlt)]; rfl
      obtain ⟨x, hx⟩ : ∃ x, x = S.getD i 0 := ⟨_, rfl⟩
      rw [hgd, ← hx] at hix
      obtain ⟨q, hq⟩ : ∃ q, q = 8 * i := ⟨_, rfl⟩
      have hq200 : q < 200 := by omega
      have hmul : IntKind.i64.wrap (8 * (i : Int)) = (q : Int) := by rw [IntKind.wrap_i64]; omega
      have hsl := fun w => run_sliceFrom (P := Tryz.prog) (T := 214) (U := 5) Tryz.underlying214 (by kernel_rfl) go 0 q hq200 w
      have hi1 : IntKind.i64.wrap ((i : Int) + 1) = ((i + 1 : Nat) : Int) := by rw [IntKind.wrap_i64]; omega
      have hnx : putB (laneBytes (S.take i) ++ List.replicate (200 - 8 * i) 0) q (layLE x) = laneBytes (S.take (i + 1)) ++ List.replicate (200 - 8 * (i + 1)) 0 := by
        rw [hq, putB_next _ _ _ _ hWl (by rw [layLE_len]; omega), layLE_len, laneBytes_next S i (by rw [HN.out.1]; exact hlt), hx]
        rfl
      have hfit : q + (layLE x).length ≤ (laneBytes (S.take i) ++ List.replicate (200 - 8 * i) (0 : Byte)).length := by rw [hZl, layLE_len]; omega
      have hq8 : q + 8 ≤ 200 := by omega
      have HX := Lib.hid (And.intro hnx (And.intro hfit hZl)); clear hnx hfit hZl hWl hq hx hgd
      go_wp2_with fail
      refine region_E (fun _ => True) [] (by kernel_rfl) ?_
      have hHeld := trivial
      refine anyE_pure (i := 0) (x := ?_) (v := ?_) ?_ (by kernel_rfl) (by kernel_rfl) (by kernel_rfl) ?_ ?_ ?_
      rotate_left 2
      · (simp only [List.getElem?_toArray, List.getElem?_cons_succ, List.getElem?_cons_zero]; rfl)
      · exact fun _ _ _ h => h
      · refine Or.inl ⟨by rfl, ?_⟩
        intro w hSw
        go_simp
        try (with_reducible rfl)
      try simp only [Act.put, List.setIfInBounds_toArray, List.set_cons_zero, List.set_cons_succ]
      refine anyE_pure (i := 1) (x := ?_) (v := ?_) ?_ (by kernel_rfl) (by kernel_rfl) (by kernel_rfl) ?_ ?_ ?_
      rotate_left 2
      · (simp only [List.getElem?_toArray, List.getElem?_cons_succ, List.getElem?_cons_zero]; rfl)
      · exact fun _ _ _ h => h
      · refine Or.inl ⟨by rfl, ?_⟩
        intro w hSw
        go_simp
        try (with_reducible rfl)
      try simp only [Act.put, List.setIfInBounds_toArray, List.set_cons_zero, List.set_cons_succ]
      refine anyE_pure (i := 2) (x := ?_) (v := ?_) ?_ (by kernel_rfl) (by kernel_rfl) (by kernel_rfl) ?_ ?_ ?_
      rotate_left 2
      · (simp only [List.getElem?_toArray, List.getElem?_cons_succ, List.getElem?_cons_zero]; rfl)
      · exact fun _ _ _ h => h
      · refine Or.inl ⟨by rfl, ?_⟩
        intro w hSw
        go_simp
        try (with_reducible rfl)
      try simp only [Act.put, List.setIfInBounds_toArray, List.set_cons_zero, List.set_cons_succ]
      refine anyE_pure (i := 3) (x := ?_) (v := ?_) ?_ (by kernel_rfl) (by kernel_rfl) (by kernel_rfl) ?_ ?_ ?_
      rotate_left 2
      · (simp only [List.getElem?_toArray, List.getElem?_cons_succ, List.getElem?_cons_zero]; rfl)
      · exact fun _ _ _ h => h
      · refine Or.inl ⟨by rfl, ?_⟩
        intro w hSw
        go_simp
        try (with_reducible rfl)
      try simp only [Act.put, List.setIfInBounds_toArray, List.set_cons_zero, List.set_cons_succ]
      refine anyE_last (i := 4) (x := ?_) ?_ (by kernel_rfl) (by kernel_rfl) (fun K hK => ?_)
      rotate_left
      · (simp only [List.getElem?_toArray, List.getElem?_cons_succ, List.getElem?_cons_zero]; rfl)
      go_simp
      refine (layLE64 x s.drew).mono ?_
      rintro e w6 ⟨g, rfl, s6⟩
      have s7 : Sat W0 w6 (seg true go 0 (u8s (laneBytes (S.take i) ++ List.replicate (200 - 8 * i) 0)) :: seg true g 0 (u8s (layLE x)) :: seg true gr 0 (u8s nought200) :: L) := s6.pull 1
      go_wp2_with fail
      refine hK.out _ _ ?_
      clear hK K
      try simp only [Act.put, List.setIfInBounds_toArray, List.set_cons_zero, List.set_cons_succ]
      refine anyE_last (i := 5) (x := ?_) ?_ (by kernel_rfl) (by kernel_rfl) (fun K hK => ?_)
      rotate_left
      · (simp only [List.getElem?_toArray, List.getElem?_cons_succ, List.getElem?_cons_zero]; rfl)
      rw [if_pos (by rfl)]
      refine op_copy (.tmp 13) (.tmp 15) 23 23 rfl Tryz.underlying23 (by kernel_rfl) s7 q q (200 - q) (200 - q) 8 8 (some ⟨g, 0, none⟩) (u8s (layLE x)) (by first | rfl | (simp; done)) rfl (by omega) (by rw [u8s_len, layLE_len]; exact (Nat.min_eq_left (by omega)).symm) (by rw [u8s_len, u8s_len]; exact HX.out.2.1) s6.news (u8s_one _) ?_
      intro w8 s8
      rw [setL_u8s _ _ _ HX.out.2.1, HX.out.1] at s8
      try simp only [Act.put, List.setIfInBounds_toArray, List.set_cons_zero, List.set_cons_succ]
      refine hK.out _ _ ?_
      clear hK K
      try simp only [Act.put, List.setIfInBounds_toArray, List.set_cons_zero, List.set_cons_succ]
      refine anyE_done (by kernel_rfl) ?_ _
      go_wp2_with fail
      go_roundw
      case rel => exact ⟨i + 1, by omega, by go_num, s8.drop 1⟩
      case measure => simp [intOf]; omega
    · obtain rfl : i = 25 := by omega
      obtain ⟨R, hR⟩ : ∃ R, R = laneBytes S := ⟨_, rfl⟩
      have hRl : R.length = 200 := by rw [hR, laneBytes_len, HN.out.1]
      rw [HN.out.2.2.2, ← hR, show 200 - 8 * 25 = 0 from rfl, List.replicate_zero, List.append_nil] at s
      have s5 : Sat W0 _ (seg true gr 0 (u8s nought200) :: seg true go 0 (u8s R) :: L) := s.pull 1
      have HR := Lib.hid (And.intro hRl hR); clear hRl hR hWl hZl
      go_wp2_with (first | (refine wpl_ld8a rfl (.tmp 3) rfl Tryz.underlying214 Tryz.size_b200 s rfl HR.out.1 ?_) | (refine wpl_st8a rfl rfl (.tmp 2) (.tmp 18) rfl s5 Tryz.size_b200 rfl rfl HR.out.1 nought200_len ?_; intro w7 s7))
      refine bodyPost_ret (v := .agg (u8s R).toArray) ?_ rfl ⟨by rw [HR.out.2], (s7.drop 0).drop 0⟩
      have hr := run_ret8 Tryz.underlying214 Tryz.size_b200 s7 HR.out.1
      simp [results, Tryz.results205, asAddr]; exact hr
end Go.Proofs.YtooolimpkafhaaaGreat
