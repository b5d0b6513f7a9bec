/- Kec, Kec2, Kec3, Kec4: texts that lie apart elsewhere, as one; each under the conditions that it names. -/
import Derived.Test.YtbefjaodpbgpcaaGreatGI
import Derived.Test.YtbefjaodpbgpcaaGreatGA
import Derived.Test.YtbefjaodpbgpcaaGreatGF
import Derived.Test.YtbefjaodpbgpcaaGreatGD
import Derived.Test.YtbefjaodpbgpcaaGreatGQ
set_option linter.unusedVariables false
set_option linter.unusedSimpArgs false
set_option maxRecDepth 100000
set_option maxHeartbeats 16000000
namespace Go.Kec
open Go.Bv
def layLE (x : BitVec 64) : List Byte := (List.range 8).map fun i => (x >>> (8 * i)).setWidth 8
def takeLE (b : List Byte) (n : Nat) : BitVec 64 := (List.range n).foldl (fun x i => x ||| ((b.getD i 0).setWidth 64 <<< (8 * i))) 0
theorem layLE_len (x : BitVec 64) : (layLE x).length = 8 := by simp [layLE]
theorem takeLE_succ (b : List Byte) (n : Nat) : takeLE b (n + 1) = takeLE b n ||| ((b.getD n 0).setWidth 64 <<< (8 * n)) := by simp [takeLE, List.range_succ]
end Go.Kec
namespace Go.Proofs.YtbefjaodpbgpcaaGreat
open Go.RowKit Go.Sep Go.Bv Go.Kec
theorem turn64k (w : World) (x : BitVec 64) (k : Nat) (hk : k < 1000) : Calls Tryz.prog 214 #[.int .u64 (v64 x), .int .i64 (k : Int)] w fun e w' => e = .returned (.int .u64 (v64 (rotl x (k % 64)))) ∧ ∃ n, w' = w.drewN n := by
 go_enter Tryz.func214, Tryz.ntmps214
 go_wp2_with (go_at_call 210; refine (width64 _).mono ?_; rintro e w' ⟨rfl, rfl⟩)
 go_quiet (fail)
 go_wp2
 go_ret
 refine ⟨ret_int ?_, _, rfl⟩
 show bits .or .u64 (v64 x * 2 ^ (k % 64) % 18446744073709551616) (v64 x / 2 ^ (64 - k % 64)) = _
 rw [vshl64, vshr64, vor64]
 rfl
theorem madeLE (x : BitVec 64) (i : Nat) (h : i < 8) : ((u8s ((List.range 8).map fun j => if j < i then (x >>> (8 * j)).setWidth 8 else 0)).set i (.int .u8 (v8 ((x >>> (8 * i)).setWidth 8)))) = u8s ((List.range 8).map fun j => if j < i + 1 then (x >>> (8 * j)).setWidth 8 else 0) := by
 rw [u8s_set]
 congr 1
 apply List.ext_getElem
 ·simp
 ·intro j h1 h2
  simp only [List.getElem_set, List.getElem_map, List.getElem_range]
  by_cases e : i = j
  ·subst e; simp
  ·rw [if_neg e]
   by_cases h : j < i
   ·rw [if_pos h, if_pos (by omega)]
   ·rw [if_neg h, if_neg (by omega)]
theorem layLE64 {W0 w : World} {L : List Assn} (x : BitVec 64) (hs : Sat W0 w L) :
  Calls Tryz.prog 202 #[.int .u64 (v64 x)] w fun e w' => ∃ g, e = .returned (.slice (some ⟨g, 0, none⟩) 8 8) ∧ Sat W0 w' (seg true g 0 (u8s (layLE x)) :: L) := by
 obtain ⟨i3, hi3, hz3, hs3, hb3⟩ := info_parts Tryz.info_u8
 have hm1 := fun w => run_make (P := Tryz.prog) w 25 5 i3 _ Tryz.underlying25 hi3 hz3 .i64 .i64 8 8 (by omega) (by omega) (by rw [hb3]; omega) (by omega)
 rw [hs3] at hm1
 clear hi3 hz3 hs3 hb3
 have hs0 := hs.make (.int .u8 0) 8 5
 rw [u8s_zero] at hs0
 go_enter Tryz.func202, Tryz.ntmps202
 go_wp2_with (go_at_call 210; refine (width64 _).mono ?_; rintro e w' ⟨rfl, rfl⟩)
 go_loopw [10] (fun t10 wr => ∃ i : Nat, i ≤ 8 ∧ t10 = .int .i64 i ∧ Sat W0 wr (seg true w.heap.size 0 (u8s ((List.range 8).map fun j => if j < i then (x >>> (8 * j)).setWidth 8 else 0)) :: L)) (fun t10 _ => 8 - (intOf t10).toNat)
 case atStart => exact ⟨0, by omega, rfl, hs0⟩
 case round =>
  obtain ⟨i, hi, rfl, hr⟩ := hrel
  by_cases hlt : i < 8
  ·have c := hr.at i (u8s_get _ i (by simp; omega))
   have f := hr.fr i (by simp [u8s_len]; omega)
   go_wp2
   go_roundw
   case rel =>
    refine ⟨i + 1, by omega, by go_num, ?_⟩
    have hst := hr.store (i := i) (by simp [u8s_len]; omega) (.int .u8 (v8 ((x >>> (8 * i)).setWidth 8))) (q := i) (by simp)
    rw [madeLE x i hlt] at hst
    rw [← vlow64, ← vshr64] at hst
    exact hst
   case measure => simp [intOf]; omega
  ·obtain rfl : i = 8 := by omega
   go_wp2
   go_ret
   exact ⟨_, rfl, hr⟩
theorem takeLE64 {W0 w : World} {L : List Assn} {m : Bool} {b o len cap : Nat} {bs : List Byte} (at_ : Nat) (hs : Sat W0 w (seg m b o (u8s bs) :: L)) (hl : bs.length = len) (h : at_ + 8 ≤ len) (hm : len ≤ 9223372036854775807) :
  Calls Tryz.prog 206 #[.slice (some ⟨b, o, none⟩) len cap, .int .i64 (at_ : Int)] w fun e w' => e = .returned (.int .u64 (v64 (takeLE (bs.drop at_) 8))) ∧ w = w' := by
 have hl' := Lib.hid hl; clear hl
 go_enter Tryz.func206, Tryz.ntmps206
 go_wp2_with (first | (go_at_call 210; refine (width64 _).mono ?_; rintro e w' ⟨rfl, rfl⟩) | (go_at_call 215; refine (within_yes _ _ _ _ at_ 8 (by omega) (by omega) hm (by omega)).mono ?_; rintro e w' ⟨rfl, rfl⟩))
 go_loop [5, 17] (fun t5 t17 => ∃ i : Nat, i ≤ 8 ∧ t17 = .int .i64 i ∧ t5 = .int .u64 (v64 (takeLE (bs.drop at_) i))) (fun _ t17 => 8 - (intOf t17).toNat)
 case atStart => exact ⟨0, by omega, rfl, rfl⟩
 case round =>
  obtain ⟨i, hi, rfl, rfl⟩ := hrel
  by_cases hlt : i < 8
  ·have hat : at_ + i < bs.length := by have := hl'.out; omega
   have c := hs.cell (u8s_get bs (at_ + i) hat)
   have e : (bs.drop at_).getD i 0 = bs.getD (at_ + i) 0 := by simp [List.getElem?_drop]
   have e2 := takeLE_succ (bs.drop at_) i
   rw [e] at e2
   have E := Lib.hid e2; clear e e2
   go_wp2
   go_round
   case rel =>
    refine ⟨i + 1, by omega, by go_num, ?_⟩
    rw [E.out, ← vor64, ← vshl64w, ← vwide64w]
    simp [hat, IntKind.wrap_u64]
   case measure => simp [intOf]; omega
  ·obtain rfl : i = 8 := by omega
   go_wp2
   go_ret
   exact ⟨rfl, rfl⟩
end Go.Proofs.YtbefjaodpbgpcaaGreat
namespace Go.Kec
open Go.Bv Go.Sep
def lanesTo (B : List Byte) (n : Nat) : List (BitVec 64) := (List.range 25).map fun i => if i < n then takeLE (B.drop (8 * i)) 8 else 0
def lanes (B : List Byte) : List (BitVec 64) := lanesTo B 25
def lane0 : List (BitVec 64) := List.replicate 25 0
theorem lane0_len : lane0.length = 25 := rfl
theorem lanesTo_len (B : List Byte) (n : Nat) : (lanesTo B n).length = 25 := by simp [lanesTo]
theorem lanesTo_zero (B : List Byte) : lanesTo B 0 = lane0 := by
 apply List.ext_getElem
 ·simp [lanesTo, lane0]
 ·intro j h1 h2
  simp only [lanesTo, lane0, List.getElem_map, List.getElem_range, List.getElem_replicate]
  rw [if_neg (by omega)]
theorem lanesTo_set (B : List Byte) (n : Nat) : (lanesTo B n).set n (takeLE (B.drop (8 * n)) 8) = lanesTo B (n + 1) := by
 apply List.ext_getElem
 ·simp [lanesTo]
 ·intro j h1 h2
  rw [List.getElem_set]
  by_cases e : n = j
  ·subst e
   simp [lanesTo]
  ·rw [if_neg e]
   simp only [lanesTo, List.getElem_map, List.getElem_range]
   by_cases h3 : j < n
   ·rw [if_pos h3, if_pos (by omega)]
   ·rw [if_neg h3, if_neg (by omega)]
end Go.Kec
namespace Go.Proofs.YtbefjaodpbgpcaaGreat
open Go.RowKit Go.Sep Go.Bv Go.Kec
theorem Tryz.size_ks : (Tryz.prog.info? 275).map (·.size) = some 25 := by kernel_rfl
theorem Tryz.size_b200 : (Tryz.prog.info? 251).map (·.size) = some 200 := by kernel_rfl
theorem zero_ks (w : World) : (zeroValue 275).run Tryz.prog w = .ok (.agg (u64s lane0).toArray) w := by kernel_rfl
theorem run_ret64 {P : Program} {W0 w : World} {L : List Assn} {T U : TypeId} {n N : Nat} (hu : P.underlying T = some (.array N U)) (hi : (P.info? T).map (·.size) = some n) {m : Bool} {b : Nat} {B : List (BitVec 64)} (hs : Sat W0 w (seg m b 0 (u64s B) :: L)) (hB : B.length = n) : (loadVar T ⟨b, 0, none⟩).run P w = .ok (.agg (u64s B).toArray) w := by
 have hr := run_loadVar_agg (P := P) (ty := T) hu rfl hi hs 0 0 rfl (by rw [u64s_len]; omega)
 rw [List.drop_zero, List.take_of_length_le (by rw [u64s_len]; omega)] at hr
 exact hr
theorem kecFrom {W0 w : World} {L : List Assn} (B : List Byte) (hB : B.length = 200) (hs : Sat W0 w L) :
  Calls Tryz.prog 194 #[.agg (u8s B).toArray] w fun e w' => e = .returned (.agg (u64s (lanes B)).toArray) ∧ Sat W0 w' L := by
 have HN := Lib.hid hB; clear hB
 go_enter Tryz.func194, Tryz.ntmps194
 go_wp2_with (first | (refine wpl_box rfl 251 (.tmp 0) rfl (u8s B) rfl hs ?_; intro w1 gb s1 _; clear hs) | (refine wpl_alloc_agg rfl 275 rfl s1 _ (zero_ks _) ?_; intro w2 gr s2 _; clear s1) | (refine wpl_alloc_agg rfl 275 rfl s2 _ (zero_ks _) ?_; intro w3 go s3 _; clear s2))
 have s4 : Sat W0 w3 (seg true go 0 (u64s (lanesTo B 0)) :: seg true gb 0 (u8s B) :: seg true gr 0 (u64s lane0) :: L) := by rw [lanesTo_zero]; exact s3.f
 clear s3
 go_loopw [5] (fun t5 wr => ∃ i : Nat, i ≤ 25 ∧ t5 = .int .i64 (i : Int) ∧ Sat W0 wr (seg true go 0 (u64s (lanesTo B i)) :: seg true gb 0 (u8s B) :: seg true gr 0 (u64s lane0) :: L)) (fun t5 _ => 25 - (intOf t5).toNat)
 case atStart => exact ⟨0, by omega, rfl, s4⟩
 case round =>
  clear s4
  obtain ⟨i, hi, rfl, s⟩ := hrel
  have hDl := lanesTo_len B i
  have zo := s.lt (by rw [u64s_len, hDl]; decide)
  have sb : Sat W0 _ (seg true gb 0 (u8s B) :: _) := s.pull 1
  have zb := sb.lt (by rw [u8s_len, HN.out]; decide)
  by_cases hlt : i < 25
  ·have co := s.at i (u64s_get _ i (by rw [hDl]; exact hlt))
   have fo := s.fr i (by rw [u64s_len, hDl]; exact hlt)
   obtain ⟨q, hq⟩ : ∃ q, q = 8 * i := ⟨_, rfl⟩
   have hmul : IntKind.i64.wrap (8 * (i : Int)) = (q : Int) := by rw [IntKind.wrap_i64]; omega
   have hsl := fun w => run_sliceAll (P := Tryz.prog) (T := 251) (U := 5) Tryz.underlying251 (by kernel_rfl) gb 0 w
   have htk := takeLE64 (cap := 200) (len := 200) q sb HN.out (by omega) (by decide)
   have hst := lanesTo_set B i
   rw [← hq] at hst
   have hi1 : IntKind.i64.wrap ((i : Int) + 1) = ((i + 1 : Nat) : Int) := by rw [IntKind.wrap_i64]; omega
   obtain ⟨x, hx⟩ : ∃ x, x = takeLE (B.drop q) 8 := ⟨_, rfl⟩
   rw [← hx] at hst htk
   have HX := Lib.hid (And.intro hst (And.intro hDl htk)); clear hst hDl htk hq hx
   go_wp2_with fail
   refine HX.out.2.2.mono ?_
   rintro e w5 ⟨rfl, rfl⟩
   go_wp2_with fail
   go_roundw
   case rel =>
    refine ⟨i + 1, by omega, by go_num, ?_⟩
    have st := s.store (i := i) (by rw [u64s_len, HX.out.2.1]; exact hlt) (.int .u64 (v64 x)) (q := i) (by simp)
    rw [u64s_set, HX.out.1] at st
    exact st
   case measure => simp [intOf]; omega
  ·obtain rfl : i = 25 := by omega
   have s5 : Sat W0 _ (seg true gr 0 (u64s lane0) :: seg true go 0 (u64s (lanes B)) :: seg true gb 0 (u8s B) :: L) := s.pull 2
   obtain ⟨R, hR⟩ : ∃ R, R = lanes B := ⟨_, rfl⟩
   have hRl : R.length = 25 := by rw [hR]; exact lanesTo_len B 25
   rw [← hR] at s5
   have s6 : Sat W0 _ (seg true go 0 (u64s R) :: _) := s5.pull 1
   have ht : ((u64s R).drop 0).take 25 = u64s R := by rw [List.drop_zero]; exact List.take_of_length_le (by rw [u64s_len]; omega)
   have HR := Lib.hid (And.intro hRl (And.intro ht hR)); clear hRl ht hDl hR
   go_wp2_with (first | (refine wpl_load_agg rfl 275 (.tmp 3) rfl Tryz.underlying275 rfl Tryz.size_ks s6 0 0 rfl rfl (by rw [u64s_len, HR.out.1]; exact Nat.le_refl _) ?_; rw [HR.out.2.1]) | (refine wpl_store_agg rfl rfl 275 (.tmp 2) (.tmp 15) rfl (cs := u64s R) s5 0 0 (by rw [u64s_len, HR.out.1]; exact Tryz.size_ks) rfl (by rfl) rfl (by rw [u64s_len, u64s_len, HR.out.1, lane0_len]; decide) (u64s_one _) ?_; intro w7 s7; rw [setL_all _ _ (by rw [u64s_len, u64s_len, HR.out.1, lane0_len])] at s7))
   refine bodyPost_ret (v := .agg (u64s R).toArray) ?_ rfl ⟨by rw [HR.out.2.2], ((s7.drop 0).drop 0).drop 0⟩
   have hr := run_ret64 Tryz.underlying275 Tryz.size_ks s7 HR.out.1
   simp [results, Tryz.results194, asAddr]; exact hr
end Go.Proofs.YtbefjaodpbgpcaaGreat
namespace Go.Kec
open Go.Bv Go.Sep
def laneBytes (S : List (BitVec 64)) : List Byte := S.flatMap layLE
theorem laneBytes_len (S : List (BitVec 64)) : (laneBytes S).length = 8 * S.length := by
 induction S with
 | nil => rfl
 | cons x S ih => unfold laneBytes at *; rw [List.flatMap_cons, List.length_append, ih, layLE_len, List.length_cons]; omega
theorem laneBytes_next (S : List (BitVec 64)) (i : Nat) (h : i < S.length) : laneBytes (S.take (i + 1)) = laneBytes (S.take i) ++ layLE (S.getD i 0) := by
 rw [List.take_succ_eq_append_getElem h]
 unfold laneBytes
 rw [List.flatMap_append]
 simp [h]
section
variable {P : Program} {o : Oper} {a : Act} {K : Act → World → Prop} {Q : Exit → Act → World → Prop} {W0 w : World} {L : List Assn}
theorem op_copy (d s : Operand) (dT sT : TypeId) (ho : o.op = .call { callee := .builtin .copy, args := #[d, s], argTypes := #[dT, sT] }) {elem : TypeId} (hu : P.underlying dT = some (.slice elem)) (hsz : (P.info? elem).map (·.size) = some 1)
  {b off : Nat} {vs : List Value} (hs : Sat W0 w (seg true b off vs :: L)) (k q dLen dCap sLen sCap : Nat) (sp : Option Addr) (cs : List Value) (hd : a.eval d = .slice (some ⟨b, q, none⟩) dLen dCap) (hx : a.eval s = .slice sp sLen sCap)
  (hq : q = off + k) (hn : cs.length = Nat.min sLen dLen) (hfit : k + cs.length ≤ vs.length) (hsrc : ∀ j v, cs[j]? = some v → ∃ ad, sp = some ad ∧ w.cell? (ad.add j) = some v) (h1 : ∀ v ∈ cs, v.oneCell' = true)
  (h : ∀ w', Sat W0 w' (seg true b off (setL vs k cs) :: L) → K (a.put o.dst (.int .i64 (cs.length : Int))) w') : Oper.wp P o a w K Q := by
 cases hq' : P.info? elem with
 | none => simp [hq'] at hsz
 | some i =>
  have hsz' : i.size = 1 := by simpa [hq'] using hsz
  have hmin : Nat.min sLen dLen = cs.length := hn.symm
  obtain ⟨w', hr, hs'⟩ := Sat.run_storeCells (P := P) q k cs 0 vs w hs hq (by simpa using hfit) h1
  have hrun : (Builtin.copy_ #[dT, sT] o.type #[.slice (some ⟨b, q, none⟩) dLen dCap, .slice sp sLen sCap]).run P w = .ok (goInt cs.length) w' := by
   have hf : (Builtin.firstCells 1 cs.length (.slice sp sLen sCap)).run P w = .ok cs.toArray w := by
    cases sp with
    | none =>
     have : cs = [] := by
      cases cs with
      | nil => rfl
      | cons v r => obtain ⟨ad, h, _⟩ := hsrc 0 v rfl; cases h
     subst this
     rfl
    | some ad => exact run_firstCells_some w 1 cs.length ad sLen sCap cs (by simp) (fun j v hv => by obtain ⟨ad', h, hc⟩ := hsrc j v hv; cases h; exact hc)
   simp [Builtin.copy_, run_underlying hu, Builtin.lenOf, sizeOf, typeInfo, hq', hsz', hmin, hf, hr]
  unfold Oper.wp
  simp [execOp, ho, resolve, invoke, builtin, hd, hx, hrun, Result.andThen]
  exact h w' (by simpa using hs')
end
end Go.Kec
namespace Go.Proofs.YtbefjaodpbgpcaaGreat
open Go.RowKit Go.Sep Go.Bv Go.Kec
def nought200 : List Byte := List.replicate 200 0
theorem nought200_len : nought200.length = 200 := by unfold nought200; exact List.length_replicate
theorem zero_b200 (w : World) : (zeroValue 251).run Tryz.prog w = .ok (.agg (u8s nought200).toArray) w := by kernel_rfl
theorem kecBytes {W0 w : World} {L : List Assn} (S : List (BitVec 64)) (hS : S.length = 25) (hs : Sat W0 w L) :
  Calls Tryz.prog 192 #[.agg (u64s S).toArray] w fun e w' => e = .returned (.agg (u8s (laneBytes S)).toArray) ∧ Sat W0 w' L := by
 have ht : ((u64s S).drop 0).take 25 = u64s S := by rw [List.drop_zero]; exact List.take_of_length_le (by rw [u64s_len]; omega)
 have hst : laneBytes (S.take 0) ++ List.replicate (200 - 8 * 0) 0 = nought200 := rfl
 have hfi : laneBytes (S.take 25) = laneBytes S := by rw [List.take_of_length_le (by omega)]
 have HN := Lib.hid (And.intro hS (And.intro ht (And.intro hst hfi))); clear hS ht hst hfi
 go_enter Tryz.func192, Tryz.ntmps192
 go_wp2_with (first | (refine wpl_box rfl 275 (.tmp 0) rfl (u64s S) rfl hs ?_; intro w1 gb s1 _; clear hs) | (refine wpl_alloc_agg rfl 251 rfl s1 _ (zero_b200 _) ?_; intro w2 gr s2 _; clear s1) | (refine wpl_alloc_agg rfl 251 rfl s2 _ (zero_b200 _) ?_; intro w3 go s3 _; clear s2; have s4 : Sat W0 w3 (seg true gb 0 (u64s S) :: seg true go 0 (u8s nought200) :: seg true gr 0 (u8s nought200) :: L) := s3.pull 2) | (refine wpl_load_agg rfl 275 (.tmp 1) rfl Tryz.underlying275 rfl Tryz.size_ks s4 0 0 rfl rfl (by rw [u64s_len, HN.out.1]; exact Nat.le_refl _) ?_; rw [HN.out.2.1]))
 have s5 : Sat W0 w3 (seg true go 0 (u8s (laneBytes (S.take 0) ++ List.replicate (200 - 8 * 0) 0)) :: seg true gr 0 (u8s nought200) :: L) := by rw [HN.out.2.2.1]; exact s4.f
 clear s3 s4
 go_loopw [7] (fun t7 wr => ∃ i : Nat, i ≤ 25 ∧ t7 = .int .i64 (i : Int) ∧ Sat W0 wr (seg true go 0 (u8s (laneBytes (S.take i) ++ List.replicate (200 - 8 * i) 0)) :: seg true gr 0 (u8s nought200) :: L)) (fun t7 _ => 25 - (intOf t7).toNat)
 case atStart => exact ⟨0, by omega, rfl, s5⟩
 case round =>
  clear s5
  obtain ⟨i, hi, rfl, s⟩ := hrel
  have hWl : (laneBytes (S.take i)).length = 8 * i := by rw [laneBytes_len, List.length_take, HN.out.1]; omega
  have hZl : (laneBytes (S.take i) ++ List.replicate (200 - 8 * i) (0 : Byte)).length = 200 := by rw [List.length_append, hWl, List.length_replicate]; omega
  have zo := s.lt (by rw [u8s_len, hZl]; decide)
  by_cases hlt : i < 25
  ·have hix := fun w => run_index_list (P := Tryz.prog) (t := 275) (e := 261) Tryz.underlying275 (by kernel_rfl) (fun w => by kernel_rfl) (u64s S) (by rw [u64s_len, HN.out.1]) i hlt w
   have hgd : (u64s S).getD i undef = .int .u64 (v64 (S.getD i 0)) := by rw [List.getD_eq_getElem?_getD, u64s_get S i (by rw [HN.out.1]; exact hlt)]; rfl
   obtain ⟨x, hx⟩ : ∃ x, x = S.getD i 0 := ⟨_, rfl⟩
   rw [hgd, ← hx] at hix
   obtain ⟨q, hq⟩ : ∃ q, q = 8 * i := ⟨_, rfl⟩
   have hq200 : q < 200 := by omega
   have hmul : IntKind.i64.wrap (8 * (i : Int)) = (q : Int) := by rw [IntKind.wrap_i64]; omega
   have hsl := fun w => run_sliceFrom (P := Tryz.prog) (T := 251) (U := 5) Tryz.underlying251 (by kernel_rfl) go 0 q hq200 w
   have hi1 : IntKind.i64.wrap ((i : Int) + 1) = ((i + 1 : Nat) : Int) := by rw [IntKind.wrap_i64]; omega
   have hnx : putB (laneBytes (S.take i) ++ List.replicate (200 - 8 * i) 0) q (layLE x) = laneBytes (S.take (i + 1)) ++ List.replicate (200 - 8 * (i + 1)) 0 := by
    rw [hq, putB_next _ _ _ _ hWl (by rw [layLE_len]; omega), layLE_len, laneBytes_next S i (by rw [HN.out.1]; exact hlt), hx]
    rfl
   have hfit : q + (layLE x).length ≤ (laneBytes (S.take i) ++ List.replicate (200 - 8 * i) (0 : Byte)).length := by rw [hZl, layLE_len]; omega
   have hq8 : q + 8 ≤ 200 := by omega
   have HX := Lib.hid (And.intro hnx (And.intro hfit hZl)); clear hnx hfit hZl hWl hq hx hgd
   go_wp2_with fail
   refine region_E (fun _ => True) [] (by kernel_rfl) ?_
   have hHeld := trivial
   iterate 4
    first | refine autoT' hHeld (h := ?_) | refine autoP' (h := ?_)
    try simp only [pA1, pA2, pA3, pA4]
   refine anyE_last' (i := 4) (h := fun K hK => ?_)
   go_simp
   refine (layLE64 x s.drew).mono ?_
   rintro e w6 ⟨g, rfl, s6⟩
   have s7 : Sat W0 w6 (seg true go 0 (u8s (laneBytes (S.take i) ++ List.replicate (200 - 8 * i) 0)) :: seg true g 0 (u8s (layLE x)) :: seg true gr 0 (u8s nought200) :: L) := s6.pull 1
   go_wp2_with fail
   refine hK.out _ _ ?_
   clear hK K
   try simp only [pA1, pA2, pA3, pA4]
   refine anyE_last' (i := 5) (h := fun K hK => ?_)
   rw [if_pos (by rfl)]
   refine op_copy (.tmp 13) (.tmp 15) 25 25 rfl Tryz.underlying25 (by kernel_rfl) s7 q q (200 - q) (200 - q) 8 8 (some ⟨g, 0, none⟩) (u8s (layLE x)) (by first | rfl | (simp; done)) rfl (by omega) (by rw [u8s_len, layLE_len]; exact (Nat.min_eq_left (by omega)).symm) (by rw [u8s_len, u8s_len]; exact HX.out.2.1) s6.news (u8s_one _) ?_
   intro w8 s8
   rw [setL_u8s _ _ _ HX.out.2.1, HX.out.1] at s8
   try simp only [Act.put, List.setIfInBounds_toArray, List.set_cons_zero, List.set_cons_succ]
   refine hK.out _ _ ?_
   clear hK K
   try simp only [pA1, pA2, pA3, pA4]
   refine anyE_done (by kernel_rfl) ?_ _
   go_wp2_with fail
   go_roundw
   case rel => exact ⟨i + 1, by omega, by go_num, s8.drop 1⟩
   case measure => simp [intOf]; omega
  ·obtain rfl : i = 25 := by omega
   obtain ⟨R, hR⟩ : ∃ R, R = laneBytes S := ⟨_, rfl⟩
   have hRl : R.length = 200 := by rw [hR, laneBytes_len, HN.out.1]
   rw [HN.out.2.2.2, ← hR, show 200 - 8 * 25 = 0 from rfl, List.replicate_zero, List.append_nil] at s
   have s5 : Sat W0 _ (seg true gr 0 (u8s nought200) :: seg true go 0 (u8s R) :: L) := s.pull 1
   have HR := Lib.hid (And.intro hRl hR); clear hRl hR hWl hZl
   go_wp2_with (first | (refine wpl_ld8a rfl (.tmp 3) rfl Tryz.underlying251 Tryz.size_b200 s rfl HR.out.1 ?_) | (refine wpl_st8a rfl rfl (.tmp 2) (.tmp 18) rfl s5 Tryz.size_b200 rfl rfl HR.out.1 nought200_len ?_; intro w7 s7))
   refine bodyPost_ret (v := .agg (u8s R).toArray) ?_ rfl ⟨by rw [HR.out.2], (s7.drop 0).drop 0⟩
   have hr := run_ret8 Tryz.underlying251 Tryz.size_b200 s7 HR.out.1
   simp [results, Tryz.results192, asAddr]; exact hr
end Go.Proofs.YtbefjaodpbgpcaaGreat
namespace Go.Kec
open Go.Bv Go.Sep
def rcStep (r : Byte) : Byte := (r <<< 1) ^^^ (0x71 &&& -(r >>> 7))
def rcAt : Nat → Byte
 | 0 => 1
 | n + 1 => rcStep (rcAt n)
def rcBit (i j : Nat) : BitVec 64 := ((1 &&& rcAt (7 * i + j)).setWidth 64) <<< (2 ^ j - 1)
def rcPart (i : Nat) : Nat → BitVec 64
 | 0 => 0
 | j + 1 => rcPart i j ||| rcBit i j
def rcTo (n : Nat) : List (BitVec 64) := (List.range 24).map fun i => if i < n then rcPart i 7 else 0
def rcAll : List (BitVec 64) := rcTo 24
def lane24 : List (BitVec 64) := List.replicate 24 0
theorem lane24_len : lane24.length = 24 := rfl
theorem rcTo_len (n : Nat) : (rcTo n).length = 24 := by simp [rcTo]
theorem rcTo_zero : rcTo 0 = lane24 := by
 apply List.ext_getElem
 ·simp [rcTo, lane24]
 ·intro j h1 h2
  simp only [rcTo, lane24, List.getElem_map, List.getElem_range, List.getElem_replicate]
  rw [if_neg (by omega)]
theorem rcTo_start (n : Nat) (h : n < 24) : (rcTo n).set n (rcPart n 0) = rcTo n := by
 apply List.ext_getElem
 ·simp [rcTo]
 ·intro j h1 h2
  rw [List.getElem_set]
  by_cases e : n = j
  ·subst e
   simp [rcTo, rcPart]
  ·rw [if_neg e]
theorem rcTo_set (n : Nat) : (rcTo n).set n (rcPart n 7) = rcTo (n + 1) := by
 apply List.ext_getElem
 ·simp [rcTo]
 ·intro j h1 h2
  rw [List.getElem_set]
  by_cases e : n = j
  ·subst e
   simp [rcTo]
  ·rw [if_neg e]
   simp only [rcTo, List.getElem_map, List.getElem_range]
   by_cases h3 : j < n
   ·rw [if_pos h3, if_pos (by omega)]
   ·rw [if_neg h3, if_neg (by omega)]
end Go.Kec
namespace Go.Proofs.YtbefjaodpbgpcaaGreat
open Go.RowKit Go.Sep Go.Bv Go.Kec
theorem Tryz.size_k24 : (Tryz.prog.info? 280).map (·.size) = some 24 := by kernel_rfl
theorem zero_k24 (w : World) : (zeroValue 280).run Tryz.prog w = .ok (.agg (u64s lane24).toArray) w := by kernel_rfl
theorem vand8_1 (x : BitVec 8) : bits .and .u8 (v8 x) 1 = v8 (1 &&& x) := by rw [BitVec.and_comm]; exact vand8 x 1
theorem vand8_113 (x : BitVec 8) : bits .and .u8 113 (v8 x) = v8 (0x71 &&& x) := vand8 113 x
theorem rcShift (j : Nat) (hj : j < 7) : min (IntKind.u64.wrap (IntKind.u64.wrap ((2 : Int) ^ j) - 1)).toNat 64 = 2 ^ j - 1 := by
 have : j = 0 ∨ j = 1 ∨ j = 2 ∨ j = 3 ∨ j = 4 ∨ j = 5 ∨ j = 6 := by omega
 rcases this with rfl | rfl | rfl | rfl | rfl | rfl | rfl <;> rfl
theorem rcVal (x : BitVec 64) (r : Byte) (j : Nat) (hj : j < 7) : bits .or .u64 (v64 x) (IntKind.u64.wrap (IntKind.u64.wrap (bits .and .u8 (v8 r) 1) * 2 ^ min (IntKind.u64.wrap (IntKind.u64.wrap ((2 : Int) ^ j) - 1)).toNat 64)) = v64 (x ||| ((1 &&& r).setWidth 64 <<< (2 ^ j - 1))) := by
 rw [rcShift j hj, vand8_1, vwide64w, vshl64w, vor64]
theorem kecConsts {W0 w : World} {L : List Assn} (hs : Sat W0 w L) :
  Calls Tryz.prog 203 #[] w fun e w' => e = .returned (.agg (u64s rcAll).toArray) ∧ Sat W0 w' L := by
 go_enter Tryz.func203, Tryz.ntmps203
 go_wp2_with (first | (refine wpl_alloc_agg rfl 280 rfl hs _ (zero_k24 _) ?_; intro w2 gr s2 _; clear hs) | (refine wpl_alloc_agg rfl 280 rfl s2 _ (zero_k24 _) ?_; intro w3 go s3 _; clear s2))
 have s4 : Sat W0 w3 (seg true go 0 (u64s (rcTo 0)) :: seg true gr 0 (u64s lane24) :: L) := by rw [rcTo_zero]; exact s3
 clear s3
 have h1 : v8 (rcAt (7 * 0)) = 1 := rfl
 go_loopw [2, 5] (fun t2 t5 wr => ∃ i : Nat, i ≤ 24 ∧ t5 = .int .i64 (i : Int) ∧ t2 = .int .u8 (v8 (rcAt (7 * i))) ∧ Sat W0 wr (seg true go 0 (u64s (rcTo i)) :: seg true gr 0 (u64s lane24) :: L)) (fun _ t5 _ => 24 - (intOf t5).toNat)
 case atStart => exact ⟨0, by omega, rfl, by rw [h1], s4⟩
 case round =>
  clear s4 h1
  obtain ⟨i, hi, rfl, rfl, s⟩ := hrel
  by_cases hlt : i < 24
  ·have s5 : Sat W0 wr (seg true go 0 (u64s ((rcTo i).set i (rcPart i 0))) :: seg true gr 0 (u64s lane24) :: L) := by rw [rcTo_start i hlt]; exact s
   clear s
   have hi1 : IntKind.i64.wrap ((i : Int) + 1) = ((i + 1 : Nat) : Int) := by rw [IntKind.wrap_i64]; omega
   obtain ⟨T, hT⟩ : ∃ T, T = rcTo i := ⟨_, rfl⟩
   have hTl : T.length = 24 := by rw [hT]; exact rcTo_len i
   rw [← hT] at s5
   have HT := Lib.hid (And.intro hTl hT); clear hTl hT
   go_wp2_with fail
   go_loopw [2, 8] (fun t2 t8 wr => ∃ j : Nat, j ≤ 7 ∧ t8 = .int .i64 (j : Int) ∧ t2 = .int .u8 (v8 (rcAt (7 * i + j))) ∧ Sat W0 wr (seg true go 0 (u64s (T.set i (rcPart i j))) :: seg true gr 0 (u64s lane24) :: L)) (fun _ t8 _ => 7 - (intOf t8).toNat)
   case atStart => exact ⟨0, by omega, rfl, rfl, s5⟩
   case round =>
    clear s5
    obtain ⟨j, hj, rfl, rfl, s⟩ := hrel
    by_cases hlj : j < 7
    ·have zo := s.lt (by rw [u64s_len, List.length_set, HT.out.1]; decide)
     have co := s.at i (v := .int .u64 (v64 (rcPart i j))) (by rw [u64s_get _ i (by rw [List.length_set, HT.out.1]; exact hlt)]; simp [HT.out.1, hlt])
     have fo := s.fr i (by rw [u64s_len, List.length_set, HT.out.1]; exact hlt)
     obtain ⟨r, hr⟩ : ∃ r, r = rcAt (7 * i + j) := ⟨_, rfl⟩
     obtain ⟨x, hx⟩ : ∃ x, x = rcPart i j := ⟨_, rfl⟩
     rw [← hx] at co
     rw [← hr]
     have hj1 : IntKind.i64.wrap ((j : Int) + 1) = ((j + 1 : Nat) : Int) := by rw [IntKind.wrap_i64]; omega
     have HX := Lib.hid (And.intro hr hx); clear hr hx
     go_wp2_with fail
     refine wp_region_quiet_tail_lit 11 (by kernel_rfl) (by kernel_rfl) ?_
     simp only [List.take_succ_cons, List.take_zero, List.drop_succ_cons, List.drop_zero]
     repeat (go_big_quiet_step (fail))
     refine wpQuiet_nil ?_
     rintro _ ⟨nq, rfl⟩
     go_wp2
     go_roundw
     case rel =>
      have hp : x ||| ((1 &&& r).setWidth 64 <<< (2 ^ j - 1)) = rcPart i (j + 1) := by rw [HX.out.1, HX.out.2]; rfl
      refine ⟨j + 1, by omega, by go_num, ?_, ?_⟩
      ·have hw : bits .xor .u8 (v8 r * 2 % 256) (bits .and .u8 113 (-(v8 r / 128) % 256)) = v8 (rcStep r) := by unfold rcStep; rw [vshr8_7, vneg8, vand8_113, vshl8_1, vxor8]; rfl
       rw [hw, HX.out.1]
       rfl
      ·rw [rcVal x r j hlj, hp]
       have st := (s.drewN nq).store (i := i) (by rw [u64s_len, List.length_set, HT.out.1]; exact hlt) (.int .u64 (v64 (rcPart i (j + 1)))) (q := i) (by simp)
       rw [u64s_set, List.set_set] at st
       exact st
     case measure => simp [intOf]; omega
    ·obtain rfl : j = 7 := by omega
     go_wp2_with fail
     go_roundw
     case rel => exact ⟨i + 1, by omega, by go_num, by rw [show 7 * (i + 1) = 7 * i + 7 by omega], by rw [← rcTo_set, ← HT.out.2]; exact s⟩
     case measure => simp [intOf]; omega
  ·obtain rfl : i = 24 := by omega
   obtain ⟨R, hR⟩ : ∃ R, R = rcAll := ⟨_, rfl⟩
   have hRl : R.length = 24 := by rw [hR]; exact rcTo_len 24
   have s6 : Sat W0 wr (seg true go 0 (u64s R) :: seg true gr 0 (u64s lane24) :: L) := by rw [hR]; exact s
   have s5 : Sat W0 wr (seg true gr 0 (u64s lane24) :: seg true go 0 (u64s R) :: L) := s6.pull 1
   have ht : ((u64s R).drop 0).take 24 = u64s R := by rw [List.drop_zero]; exact List.take_of_length_le (by rw [u64s_len]; omega)
   have HR := Lib.hid (And.intro hRl (And.intro ht hR)); clear hRl ht hR s
   go_wp2_with (first | (refine wpl_load_agg rfl 280 (.tmp 1) rfl Tryz.underlying280 rfl Tryz.size_k24 s6 0 0 rfl rfl (by rw [u64s_len, HR.out.1]; exact Nat.le_refl _) ?_; rw [HR.out.2.1]) | (refine wpl_store_agg rfl rfl 280 (.tmp 0) (.tmp 32) rfl (cs := u64s R) s5 0 0 (by rw [u64s_len, HR.out.1]; exact Tryz.size_k24) rfl (by rfl) rfl (by rw [u64s_len, u64s_len, HR.out.1, lane24_len]; decide) (u64s_one _) ?_; intro w7 s7; rw [setL_all _ _ (by rw [u64s_len, u64s_len, HR.out.1, lane24_len])] at s7))
   refine bodyPost_ret (v := .agg (u64s R).toArray) ?_ rfl ⟨by rw [HR.out.2.2], (s7.drop 0).drop 0⟩
   have hr := run_ret64 Tryz.underlying280 Tryz.size_k24 s7 HR.out.1
   simp [results, Tryz.results203, asAddr]; exact hr
end Go.Proofs.YtbefjaodpbgpcaaGreat
