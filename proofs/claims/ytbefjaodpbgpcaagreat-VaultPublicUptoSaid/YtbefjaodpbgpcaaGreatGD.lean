/- Sha512, Sha512b: texts that lie apart elsewhere, as one; each under the conditions that it names. -/
import Derived.Test.YtbefjaodpbgpcaaGreatGA
import Derived.Test.YtbefjaodpbgpcaaGreatGB
set_option linter.unusedVariables false
set_option linter.unusedSimpArgs false
set_option maxRecDepth 100000
set_option maxHeartbeats 16000000

/- Layer 6's program: its constants and its word laws; each under the conditions that it names. -/
namespace Go.Proofs.YtbefjaodpbgpcaaGreat
open Go.RowKit Go.Sep Go.Bv Go.Sha
theorem Tryz.size_a80u64 : (Tryz.prog.info? 290).map (·.size) = some 80 := by kernel_rfl
theorem Tryz.size_a8u64 : (Tryz.prog.info? 262).map (·.size) = some 8 := by kernel_rfl
theorem u64s_one (xs : List (BitVec 64)) : ∀ u ∈ u64s xs, u.oneCell' = true := by
 intro u hu
 simp only [u64s, List.mem_map] at hu
 obtain ⟨b, _, rfl⟩ := hu
 rfl
theorem K512_len' : K512.length = 80 := by rfl
theorem H512_len' : H512.length = 8 := by rfl
def zero80 : List (BitVec 64) := List.replicate 80 0
theorem zero80_len : zero80.length = 80 := rfl
def zero8 : List (BitVec 64) := List.replicate 8 0
theorem zero8_len : zero8.length = 8 := rfl
theorem zero_a80u64 (w : World) : (zeroValue 290).run Tryz.prog w = .ok (.agg (u64s zero80).toArray) w := by kernel_rfl
theorem zero_a8u64 (w : World) : (zeroValue 262).run Tryz.prog w = .ok (.agg (u64s zero8).toArray) w := by kernel_rfl
theorem right64i (w : World) (x : BitVec 64) (k : Int) (h1 : 1 ≤ k) (h2 : k ≤ 63) : Calls Tryz.prog 212 #[.int .u64 (v64 x), .int .i64 k] w fun e w' => e = .returned (.int .u64 (v64 (rotr x k.toNat))) ∧ ∃ n, w' = w.drewN n := by
 obtain ⟨n, rfl⟩ : ∃ n : Nat, k = n := ⟨k.toNat, by omega⟩
 rw [Int.toNat_natCast]
 exact right64 w x n (by omega) (by omega)
theorem vnot64 (x : BitVec 64) : bits .xor .u64 (if IntKind.u64.signed = true then -1 else IntKind.u64.max) (v64 x) = v64 (~~~x) := by
 rw [show (if IntKind.u64.signed = true then (-1 : Int) else IntKind.u64.max) = v64 (BitVec.allOnes 64) from rfl, vxor64, BitVec.allOnes_xor]
theorem wpl_build {P : Program} {ops : Array Oper} {Q : Exit → Act → World → Prop} {o : Oper} {rest : List Oper} {a : Act} {w : World} (hgd : o.guard = none) (ty : TypeId) {parts : Array (Nat × Operand)} (ho : o.op = .build ty parts) (v : Value)
  (hb : (Instr.build ty (parts.map fun (i, x) => (i, a.eval x))).run P w = .ok v w) (h : wpList P ops Q rest (a.put o.dst v) w) : wpList P ops Q (o :: rest) a w := by
 refine wpList_plain hgd fun _ hK => ?_
 unfold Oper.wp execOp
 simp only [ho, hb, Sem.run_bind, Sem.run_pure, Result.andThen_ok]
 exact hK _ _ h
theorem keys512 {W0 w : World} {L : List Assn} (hs : Sat W0 w L) : Calls Tryz.prog 213 #[] w fun e w' => e = .returned (.agg (u64s K512).toArray) ∧ Sat W0 w' L := by
 go_enter Tryz.func213, Tryz.ntmps213
 go_wp2_with (first | (refine wpl_build rfl 290 rfl (.agg (u64s K512).toArray) (by kernel_rfl) ?_) | (refine wpl_alloc_agg rfl 290 rfl hs _ (zero_a80u64 _) ?_; intro w1 g s1 _) | (refine wpl_store_agg rfl rfl 290 (.tmp 0) (.tmp 1) rfl (cs := u64s K512) s1 0 0 Tryz.size_a80u64 rfl (by rfl) rfl (by rw [u64s_len, u64s_len, K512_len', zero80_len]; decide) (u64s_one _) ?_; intro w2 s2))
 rw [setL_all _ _ (by rw [u64s_len, u64s_len, K512_len', zero80_len])] at s2
 refine bodyPost_ret (v := .agg (u64s K512).toArray) ?_ rfl ⟨rfl, s2.tail⟩
 have hr := run_loadVar_agg (P := Tryz.prog) (ty := 290) Tryz.underlying290 rfl Tryz.size_a80u64 s2 0 0 rfl (by simp [u64s_len, K512_len'])
 rw [List.drop_zero, List.take_of_length_le (by simp [u64s_len, K512_len'])] at hr
 simp [results, Tryz.results213, asAddr]
 exact hr
theorem first512 {W0 w : World} {L : List Assn} (hs : Sat W0 w L) : Calls Tryz.prog 184 #[] w fun e w' => e = .returned (.agg (u64s H512).toArray) ∧ Sat W0 w' L := by
 go_enter Tryz.func184, Tryz.ntmps184
 go_wp2_with (first | (refine wpl_alloc_agg rfl 262 rfl hs _ (zero_a8u64 _) ?_; intro w1 g s1 _) | (refine wpl_store_agg rfl rfl 262 (.tmp 0) (.tmp 1) rfl (cs := u64s H512) s1 0 0 Tryz.size_a8u64 rfl (by rfl) rfl (by rw [u64s_len, u64s_len, H512_len', zero8_len]; decide) (u64s_one _) ?_; intro w2 s2))
 rw [setL_all _ _ (by rw [u64s_len, u64s_len, H512_len', zero8_len])] at s2
 refine bodyPost_ret (v := .agg (u64s H512).toArray) ?_ rfl ⟨rfl, s2.tail⟩
 have hr := run_loadVar_agg (P := Tryz.prog) (ty := 262) Tryz.underlying262 rfl Tryz.size_a8u64 s2 0 0 rfl (by simp [u64s_len, H512_len'])
 rw [List.drop_zero, List.take_of_length_le (by simp [u64s_len, H512_len'])] at hr
 simp [results, Tryz.results184, asAddr, hr]
end Go.Proofs.YtbefjaodpbgpcaaGreat

/- Layer 6's program works a block into the words; under the conditions that it names. -/
namespace Go.Proofs.YtbefjaodpbgpcaaGreat
open Go.RowKit Go.Sep Go.Bv Go.Sha
theorem wpl_box {P : Program} {W0 w : World} {L : List Assn} {ops : Array Oper} {Q : Exit → Act → World → Prop} {o : Oper} {rest : List Oper} {a : Act} (hgd : o.guard = none) (ty : TypeId) (x : Operand) (ho : o.op = .box ty x) (cs : List Value) (hx : a.eval x = .agg cs.toArray) (hs : Sat W0 w L)
  (h : ∀ w' g, Sat W0 w' (seg true g 0 cs :: L) → g < w'.heap.size → wpList P ops Q rest (a.put o.dst (.pointer (some ⟨g, 0, none⟩))) w') : wpList P ops Q (o :: rest) a w := by
 refine wpList_plain hgd fun _ hK => ?_
 unfold Oper.wp execOp
 have := h (w.alloc (.cells cs.toArray ty)) w.heap.size (by have := hs.alloc cs.toArray ty; simpa using this) (by simp)
 simp [ho, hx, Instr.box, newVar, newRow, Value.cells, Sem.run_bind]
 exact hK _ _ this
theorem vshr64_6 (x : BitVec 64) : v64 x / (64 : Int) = v64 (x >>> 6) := vshr64 x 6
theorem vshr64_7 (x : BitVec 64) : v64 x / (128 : Int) = v64 (x >>> 7) := vshr64 x 7
theorem ys6 (p x : BitVec 64) : bits .xor .u64 (v64 p) (v64 x / (64 : Int)) = v64 (p ^^^ x >>> 6) := by rw [vshr64_6, vxor64]
theorem ys7 (p x : BitVec 64) : bits .xor .u64 (v64 p) (v64 x / (128 : Int)) = v64 (p ^^^ x >>> 7) := by rw [vshr64_7, vxor64]
def wk (blk : List Byte) (i : Nat) : List (BitVec 64) := if i ≤ 16 then (wordsOf 64 8 blk).take i else sched T512 (wordsOf 64 8 blk) (i - 16)
theorem wk_len (blk : List Byte) (i : Nat) : (wk blk i).length = i := by
 unfold wk; split
 ·rw [List.length_take, wordsOf_len]; omega
 ·rw [sched_len, wordsOf_len]; omega
theorem wk_lo (blk : List Byte) (i : Nat) (h : i < 16) : wk blk (i + 1) = wk blk i ++ [takeBE 64 ((blk.drop (8 * i)).take 8)] := by
 unfold wk
 rw [if_pos (by omega), if_pos (by omega), List.take_succ_eq_append_getElem (by rw [wordsOf_len]; exact h)]
 simp [wordsOf]
theorem wk_hi (blk : List Byte) (i : Nat) (h : 16 ≤ i) : wk blk i = sched T512 (wordsOf 64 8 blk) (i - 16) := by
 unfold wk; split
 ·obtain rfl : i = 16 := by omega
  rw [List.take_of_length_le (by rw [wordsOf_len]; exact Nat.le_refl _)]; rfl
 ·rfl
theorem wk_ext (blk : List Byte) (i : Nat) (h : 16 ≤ i) : wk blk (i + 1) = wk blk i ++ [sml T512.s1 ((wk blk i).getD (i - 2) 0) + (wk blk i).getD (i - 7) 0 + sml T512.s0 ((wk blk i).getD (i - 15) 0) + (wk blk i).getD (i - 16) 0] := by
 have hl := wk_len blk i
 rw [wk_hi blk (i + 1) (by omega), show i + 1 - 16 = (i - 16) + 1 by omega, sched, ← wk_hi blk i h, ext, hl]
theorem wpad64 (W : List (BitVec 64)) (x : BitVec 64) (i n : Nat) (h : W.length = i) (hn : i < n) : (W ++ List.replicate (n - i) 0).set i x = (W ++ [x]) ++ List.replicate (n - (i + 1)) 0 := by
 subst h
 rw [List.set_append_right _ _ (Nat.le_refl _), Nat.sub_self, show n - W.length = (n - (W.length + 1)) + 1 by omega, List.replicate_succ]
 simp
def upd64 (h s : List (BitVec 64)) (i : Nat) : List (BitVec 64) := (List.range 8).map fun j => if j < i then h.getD j 0 + s.getD j 0 else h.getD j 0
theorem upd64_set (h s : List (BitVec 64)) (i : Nat) (hi : i < 8) : (upd64 h s i).set i (h.getD i 0 + s.getD i 0) = upd64 h s (i + 1) := by
 apply List.ext_getElem
 ·simp [upd64]
 ·intro j h1 h2
  simp only [upd64, List.getElem_set, List.getElem_map, List.getElem_range]
  by_cases e : i = j
  ·subst e; simp
  ·rw [if_neg e]
   by_cases h : j < i
   ·rw [if_pos h, if_pos (by omega)]
   ·rw [if_neg h, if_neg (by omega)]
theorem vnot64m (x : BitVec 64) : bits .xor .u64 IntKind.u64.max (v64 x) = v64 (~~~x) := vnot64 x
theorem upd64_len (h s : List (BitVec 64)) (i : Nat) : (upd64 h s i).length = 8 := by simp [upd64]
theorem upd64_get (h s : List (BitVec 64)) (i : Nat) (hi : i < 8) : (upd64 h s i).getD i 0 = h.getD i 0 := by simp [upd64, hi]
theorem compress512 {W0 w : World} {L : List Assn} (p : Option Nat) (rs : List Run3) (h : List (BitVec 64)) (blk : List Byte) (hh : h.length = 8) (hw : blk.length = 128) (hb : tot rs + 1 ≤ 4611686018427387904) (hl : rs.length ≤ 4294967296)
  (hs : Sat W0 w (ledO p rs :: L)) :
  Calls Tryz.prog 201 #[ptrO p, .agg (u64s h).toArray, .agg (u8s blk).toArray] w fun e w' => e = .returned (.agg (u64s (comp512 h blk)).toArray) ∧ Sat W0 w' (ledO p (note rs 2 128 1) :: L) := by
 have HB := Lib.hid (And.intro hb (And.intro hl (And.intro hh hw))); clear hb hl hh hw
 go_enter Tryz.func201, Tryz.ntmps201
 go_wp2_with (first | (refine wpl_box rfl 262 (.tmp 1) rfl (u64s h) rfl hs ?_; intro w1 gh s1 _; clear hs) | (refine wpl_box rfl 264 (.tmp 2) rfl (u8s blk) rfl s1 ?_; intro w2 gb s2 _; clear s1) | (refine wpl_alloc_agg rfl 262 rfl s2 _ (zero_a8u64 _) ?_; intro w3 gr s3 _; clear s2))
 refine (noteOne p rs 2 128 (s3.pull 3) HB.out.1 HB.out.2.1).mono ?_
 rintro e w4 ⟨rfl, s4⟩
 clear s3
 go_wp2_with (refine wpl_alloc_agg rfl 290 rfl s4 _ (zero_a80u64 _) ?_; intro w5 gw s5 _; clear s4)
 have s6 : Sat W0 w5 (ledO p (note rs 2 128 1) :: seg true gr 0 (u64s zero8) :: seg true gb 0 (u8s blk) :: seg true gh 0 (u64s h) :: seg true gw 0 (u64s zero80) :: L) := s5.pick [1, 2, 3, 4, 0]
 clear s5
 go_loopw [22] (fun t22 wr => ∃ i : Nat, i ≤ 80 ∧ t22 = .int .i64 i ∧ Sat W0 wr (ledO p (note rs 2 128 1) :: seg true gr 0 (u64s zero8) :: seg true gb 0 (u8s blk) :: seg true gh 0 (u64s h) :: seg true gw 0 (u64s (wk blk i ++ List.replicate (80 - i) 0)) :: L)) (fun t22 _ => 80 - (intOf t22).toNat)
 case atStart => exact ⟨0, by omega, rfl, s6⟩
 case round =>
  clear s6
  obtain ⟨t, ht, rfl, s⟩ := hrel
  have hlen := wk_len blk t
  by_cases hlt : t < 80
  ·have hvl : (wk blk t ++ List.replicate (80 - t) 0).length = 80 := by simp [hlen]; omega
   have sv : Sat W0 _ (seg true gw 0 (u64s (wk blk t ++ List.replicate (80 - t) 0)) :: _) := s.pull 4
   obtain ⟨xt, hxt⟩ : ∃ x, x = (wk blk t ++ List.replicate (80 - t) 0).getD t 0 := ⟨_, rfl⟩
   have ct := sv.at t (u64s_get _ t (by omega))
   have ft := sv.fr t (by rw [u64s_len]; omega)
   rw [← hxt] at ct
   clear hxt
   have Hv := Lib.hid (And.intro hlen hvl)
   by_cases h16 : t < 16
   ·have hk := take64 (m := true) (b := gb) (o := 0) (len := 128) (cap := 128) (bs := blk) (8 * t) (s.pull 2) HB.out.2.2.2 (by omega) (by omega)
    rw [show ((8 * t : Nat) : Int) = 8 * (t : Int) by omega] at hk
    clear hlen hvl
    go_wp2_with fail
    refine hk.mono ?_
    rintro e w6 ⟨rfl, rfl⟩
    go_wp2
    go_roundw
    case rel =>
     refine ⟨t + 1, by omega, by go_num, ?_⟩
     have st := (sv.store (i := t) (by rw [u64s_len, Hv.out.2]; omega) (.int .u64 (v64 (takeBE 64 ((blk.drop (8 * t)).take 8)))) (q := t) (by simp)).pick [1, 2, 3, 4, 0]
     rw [u64s_set, wpad64 _ _ t 80 Hv.out.1 hlt, ← wk_lo blk t h16] at st
     exact st
    case measure => simp [intOf]; omega
   ·have cell : ∀ j, 1 ≤ j → j ≤ 16 → World.cell? _ ⟨gw, t - j, none⟩ = some (.int .u64 (v64 ((wk blk t).getD (t - j) 0))) := fun j h1 h2 =>
      sv.at (t - j) (u64s_at (by rw [List.getElem?_append_left (by omega)]; simp; rw [List.getElem?_eq_getElem (by omega)]; simp))
    obtain ⟨j15, hj15⟩ : ∃ j, j = t - 15 := ⟨_, rfl⟩
    obtain ⟨j2, hj2⟩ : ∃ j, j = t - 2 := ⟨_, rfl⟩
    obtain ⟨j7, hj7⟩ : ∃ j, j = t - 7 := ⟨_, rfl⟩
    obtain ⟨j16, hj16⟩ : ∃ j, j = t - 16 := ⟨_, rfl⟩
    have c15 := cell 15 (by omega) (by omega)
    have c2 := cell 2 (by omega) (by omega)
    have c7 := cell 7 (by omega) (by omega)
    have c16 := cell 16 (by omega) (by omega)
    have e15 : IntKind.i64.wrap ((t : Int) - 15) = (j15 : Int) := by rw [IntKind.wrap_i64]; omega
    have e2 : IntKind.i64.wrap ((t : Int) - 2) = (j2 : Int) := by rw [IntKind.wrap_i64]; omega
    have e7 : IntKind.i64.wrap ((t : Int) - 7) = (j7 : Int) := by rw [IntKind.wrap_i64]; omega
    have e16 : IntKind.i64.wrap ((t : Int) - 16) = (j16 : Int) := by rw [IntKind.wrap_i64]; omega
    have l15 : j15 < 80 := by omega
    have l2 : j2 < 80 := by omega
    have l7 : j7 < 80 := by omega
    have l16 : j16 < 80 := by omega
    rw [← hj15] at c15
    rw [← hj2] at c2
    rw [← hj7] at c7
    rw [← hj16] at c16
    obtain ⟨x15, hx15⟩ : ∃ x, x = (wk blk t).getD j15 0 := ⟨_, rfl⟩
    obtain ⟨x2, hx2⟩ : ∃ x, x = (wk blk t).getD j2 0 := ⟨_, rfl⟩
    obtain ⟨x7, hx7⟩ : ∃ x, x = (wk blk t).getD j7 0 := ⟨_, rfl⟩
    obtain ⟨x16, hx16⟩ : ∃ x, x = (wk blk t).getD j16 0 := ⟨_, rfl⟩
    rw [← hx15] at c15
    rw [← hx2] at c2
    rw [← hx7] at c7
    rw [← hx16] at c16
    have HX := Lib.hid (And.intro hj15 (And.intro hj2 (And.intro hj7 (And.intro hj16 (And.intro hx15 (And.intro hx2 (And.intro hx7 hx16))))))); clear hj15 hj2 hj7 hj16 hx15 hx2 hx7 hx16 hlen hvl cell
    go_wp2_with fail
    go_quiet (fail)
    go_wp2_with fail
    refine wp_region_quiet_tail_lit 28 (by kernel_rfl) (by kernel_rfl) ?_
    simp only [List.take_succ_cons, List.take_zero, List.drop_succ_cons, List.drop_zero]
    repeat (go_big_quiet_step ((go_at_call 212; exact quietAdd (right64i _ _ _ (by omega) (by omega)))))
    refine wpQuiet_nil ?_
    rintro _ ⟨nq, rfl⟩
    all_goals
     go_wp2
     go_roundw
     case rel =>
      have hv := Hv.out
      obtain ⟨hj15, hj2, hj7, hj16, hx15, hx2, hx7, hx16⟩ := HX.out
      refine ⟨t + 1, by omega, by go_num, ?_⟩
      have hE : IntKind.u64.wrap (IntKind.u64.wrap (IntKind.u64.wrap (bits .xor .u64 (bits .xor .u64 (v64 (rotr x2 19)) (v64 (rotr x2 61))) (v64 x2 / (64 : Int)) + v64 x7) + bits .xor .u64 (bits .xor .u64 (v64 (rotr x15 1)) (v64 (rotr x15 8))) (v64 x15 / (128 : Int))) + v64 x16) = v64 (sml T512.s1 x2 + x7 + sml T512.s0 x15 + x16) := by
       rw [vxor64, vxor64, ys6, ys7, vadd64w, vadd64w, vadd64w]; rfl
      have st := (sv.store (i := t) (by rw [u64s_len, hv.2]; omega) (.int .u64 (v64 (sml T512.s1 x2 + x7 + sml T512.s0 x15 + x16))) (q := t) (by simp)).pick [1, 2, 3, 4, 0]
      rw [u64s_set, wpad64 _ _ t 80 hv.1 hlt, ← hE] at st
      rw [wk_ext blk t (by omega), ← hj15, ← hj2, ← hj7, ← hj16, ← hx15, ← hx2, ← hx7, ← hx16]
      exact st.drewN _
     case measure => simp [intOf]; omega
  ·obtain rfl : t = 80 := by omega
   obtain ⟨W, hW⟩ : ∃ W, W = sched T512 (wordsOf 64 8 blk) 64 := ⟨_, rfl⟩
   have hwk : wk blk 80 = W := by rw [wk_hi blk 80 (by omega), hW]
   rw [hwk] at s hlen
   have s : Sat W0 _ (ledO p (note rs 2 128 1) :: seg true gr 0 (u64s zero8) :: seg true gb 0 (u8s blk) :: seg true gh 0 (u64s h) :: seg true gw 0 (u64s W) :: L) := s.to (by simp)
   have HW := Lib.hid (And.intro hW hlen); clear hW hwk hlen
   have hz8 : 0 + (u64s h).length ≤ (u64s zero8).length := by rw [u64s_len, u64s_len, HB.out.2.2.1, zero8_len]; decide
   have hsz8 : (Tryz.prog.info? 262).map (·.size) = some (u64s h).length := by rw [u64s_len, HB.out.2.2.1]; exact Tryz.size_a8u64
   have ht8 : (u64s h).take 8 = u64s h := List.take_of_length_le (by rw [u64s_len, HB.out.2.2.1]; exact Nat.le_refl _)
   have HZ := Lib.hid (And.intro hz8 (And.intro hsz8 ht8)); clear hz8 hsz8 ht8
   have sh : Sat W0 _ (seg true gh 0 (u64s h) :: _) := s.pull 3
   go_wp2_with (first | (refine wpl_load_agg rfl 262 (.tmp 4) rfl Tryz.underlying262 rfl (n := 8) (by kernel_rfl) sh 0 0 rfl rfl (by rw [u64s_len, HB.out.2.2.1]; exact Nat.le_refl _) ?_) | (refine wpl_alloc_agg rfl 262 rfl sh _ (zero_a8u64 _) ?_; intro w7 gv s7 _; clear sh) | (refine wpl_store_agg rfl rfl 262 (.tmp 11) (.tmp 71) rfl (cs := u64s h) s7 0 0 HZ.out.2.1 rfl (show Value.agg (List.take 8 (u64s h)).toArray = Value.agg (u64s h).toArray by rw [HZ.out.2.2]) rfl HZ.out.1 (u64s_one _) ?_; intro w8 s8; clear s7))
   rw [setL_all _ _ (by rw [u64s_len, u64s_len, HB.out.2.2.1, zero8_len])] at s8
   refine (keys512 s8).mono ?_
   rintro e w9 ⟨rfl, s9⟩
   have s10 : Sat W0 w9 (ledO p (note rs 2 128 1) :: seg true gr 0 (u64s zero8) :: seg true gb 0 (u8s blk) :: seg true gh 0 (u64s h) :: seg true gw 0 (u64s W) :: seg true gv 0 (u64s h) :: L) := s9.pick [2, 3, 4, 1, 5, 0]
   obtain ⟨h0, h1, h2, h3, h4, h5, h6, h7, rfl⟩ : ∃ h0 h1 h2 h3 h4 h5 h6 h7, h = [h0, h1, h2, h3, h4, h5, h6, h7] := by
    match h, HB.out.2.2.1 with
    | [h0, h1, h2, h3, h4, h5, h6, h7], _ => exact ⟨_, _, _, _, _, _, _, _, rfl⟩
   clear s8 s9 s
   have hix := fun (j : Nat) (hj : j < 80) (w : World) => run_index_list (P := Tryz.prog) (t := 290) (e := 261) Tryz.underlying290 (by kernel_rfl) (fun w => by simp [go_sem]) (u64s K512) (by rw [u64s_len, K512_len']) j hj w
   go_wp2_with fail
   go_loopw [73] (fun t73 wq => ∃ (i : Nat) (a b' c d e f g' h' : BitVec 64), i ≤ 80 ∧ t73 = .int .i64 (i : Int) ∧ rounds T512 K512 W (h0, h1, h2, h3, h4, h5, h6, h7) i = (a, b', c, d, e, f, g', h') ∧ Sat W0 wq (ledO p (note rs 2 128 1) :: seg true gr 0 (u64s zero8) :: seg true gb 0 (u8s blk) :: seg true gh 0 (u64s [h0, h1, h2, h3, h4, h5, h6, h7]) :: seg true gw 0 (u64s W) :: seg true gv 0 (u64s [a, b', c, d, e, f, g', h']) :: L)) (fun t73 _ => 80 - (intOf t73).toNat)
   case atStart => exact ⟨0, h0, h1, h2, h3, h4, h5, h6, h7, by omega, rfl, rfl, s10⟩
   case round =>
    clear s10
    obtain ⟨i, a, b', c, d, e, f, g', h', hi, rfl, hR, s⟩ := hrel
    by_cases hlt2 : i < 80
    ·have sw : Sat W0 _ (seg true gw 0 (u64s W) :: _) := s.pull 4
     have sv : Sat W0 _ (seg true gv 0 (u64s [a, b', c, d, e, f, g', h']) :: _) := s.pull 5
     have cw := sw.at i (u64s_get W i (by rw [HW.out.2]; exact hlt2))
     have hi1 := fun w => hix i hlt2 w
     have hgd : (u64s K512).getD i undef = .int .u64 (v64 (K512.getD i 0)) := by
      rw [List.getD_eq_getElem?_getD, u64s_get K512 i (by rw [K512_len']; exact hlt2)]; rfl
     rw [hgd] at hi1
     obtain ⟨xk, hxk⟩ : ∃ x, x = K512.getD i 0 := ⟨_, rfl⟩
     obtain ⟨xw, hxw⟩ : ∃ x, x = W.getD i 0 := ⟨_, rfl⟩
     rw [← hxk] at hi1
     rw [← hxw] at cw
     have HX := Lib.hid (And.intro hxk (And.intro hxw hR)); clear hxk hxw hR hgd hix
     have d0 := sv.at 0 rfl
     have d1 := sv.at 1 rfl
     have d2 := sv.at 2 rfl
     have d3 := sv.at 3 rfl
     have d4 := sv.at 4 rfl
     have d5 := sv.at 5 rfl
     have d6 := sv.at 6 rfl
     have d7 := sv.at 7 rfl
     have f0 := sv.fr 0 (by rw [u64s_len]; simp)
     have f1 := sv.fr 1 (by rw [u64s_len]; simp)
     have f2 := sv.fr 2 (by rw [u64s_len]; simp)
     have f3 := sv.fr 3 (by rw [u64s_len]; simp)
     have f4 := sv.fr 4 (by rw [u64s_len]; simp)
     have f5 := sv.fr 5 (by rw [u64s_len]; simp)
     have f6 := sv.fr 6 (by rw [u64s_len]; simp)
     have f7 := sv.fr 7 (by rw [u64s_len]; simp)
     go_wp2_with fail
     go_quiet (fail)
     go_wp2_with fail
     go_quiet ((go_at_call 212; exact quietAdd (right64i _ _ _ (by omega) (by omega))))
     go_wp2_with fail
     go_quiet ((go_at_call 212; exact quietAdd (right64i _ _ _ (by omega) (by omega))))
     go_wp2_with fail
     go_roundw
     case rel =>
      obtain ⟨hxk, hxw, hR⟩ := HX.out
      simp only [vnot64m, vand64, vxor64, vadd64w]
      refine ⟨i + 1, p1 T512 xk xw e f g' h' + q1 T512 a b' c, a, b', c, d + p1 T512 xk xw e f g' h', e, f, g', by omega, by go_num, ?_, ?_⟩
      ·rw [rounds, hR, ← hxk, ← hxw]; rfl
      ·have st := fun n => ((((((((sv.drewN n).store (i := 7) (by rw [u64s_len]; simp) (.int .u64 (v64 g')) (q := 7) rfl).store (i := 6) (by simp [u64s_len]) (.int .u64 (v64 f)) (q := 6) rfl).store (i := 5) (by simp [u64s_len]) (.int .u64 (v64 e)) (q := 5) rfl).store (i := 4) (by simp [u64s_len]) (.int .u64 (v64 (d + p1 T512 xk xw e f g' h'))) (q := 4) rfl).store (i := 3) (by simp [u64s_len]) (.int .u64 (v64 c)) (q := 3) rfl).store (i := 2) (by simp [u64s_len]) (.int .u64 (v64 b')) (q := 2) rfl).store (i := 1) (by simp [u64s_len]) (.int .u64 (v64 a)) (q := 1) rfl).store (i := 0) (by simp [u64s_len]) (.int .u64 (v64 (p1 T512 xk xw e f g' h' + q1 T512 a b' c))) (q := 0) rfl
       exact (st _).pick [1, 2, 3, 4, 5, 0]
     case measure => simp [intOf]; omega
    ·obtain rfl : i = 80 := by omega
     obtain ⟨S, hS⟩ : ∃ S, S = [a, b', c, d, e, f, g', h'] := ⟨_, rfl⟩
     have hSl : S.length = 8 := by rw [hS]; rfl
     rw [← hS] at s
     have hfin : upd64 [h0, h1, h2, h3, h4, h5, h6, h7] S 8 = comp512 [h0, h1, h2, h3, h4, h5, h6, h7] blk := by
      unfold comp512 comp
      rw [← HW.out.1]
      show _ = List.zipWith (· + ·) _ (listOf (rounds T512 K512 W (h0, h1, h2, h3, h4, h5, h6, h7) 80))
      rw [hR, hS]
      rfl
     have HF := Lib.hid (And.intro hfin hSl); clear hfin hSl hS hR hix
     go_wp2_with fail
     go_loopw [161] (fun t161 wq => ∃ i : Nat, i ≤ 8 ∧ t161 = .int .i64 (i : Int) ∧ Sat W0 wq (ledO p (note rs 2 128 1) :: seg true gr 0 (u64s zero8) :: seg true gb 0 (u8s blk) :: seg true gh 0 (u64s (upd64 [h0, h1, h2, h3, h4, h5, h6, h7] S i)) :: seg true gw 0 (u64s W) :: seg true gv 0 (u64s S) :: L)) (fun t161 _ => 8 - (intOf t161).toNat)
     case atStart => exact ⟨0, by omega, rfl, s⟩
     case round =>
      clear s
      obtain ⟨i, hi, rfl, s⟩ := hrel
      by_cases hlt3 : i < 8
      ·have sh : Sat W0 _ (seg true gh 0 (u64s (upd64 [h0, h1, h2, h3, h4, h5, h6, h7] S i)) :: _) := s.pull 3
       have sv : Sat W0 _ (seg true gv 0 (u64s S) :: _) := s.pull 5
       have ch := sh.at i (u64s_get _ i (by rw [upd64_len]; exact hlt3))
       rw [upd64_get _ _ _ hlt3] at ch
       have fh := sh.fr i (by rw [u64s_len, upd64_len]; exact hlt3)
       have cv := sv.at i (u64s_get S i (by rw [HF.out.2]; exact hlt3))
       obtain ⟨xh, hxh⟩ : ∃ x, x = [h0, h1, h2, h3, h4, h5, h6, h7].getD i 0 := ⟨_, rfl⟩
       obtain ⟨xs, hxs⟩ : ∃ x, x = S.getD i 0 := ⟨_, rfl⟩
       rw [← hxh] at ch
       rw [← hxs] at cv
       have HX := Lib.hid (And.intro hxh hxs); clear hxh hxs
       go_wp2_with fail
       refine wp_region_quiet_tail_lit 7 (by kernel_rfl) (by kernel_rfl) ?_
       simp only [List.take_succ_cons, List.take_zero, List.drop_succ_cons, List.drop_zero]
       repeat (go_big_quiet_step (fail))
       refine wpQuiet_nil ?_
       rintro _ ⟨nq, rfl⟩
       go_wp2
       go_roundw
       case rel =>
        obtain ⟨hxh, hxs⟩ := HX.out
        simp only [vadd64w]
        refine ⟨i + 1, by omega, by go_num, ?_⟩
        have st := fun n => ((sh.drewN n).store (i := i) (by rw [u64s_len, upd64_len]; exact hlt3) (.int .u64 (v64 (xh + xs))) (q := i) (by simp)).pick [1, 2, 3, 0, 4, 5]
        rw [u64s_set, hxh, hxs, upd64_set _ _ _ hlt3, ← hxh, ← hxs] at st
        exact st _
       case measure => simp [intOf]; omega
      ·obtain rfl : i = 8 := by omega
       rw [HF.out.1] at s
       obtain ⟨R, hR⟩ : ∃ R, R = comp512 [h0, h1, h2, h3, h4, h5, h6, h7] blk := ⟨_, rfl⟩
       have hRl : R.length = 8 := by rw [hR]; exact comp_len _ _ _ _ _ _ rfl
       rw [← hR] at s
       have sh : Sat W0 _ (seg true gh 0 (u64s R) :: _) := s.pull 3
       have sr : Sat W0 _ (seg true gr 0 (u64s zero8) :: _) := s.pull 1
       have hz8 : 0 + (u64s R).length ≤ (u64s zero8).length := by rw [u64s_len, u64s_len, hRl, zero8_len]; decide
       have hsz8 : (Tryz.prog.info? 262).map (·.size) = some (u64s R).length := by rw [u64s_len, hRl]; exact Tryz.size_a8u64
       have ht8 : (u64s R).take 8 = u64s R := List.take_of_length_le (by rw [u64s_len, hRl]; exact Nat.le_refl _)
       have HR := Lib.hid (And.intro hR (And.intro hRl (And.intro hz8 (And.intro hsz8 ht8)))); clear hR hRl hz8 hsz8 ht8
       go_wp2_with (first | (refine wpl_load_agg rfl 262 (.tmp 4) rfl Tryz.underlying262 rfl (n := 8) (by kernel_rfl) sh 0 0 rfl rfl (by rw [u64s_len, HR.out.2.1]; exact Nat.le_refl _) ?_) | (refine wpl_store_agg rfl rfl 262 (.tmp 6) (.tmp 173) rfl (cs := u64s R) sr 0 0 HR.out.2.2.2.1 rfl (show Value.agg (List.take 8 (u64s R)).toArray = Value.agg (u64s R).toArray by rw [HR.out.2.2.2.2]) rfl HR.out.2.2.1 (u64s_one _) ?_; intro w12 s12))
       rw [setL_all _ _ (by rw [u64s_len, u64s_len, HR.out.2.1, zero8_len])] at s12
       refine bodyPost_ret (v := .agg (u64s R).toArray) ?_ rfl ⟨by rw [HR.out.1], ?_⟩
       ·have hr := run_loadVar_agg (P := Tryz.prog) (ty := 262) Tryz.underlying262 rfl Tryz.size_a8u64 s12 0 0 rfl (by simp [u64s_len, HR.out.2.1])
        rw [List.drop_zero, List.take_of_length_le (by simp [u64s_len, HR.out.2.1])] at hr
        simp [results, Tryz.results201, asAddr]; exact hr
       ·exact ((((s12.drop 2).drop 2).drop 2).drop 2).drop 0
end Go.Proofs.YtbefjaodpbgpcaaGreat
