/- Sha256, Sha256b: texts that lie apart elsewhere, as one; each under the conditions that it names. -/
import Derived.Test.YtbefjaodpbgpcaaGreatGA
set_option linter.unusedVariables false
set_option linter.unusedSimpArgs false
set_option maxRecDepth 100000
set_option maxHeartbeats 16000000

/- The contracts of layer 5's program: a block is worked into the words; each under the conditions that it names. -/
namespace Go.Proofs.YtbefjaodpbgpcaaGreat
open Go.RowKit Go.Sep Go.Bv Go.Sha
theorem Tryz.size_a64u32 : (Tryz.prog.info? 286).map (·.size) = some 64 := by kernel_rfl
theorem u32s_one (xs : List (BitVec 32)) : ∀ u ∈ u32s xs, u.oneCell' = true := by
 intro u hu
 simp only [u32s, List.mem_map] at hu
 obtain ⟨b, _, rfl⟩ := hu
 rfl
def zero64 : List (BitVec 32) := List.replicate 64 0
theorem zero64_len : zero64.length = 64 := rfl
theorem zero_a64u32 (w : World) : (zeroValue 286).run Tryz.prog w = .ok (.agg (u32s zero64).toArray) w := by kernel_rfl
theorem right32i (w : World) (x : BitVec 32) (k : Int) (h1 : 1 ≤ k) (h2 : k ≤ 31) : Calls Tryz.prog 209 #[.int .u32 (v32 x), .int .i64 k] w fun e w' => e = .returned (.int .u32 (v32 (rotr x k.toNat))) ∧ ∃ n, w' = w.drewN n := by
 obtain ⟨n, rfl⟩ : ∃ n : Nat, k = n := ⟨k.toNat, by omega⟩
 rw [Int.toNat_natCast]
 exact right32 w x n (by omega) (by omega)
theorem quietAdd {P : Program} {f : FuncId} {args : Array Value} {w : World} {a n : Nat} {v : Value} (h : Calls P f args (w.drewN (a + n)) fun e w' => e = .returned v ∧ ∃ m, w' = (w.drewN (a + n)).drewN m) :
  Calls P f args (w.drewN (a + n)) fun e w'' => e = .returned v ∧ ∃ m, w'' = w.drewN (a + m) := by
 refine h.mono ?_
 rintro e w' ⟨he, m, rfl⟩
 exact ⟨he, n + m, by rw [World.drewN_drewN, Nat.add_assoc]⟩
theorem vshr32_3 (x : BitVec 32) : v32 x / (8 : Int) = v32 (x >>> 3) := vshr32 x 3
theorem vshr32_10 (x : BitVec 32) : v32 x / (1024 : Int) = v32 (x >>> 10) := vshr32 x 10
theorem sum32_4 (a b c d : BitVec 32) : (v32 a + v32 b + v32 c + v32 d) % 4294967296 = v32 (a + b + c + d) := by
 rw [← vadd32 (a + b + c) d, ← vadd32 (a + b) c, ← vadd32 a b]; omega
theorem xs3 (p x : BitVec 32) : bits .xor .u32 (v32 p) (v32 x / (8 : Int)) = v32 (p ^^^ x >>> 3) := by rw [vshr32_3, vxor32]
theorem xs10 (p x : BitVec 32) : bits .xor .u32 (v32 p) (v32 x / (1024 : Int)) = v32 (p ^^^ x >>> 10) := by rw [vshr32_10, vxor32]
theorem sum32_5 (a b c d e : BitVec 32) : (v32 a + v32 b + v32 c + v32 d + v32 e) % 4294967296 = v32 (a + b + c + d + e) := by
 rw [← vadd32 (a + b + c + d) e, ← vadd32 (a + b + c) d, ← vadd32 (a + b) c, ← vadd32 a b]; omega
theorem vnot32 (x : BitVec 32) : bits .xor .u32 (if IntKind.u32.signed = true then -1 else IntKind.u32.max) (v32 x) = v32 (~~~x) := by
 rw [show (if IntKind.u32.signed = true then (-1 : Int) else IntKind.u32.max) = v32 (BitVec.allOnes 32) from rfl, vxor32, BitVec.allOnes_xor]
def upd32 (h s : List (BitVec 32)) (i : Nat) : List (BitVec 32) := (List.range 8).map fun j => if j < i then h.getD j 0 + s.getD j 0 else h.getD j 0
theorem upd32_set (h s : List (BitVec 32)) (i : Nat) (hi : i < 8) : (upd32 h s i).set i (h.getD i 0 + s.getD i 0) = upd32 h s (i + 1) := by
 apply List.ext_getElem
 ·simp [upd32]
 ·intro j h1 h2
  simp only [upd32, List.getElem_set, List.getElem_map, List.getElem_range]
  by_cases e : i = j
  ·subst e; simp
  ·rw [if_neg e]
   by_cases h : j < i
   ·rw [if_pos h, if_pos (by omega)]
   ·rw [if_neg h, if_neg (by omega)]
theorem upd32_len (h s : List (BitVec 32)) (i : Nat) : (upd32 h s i).length = 8 := by simp [upd32]
theorem upd32_get (h s : List (BitVec 32)) (i : Nat) (hi : i < 8) : (upd32 h s i).getD i 0 = h.getD i 0 := by simp [upd32, hi]
theorem consts256 {W0 w : World} {L : List Assn} (hs : Sat W0 w L) : Calls Tryz.prog 207 #[] w fun e w' => e = .returned (.agg (u32s K256).toArray) ∧ Sat W0 w' L := by
 go_enter Tryz.func207, Tryz.ntmps207
 go_wp2_with (first | (refine wpl_alloc_agg rfl 286 rfl hs _ (zero_a64u32 _) ?_; intro w1 g s1 _) | (refine wpl_store_agg rfl rfl 286 (.tmp 0) (.tmp 1) rfl (cs := u32s K256) s1 0 0 Tryz.size_a64u32 rfl (by rfl) rfl (by rw [u32s_len, u32s_len, K256_len, zero64_len]; decide) (u32s_one _) ?_; intro w2 s2))
 rw [setL_all _ _ (by rw [u32s_len, u32s_len, K256_len, zero64_len])] at s2
 refine bodyPost_ret (v := .agg (u32s K256).toArray) ?_ rfl ⟨rfl, s2.tail⟩
 have hr := run_loadVar_agg (P := Tryz.prog) (ty := 286) Tryz.underlying286 rfl Tryz.size_a64u32 s2 0 0 rfl (by simp [u32s_len, K256_len])
 rw [List.drop_zero, List.take_of_length_le (by simp [u32s_len, K256_len])] at hr
 simp [results, Tryz.results207, asAddr, hr]
end Go.Proofs.YtbefjaodpbgpcaaGreat

/- Layer 5's program works a block into the words; under the conditions that it names. -/
namespace Go.Proofs.YtbefjaodpbgpcaaGreat
open Go.RowKit Go.Sep Go.Bv Go.Sha
abbrev st256 (b : Nat) (h : List (BitVec 32)) (n : Nat) (wait : List Byte) (L : List Assn) : List Assn :=
 seg true b 0 (u32s h) :: seg true b 8 [.int .i64 (n : Int)] :: seg true b 9 (u8s wait) :: seg true b 73 [.bool true] :: L
theorem wpad (W : List (BitVec 32)) (x : BitVec 32) (i n : Nat) (h : W.length = i) (hn : i < n) : (W ++ List.replicate (n - i) 0).set i x = (W ++ [x]) ++ List.replicate (n - (i + 1)) 0 := by
 subst h
 rw [List.set_append_right _ _ (Nat.le_refl _), Nat.sub_self, show n - W.length = (n - (W.length + 1)) + 1 by omega, List.replicate_succ]
 simp
theorem compress256 {W0 w : World} {L : List Assn} {b : Nat} (p : Option Nat) (rs : List Run3) (h : List (BitVec 32)) (n : Nat) (wait : List Byte) (hh : h.length = 8) (hw : wait.length = 64) (hb : tot rs + 1 ≤ 4611686018427387904) (hl : rs.length ≤ 4294967296)
  (hs : Sat W0 w (ledO p rs :: st256 b h n wait L)) :
  Calls Tryz.prog 196 #[.pointer (some ⟨b, 0, none⟩), ptrO p] w fun e w' => e = .returned (.tuple #[]) ∧ Sat W0 w' (ledO p (note rs 1 64 1) :: st256 b (comp256 h wait) n (List.replicate 64 0) L) := by
 obtain ⟨h0, h1, h2, h3, h4, h5, h6, h7, rfl⟩ : ∃ h0 h1 h2 h3 h4 h5 h6 h7, h = [h0, h1, h2, h3, h4, h5, h6, h7] := by
  match h, hh with
  | [h0, h1, h2, h3, h4, h5, h6, h7], _ => exact ⟨_, _, _, _, _, _, _, _, rfl⟩
 have hc := noteOne p rs 1 64 hs hb hl
 clear hs hb hl
 go_enter Tryz.func196, Tryz.ntmps196
 go_wp2_with fail
 refine hc.mono ?_
 rintro e w1 ⟨rfl, s1⟩
 clear hc
 go_wp2_with fail
 refine (consts256 s1).mono ?_
 rintro e w2 ⟨rfl, s2⟩
 clear s1
 go_wp2_with (first | (refine wpl_alloc_agg rfl 286 rfl s2 _ (zero_a64u32 _) ?_; intro w3 g s3 _; clear s2) | (refine wpl_store_agg rfl rfl 286 (.tmp 4) (.tmp 26) rfl (cs := u32s K256) s3 0 0 Tryz.size_a64u32 rfl (by rfl) rfl (by rw [u32s_len, u32s_len, K256_len, zero64_len]; decide) (u32s_one _) ?_; intro w4 s4; rw [setL_all _ _ (by rw [u32s_len, u32s_len, K256_len, zero64_len])] at s4; clear s3) | (refine wpl_alloc_agg rfl 286 rfl s4 _ (zero_a64u32 _) ?_; intro w5 v s5 _; clear s4))
 have s6 := s5.pick [2, 3, 4, 5, 6, 1, 0]
 clear s5
 have Hh := Lib.hid hh; have Hw := Lib.hid hw; clear hh hw
 go_loopw [27] (fun t27 wr => ∃ i : Nat, i ≤ 16 ∧ t27 = .int .i64 i ∧ Sat W0 wr (ledO p (note rs 1 64 1) :: st256 b [h0, h1, h2, h3, h4, h5, h6, h7] n wait (seg true g 0 (u32s K256) :: seg true v 0 (u32s ((wordsOf 32 4 wait).take i ++ List.replicate (64 - i) 0)) :: L))) (fun t27 _ => 16 - (intOf t27).toNat)
 case atStart => exact ⟨0, by omega, rfl, s6⟩
 case round =>
  obtain ⟨i, hi, rfl, s⟩ := hrel
  by_cases hlt : i < 16
  ·have sv : Sat W0 wr (seg true v 0 (u32s ((wordsOf 32 4 wait).take i ++ List.replicate (64 - i) 0)) :: _) := s.pull 6
   have hvl : (u32s ((wordsOf 32 4 wait).take i ++ List.replicate (64 - i) 0)).length = 64 := by rw [u32s_len]; simp [wordsOf_len]; omega
   have c := sv.at i (u32s_get _ i (by rw [u32s_len] at hvl; omega))
   have f := sv.fr i (by omega)
   have hk := take32 (m := true) (b := b) (o := 9) (len := 64) (cap := 64) (bs := wait) (4 * i) (s.pull 3) Hw.out (by omega) (by omega)
   rw [show ((4 * i : Nat) : Int) = 4 * (i : Int) by omega] at hk
   clear hvl
   go_wp2_with fail
   refine hk.mono ?_
   rintro e w6 ⟨rfl, rfl⟩
   go_wp2
   go_roundw
   case rel =>
    refine ⟨i + 1, by omega, by go_num, ?_⟩
    have st := (sv.store (i := i) (by rw [u32s_len]; simp [wordsOf_len]; omega) (.int .u32 (v32 (takeBE 32 ((wait.drop (4 * i)).take 4)))) (q := i) (by simp)).pick [1, 2, 3, 4, 5, 6, 0]
    rw [u32s_set, wpad _ _ i 64 (by simp [wordsOf_len]; omega) (by omega)] at st
    have e : (wordsOf 32 4 wait).take (i + 1) = (wordsOf 32 4 wait).take i ++ [takeBE 32 ((wait.drop (4 * i)).take 4)] := by
     rw [List.take_succ_eq_append_getElem (by rw [wordsOf_len]; exact hlt)]
     simp [wordsOf]
    rw [e]
    exact st
   case measure => simp [intOf]; omega
  ·obtain rfl : i = 16 := by omega
   have s : Sat W0 wr (ledO p (note rs 1 64 1) :: st256 b [h0, h1, h2, h3, h4, h5, h6, h7] n wait (seg true g 0 (u32s K256) :: seg true v 0 (u32s (sched T256 (wordsOf 32 4 wait) 0 ++ List.replicate 48 0)) :: L)) := s
   go_wp2_with fail
   go_loopw [7] (fun t7 wr => ∃ k : Nat, k ≤ 48 ∧ t7 = .int .i64 ((16 + k : Nat) : Int) ∧ Sat W0 wr (ledO p (note rs 1 64 1) :: st256 b [h0, h1, h2, h3, h4, h5, h6, h7] n wait (seg true g 0 (u32s K256) :: seg true v 0 (u32s (sched T256 (wordsOf 32 4 wait) k ++ List.replicate (64 - (16 + k)) 0)) :: L))) (fun t7 _ => 64 - (intOf t7).toNat)
   case atStart => exact ⟨0, by omega, rfl, s⟩
   case round =>
    clear s
    obtain ⟨k, hk, rfl, s⟩ := hrel
    obtain ⟨t, ht⟩ : ∃ t, t = 16 + k := ⟨_, rfl⟩
    rw [← ht] at s ⊢
    have hlen : (sched T256 (wordsOf 32 4 wait) k).length = t := by rw [sched_len, wordsOf_len, ht]
    by_cases hlt : t < 64
    ·have sv : Sat W0 _ (seg true v 0 (u32s (sched T256 (wordsOf 32 4 wait) k ++ List.replicate (64 - t) 0)) :: _) := s.pull 6
     have hvl : (sched T256 (wordsOf 32 4 wait) k ++ List.replicate (64 - t) 0).length = 64 := by simp [hlen]; omega
     have cell : ∀ j, 1 ≤ j → j ≤ 16 → World.cell? _ ⟨v, t - j, none⟩ = some (.int .u32 (v32 ((sched T256 (wordsOf 32 4 wait) k).getD (t - j) 0))) := fun j h1 h2 =>
      sv.at (t - j) (u32s_at (by rw [List.getElem?_append_left (by omega)]; simp; rw [List.getElem?_eq_getElem (by omega)]; simp))
     obtain ⟨j15, hj15⟩ : ∃ j, j = t - 15 := ⟨_, rfl⟩
     obtain ⟨j2, hj2⟩ : ∃ j, j = t - 2 := ⟨_, rfl⟩
     obtain ⟨j7, hj7⟩ : ∃ j, j = t - 7 := ⟨_, rfl⟩
     obtain ⟨j16, hj16⟩ : ∃ j, j = t - 16 := ⟨_, rfl⟩
     have c15 := cell 15 (by omega) (by omega)
     have c2 := cell 2 (by omega) (by omega)
     have c7 := cell 7 (by omega) (by omega)
     have c16 := cell 16 (by omega) (by omega)
     have ct := sv.at t (u32s_get _ t (by omega))
     have ft := sv.fr t (by rw [u32s_len]; omega)
     have e15 : IntKind.i64.wrap ((t : Int) - 15) = (j15 : Int) := by rw [IntKind.wrap_i64]; omega
     have e2 : IntKind.i64.wrap ((t : Int) - 2) = (j2 : Int) := by rw [IntKind.wrap_i64]; omega
     have e7 : IntKind.i64.wrap ((t : Int) - 7) = (j7 : Int) := by rw [IntKind.wrap_i64]; omega
     have e16 : IntKind.i64.wrap ((t : Int) - 16) = (j16 : Int) := by rw [IntKind.wrap_i64]; omega
     have l15 : j15 < 64 := by omega
     have l2 : j2 < 64 := by omega
     have l7 : j7 < 64 := by omega
     have l16 : j16 < 64 := by omega
     rw [← hj15] at c15
     rw [← hj2] at c2
     rw [← hj7] at c7
     rw [← hj16] at c16
     have HJ := Lib.hid (And.intro hj15 (And.intro hj2 (And.intro hj7 hj16))); clear hj15 hj2 hj7 hj16
     obtain ⟨x15, hx15⟩ : ∃ x, x = (sched T256 (wordsOf 32 4 wait) k).getD j15 0 := ⟨_, rfl⟩
     obtain ⟨x2, hx2⟩ : ∃ x, x = (sched T256 (wordsOf 32 4 wait) k).getD j2 0 := ⟨_, rfl⟩
     obtain ⟨x7, hx7⟩ : ∃ x, x = (sched T256 (wordsOf 32 4 wait) k).getD j7 0 := ⟨_, rfl⟩
     obtain ⟨x16, hx16⟩ : ∃ x, x = (sched T256 (wordsOf 32 4 wait) k).getD j16 0 := ⟨_, rfl⟩
     obtain ⟨xt, hxt⟩ : ∃ x, x = (sched T256 (wordsOf 32 4 wait) k ++ List.replicate (64 - t) 0).getD t 0 := ⟨_, rfl⟩
     rw [← hx15] at c15
     rw [← hx2] at c2
     rw [← hx7] at c7
     rw [← hx16] at c16
     rw [← hxt] at ct
     have HX := Lib.hid (And.intro hx15 (And.intro hx2 (And.intro hx7 hx16))); clear hx15 hx2 hx7 hx16 hxt
     have Ht := Lib.hid ht; have Hl := Lib.hid hlen; have Hv := Lib.hid hvl; clear ht hlen hvl cell
     go_wp2_with fail
     go_quiet ((go_at_call 209; exact Calls.quiet_of (right32i _ _ _ (by omega) (by omega))))
     go_wp2_with fail
     go_quiet ((go_at_call 209; exact quietAdd (right32i _ _ _ (by omega) (by omega))))
     go_wp2_with fail
     go_region
     go_wp2
     go_roundw
     case rel =>
      have ht := Ht.out
      have hl := Hl.out
      obtain ⟨hx15, hx2, hx7, hx16⟩ := HX.out
      obtain ⟨hj15, hj2, hj7, hj16⟩ := HJ.out
      refine ⟨k + 1, by omega, by rw [show 16 + (k + 1) = t + 1 by omega]; go_num, ?_⟩
      have hE : (bits .xor .u32 (bits .xor .u32 (v32 (rotr x2 17)) (v32 (rotr x2 19))) (v32 x2 / (1024 : Int)) + v32 x7 + bits .xor .u32 (bits .xor .u32 (v32 (rotr x15 7)) (v32 (rotr x15 18))) (v32 x15 / (8 : Int)) + v32 x16) % 4294967296 = v32 (sml T256.s1 x2 + x7 + sml T256.s0 x15 + x16) := by
       rw [vxor32, vxor32, xs10, xs3, sum32_4]; rfl
      have st := (sv.store (i := t) (by rw [u32s_len, Hv.out]; omega) (.int .u32 (v32 (sml T256.s1 x2 + x7 + sml T256.s0 x15 + x16))) (q := t) (by simp)).pick [1, 2, 3, 4, 5, 6, 0]
      rw [u32s_set, wpad _ _ t 64 hl hlt, ← hE] at st
      have e : sched T256 (wordsOf 32 4 wait) (k + 1) = sched T256 (wordsOf 32 4 wait) k ++ [sml T256.s1 x2 + x7 + sml T256.s0 x15 + x16] := by
       rw [sched, ext, hl, hx15, hx2, hx7, hx16, hj15, hj2, hj7, hj16]
      rw [e, show 16 + (k + 1) = t + 1 by omega]
      exact st.drewN _
     case measure => simp [intOf]; omega
    ·obtain rfl : k = 48 := by omega
     obtain rfl : t = 64 := by omega
     obtain ⟨W, hW⟩ : ∃ W, W = sched T256 (wordsOf 32 4 wait) 48 := ⟨_, rfl⟩
     rw [← hW] at s hlen
     have s : Sat W0 _ (ledO p (note rs 1 64 1) :: st256 b [h0, h1, h2, h3, h4, h5, h6, h7] n wait (seg true g 0 (u32s K256) :: seg true v 0 (u32s W) :: L)) := s.to (by simp)
     have HW := Lib.hid hW; have Hl := Lib.hid hlen; clear hW hlen ht
     have sh : Sat W0 _ (seg true b 0 (u32s [h0, h1, h2, h3, h4, h5, h6, h7]) :: _) := s.pull 1
     have d0 := sh.at 0 rfl
     have d1 := sh.at 1 rfl
     have d2 := sh.at 2 rfl
     have d3 := sh.at 3 rfl
     have d4 := sh.at 4 rfl
     have d5 := sh.at 5 rfl
     have d6 := sh.at 6 rfl
     have d7 := sh.at 7 rfl
     go_wp2_with fail
     go_quiet (fail)
     go_wp2_with fail
     clear d0 d1 d2 d3 d4 d5 d6 d7 sh
     go_loopw [10, 11, 12, 13, 14, 15, 16, 17, 133] (fun t10 t11 t12 t13 t14 t15 t16 t17 t133 wq => ∃ (i : Nat) (a b' c d e f g' h' : BitVec 32), i ≤ 64 ∧ t133 = .int .i64 (i : Int) ∧ rounds T256 K256 W (h0, h1, h2, h3, h4, h5, h6, h7) i = (a, b', c, d, e, f, g', h') ∧ t10 = .int .u32 (v32 a) ∧ t11 = .int .u32 (v32 b') ∧ t12 = .int .u32 (v32 c) ∧ t13 = .int .u32 (v32 d) ∧ t14 = .int .u32 (v32 e) ∧ t15 = .int .u32 (v32 f) ∧ t16 = .int .u32 (v32 g') ∧ t17 = .int .u32 (v32 h') ∧ Sat W0 wq (ledO p (note rs 1 64 1) :: st256 b [h0, h1, h2, h3, h4, h5, h6, h7] n wait (seg true g 0 (u32s K256) :: seg true v 0 (u32s W) :: L))) (fun _ _ _ _ _ _ _ _ t133 _ => 64 - (intOf t133).toNat)
     case atStart => exact ⟨0, h0, h1, h2, h3, h4, h5, h6, h7, by omega, rfl, rfl, rfl, rfl, rfl, rfl, rfl, rfl, rfl, rfl, s.drewN _⟩
     case round =>
      clear s
      obtain ⟨i, a, b', c, d, e, f, g', h', hi, rfl, hR, rfl, rfl, rfl, rfl, rfl, rfl, rfl, rfl, s⟩ := hrel
      by_cases hlt2 : i < 64
      ·have sk : Sat W0 _ (seg true g 0 (u32s K256) :: _) := s.pull 5
       have sv : Sat W0 _ (seg true v 0 (u32s W) :: _) := s.pull 6
       have ck := sk.at i (u32s_get K256 i (by rw [K256_len]; exact hlt2))
       have cw := sv.at i (u32s_get W i (by rw [Hl.out]; exact hlt2))
       obtain ⟨xk, hxk⟩ : ∃ x, x = K256.getD i 0 := ⟨_, rfl⟩
       obtain ⟨xw, hxw⟩ : ∃ x, x = W.getD i 0 := ⟨_, rfl⟩
       rw [← hxk] at ck
       rw [← hxw] at cw
       have HX := Lib.hid (And.intro hxk (And.intro hxw hR)); clear hxk hxw hR
       go_wp2_with fail
       go_quiet ((go_at_call 209; exact Calls.quiet_of (right32i _ _ _ (by omega) (by omega))))
       go_wp2_with (go_at_call 209; refine (right32i _ _ _ (by omega) (by omega)).mono ?_; rintro e w' ⟨rfl, nn, rfl⟩)
       go_roundw
       case rel =>
        obtain ⟨hxk, hxw, hR⟩ := HX.out
        refine ⟨i + 1, p1 T256 xk xw e f g' h' + q1 T256 a b' c, a, b', c, d + p1 T256 xk xw e f g' h', e, f, g', by omega, by go_num, ?_, ?_, rfl, rfl, rfl, ?_, rfl, rfl, rfl, s.drewN _⟩
        ·rw [rounds, hR, ← hxk, ← hxw]; rfl
        ·rw [vnot32, vand32, vand32, vxor32, vxor32, vxor32, sum32_5, vxor32, vxor32, vand32, vand32, vand32, vxor32, vxor32, vadd32, vadd32]; rfl
        ·rw [vnot32, vand32, vand32, vxor32, vxor32, vxor32, sum32_5, vadd32]; rfl
       case measure => simp [intOf]; omega
      ·obtain rfl : i = 64 := by omega
       have hix := fun (j : Nat) (hj : j < 8) (w : World) => run_index_list (P := Tryz.prog) (t := 257) (e := 176) Tryz.underlying257 (by kernel_rfl) (fun w => by simp [go_sem]) [.int .u32 (v32 a), .int .u32 (v32 b'), .int .u32 (v32 c), .int .u32 (v32 d), .int .u32 (v32 e), .int .u32 (v32 f), .int .u32 (v32 g'), .int .u32 (v32 h')] rfl j hj w
       go_wp2_with fail
       go_loopw [205] (fun t205 wq => ∃ i : Nat, i ≤ 8 ∧ t205 = .int .i64 (i : Int) ∧ Sat W0 wq (ledO p (note rs 1 64 1) :: st256 b (upd32 [h0, h1, h2, h3, h4, h5, h6, h7] [a, b', c, d, e, f, g', h'] i) n wait (seg true g 0 (u32s K256) :: seg true v 0 (u32s W) :: L))) (fun t205 _ => 8 - (intOf t205).toNat)
       case atStart => exact ⟨0, by omega, rfl, s⟩
       case round =>
        clear s
        obtain ⟨i, hi, rfl, s⟩ := hrel
        by_cases hlt3 : i < 8
        ·have sh : Sat W0 _ (seg true b 0 (u32s (upd32 [h0, h1, h2, h3, h4, h5, h6, h7] [a, b', c, d, e, f, g', h'] i)) :: _) := s.pull 1
         have ch := sh.at i (u32s_get _ i (by rw [upd32_len]; exact hlt3))
         rw [upd32_get _ _ _ hlt3] at ch
         have fh := sh.fr i (by rw [u32s_len, upd32_len]; exact hlt3)
         have hi1 := fun w => hix i hlt3 w
         have hgd : ([.int .u32 (v32 a), .int .u32 (v32 b'), .int .u32 (v32 c), .int .u32 (v32 d), .int .u32 (v32 e), .int .u32 (v32 f), .int .u32 (v32 g'), .int .u32 (v32 h')] : List Value).getD i undef = .int .u32 (v32 ([a, b', c, d, e, f, g', h'].getD i 0)) := by
          have : i = 0 ∨ i = 1 ∨ i = 2 ∨ i = 3 ∨ i = 4 ∨ i = 5 ∨ i = 6 ∨ i = 7 := by omega
          rcases this with rfl | rfl | rfl | rfl | rfl | rfl | rfl | rfl <;> rfl
         rw [hgd] at hi1
         obtain ⟨xh, hxh⟩ : ∃ x, x = [h0, h1, h2, h3, h4, h5, h6, h7].getD i 0 := ⟨_, rfl⟩
         obtain ⟨xs, hxs⟩ : ∃ x, x = [a, b', c, d, e, f, g', h'].getD i 0 := ⟨_, rfl⟩
         rw [← hxh] at ch
         rw [← hxs] at hi1
         have HX := Lib.hid (And.intro hxh hxs); clear hxh hxs hgd hix
         go_wp2_with fail
         go_region
         go_wp2
         go_roundw
         case rel =>
          obtain ⟨hxh, hxs⟩ := HX.out
          refine ⟨i + 1, by omega, by go_num, ?_⟩
          have st := (sh.store (i := i) (by rw [u32s_len, upd32_len]; exact hlt3) (.int .u32 (v32 (xh + xs))) (q := i) (by simp)).pick [1, 0]
          rw [u32s_set, hxh, hxs, upd32_set _ _ _ hlt3, ← hxh, ← hxs] at st
          rw [vadd32]
          exact st.drew
         case measure => simp [intOf]; omega
        ·obtain rfl : i = 8 := by omega
         clear hix
         have sw : Sat W0 _ (seg true b 9 (u8s wait) :: _) := s.pull 3
         go_wp2_with (refine wpl_store_agg rfl rfl 258 (.tmp 224) (.tmp 222) rfl (cs := u8s (List.replicate 64 0)) sw 0 9 (by kernel_rfl) rfl (by rfl) rfl (by rw [u8s_len, u8s_len, Hw.out]; simp) (u8s_one _) ?_; intro w9 s9)
         rw [setL_all _ _ (by rw [u8s_len, u8s_len, Hw.out]; simp)] at s9
         refine bodyPost_end (results_none rfl _ _ _) rfl ⟨rfl, ?_⟩
         have s10 := (s9.pick [1, 2, 3, 0, 4]).drop 5 |>.drop 5
         refine s10.to ?_
         have hfin : upd32 [h0, h1, h2, h3, h4, h5, h6, h7] [a, b', c, d, e, f, g', h'] 8 = comp256 [h0, h1, h2, h3, h4, h5, h6, h7] wait := by
          obtain ⟨_, _, hR⟩ := (⟨trivial, trivial, hR⟩ : True ∧ True ∧ _)
          unfold comp256 comp
          rw [← HW.out]
          show _ = List.zipWith (· + ·) _ (listOf (rounds T256 K256 W (h0, h1, h2, h3, h4, h5, h6, h7) 64))
          rw [hR]
          rfl
         rw [hfin]
         rfl
end Go.Proofs.YtbefjaodpbgpcaaGreat
