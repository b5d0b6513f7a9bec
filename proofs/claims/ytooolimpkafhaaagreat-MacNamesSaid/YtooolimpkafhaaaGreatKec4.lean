
/- Keccak's round constants; no condition but what each names. -/
import Derived.Test.YtooolimpkafhaaaGreatKec2
import Derived.Test.YtooolimpkafhaaaGreatGf8
namespace Go.Kec
open Go.Bv Go.Sep
set_option linter.unusedVariables false
/-- The register of eight bits. -/
def rcStep (r : Byte) : Byte := (r <<< 1) ^^^ (0x71 &&& -(r >>> 7))
def rcAt : Nat → Byte
  | 0 => 1
  | n + 1 => rcStep (rcAt n)
def rcBit (i j : Nat) : BitVec 64 := ((1 &&& rcAt (7 * i + j)).setWidth 64) <<< (2 ^ j - 1)
def rcPart (i : Nat) : Nat → BitVec 64
  | 0 => 0
  | j + 1 => rcPart i j ||| rcBit i j
/-- The first n rounds' constants. -/
def rcTo (n : Nat) : List (BitVec 64) := (List.range 24).map fun i => if i < n then rcPart i 7 else 0
def rcAll : List (BitVec 64) := rcTo 24
def lane24 : List (BitVec 64) := List.replicate 24 0
theorem lane24_len : lane24.length = 24 := rfl
theorem rcTo_len (n : Nat) : (rcTo n).length = 24 := by simp [rcTo]
theorem rcTo_zero : rcTo 0 = lane24 := by
  apply List.ext_getElem
  · simp [rcTo, lane24]
  · intro j h1 h2
    simp only [rcTo, lane24, List.getElem_map, List.getElem_range, List.getElem_replicate]
    rw [if_neg (by omega)]
theorem rcTo_start (n : Nat) (h : n < 24) : (rcTo n).set n (rcPart n 0) = rcTo n := by
  apply List.ext_getElem
  · simp [rcTo]
  · intro j h1 h2
    rw [List.getElem_set]
    by_cases e : n = j
    · subst e
      simp [rcTo, rcPart]
    · rw [if_neg e]
theorem rcTo_set (n : Nat) : (rcTo n).set n (rcPart n 7) = rcTo (n + 1) := by
  apply List.ext_getElem
  · simp [rcTo]
  · intro j h1 h2
    rw [List.getElem_set]
    by_cases e : n = j
    · subst e
      simp [rcTo]
    · rw [if_neg e]
      simp only [rcTo, List.getElem_map, List.getElem_range]
      by_cases h3 : j < n
      · rw [if_pos h3, if_pos (by omega)]
      · rw [if_neg h3, if_neg (by omega)]
end Go.Kec
namespace Go.Proofs.YtooolimpkafhaaaGreat
open Go.RowKit Go.Sep Go.Bv Go.Kec
set_option linter.unusedVariables false
set_option linter.unusedSimpArgs false
theorem Tryz.size_k24 : (Tryz.prog.info? 266).map (·.size) = some 24 := by kernel_rfl
theorem zero_k24 (w : World) : (zeroValue 266).run Tryz.prog w = .ok (.agg (u64s lane24).toArray) w := by kernel_rfl
theorem vand8_1 (x : BitVec 8) : bits .and .u8 (v8 x) 1 = v8 (1 &&& x) := by rw [BitVec.and_comm]; exact vand8 x 1
theorem vand8_113 (x : BitVec 8) : bits .and .u8 113 (v8 x) = v8 (0x71 &&& x) := vand8 113 x
theorem rcShift (j : Nat) (hj : j < 7) : min (IntKind.u64.wrap (IntKind.u64.wrap ((2 : Int) ^ j) - 1)).toNat 64 = 2 ^ j - 1 := by
  have : j = 0 ∨ j = 1 ∨ j = 2 ∨ j = 3 ∨ j = 4 ∨ j = 5 ∨ j = 6 := by omega
  rcases this with rfl | rfl | rfl | rfl | rfl | rfl | rfl <;> rfl
theorem rcVal (x : BitVec 64) (r : Byte) (j : Nat) (hj : j < 7) : bits .or .u64 (v64 x) (IntKind.u64.wrap (IntKind.u64.wrap (bits .and .u8 (v8 r) 1) * 2 ^ min (IntKind.u64.wrap (IntKind.u64.wrap ((2 : Int) ^ j) - 1)).toNat 64)) = v64 (x ||| ((1 &&& r).setWidth 64 <<< (2 ^ j - 1))) := by
  rw [rcShift j hj, vand8_1, vwide64w, vshl64w, vor64]
set_option maxRecDepth 100000 in
set_option maxHeartbeats 2000000 in
theorem kecConsts {W0 w : World} {L : List Assn} (hs : Sat W0 w L) :
    Calls Tryz.prog 233 #[] w fun e w' => e = .returned (.agg (u64s rcAll).toArray) ∧ Sat W0 w' L := by
  go_enter Tryz.func233, Tryz.ntmps233
  go_wp2_with (first | (refine wpl_alloc_agg rfl 266 rfl hs _ (zero_k24 _) ?_; intro w2 gr s2 _; clear hs) | (refine wpl_alloc_agg rfl 266 rfl s2 _ (zero_k24 _) ?_; intro w3 go s3 _; clear s2))
  have s4 : Sat W0 w3 (seg true go 0 (u64s (rcTo 0)) :: seg true gr 0 (u64s lane24) :: L) := by rw [rcTo_zero]; exact s3
  clear s3
  have h1 : v8 (rcAt (7 * 0)) = 1 := rfl
  go_loopw [2, 5] (fun t2 t5 wr => ∃ i : Nat, i ≤ 24 ∧ t5 = .int .i64 (i : Int) ∧ t2 = .int .u8 (v8 (rcAt (7 * i))) ∧ Sat W0 wr (seg true go 0 (u64s (rcTo i)) :: seg true gr 0 (u64s lane24) :: L)) (fun _ t5 _ => 24 - (intOf t5).toNat)
  case atStart => exact ⟨0, by omega, rfl, by rw [h1], s4⟩
  case round =>
    clear s4 h1
    obtain ⟨i, hi, rfl, rfl, s⟩ := hrel
    by_cases hlt : i < 24
    · have s5 : Sat W0 wr (seg true go 0 (u64s ((rcTo i).set i (rcPart i 0))) :: seg true gr 0 (u64s lane24) :: L) := by rw [rcTo_start i hlt]; exact s
      clear s
      have hi1 : IntKind.i64.wrap ((i : Int) + 1) = ((i + 1 : Nat) : Int) := by rw [IntKind.wrap_i64]; omega
      obtain ⟨T, hT⟩ : ∃ T, T = rcTo i := ⟨_, rfl⟩
      have hTl : T.length = 24 := by rw [hT]; exact rcTo_len i
      rw [← hT] at s5
      have HT := Lib.hid (And.intro hTl hT); clear hTl hT
      go_wp2_with fail
      go_loopw [2, 8] (fun t2 t8 wr => ∃ j : Nat, j ≤ 7 ∧ t8 = .int .i64 (j : Int) ∧ t2 = .int .u8 (v8 (rcAt (7 * i + j))) ∧ Sat W0 wr (seg true go 0 (u64s (T.set i (rcPart i j))) :: seg true gr 0 (u64s lane24) :: L)) (fun _ t8 _ => 7 - (intOf t8).toNat)
      case atStart => exact ⟨0, by omega, rfl, rfl, s5⟩
      case round =>
        clear s5
        obtain ⟨j, hj, rfl, rfl, s⟩ := hrel
        by_cases hlj : j < 7
        · have zo := s.lt (by rw [u64s_len, List.length_set, HT.out.1]; decide)
          have co := s.at i (v := .int .u64 (v64 (rcPart i j))) (by rw [u64s_get _ i (by rw [List.length_set, HT.out.1]; exact hlt)]; simp [HT.out.1, hlt])
          have fo := s.fr i (by rw [u64s_len, List.length_set, HT.out.1]; exact hlt)
          obtain ⟨r, hr⟩ : ∃ r, r = rcAt (7 * i + j) := ⟨_, rfl⟩
          obtain ⟨x, hx⟩ : ∃ x, x = rcPart i j := ⟨_, rfl⟩
          rw [← hx] at co
          rw [← hr]
          have hj1 : IntKind.i64.wrap ((j : Int) + 1) = ((j + 1 : Nat) : Int) := by rw [IntKind.wrap_i64]; omega
          have HX := Lib.hid (And.intro hr hx); clear hr hx
          go_wp2_with fail
          refine wp_region_quiet_tail_lit 11 (by kernel_rfl) (by kernel_rfl) ?_
          simp only [List.take_succ_cons, List.take_zero, List.drop_succ_cons, List.drop_zero]
          repeat (go_big_quiet_step (fail))
          refine wpQuiet_nil ?_
          rintro _ ⟨nq, rfl⟩
          go_wp2
          go_roundw
          case rel =>
            have hp : x ||| ((1 &&& r).setWidth 64 <<< (2 ^ j - 1)) = rcPart i (j + 1) := by rw [HX.out.1, HX.out.2]; rfl
            refine ⟨j + 1, by omega, by go_num, ?_, ?_⟩
            · have hw : bits .xor .u8 (v8 r * 2 % 256) (bits .and .u8 113 (-(v8 r / 128) % 256)) = v8 (rcStep r) := by unfold rcStep; rw [vshr8_7, vneg8, vand8_113, vshl8_1, vxor8]; rfl
              rw [hw, HX.out.1]
              rfl
            · rw [rcVal x r j hlj, hp]
              have st := (s.drewN nq).store (i := i) (by rw [u64s_len, List.length_set, HT.out.1]; exact hlt) (.int .u64 (v64 (rcPart i (j + 1)))) (q := i) (by simp)
              rw [u64s_set, List.set_set] at st
              exact st
          case measure => simp [intOf]; omega
        · obtain rfl : j = 7 := by omega
          go_wp2_with fail
          go_roundw
          case rel => exact ⟨i + 1, by omega, by go_num, by rw [show 7 * (i + 1) = 7 * i + 7 by omega], by rw [← rcTo_set, ← HT.out.2]; exact s⟩
          case measure => simp [intOf]; omega
    · obtain rfl : i = 24 := by omega
      obtain ⟨R, hR⟩ : ∃ R, R = rcAll := ⟨_, rfl⟩
      have hRl : R.length = 24 := by rw [hR]; exact rcTo_len 24
      have s6 : Sat W0 wr (seg true go 0 (u64s R) :: seg true gr 0 (u64s lane24) :: L) := by rw [hR]; exact s
      have s5 : Sat W0 wr (seg true gr 0 (u64s lane24) :: seg true go 0 (u64s R) :: L) := s6.pull 1
      have ht : ((u64s R).drop 0).take 24 = u64s R := by rw [List.drop_zero]; exact List.take_of_length_le (by rw [u64s_len]; omega)
      have HR := Lib.hid (And.intro hRl (And.intro ht hR)); clear hRl ht hR s
      go_wp2_with (first | (refine wpl_load_agg rfl 266 (.tmp 1) rfl Tryz.underlying266 rfl Tryz.size_k24 s6 0 0 rfl rfl (by rw [u64s_len, HR.out.1]; exact Nat.le_refl _) ?_; rw [HR.out.2.1]) | (refine wpl_store_agg rfl rfl 266 (.tmp 0) (.tmp 32) rfl (cs := u64s R) s5 0 0 (by rw [u64s_len, HR.out.1]; exact Tryz.size_k24) rfl (by rfl) rfl (by rw [u64s_len, u64s_len, HR.out.1, lane24_len]; decide) (u64s_one _) ?_; intro w7 s7; rw [setL_all _ _ (by rw [u64s_len, u64s_len, HR.out.1, lane24_len])] at s7))
      refine bodyPost_ret (v := .agg (u64s R).toArray) ?_ rfl ⟨by rw [HR.out.2.2], (s7.drop 0).drop 0⟩
      have hr := run_ret64 Tryz.underlying266 Tryz.size_k24 s7 HR.out.1
      simp [results, Tryz.results233, asAddr]; exact hr
end Go.Proofs.YtooolimpkafhaaaGreat
