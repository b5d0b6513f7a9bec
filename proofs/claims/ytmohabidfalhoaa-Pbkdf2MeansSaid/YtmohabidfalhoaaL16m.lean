/- Pbkdf2Means: a block is the exclusive or of the tags; where the arguments read as bytes, of bulk at most 1048576. -/
import Derived.Test.YtmohabidfalhoaaPbk5
namespace Go.Proofs.Ytmohabidfalhoaa
open Go.RowKit Go.Sep Go.Bv Go.Sha
set_option linter.unusedVariables false
set_option linter.unusedSimpArgs false
/-- What is xored into its place so far. -/
def xorAt (xs ys : List Byte) (j : Nat) : List Byte := (List.range xs.length).map fun i => if i < j then xs.getD i 0 ^^^ ys.getD i 0 else xs.getD i 0
theorem xorAt_len (xs ys : List Byte) (j : Nat) : (xorAt xs ys j).length = xs.length := by simp [xorAt]
theorem xorAt_get (xs ys : List Byte) (j : Nat) (h : j < xs.length) : (xorAt xs ys j).getD j 0 = xs.getD j 0 := by simp [xorAt, h]
theorem xorAt_set (xs ys : List Byte) (j : Nat) : (xorAt xs ys j).set j (xs.getD j 0 ^^^ ys.getD j 0) = xorAt xs ys (j + 1) := by
  apply List.ext_getElem
  · simp [xorAt]
  · intro i h1 h2
    simp only [xorAt, List.getElem_set, List.getElem_map, List.getElem_range]
    by_cases e : j = i
    · subst e; simp
    · rw [if_neg e]
      by_cases h : i < j
      · rw [if_pos h, if_pos (by omega)]
      · rw [if_neg h, if_neg (by omega)]
theorem xorAt_zero (xs ys : List Byte) : xorAt xs ys 0 = xs := by
  apply List.ext_getElem
  · simp [xorAt]
  · intro i h1 h2
    simp [xorAt, h2]
theorem xorAt_all (xs ys : List Byte) (n : Nat) (h : xs.length = n) (h2 : ys.length = n) : xorAt xs ys n = xorB xs ys := by
  subst h
  apply List.ext_getElem
  · simp [xorAt, xorB, h2]
  · intro i h1 h3
    have hi : i < xs.length := by simpa [xorAt] using h1
    have hy : i < ys.length := by omega
    simp [xorAt, xorB, hi, hy]
theorem lay4 (k : Nat) (h : k < 4294967295) : u8s (layBE 4 (BitVec.ofNat 32 (1 + k))) = [.int .u8 ((1 + (k : Int)) / 16777216), .int .u8 ((1 + (k : Int)) / 65536 % 256), .int .u8 ((1 + (k : Int)) / 256 % 256), .int .u8 ((1 + (k : Int)) % 256)] := by
  have e : ∀ q : Nat, v8 ((BitVec.ofNat 32 (1 + k) >>> q).setWidth 8) = (1 + (k : Int)) / (2 ^ q : Nat) % 256 := by
    intro q
    unfold v8
    rw [BitVec.toNat_setWidth, BitVec.toNat_ushiftRight, BitVec.toNat_ofNat, Nat.mod_eq_of_lt (show 1 + k < 2 ^ 32 by omega), Nat.shiftRight_eq_div_pow]
    simp
  show [Value.int .u8 (v8 _), Value.int .u8 (v8 _), Value.int .u8 (v8 _), Value.int .u8 (v8 _)] = _
  rw [e, e, e, e]
  simp
  omega
set_option maxRecDepth 100000 in
set_option maxHeartbeats 600000 in
theorem means_any (W : World) (wide : Bool) (a1 a2 : Option Addr × Nat × Nat × List Byte) (i4 i5 : Int) (h1 : IsBytes W a1.1 a1.2.1 a1.2.2.1 a1.2.2.2) (h2 : IsBytes W a2.1 a2.2.1 a2.2.2.1 a2.2.2.2) :
    Calls Try.prog 15 #[.bool wide, .slice a1.1 a1.2.1 a1.2.2.1, .slice a2.1 a2.2.1 a2.2.2.1, .int .i64 i4, .int .i64 i5] W fun e W' => e = .returned (.bool true) ∧ Below W.heap.size W W' := by
  obtain ⟨p1, n1, c1, P⟩ := a1
  obtain ⟨p2, n2, c2, S⟩ := a2
  simp only at h1 h2 ⊢
  have s0 : Sat W W (bytes false p1 P :: bytes false p2 S :: []) := h1.sat (h2.sat (Sat.nil W))
  obtain ⟨hP, hP1, hP2, -⟩ := h1
  obtain ⟨hS, hS1, hS2, -⟩ := h2
  have HA := Lib.hid (And.intro hP (And.intro hS (And.intro hP2 hS2))); clear hP hS hP2 hS2
  by_cases g1 : 3000 < n1
  · go_enter Try.func15, Try.ntmps15
    go_wp2_with fail
    refine (awake16 s0).mono ?_
    rintro e w1 ⟨rfl, s1⟩
    go_wp2
    go_ret
    exact ⟨rfl, s1.below⟩
  by_cases g2 : 3000 < n2
  · go_enter Try.func15, Try.ntmps15
    go_wp2_with fail
    refine (awake16 s0).mono ?_
    rintro e w1 ⟨rfl, s1⟩
    go_wp2
    go_ret
    exact ⟨rfl, s1.below⟩
  have hH0 := hsz_pos wide
  have hH := hsz_le64 wide
  go_enter Try.func15, Try.ntmps15
  go_wp2_with fail
  refine (awake16 s0).mono ?_
  rintro e w1 ⟨rfl, s1⟩
  clear s0
  go_wp2_with fail
  refine (alg16 _ wide).mono ?_
  rintro e w' ⟨rfl, rfl⟩
  go_wp2_with fail
  refine (pickF 40 (by rfl) (by decide) (by decide)).mono ?_
  rintro e w' ⟨c, hc, rfl, rfl⟩
  go_wp2_with fail
  refine (pickF 4294967295 (by rfl) (by decide) (by decide)).mono ?_
  rintro e w' ⟨k, hk, rfl, rfl⟩
  go_wp2_with fail
  refine (blockF wide none [] P S (1 + c) (1 + k) HA.out.1 HA.out.2.1 rfl rfl (by simp) (by simp) (by repeat (first | with_reducible refine Sat.sub (ledNone s1) ?_ | with_reducible refine Sat.alloc' ?_ _ | with_reducible refine Sat.drew ?_ | with_reducible refine Sat.drewN ?_ _); repeat (first | with_reducible exact Fr.done | with_reducible exact Fr.nil | (with_reducible apply Fr.cons; (focus ((repeat (first | with_reducible exact Take.here | with_reducible apply Take.there)); done))))) hP1 HA.out.2.2.1 hS1 HA.out.2.2.2 (by omega) (by omega) (by omega) (by omega) (by simp only [tot]; omega) (by decide)).mono ?_
  rintro e w2 ⟨q1, d1, rfl, s2⟩
  clear s1
  go_wp2_with fail
  refine (copyS S HA.out.2.1 (by omega) (by repeat (first | with_reducible refine Sat.sub (s2) ?_ | with_reducible refine Sat.alloc' ?_ _ | with_reducible refine Sat.drew ?_ | with_reducible refine Sat.drewN ?_ _); repeat (first | with_reducible exact Fr.done | with_reducible exact Fr.nil | (with_reducible apply Fr.cons; (focus ((repeat (first | with_reducible exact Take.here | with_reducible apply Take.there)); done)))))).mono ?_
  rintro e w3 ⟨q2, d2, rfl, s3⟩
  clear s2
  have s4 := s3.alloc #[.int .u8 ((1 + (k : Int)) / 16777216), .int .u8 ((1 + (k : Int)) / 65536 % 256), .int .u8 ((1 + (k : Int)) / 256 % 256), .int .u8 ((1 + (k : Int)) % 256)] 5
  rw [show (#[Value.int .u8 ((1 + (k : Int)) / 16777216), .int .u8 ((1 + (k : Int)) / 65536 % 256), .int .u8 ((1 + (k : Int)) / 256 % 256), .int .u8 ((1 + (k : Int)) % 256)] : Array Value).toList = _ from (lay4 k hk).symm] at s4
  have s5 := bytesOf s4
  clear s3 s4
  go_wp2_with (refine wpl_app8 rfl (.tmp 55) (.tmp 67) rfl rfl rfl (by repeat (first | with_reducible refine Sat.sub (s5) ?_ | with_reducible refine Sat.alloc' ?_ _ | with_reducible refine Sat.drew ?_ | with_reducible refine Sat.drewN ?_ _); repeat (first | with_reducible exact Fr.done | with_reducible exact Fr.nil | (with_reducible apply Fr.cons; (focus ((repeat (first | with_reducible exact Take.here | with_reducible apply Take.there)); done))))) (layBE_len 4 _) (by omega) ?_; intro p6 c6 w6 s6)
  clear s5
  obtain ⟨hM, hM1, hM2, s7⟩ := rowBytes s6
  clear s6
  refine (tagF wide none [] P (S ++ layBE 4 (BitVec.ofNat 32 (1 + k))) HA.out.1 hM rfl rfl (by repeat (first | with_reducible refine Sat.sub (ledNone s7) ?_ | with_reducible refine Sat.alloc' ?_ _ | with_reducible refine Sat.drew ?_ | with_reducible refine Sat.drewN ?_ _); repeat (first | with_reducible exact Fr.done | with_reducible exact Fr.nil | (with_reducible apply Fr.cons; (focus ((repeat (first | with_reducible exact Take.here | with_reducible apply Take.there)); done))))) hP1 HA.out.2.2.1 hM1 hM2 (by simp only [tot]; omega) (by decide)).mono ?_
  rintro e w7 ⟨q7, d7, rfl, hd1, hd2, s8⟩
  clear s7
  obtain ⟨U, hU⟩ : ∃ U, U = pbFirst wide P S (1 + k) := ⟨_, rfl⟩
  have hUl : U.length = hsz wide := by rw [hU]; exact hmac_len _ _ _
  rw [show hmac wide P (S ++ layBE 4 (BitVec.ofNat 32 (1 + k))) = U from hU.symm] at s8
  have hB : pbBlock wide P S (1 + c) (1 + k) = pbOut wide P U c := by rw [hU, pbBlock, Nat.add_sub_cancel_left]
  rw [hB] at s8
  have HU := Lib.hid (And.intro hUl (And.intro hM hd2)); clear hB hU hUl hM hd2
  go_wp2_with fail
  refine (copyS U HU.out.1 (by omega) (by repeat (first | with_reducible refine Sat.sub (s8) ?_ | with_reducible refine Sat.alloc' ?_ _ | with_reducible refine Sat.drew ?_ | with_reducible refine Sat.drewN ?_ _); repeat (first | with_reducible exact Fr.done | with_reducible exact Fr.nil | (with_reducible apply Fr.cons; (focus ((repeat (first | with_reducible exact Take.here | with_reducible apply Take.there)); done)))))).mono ?_
  rintro e w8 ⟨q8, d8, rfl, s9⟩
  clear s8
  obtain ⟨-, hd3, hd4, s10⟩ := rowBytes s9
  have s11 : Sat W w8 (bytes true q8 (pbOut wide P U 0) :: bytes true q7 (pbU wide P U 0) :: bytes true q1 (pbOut wide P U c) :: bytes false p1 P :: bytes false p2 S :: []) := by
    simp only [pbOut, pbU]
    exact (by repeat (first | with_reducible refine Sat.sub (s10) ?_ | with_reducible refine Sat.alloc' ?_ _ | with_reducible refine Sat.drew ?_ | with_reducible refine Sat.drewN ?_ _); repeat (first | with_reducible exact Fr.done | with_reducible exact Fr.nil | (with_reducible apply Fr.cons; (focus ((repeat (first | with_reducible exact Take.here | with_reducible apply Take.there)); done)))))
  have HD := Lib.hid hd4; clear hd4 s9 s10
  go_wp2
  go_loopw [16, 17, 19] (fun t16 t17 t19 wr => ∃ (m : Nat) (qu : Option Addr) (du : Nat), m ≤ c ∧ t19 = .int .i64 (1 + (m : Int)) ∧ t17 = .int .i64 0 ∧ t16 = .slice qu (hsz wide) du ∧ hsz wide ≤ du ∧ du ≤ maxLen ∧ Sat W wr (bytes true q8 (pbOut wide P U m) :: bytes true qu (pbU wide P U m) :: bytes true q1 (pbOut wide P U c) :: bytes false p1 P :: bytes false p2 S :: [])) (fun _ _ t19 _ => 1 + c - (intOf t19).toNat)
  case atStart => exact ⟨0, q7, d7, by omega, rfl, rfl, rfl, hd1, HU.out.2.2, s11⟩
  case round =>
    clear s11
    obtain ⟨m, qu, du, hm, rfl, rfl, rfl, hu1, hu2, s⟩ := hrel
    have HV := Lib.hid (And.intro hu2 (pbU_len wide P U HU.out.1 m)); clear hu2
    by_cases hlt : m < c
    · go_wp2_with fail
      refine (tagF wide none [] P (pbU wide P U m) HA.out.1 HV.out.2 rfl rfl (by repeat (first | with_reducible refine Sat.sub (ledNone s) ?_ | with_reducible refine Sat.alloc' ?_ _ | with_reducible refine Sat.drew ?_ | with_reducible refine Sat.drewN ?_ _); repeat (first | with_reducible exact Fr.done | with_reducible exact Fr.nil | (with_reducible apply Fr.cons; (focus ((repeat (first | with_reducible exact Take.here | with_reducible apply Take.there)); done))))) hP1 HA.out.2.2.1 hu1 HV.out.1 (by simp only [tot]; omega) (by decide)).mono ?_
      rintro e w9 ⟨qv, dv, rfl, hv1, hv2, s12⟩
      clear s
      obtain ⟨X, hX⟩ : ∃ X, X = pbOut wide P U m := ⟨_, rfl⟩
      obtain ⟨Y, hY⟩ : ∃ Y, Y = pbU wide P U (m + 1) := ⟨_, rfl⟩
      have hXY : pbOut wide P U (m + 1) = xorB X Y := by rw [hX, hY]; rfl
      have hXl : X.length = hsz wide := by rw [hX]; exact pbOut_len _ _ _ HU.out.1 _
      have hYl : Y.length = hsz wide := by rw [hY]; exact pbU_len _ _ _ HU.out.1 _
      rw [← hX, show hmac wide P (pbU wide P U m) = Y from hY.symm] at s12
      have s13 : Sat W w9 (bytes true q8 (xorAt X Y 0) :: bytes true qv Y :: bytes true q1 (pbOut wide P U c) :: bytes false p1 P :: bytes false p2 S :: []) := by
        rw [xorAt_zero]
        exact (by repeat (first | with_reducible refine Sat.sub (s12) ?_ | with_reducible refine Sat.alloc' ?_ _ | with_reducible refine Sat.drew ?_ | with_reducible refine Sat.drewN ?_ _); repeat (first | with_reducible exact Fr.done | with_reducible exact Fr.nil | (with_reducible apply Fr.cons; (focus ((repeat (first | with_reducible exact Take.here | with_reducible apply Take.there)); done)))))
      have HX := Lib.hid (And.intro hXl (And.intro hYl (And.intro hXY (And.intro hY hv2)))); clear hX hY hXY hXl hYl hv2 s12
      go_wp2
      go_loopw [20] (fun t20 wr => ∃ j : Nat, j ≤ hsz wide ∧ t20 = .int .i64 (j : Int) ∧ Sat W wr (bytes true q8 (xorAt X Y j) :: bytes true qv Y :: bytes true q1 (pbOut wide P U c) :: bytes false p1 P :: bytes false p2 S :: [])) (fun t20 _ => hsz wide - (intOf t20).toNat)
      case atStart => exact ⟨0, Nat.zero_le _, rfl, s13⟩
      case round =>
        clear s13
        obtain ⟨j, hj, rfl, s⟩ := hrel
        by_cases hlj : j < hsz wide
        · have hjx : j < (xorAt X Y j).length := by rw [xorAt_len, HX.out.1]; exact hlj
          have hjy : j < Y.length := by rw [HX.out.2.1]; exact hlj
          have hgx := xorAt_get X Y j (by rw [xorAt_len] at hjx; exact hjx)
          obtain ⟨b8, o8, rfl, t1⟩ := bytesCell s (by intro h; rw [h] at hjx; simp at hjx)
          obtain ⟨bv, ov, rfl, t2⟩ := bytesCell (t1.pull 1 : Sat W wr (bytes true qv Y :: _)) (by intro h; rw [h] at hjy; simp at hjy)
          have t3 : Sat W wr (seg true b8 o8 (u8s (xorAt X Y j)) :: seg true bv ov (u8s Y) :: bytes true q1 (pbOut wide P U c) :: bytes false p1 P :: bytes false p2 S :: []) := t2.pull 1
          clear t1 t2 s
          have cx := t3.cell (u8s_get _ j hjx)
          have fx := (t3.free (i := j) (by rw [u8s_len]; exact hjx)).1
          have cy := (t3.pull 1 : Sat W wr (seg true bv ov (u8s Y) :: _)).cell (u8s_get _ j hjy)
          rw [hgx] at cx
          obtain ⟨x, hx⟩ : ∃ x, x = X.getD j 0 := ⟨_, rfl⟩
          obtain ⟨y, hy⟩ : ∃ y, y = Y.getD j 0 := ⟨_, rfl⟩
          rw [← hx] at cx
          rw [← hy] at cy
          have HJ := Lib.hid (And.intro hx (And.intro hy hjx)); clear hx hy hjx hjy hgx
          go_wp2_with fail
          refine wp_region_quiet_tail_lit 11 (by kernel_rfl) (by kernel_rfl) ?_
          simp only [List.take_succ_cons, List.take_zero, List.drop_succ_cons, List.drop_zero]
          repeat (go_big_quiet_step (fail))
          refine wpQuiet_nil ?_
          rintro _ ⟨nq, rfl⟩
          go_wp2
          go_roundw
          case rel =>
            obtain ⟨hx, hy, hjx⟩ := HJ.out
            refine ⟨j + 1, by omega, by go_num, ?_⟩
            have st := fun n => ((t3.drewN n).store (i := j) (by rw [u8s_len]; exact hjx) (.int .u8 (v8 (x ^^^ y))) (q := o8 + j) rfl)
            rw [u8s_set, hx, hy, xorAt_set, ← hx, ← hy, ← vxor8] at st
            have sf := bytesOf (st nq)
            have sg : Sat W _ (bytes true (some ⟨bv, ov, none⟩) Y :: bytes true (some ⟨b8, o8, none⟩) (xorAt X Y (j + 1)) :: bytes true q1 (pbOut wide P U c) :: bytes false p1 P :: bytes false p2 S :: []) := bytesOf (sf.pull 1)
            exact sg.pull 1
          case measure => simp [intOf]; omega
        · obtain rfl : j = hsz wide := by omega
          have hall : xorAt X Y (hsz wide) = pbOut wide P U (m + 1) := by rw [HX.out.2.2.1]; exact xorAt_all X Y _ HX.out.1 HX.out.2.1
          rw [hall, HX.out.2.2.2.1] at s
          have HF := Lib.hid s; clear s hall
          go_wp2
          go_roundw
          case rel => exact ⟨m + 1, qv, dv, by omega, by simp; omega, rfl, rfl, hv1, HX.out.2.2.2.2, HF.out⟩
          case measure => simp [intOf]; omega
    · obtain rfl : m = c := by omega
      have hO : (pbOut wide P U m).length = hsz wide := pbOut_len _ _ _ HU.out.1 _
      have HO := Lib.hid hO; clear hO
      go_wp2_with fail
      refine (sameT (pbOut wide P U m) (pbOut wide P U m) HO.out HO.out (by omega) rfl (by repeat (first | with_reducible refine Sat.sub (s) ?_ | with_reducible refine Sat.alloc' ?_ _ | with_reducible refine Sat.drew ?_ | with_reducible refine Sat.drewN ?_ _); repeat (first | with_reducible exact Fr.done | with_reducible exact Fr.nil | (with_reducible apply Fr.cons; (focus ((repeat (first | with_reducible exact Take.here | with_reducible apply Take.there)); done)))))).mono ?_
      rintro e w9 ⟨rfl, s9⟩
      go_wp2
      go_ret
      exact ⟨rfl, s9.below⟩
end Go.Proofs.Ytmohabidfalhoaa
