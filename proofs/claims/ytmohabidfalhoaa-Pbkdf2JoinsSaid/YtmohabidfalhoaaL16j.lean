/- Pbkdf2Joins: a key is the blocks, one behind the other, as far as it goes; where the arguments read as bytes, of bulk at most 1048576. -/
import Derived.Test.YtmohabidfalhoaaPbk5
namespace Go.Proofs.Ytmohabidfalhoaa
open Go.RowKit Go.Sep Go.Bv Go.Sha
set_option linter.unusedVariables false
set_option linter.unusedSimpArgs false
set_option maxRecDepth 100000 in
set_option maxHeartbeats 1000000 in
theorem joins_any (W : World) (wide : Bool) (a1 a2 : Option Addr × Nat × Nat × List Byte) (i3 i4 i5 : Int) (h1 : IsBytes W a1.1 a1.2.1 a1.2.2.1 a1.2.2.2) (h2 : IsBytes W a2.1 a2.2.1 a2.2.2.1 a2.2.2.2) :
    Calls Try.prog 12 #[.bool wide, .slice a1.1 a1.2.1 a1.2.2.1, .slice a2.1 a2.2.1 a2.2.2.1, .int .i64 i3, .int .i64 i4, .int .i64 i5] W fun e W' => e = .returned (.bool true) ∧ Below W.heap.size W W' := by
  obtain ⟨p1, n1, c1, P⟩ := a1
  obtain ⟨p2, n2, c2, S⟩ := a2
  simp only at h1 h2 ⊢
  have s0 : Sat W W (bytes false p1 P :: bytes false p2 S :: []) := h1.sat (h2.sat (Sat.nil W))
  obtain ⟨hP, hP1, hP2, -⟩ := h1
  obtain ⟨hS, hS1, hS2, -⟩ := h2
  have HA := Lib.hid (And.intro hP (And.intro hS (And.intro hP2 hS2))); clear hP hS hP2 hS2
  by_cases g1 : 3000 < n1
  · go_enter Try.func12, Try.ntmps12
    go_wp2_with fail
    refine (awake16 s0).mono ?_
    rintro e w1 ⟨rfl, s1⟩
    go_wp2
    go_ret
    exact ⟨rfl, s1.below⟩
  by_cases g2 : 3000 < n2
  · go_enter Try.func12, Try.ntmps12
    go_wp2_with fail
    refine (awake16 s0).mono ?_
    rintro e w1 ⟨rfl, s1⟩
    go_wp2
    go_ret
    exact ⟨rfl, s1.below⟩
  have hH0 := hsz_pos wide
  have hH := hsz_le64 wide
  go_enter Try.func12, Try.ntmps12
  go_wp2_with fail
  refine (awake16 s0).mono ?_
  rintro e w1 ⟨rfl, s1⟩
  clear s0
  go_wp2_with fail
  refine (alg16 _ wide).mono ?_
  rintro e w' ⟨rfl, rfl⟩
  go_wp2_with fail
  refine (pickF 8 (by rfl) (by decide) (by decide)).mono ?_
  rintro e w' ⟨c, hc, rfl, rfl⟩
  go_wp2_with fail
  refine (pickF 300 (by rfl) (by decide) (by decide)).mono ?_
  rintro e w' ⟨n, hn, rfl, rfl⟩
  go_wp2_with fail
  refine (pickF (n + 1) (by simp) (by omega) (by omega)).mono ?_
  rintro e w' ⟨k, hk, rfl, rfl⟩
  go_wp2_with fail
  refine (keyF wide none [] P S (1 + c) n HA.out.1 HA.out.2.1 rfl rfl (by simp) rfl (by repeat (first | with_reducible refine Sat.sub (ledNone s1) ?_ | with_reducible refine Sat.alloc' ?_ _ | with_reducible refine Sat.drew ?_ | with_reducible refine Sat.drewN ?_ _); repeat' (first | with_reducible exact Fr.done | with_reducible exact Fr.nil | with_reducible exact Take.here | with_reducible apply Fr.cons | with_reducible apply Take.there)) hP1 HA.out.2.2.1 hS1 HA.out.2.2.2 (by omega) (by omega) (by omega) (by simp only [tot]; omega) (by decide)).mono ?_
  rintro e w2 ⟨q1, rfl, s2⟩
  clear s1
  go_wp2_with fail
  refine (keyF wide none [] P S (1 + c) k HA.out.1 HA.out.2.1 rfl rfl (by simp) rfl (by repeat (first | with_reducible refine Sat.sub (ledNone s2) ?_ | with_reducible refine Sat.alloc' ?_ _ | with_reducible refine Sat.drew ?_ | with_reducible refine Sat.drewN ?_ _); repeat' (first | with_reducible exact Fr.done | with_reducible exact Fr.nil | with_reducible exact Take.here | with_reducible apply Fr.cons | with_reducible apply Take.there)) hP1 HA.out.2.2.1 hS1 HA.out.2.2.2 (by omega) (by omega) (by omega) (by simp only [tot]; omega) (by decide)).mono ?_
  rintro e w3 ⟨q2, rfl, s3⟩
  clear s2
  go_wp2
  have s4 : Sat W w3 (bytes true q1 ((pbMany wide P S (1 + c) (pbM wide n)).take n) :: bytes true q2 ((pbMany wide P S (1 + c) (pbM wide k)).take k) :: bytes false p1 P :: bytes false p2 S :: []) := (by repeat (first | with_reducible refine Sat.sub (s3) ?_ | with_reducible refine Sat.alloc' ?_ _ | with_reducible refine Sat.drew ?_ | with_reducible refine Sat.drewN ?_ _); repeat' (first | with_reducible exact Fr.done | with_reducible exact Fr.nil | with_reducible exact Take.here | with_reducible apply Fr.cons | with_reducible apply Take.there))
  clear s3
  go_loopw [20, 21] (fun t20 t21 wr => ∃ (j : Nat) (po : Option Addr) (co : Nat), j * hsz wide < n + hsz wide ∧ t21 = .int .i64 ((j : Int) + 1) ∧ t20 = .slice po (j * hsz wide) co ∧ Sat W wr (row po co 1 (j * hsz wide) (u8s (pbMany wide P S (1 + c) j)) :: bytes true q1 ((pbMany wide P S (1 + c) (pbM wide n)).take n) :: bytes true q2 ((pbMany wide P S (1 + c) (pbM wide k)).take k) :: bytes false p1 P :: bytes false p2 S :: [])) (fun t20 _ _ => n + 64 - (match t20 with | .slice _ l _ => l | _ => 0))
  case atStart => exact ⟨0, none, 0, by rw [Nat.zero_mul]; omega, rfl, by rw [Nat.zero_mul], by rw [Nat.zero_mul]; exact s4.rowNil 1⟩
  case round =>
    clear s4
    obtain ⟨j, po, co, hj, rfl, rfl, s⟩ := hrel
    have hjb : j ≤ 400 := by
      revert hj
      cases wide <;> simp only [hsz] <;> omega
    obtain ⟨J, hJ⟩ : ∃ J, J = j * hsz wide := ⟨_, rfl⟩
    rw [← hJ] at s hj ⊢
    have hJ2 : (j + 1) * hsz wide = J + hsz wide := by rw [Nat.succ_mul, hJ]
    have HJ := Lib.hid (And.intro hJ hJ2); clear hJ hJ2
    by_cases hlt : J < n
    · go_wp2_with fail
      refine (blockF wide none [] P S (1 + c) (j + 1) HA.out.1 HA.out.2.1 rfl rfl (by simp) (by simp) (by repeat (first | with_reducible refine Sat.sub (ledNone s) ?_ | with_reducible refine Sat.alloc' ?_ _ | with_reducible refine Sat.drew ?_ | with_reducible refine Sat.drewN ?_ _); repeat' (first | with_reducible exact Fr.done | with_reducible exact Fr.nil | with_reducible exact Take.here | with_reducible apply Fr.cons | with_reducible apply Take.there)) hP1 HA.out.2.2.1 hS1 HA.out.2.2.2 (by omega) (by omega) (by omega) (by omega) (by simp only [tot]; omega) (by decide)).mono ?_
      rintro e w4 ⟨qb, cb, rfl, s5⟩
      clear s
      go_wp2_with (refine wpl_app8 rfl (.tmp 89) (.tmp 90) rfl rfl rfl (by repeat (first | with_reducible refine Sat.sub (s5) ?_ | with_reducible refine Sat.alloc' ?_ _ | with_reducible refine Sat.drew ?_ | with_reducible refine Sat.drewN ?_ _); repeat' (first | with_reducible exact Fr.done | with_reducible exact Fr.nil | with_reducible exact Take.here | with_reducible apply Fr.cons | with_reducible apply Take.there)) (pbBlock_len _ _ _ _ _) (by omega) ?_; intro p6 c6 w6 s6)
      go_roundw
      case rel =>
        refine ⟨j + 1, p6, c6, by rw [HJ.out.2]; omega, by simp, by rw [HJ.out.2], ?_⟩
        rw [HJ.out.2]
        have s7 : Sat W w6 (row p6 c6 1 (J + hsz wide) (u8s (pbMany wide P S (1 + c) (j + 1))) :: _) := s6
        exact (by repeat (first | with_reducible refine Sat.sub (s7) ?_ | with_reducible refine Sat.alloc' ?_ _ | with_reducible refine Sat.drew ?_ | with_reducible refine Sat.drewN ?_ _); repeat' (first | with_reducible exact Fr.done | with_reducible exact Fr.nil | with_reducible exact Take.here | with_reducible apply Fr.cons | with_reducible apply Take.there))
      case measure => simp; omega
    · have hM := pbM_of wide n j (by rw [← HJ.out.1]; omega) (by rw [← HJ.out.1]; exact hj)
      have e1 : (pbMany wide P S (1 + c) (pbM wide n)).take n = (pbMany wide P S (1 + c) j).take n := by rw [← hM]
      have e2 : (pbMany wide P S (1 + c) (pbM wide k)).take k = (pbMany wide P S (1 + c) j).take k := pbMany_take _ _ _ _ (pbM_ge _ _) (by rw [← HJ.out.1]; omega)
      rw [e1, e2] at s
      obtain ⟨B, hB⟩ : ∃ B, B = pbMany wide P S (1 + c) j := ⟨_, rfl⟩
      rw [← hB] at s
      have hBl : B.length = J := by rw [hB, pbMany_len, HJ.out.1]
      obtain ⟨-, hc1, hc2, s7⟩ := rowBytes s
      have t1 : Sat W wr (bytes true po (B.take n) :: bytes true q1 (B.take n) :: bytes true q2 (B.take k) :: []) := (bytesTake n s7).sub (.cons .here (.cons .here (.cons .here .nil)))
      have t2 : Sat W wr (bytes true po (B.take k) :: bytes true q1 (B.take n) :: bytes true q2 (B.take k) :: []) := (bytesTake k s7).sub (.cons .here (.cons .here (.cons .here .nil)))
      have HB := Lib.hid (And.intro hBl (And.intro hc2 (And.intro t1 t2)))
      clear hM e1 e2 hB hBl hc2 t1 t2 s7 s
      go_wp2_with fail
      refine (sameT (B.take n) (B.take n) (by rw [List.length_take, HB.out.1]; omega) (by rw [List.length_take, HB.out.1]; omega) (by omega) rfl (by repeat (first | with_reducible refine Sat.sub (HB.out.2.2.1) ?_ | with_reducible refine Sat.alloc' ?_ _ | with_reducible refine Sat.drew ?_ | with_reducible refine Sat.drewN ?_ _); repeat' (first | with_reducible exact Fr.done | with_reducible exact Fr.nil | with_reducible exact Take.here | with_reducible apply Fr.cons | with_reducible apply Take.there))).mono ?_
      rintro e w8 ⟨rfl, s8⟩
      have t2 : Sat W w8 (bytes true po (B.take n) :: bytes true q2 (B.take k) :: []) := (by repeat (first | with_reducible refine Sat.sub (s8) ?_ | with_reducible refine Sat.alloc' ?_ _ | with_reducible refine Sat.drew ?_ | with_reducible refine Sat.drewN ?_ _); repeat' (first | with_reducible exact Fr.done | with_reducible exact Fr.nil | with_reducible exact Take.here | with_reducible apply Fr.cons | with_reducible apply Take.there))
      have t3 : Sat W w8 (bytes true po ((B.take n).take k) :: bytes true q2 (B.take k) :: []) := bytesTake k t2
      rw [List.take_take, Nat.min_eq_left (by omega)] at t3
      clear t2 s8
      go_wp2_with fail
      refine (sameT (B.take k) (B.take k) (by rw [List.length_take, HB.out.1]; omega) (by rw [List.length_take, HB.out.1]; omega) (by omega) rfl (by repeat (first | with_reducible refine Sat.sub (t3) ?_ | with_reducible refine Sat.alloc' ?_ _ | with_reducible refine Sat.drew ?_ | with_reducible refine Sat.drewN ?_ _); repeat' (first | with_reducible exact Fr.done | with_reducible exact Fr.nil | with_reducible exact Take.here | with_reducible apply Fr.cons | with_reducible apply Take.there))).mono ?_
      rintro e w9 ⟨rfl, s9⟩
      go_wp2
      go_ret
      exact ⟨rfl, s9.below⟩
end Go.Proofs.Ytmohabidfalhoaa
