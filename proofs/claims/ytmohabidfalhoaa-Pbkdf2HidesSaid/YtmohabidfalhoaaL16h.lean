/- Pbkdf2Hides: passwords and salts of the same lengths have the same ledger; where the arguments read as bytes, of bulk at most 1048576. -/
import Derived.Test.YtmohabidfalhoaaPbk5
namespace Go.Proofs.Ytmohabidfalhoaa
open Go.RowKit Go.Sep Go.Bv Go.Sha
set_option linter.unusedVariables false
set_option linter.unusedSimpArgs false
/-- Bytes written over up to a place. -/
def overTo (xs : List Byte) (b : Byte) (j : Nat) : List Byte := List.replicate j b ++ xs.drop j
theorem overTo_len (xs : List Byte) (b : Byte) (j : Nat) (h : j ≤ xs.length) : (overTo xs b j).length = xs.length := by
  simp [overTo]; omega
theorem overTo_set (xs : List Byte) (b : Byte) (j : Nat) (h : j < xs.length) : (overTo xs b j).set j b = overTo xs b (j + 1) := by
  unfold overTo
  rw [List.set_append_right _ _ (by simp), List.length_replicate, Nat.sub_self, List.drop_eq_getElem_cons h, List.set_cons_zero, List.replicate_succ', List.append_assoc]
  rfl
theorem overTo_all (xs : List Byte) (b : Byte) (j : Nat) (h : xs.length ≤ j) : overTo xs b j = List.replicate j b := by
  unfold overTo
  rw [List.drop_eq_nil_of_le h, List.append_nil]
theorem u8_byte (z : Int) (hw : (Lit.int .u8 z).wf = true) : ∃ b : Byte, z = v8 b := by
  simp only [Lit.wf, Bool.and_eq_true, decide_eq_true_eq] at hw
  have h1 : IntKind.u8.min = 0 := rfl
  have h2 : IntKind.u8.max = 255 := rfl
  rw [h1, h2] at hw
  exact ⟨BitVec.ofInt 8 z, by rw [v8_ofInt z (by omega) (by omega)]⟩
set_option maxRecDepth 100000 in
set_option maxHeartbeats 600000 in
theorem hides_any (W : World) (wide : Bool) (a1 a2 : Option Addr × Nat × Nat × List Byte) (b : Byte) (i4 i5 : Int) (h1 : IsBytes W a1.1 a1.2.1 a1.2.2.1 a1.2.2.2) (h2 : IsBytes W a2.1 a2.2.1 a2.2.2.1 a2.2.2.2) :
    Calls Try.prog 13 #[.bool wide, .slice a1.1 a1.2.1 a1.2.2.1, .slice a2.1 a2.2.1 a2.2.2.1, .int .u8 (v8 b), .int .i64 i4, .int .i64 i5] W fun e W' => e = .returned (.bool true) ∧ Below W.heap.size W W' := by
  obtain ⟨p1, n1, c1, P⟩ := a1
  obtain ⟨p2, n2, c2, S⟩ := a2
  simp only at h1 h2 ⊢
  have s0 : Sat W W (bytes false p1 P :: bytes false p2 S :: []) := h1.sat (h2.sat (Sat.nil W))
  obtain ⟨hP, hP1, hP2, -⟩ := h1
  obtain ⟨hS, hS1, hS2, -⟩ := h2
  have HA := Lib.hid (And.intro hP (And.intro hS (And.intro hP2 hS2))); clear hP hS hP2 hS2
  by_cases g1 : 3000 < n1
  · go_enter Try.func13, Try.ntmps13
    go_wp2_with fail
    refine (awake16 s0).mono ?_
    rintro e w1 ⟨rfl, s1⟩
    go_wp2
    go_ret
    exact ⟨rfl, s1.below⟩
  by_cases g2 : 3000 < n2
  · go_enter Try.func13, Try.ntmps13
    go_wp2_with fail
    refine (awake16 s0).mono ?_
    rintro e w1 ⟨rfl, s1⟩
    go_wp2
    go_ret
    exact ⟨rfl, s1.below⟩
  go_enter Try.func13, Try.ntmps13
  go_wp2_with fail
  refine (awake16 s0).mono ?_
  rintro e w1 ⟨rfl, s1⟩
  clear s0
  go_wp2_with fail
  refine (alg16 _ wide).mono ?_
  rintro e w' ⟨rfl, rfl⟩
  go_wp2_with fail
  refine (pickF 8 (by rfl) (by decide) (by decide)).mono ?_
  rintro e w' ⟨c, hc, rfl, rfl⟩
  go_wp2_with fail
  refine (pickF 200 (by rfl) (by decide) (by decide)).mono ?_
  rintro e w' ⟨n, hn, rfl, rfl⟩
  go_wp2_with fail
  refine (copyS P HA.out.1 (by omega) (by repeat (first | with_reducible refine Sat.sub (s1) ?_ | with_reducible refine Sat.alloc' ?_ _ | with_reducible refine Sat.drew ?_ | with_reducible refine Sat.drewN ?_ _); repeat (first | with_reducible exact Fr.done | with_reducible exact Fr.nil | (with_reducible apply Fr.cons; (focus ((repeat (first | with_reducible exact Take.here | with_reducible apply Take.there)); done)))))).mono ?_
  rintro e w2 ⟨q1, d1, rfl, s2⟩
  clear s1
  go_wp2_with fail
  refine (copyS S HA.out.2.1 (by omega) (by repeat (first | with_reducible refine Sat.sub (s2) ?_ | with_reducible refine Sat.alloc' ?_ _ | with_reducible refine Sat.drew ?_ | with_reducible refine Sat.drewN ?_ _); repeat (first | with_reducible exact Fr.done | with_reducible exact Fr.nil | (with_reducible apply Fr.cons; (focus ((repeat (first | with_reducible exact Take.here | with_reducible apply Take.there)); done)))))).mono ?_
  rintro e w3 ⟨q2, d2, rfl, s3⟩
  clear s2
  obtain ⟨-, hd2, hd3, s4⟩ := rowBytes s3
  have s5 : Sat W w3 (row q1 d1 1 n1 (u8s P) :: _) := (by repeat (first | with_reducible refine Sat.sub (s4) ?_ | with_reducible refine Sat.alloc' ?_ _ | with_reducible refine Sat.drew ?_ | with_reducible refine Sat.drewN ?_ _); repeat (first | with_reducible exact Fr.done | with_reducible exact Fr.nil | (with_reducible apply Fr.cons; (focus ((repeat (first | with_reducible exact Take.here | with_reducible apply Take.there)); done)))))
  obtain ⟨-, hd0, hd1, s6⟩ := rowBytes s5
  have s7 : Sat W w3 (bytes true q1 P :: bytes true q2 S :: bytes false p1 P :: bytes false p2 S :: []) := (by repeat (first | with_reducible refine Sat.sub (s6) ?_ | with_reducible refine Sat.alloc' ?_ _ | with_reducible refine Sat.drew ?_ | with_reducible refine Sat.drewN ?_ _); repeat (first | with_reducible exact Fr.done | with_reducible exact Fr.nil | (with_reducible apply Fr.cons; (focus ((repeat (first | with_reducible exact Take.here | with_reducible apply Take.there)); done)))))
  clear s3 s4 s5 s6
  have HD := Lib.hid (And.intro hd1 hd3); clear hd1 hd3
  go_wp2
  go_loopw [18] (fun t18 wr => ∃ j : Nat, j ≤ n1 ∧ t18 = .int .i64 (j : Int) ∧ Sat W wr (bytes true q1 (overTo P b j) :: bytes true q2 S :: bytes false p1 P :: bytes false p2 S :: [])) (fun t18 _ => n1 - (intOf t18).toNat)
  case atStart => exact ⟨0, Nat.zero_le _, rfl, s7⟩
  case round =>
    clear s7
    obtain ⟨j, hj, rfl, s⟩ := hrel
    by_cases hlt : j < n1
    · obtain ⟨bq, oq, rfl, s8⟩ := bytesCell s (by intro h; have := overTo_len P b j (by rw [HA.out.1]; exact hj); rw [h, HA.out.1] at this; simp at this; omega)
      have hjl : j < (overTo P b j).length := by rw [overTo_len P b j (by rw [HA.out.1]; exact hj), HA.out.1]; exact hlt
      have cg := s8.cell (u8s_get _ j hjl)
      have fg := (s8.free (i := j) (by rw [u8s_len]; exact hjl)).1
      obtain ⟨z, hz⟩ : ∃ z, z = (overTo P b j).getD j 0 := ⟨_, rfl⟩
      rw [← hz] at cg
      clear hz
      have s9 := s8.store (i := j) (by rw [u8s_len]; exact hjl) (.int .u8 (v8 b)) (q := oq + j) rfl
      rw [u8s_set, overTo_set P b j (by rw [HA.out.1]; exact hlt)] at s9
      have HJ := Lib.hid s9; clear s9 s8 s hjl
      go_wp2
      go_roundw
      case rel => exact ⟨j + 1, by omega, by go_num, bytesOf HJ.out⟩
      case measure => simp [intOf]; omega
    · obtain rfl : j = n1 := by omega
      rw [overTo_all P b j (by rw [HA.out.1]; exact Nat.le_refl _)] at s
      have s7 : Sat W wr (bytes true q2 S :: bytes true q1 (List.replicate j b) :: bytes false p1 P :: bytes false p2 S :: []) := (by repeat (first | with_reducible refine Sat.sub (s) ?_ | with_reducible refine Sat.alloc' ?_ _ | with_reducible refine Sat.drew ?_ | with_reducible refine Sat.drewN ?_ _); repeat (first | with_reducible exact Fr.done | with_reducible exact Fr.nil | (with_reducible apply Fr.cons; (focus ((repeat (first | with_reducible exact Take.here | with_reducible apply Take.there)); done)))))
      clear s
      go_wp2
      obtain ⟨wo, hwo⟩ : ∃ wo : World, wo = wr := ⟨_, rfl⟩
      clear hwo wo
      go_loopw [19] (fun t19 wr => ∃ i : Nat, i ≤ n2 ∧ t19 = .int .i64 (i : Int) ∧ Sat W wr (bytes true q2 (overTo S b i) :: bytes true q1 (List.replicate j b) :: bytes false p1 P :: bytes false p2 S :: [])) (fun t19 _ => n2 - (intOf t19).toNat)
      case atStart => exact ⟨0, Nat.zero_le _, rfl, s7⟩
      case round =>
        clear s7
        obtain ⟨i, hi, rfl, s⟩ := hrel
        by_cases hlt2 : i < n2
        · obtain ⟨bq, oq, rfl, s8⟩ := bytesCell s (by intro h; have := overTo_len S b i (by rw [HA.out.2.1]; exact hi); rw [h, HA.out.2.1] at this; simp at this; omega)
          have hjl : i < (overTo S b i).length := by rw [overTo_len S b i (by rw [HA.out.2.1]; exact hi), HA.out.2.1]; exact hlt2
          have cg := s8.cell (u8s_get _ i hjl)
          have fg := (s8.free (i := i) (by rw [u8s_len]; exact hjl)).1
          obtain ⟨z, hz⟩ : ∃ z, z = (overTo S b i).getD i 0 := ⟨_, rfl⟩
          rw [← hz] at cg
          clear hz
          have s9 := s8.store (i := i) (by rw [u8s_len]; exact hjl) (.int .u8 (v8 b)) (q := oq + i) rfl
          rw [u8s_set, overTo_set S b i (by rw [HA.out.2.1]; exact hlt2)] at s9
          have HJ := Lib.hid s9; clear s9 s8 s hjl
          go_wp2
          go_roundw
          case rel => exact ⟨i + 1, by omega, by go_num, bytesOf HJ.out⟩
          case measure => simp [intOf]; omega
        · obtain rfl : i = n2 := by omega
          rw [overTo_all S b i (by rw [HA.out.2.1]; exact Nat.le_refl _)] at s
          go_wp2_with fail
          refine (ledNewF s).mono ?_
          rintro e w4 ⟨l1, rfl, s10⟩
          clear s
          go_wp2_with fail
          refine (ledNewF s10).mono ?_
          rintro e w5 ⟨l2, rfl, s11⟩
          clear s10
          go_wp2_with fail
          refine (keyF wide (some l1) [] P S (1 + c) n HA.out.1 HA.out.2.1 rfl rfl (by simp) rfl (by repeat (first | with_reducible refine Sat.sub (s11) ?_ | with_reducible refine Sat.alloc' ?_ _ | with_reducible refine Sat.drew ?_ | with_reducible refine Sat.drewN ?_ _); repeat (first | with_reducible exact Fr.done | with_reducible exact Fr.nil | (with_reducible apply Fr.cons; (focus ((repeat (first | with_reducible exact Take.here | with_reducible apply Take.there)); done))))) hP1 HA.out.2.2.1 hS1 HA.out.2.2.2 (by omega) (by omega) (by omega) (by simp only [tot]; omega) (by decide)).mono ?_
          rintro e w6 ⟨q3, rfl, s12⟩
          clear s11
          go_wp2_with fail
          refine (keyF wide (some l2) [] (List.replicate j b) (List.replicate i b) (1 + c) n (by simp) (by simp) rfl rfl (by simp) rfl (by repeat (first | with_reducible refine Sat.sub (s12) ?_ | with_reducible refine Sat.alloc' ?_ _ | with_reducible refine Sat.drew ?_ | with_reducible refine Sat.drewN ?_ _); repeat (first | with_reducible exact Fr.done | with_reducible exact Fr.nil | (with_reducible apply Fr.cons; (focus ((repeat (first | with_reducible exact Take.here | with_reducible apply Take.there)); done))))) hd0 HD.out.1 hd2 HD.out.2 (by omega) (by omega) (by omega) (by simp only [tot]; omega) (by decide)).mono ?_
          rintro e w7 ⟨q4, rfl, s13⟩
          clear s12
          obtain ⟨R, hR⟩ : ∃ R, R = noteN [] (evK wide) (evS wide) (keyN wide j + pbM wide n * pbN wide i (1 + c)) := ⟨_, rfl⟩
          rw [← hR] at s13
          have hT : 2 ≤ tot R := by
            rw [hR, tot_noteN]
            have := keyN_ge wide j
            simp only [tot]; omega
          have hRl : R.length ≤ 1 := by rw [hR]; exact noteN_len _ _ _ _
          clear hR
          go_wp2_with fail
          refine (ledLenF (l := l1) (by repeat (first | with_reducible refine Sat.sub (s13) ?_ | with_reducible refine Sat.alloc' ?_ _ | with_reducible refine Sat.drew ?_ | with_reducible refine Sat.drewN ?_ _); repeat (first | with_reducible exact Fr.done | with_reducible exact Fr.nil | (with_reducible apply Fr.cons; (focus ((repeat (first | with_reducible exact Take.here | with_reducible apply Take.there)); done)))))).mono ?_
          rintro e w' ⟨rfl, rfl⟩
          go_wp2_with fail
          refine (ledRunsF (l := l1) (rs := R) (by omega) (by repeat (first | with_reducible refine Sat.sub (s13) ?_ | with_reducible refine Sat.alloc' ?_ _ | with_reducible refine Sat.drew ?_ | with_reducible refine Sat.drewN ?_ _); repeat (first | with_reducible exact Fr.done | with_reducible exact Fr.nil | (with_reducible apply Fr.cons; (focus ((repeat (first | with_reducible exact Take.here | with_reducible apply Take.there)); done)))))).mono ?_
          rintro e w8 ⟨q5, c5, rfl, s14⟩
          clear s13
          go_wp2_with fail
          refine (ledRunsF (l := l2) (rs := R) (by omega) (by repeat (first | with_reducible refine Sat.sub (s14) ?_ | with_reducible refine Sat.alloc' ?_ _ | with_reducible refine Sat.drew ?_ | with_reducible refine Sat.drewN ?_ _); repeat (first | with_reducible exact Fr.done | with_reducible exact Fr.nil | (with_reducible apply Fr.cons; (focus ((repeat (first | with_reducible exact Take.here | with_reducible apply Take.there)); done)))))).mono ?_
          rintro e w9 ⟨q6, c6, rfl, s15⟩
          clear s14
          go_wp2_with fail
          refine (sameRuns R rfl rfl (by omega) (by repeat (first | with_reducible refine Sat.sub (s15) ?_ | with_reducible refine Sat.alloc' ?_ _ | with_reducible refine Sat.drew ?_ | with_reducible refine Sat.drewN ?_ _); repeat (first | with_reducible exact Fr.done | with_reducible exact Fr.nil | (with_reducible apply Fr.cons; (focus ((repeat (first | with_reducible exact Take.here | with_reducible apply Take.there)); done)))))).mono ?_
          rintro e w10 ⟨rfl, s16⟩
          go_wp2
          go_ret
          exact ⟨rfl, s16.below⟩
theorem hides_u8 (W : World) (wide : Bool) (a1 a2 : Option Addr × Nat × Nat × List Byte) (z i4 i5 : Int) (h1 : IsBytes W a1.1 a1.2.1 a1.2.2.1 a1.2.2.2) (h2 : IsBytes W a2.1 a2.2.1 a2.2.2.1 a2.2.2.2) (hz : (Lit.int .u8 z).wf = true) :
    Calls Try.prog 13 #[.bool wide, .slice a1.1 a1.2.1 a1.2.2.1, .slice a2.1 a2.2.1 a2.2.2.1, .int .u8 z, .int .i64 i4, .int .i64 i5] W fun e W' => e = .returned (.bool true) ∧ Below W.heap.size W W' := by
  obtain ⟨b, rfl⟩ := u8_byte z hz
  exact hides_any W wide a1 a2 b i4 i5 h1 h2
end Go.Proofs.Ytmohabidfalhoaa
