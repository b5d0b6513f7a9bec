
/- Layer 5's program: Write, words; under the conditions that each names. -/
import Derived.Test.YtlmababpmmhhoaaGreatSha256e
namespace Go.Proofs.YtlmababpmmhhoaaGreat
open Go.RowKit Go.Sep Go.Bv Go.Sha
set_option linter.unusedVariables false
set_option linter.unusedSimpArgs false
set_option maxHeartbeats 1000000 in
theorem write256 {W0 w : World} {L : List Assn} {b cap : Nat} {m : Bool} {sp : Option Addr} (p : Option Nat) (rs : List Run3) (msg bs : List Byte) (hcap : bs.length ≤ cap) (hcm : cap ≤ maxLen) (hb : tot rs + msg.length + bs.length ≤ 2305843009213693952) (hl : rs.length ≤ 1048576)
    (hs : Sat W0 w (ledO p rs :: bytes m sp bs :: stM256 b msg L)) :
    Calls Tryz.prog 127 #[.pointer (some ⟨b, 0, none⟩), ptrO p, .slice sp bs.length cap] w fun e w' => e = .returned (.int .i64 0) ∧ Sat W0 w' (ledO p (noteN rs 1 64 ((msg.length + bs.length) / 64 - msg.length / 64)) :: bytes m sp bs :: stM256 b (msg ++ bs) L) := by
  have hn : Sat W0 w (seg true b 73 [.bool true] :: _) := hs.pull 5
  have hc := put256 p rs msg bs hcap hcm hb hl hs
  clear hcap hcm hb hl
  go_enter Tryz.func127, Tryz.ntmps127
  go_wp2_with fail
  refine (none256 hn).mono ?_
  rintro e w' ⟨rfl, rfl⟩
  go_wp2_with fail
  refine hc.mono ?_
  rintro e w1 ⟨rfl, s1⟩
  go_wp2
  go_ret
  exact ⟨rfl, s1⟩
theorem laid_len {w : Nat} (n : Nat) (h : List (BitVec w)) : (laid n h).length = h.length * n := by
  induction h with
  | nil => simp [laid]
  | cons x l ih =>
    have e : laid n (x :: l) = layBE n x ++ laid n l := rfl
    rw [e, List.length_append, layBE_len, ih, List.length_cons, Nat.succ_mul]; omega
theorem laid_snoc {w : Nat} (n : Nat) (h : List (BitVec w)) (x : BitVec w) : laid n (h ++ [x]) = laid n h ++ layBE n x := by simp [laid]
set_option maxRecDepth 100000 in
set_option maxHeartbeats 2000000 in
theorem words256 {W0 w : World} {L : List Assn} {b : Nat} (h : List (BitVec 32)) (hh : h.length = 8) (hs : Sat W0 w (seg true b 0 (u32s h) :: L)) :
    Calls Tryz.prog 71 #[.pointer (some ⟨b, 0, none⟩)] w fun e w' => ∃ p c, e = .returned (.slice p 32 c) ∧ Sat W0 w' (row p c 1 32 (u8s (laid 4 h)) :: seg true b 0 (u32s h) :: L) := by
  obtain ⟨i3, hi3, hz3, hs3, hb3⟩ := info_parts Tryz.info_u8
  have hix := fun (j : Nat) (hj : j < 8) (w : World) => run_index_list (P := Tryz.prog) (t := 103) (e := 102) Tryz.underlying103 (by kernel_rfl) (fun w => by simp [go_sem]) (u32s h) (by rw [u32s_len, hh]) j hj w
  have ht8 : (u32s h).take 8 = u32s h := List.take_of_length_le (by rw [u32s_len, hh]; decide)
  have Hh := Lib.hid hh; clear hh
  go_enter Tryz.func71, Tryz.ntmps71
  go_wp2_with (refine wpl_load_agg rfl 103 (.tmp 8) rfl Tryz.underlying103 rfl (n := 8) (by kernel_rfl) hs 0 0 rfl rfl (by rw [u32s_len, Hh.out]; decide) ?_)
  go_loopw [3, 10] (fun t3 t10 wr => ∃ (i : Nat) (p : Option Addr) (c : Nat), i ≤ 8 ∧ t10 = .int .i64 (i : Int) ∧ t3 = .slice p (i * 4) c ∧ Sat W0 wr (row p c 1 (i * 4) (u8s (laid 4 (h.take i))) :: seg true b 0 (u32s h) :: L)) (fun _ t10 _ => 8 - (intOf t10).toNat)
  case atStart => exact ⟨0, none, 0, by omega, rfl, rfl, hs.rowNil 1⟩
  case round =>
    obtain ⟨i, p, c, hi, rfl, rfl, s⟩ := hrel
    by_cases hlt : i < 8
    · have hi1 := fun w => hix i hlt w
      have hgd : (u32s h).getD i undef = .int .u32 (v32 (h.getD i 0)) := by
        rw [List.getD_eq_getElem?_getD, u32s_get h i (by rw [Hh.out]; exact hlt)]; rfl
      rw [hgd] at hi1
      obtain ⟨x, hx⟩ : ∃ x, x = h.getD i 0 := ⟨_, rfl⟩
      rw [← hx] at hi1
      have hl := lay32 x s
      have Hx := Lib.hid hx; clear hx hgd hix
      go_wp2_with fail
      refine hl.mono ?_
      rintro e w1 ⟨g, rfl, s1⟩
      have s2 : Sat W0 w1 (row p c 1 (i * 4) (u8s (laid 4 (h.take i))) :: seg true g 0 (u8s (layBE 4 x)) :: seg true b 0 (u32s h) :: L) := s1.pull 1
      go_wp2_with (refine wpl_append rfl (.tmp 13) (.tmp 15) 41 rfl Tryz.underlying41 hi3 hz3 hs3 hb3 rfl (by decide) s2 rfl (some ⟨g, 0, none⟩) 4 4 rfl (u8s (layBE 4 x)) (by rw [u8s_len, layBE_len]) s1.news (fun h => by cases h) (u8s_one _) (by unfold maxLen; omega) (by omega) ?_; intro p' c' w2 s3 _ _)
      go_roundw
      case rel =>
        refine ⟨i + 1, p', c', by omega, by go_num, by rw [Nat.succ_mul], ?_⟩
        have e : h.take (i + 1) = h.take i ++ [x] := by
          rw [List.take_succ_eq_append_getElem (by rw [Hh.out]; exact hlt), Hx.out]
          simp [Hh.out, hlt]
        rw [e, laid_snoc, u8s_append, Nat.succ_mul]
        exact s3.drop 1
      case measure => simp [intOf]; omega
    · obtain rfl : i = 8 := by omega
      go_wp2
      go_ret
      exact ⟨p, c, rfl, by rw [List.take_of_length_le (by rw [Hh.out]; exact Nat.le_refl _)] at s; exact s⟩
end Go.Proofs.YtlmababpmmhhoaaGreat
