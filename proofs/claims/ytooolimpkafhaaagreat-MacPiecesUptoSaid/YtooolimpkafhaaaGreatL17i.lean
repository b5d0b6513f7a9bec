
/- Layer 17: other bytes, as many; under the conditions that each names. -/
import Derived.Test.YtooolimpkafhaaaGreatL17h
import Derived.Test.YtooolimpkafhaaaGreatKit2
namespace Go.Proofs.YtooolimpkafhaaaGreat
open Go.RowKit Go.Sep Go.Bv Go.Kec Go.Aes Go.Sha
set_option linter.unusedVariables false
set_option linter.unusedSimpArgs false
set_option maxRecDepth 100000 in
set_option maxHeartbeats 2000000 in
theorem other17 {W0 w : World} {L : List Assn} {m : Bool} {pp : Option Addr} {n cap : Nat} (P : List Byte) (y : Byte) (hP : P.length = n) (hn : n ≤ 1000000000) (hs : Sat W0 w (bytes m pp P :: L)) :
    Calls Tryz.prog 23 #[.slice pp n cap, .int .u8 (v8 y)] w fun e w' => ∃ (q : Option Addr) (c : Nat) (bs : List Byte), e = .returned (.slice q n c) ∧ bs.length = n ∧ n ≤ c ∧ c ≤ maxLen ∧ Sat W0 w' (bytes true q bs :: bytes m pp P :: L) := by
  have HP := Lib.hid hP; clear hP
  go_enter Tryz.func23, Tryz.ntmps23
  go_wp2
  go_loopw [5, 6] (fun t5 t6 wr => ∃ (i : Nat) (q : Option Addr) (c : Nat) (bs : List Byte), i ≤ n ∧ t6 = .int .i64 (i : Int) ∧ t5 = .slice q i c ∧ bs.length = i ∧ Sat W0 wr (row q c 1 i (u8s bs) :: bytes m pp P :: L)) (fun _ t6 _ => n - (intOf t6).toNat)
  case atStart => exact ⟨0, none, 0, [], Nat.zero_le _, rfl, rfl, rfl, hs.rowNil 1⟩
  case round =>
    clear hs
    obtain ⟨i, q, c, bs, hi, rfl, rfl, hbl, s⟩ := hrel
    have HB := Lib.hid hbl; clear hbl
    by_cases hlt : i < n
    · obtain ⟨ba, oa, rfl, h1⟩ := bytesCell (s.pull 1 : Sat W0 wr (bytes m pp P :: _)) (by rintro rfl; rw [← HP.out] at hlt; exact absurd hlt (by simp))
      have c1 := h1.cell (u8s_get P i (by rw [HP.out]; exact hlt))
      obtain ⟨x, hx⟩ : ∃ x, x = P.getD i 0 := ⟨_, rfl⟩
      rw [← hx] at c1
      clear hx h1
      go_wp2_with (at_builtin; refine wpl_app8 rfl (.tmp 13) (.tmp 23) rfl rfl rfl (byteOn (b := x ^^^ y ^^^ BitVec.ofNat 8 i) ?hz s) rfl (by omega) ?_; rotate_left; intro p9 c9 w9 s9)
      case hz =>
        have h0 : ((i : Int) % 256) = v8 (BitVec.ofNat 8 i) := by
          show ((i : Int) % 256) = (((BitVec.ofNat 8 i).toNat : Nat) : Int)
          rw [BitVec.toNat_ofNat]; omega
        rw [vxor8, h0, vxor8]
      go_roundw
      case rel => exact ⟨i + 1, p9, c9, bs ++ [x ^^^ y ^^^ BitVec.ofNat 8 i], by omega, by go_num, rfl, by rw [List.length_append, HB.out]; rfl, s9.drop 1⟩
      case measure => simp [intOf]; omega
    · obtain rfl : i = n := by omega
      obtain ⟨-, h1, h2, s2⟩ := rowBytes s
      have HS := Lib.hid (And.intro h1 (And.intro h2 s2)); clear h1 h2 s2 s
      go_wp2
      go_ret
      exact ⟨q, c, bs, rfl, HB.out, HS.out⟩
end Go.Proofs.YtooolimpkafhaaaGreat
