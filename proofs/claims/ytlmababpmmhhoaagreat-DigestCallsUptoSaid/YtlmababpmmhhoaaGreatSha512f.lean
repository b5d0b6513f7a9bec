
/- Layer 6's program: the package's Sum, and Form; under the conditions that each names. -/
import Derived.Test.YtlmababpmmhhoaaGreatSha512e
namespace Go.Proofs.YtlmababpmmhhoaaGreat
open Go.RowKit Go.Sep Go.Bv Go.Sha
set_option linter.unusedVariables false
set_option linter.unusedSimpArgs false
set_option maxRecDepth 100000 in
set_option maxHeartbeats 2000000 in
theorem whole512 {W0 w : World} {L : List Assn} {cap : Nat} {m : Bool} {sp : Option Addr} (p : Option Nat) (rs : List Run3) (bs : List Byte) (hcap : bs.length ≤ cap) (hcm : cap ≤ maxLen) (hb : tot rs + 2 * bs.length + 400 ≤ 2305843009213693952) (hl : rs.length + 1 ≤ 1048576)
    (hs : Sat W0 w (ledO p rs :: bytes m sp bs :: L)) :
    Calls Tryz.prog 37 #[ptrO p, .slice sp bs.length cap] w fun e w' => ∃ q c, e = .returned (.slice q 64 c) ∧ Sat W0 w' (row q c 1 64 (u8s (sha512 bs)) :: ledO p (noteN rs 2 128 ((pad512 bs).length / 128)) :: bytes m sp bs :: L) := by
  have hn := new512 hs
  have HB := Lib.hid (And.intro hb (And.intro hl (And.intro hcap hcm))); clear hb hl hcap hcm
  go_enter Tryz.func37, Tryz.ntmps37
  go_wp2_with fail
  refine hn.mono ?_
  rintro e w1 ⟨b, rfl, s1⟩
  have s2 : Sat W0 w1 (ledO p rs :: bytes m sp bs :: stM512 b [] L) := s1.pick [4, 5]
  have hp := write512 p rs [] bs HB.out.2.2.1 HB.out.2.2.2 (by have := HB.out.1; simp; omega) (by have := HB.out.2.1; omega) s2
  go_wp2_with fail
  refine hp.mono ?_
  rintro e w2 ⟨rfl, s3⟩
  simp only [List.nil_append, List.length_nil, Nat.zero_add, Nat.zero_div, Nat.sub_zero] at s3
  have s4 : Sat W0 w2 (ledO p (noteN rs 2 128 (bs.length / 128)) :: stM512 b bs (bytes m sp bs :: L)) := s3.pick [0, 2, 3, 4, 5]
  have hq := sum512 p _ bs (by rw [tot_noteN]; have := HB.out.1; omega) (by have := HB.out.2.1; have := noteN_len rs 2 128 (bs.length / 128); omega) s4
  go_wp2_with fail
  refine hq.mono ?_
  rintro e w3 ⟨q, c, rfl, s5⟩
  go_wp2
  go_ret
  refine ⟨q, c, rfl, ?_⟩
  rw [noteN_add, show bs.length / 128 + ((pad512 bs).length / 128 - bs.length / 128) = (pad512 bs).length / 128 by rw [pad512_len]; omega] at s5
  exact ((((s5.drop 2).drop 2).drop 2).drop 2)
theorem lay64n (n : Nat) (h : (n : Int) ≤ 2305843009213693952) : (n : Int) = v64 (BitVec.ofNat 64 n) := by
  simp only [v64, BitVec.toNat_ofNat]; omega
set_option maxRecDepth 100000 in
set_option maxHeartbeats 2000000 in
theorem formOf512 {W0 w : World} {L : List Assn} {b : Nat} (msg : List Byte) (hb : msg.length ≤ 2305843009213693952) (hs : Sat W0 w (stM512 b msg L)) :
    Calls Tryz.prog 130 #[.pointer (some ⟨b, 0, none⟩)] w fun e w' => ∃ q c, e = .returned (.slice q 200 c) ∧ Sat W0 w' (row q c 1 200 (u8s (form512 msg)) :: stM512 b msg L) := by
  obtain ⟨i3, hi3, hz3, hs3, hb3⟩ := info_parts Tryz.info_u8
  have hn : Sat W0 w (seg true b 0 [.bool true] :: _) := hs.pull 0
  obtain ⟨H, hH⟩ : ∃ H, H = blocks512 H512 msg (msg.length / 128) := ⟨_, rfl⟩
  have hHl : H.length = 8 := by rw [hH]; exact blocks512_len _ _ _ rfl
  have hform : laid 8 H ++ layBE 8 (BitVec.ofNat 64 msg.length) ++ waitOf 128 msg = form512 msg := by rw [hH]; rfl
  have s14 : Sat W0 w (seg true b 1 (u64s H) :: seg true b 0 [.bool true] :: seg true b 9 [.int .u64 (msg.length : Int)] :: seg true b 10 (u8s (waitOf 128 msg)) :: L) := by rw [hH]; exact hs.pull 1
  have hix := fun (j : Nat) (hj : j < 8) (w : World) => run_index_list (P := Tryz.prog) (t := 109) (e := 108) Tryz.underlying109 (by kernel_rfl) (fun w => by simp [go_sem]) (u64s H) (by rw [u64s_len, hHl]) j hj w
  have ht8 : (u64s H).take 8 = u64s H := List.take_of_length_le (by rw [u64s_len, hHl]; decide)
  have hwl := waitOf_len 128 msg (by omega)
  have hmsg : (msg.length : Int) = v64 (BitVec.ofNat 64 msg.length) := lay64n _ (by omega)
  have hst : Sat W0 w (stM512 b msg L) = Sat W0 w (seg true b 0 [.bool true] :: seg true b 1 (u64s H) :: seg true b 9 [.int .u64 (msg.length : Int)] :: seg true b 10 (u8s (waitOf 128 msg)) :: L) := by rw [hH]
  have Hh := Lib.hid (And.intro hHl (And.intro hform (And.intro hH (And.intro hwl hmsg)))); clear hHl hform hH hwl hmsg hst hs hb
  go_enter Tryz.func130, Tryz.ntmps130
  go_wp2_with fail
  refine (is512 hn).mono ?_
  rintro e w' ⟨rfl, rfl⟩
  go_wp2_with (refine wpl_load_agg rfl 109 (.tmp 11) rfl Tryz.underlying109 rfl (n := 8) (by kernel_rfl) s14 0 1 rfl rfl (by rw [u64s_len, Hh.out.1]; decide) ?_)
  go_loopw [3, 13] (fun t8 t43 wr => ∃ (i : Nat) (p' : Option Addr) (c : Nat), i ≤ 8 ∧ t43 = .int .i64 (i : Int) ∧ t8 = .slice p' (i * 8) c ∧ Sat W0 wr (row p' c 1 (i * 8) (u8s (laid 8 (H.take i))) :: seg true b 1 (u64s H) :: seg true b 0 [.bool true] :: seg true b 9 [.int .u64 (msg.length : Int)] :: seg true b 10 (u8s (waitOf 128 msg)) :: L)) (fun _ t43 _ => 8 - (intOf t43).toNat)
  case atStart => exact ⟨0, none, 0, by omega, rfl, rfl, s14.rowNil 1⟩
  case round =>
    clear s14 hn
    obtain ⟨i, p', c, hi, rfl, rfl, s⟩ := hrel
    by_cases hlt : i < 8
    · have hi1 := fun w => hix i hlt w
      have hgd : (u64s H).getD i undef = .int .u64 (v64 (H.getD i 0)) := by
        rw [List.getD_eq_getElem?_getD, u64s_get H i (by rw [Hh.out.1]; exact hlt)]; rfl
      rw [hgd] at hi1
      obtain ⟨y, hy⟩ : ∃ y, y = H.getD i 0 := ⟨_, rfl⟩
      rw [← hy] at hi1
      have hl := lay64 y s
      have Hy := Lib.hid hy; clear hy hgd hix
      go_wp2_with fail
      refine hl.mono ?_
      rintro e w1 ⟨g1, rfl, s1⟩
      have s2 : Sat W0 w1 (row p' c 1 (i * 8) (u8s (laid 8 (H.take i))) :: seg true g1 0 (u8s (layBE 8 y)) :: _) := s1.pull 1
      go_wp2_with (refine wpl_append rfl (.tmp 16) (.tmp 18) 41 rfl Tryz.underlying41 hi3 hz3 hs3 hb3 rfl (by decide) s2 rfl (some ⟨g1, 0, none⟩) 8 8 rfl (u8s (layBE 8 y)) (by rw [u8s_len, layBE_len]) s1.news (fun h => by cases h) (u8s_one _) (by unfold maxLen; omega) (by omega) ?_; intro p2 c2 w2 s3 _ _)
      go_roundw
      case rel =>
        refine ⟨i + 1, p2, c2, by omega, by go_num, by rw [Nat.succ_mul], ?_⟩
        rw [take_snoc64 H i (by rw [Hh.out.1]; exact hlt), ← Hy.out, laid_snoc, u8s_append, Nat.succ_mul]
        exact s3.drop 1
      case measure => simp [intOf]; omega
    · obtain rfl : i = 8 := by omega
      have s : Sat W0 wr (row p' c 1 64 (u8s (laid 8 H)) :: seg true b 1 (u64s H) :: seg true b 0 [.bool true] :: seg true b 9 [.int .u64 (msg.length : Int)] :: seg true b 10 (u8s (waitOf 128 msg)) :: L) := by
        rw [List.take_of_length_le (by rw [Hh.out.1]; exact Nat.le_refl _)] at s; exact s
      have sn : Sat W0 wr (seg true b 9 [.int .u64 (msg.length : Int)] :: _) := s.pull 3
      have cn : wr.cell? ⟨b, 9, none⟩ = some (.int .u64 (msg.length : Int)) := sn.cell (i := 0) rfl
      have hl := lay64 (BitVec.ofNat 64 msg.length) s
      rw [← Hh.out.2.2.2.2] at hl
      go_wp2_with fail
      refine hl.mono ?_
      rintro e w1 ⟨g1, rfl, s1⟩
      have s2 : Sat W0 w1 (row p' c 1 64 (u8s (laid 8 H)) :: seg true g1 0 (u8s (layBE 8 (BitVec.ofNat 64 msg.length))) :: _) := s1.pull 1
      go_wp2_with (first | (refine wpl_append rfl (.tmp 21) (.tmp 26) 41 rfl Tryz.underlying41 hi3 hz3 hs3 hb3 rfl (by decide) s2 rfl (some ⟨g1, 0, none⟩) 8 8 rfl (u8s (layBE 8 (BitVec.ofNat 64 msg.length))) (by rw [u8s_len, layBE_len]) s1.news (fun h => by cases h) (u8s_one _) (by unfold maxLen; omega) (by omega) ?_; intro p2 c2 w2 s3 _ _; have s4 : Sat W0 w2 (seg true b 10 (u8s (waitOf 128 msg)) :: _) := s3.pull 5) | (refine wpl_append rfl (.tmp 28) (.tmp 32) 41 rfl Tryz.underlying41 hi3 hz3 hs3 hb3 rfl (by decide) s3 rfl (some ⟨b, 10, none⟩) 128 128 rfl (u8s (waitOf 128 msg)) (by rw [u8s_len, Hh.out.2.2.2.1]) s4.news (fun h => by cases h) (u8s_one _) (by unfold maxLen; omega) (by omega) ?_; intro p3 c3 w3 s5 _ _))
      go_ret
      refine ⟨p3, c3, rfl, ?_⟩
      rw [← u8s_append, ← u8s_append, Hh.out.2.1] at s5
      rw [Hh.out.2.2.1] at s5
      exact (s5.drop 1).pick [0, 2, 1]
end Go.Proofs.YtlmababpmmhhoaaGreat
