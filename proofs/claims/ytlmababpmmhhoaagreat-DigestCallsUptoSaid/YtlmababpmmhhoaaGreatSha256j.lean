
/- Layer 5's program: Form; under the conditions that each names. -/
import Derived.Deep.RegionHeld3
import Derived.Test.YtlmababpmmhhoaaGreatSha256i
namespace Go.Proofs.YtlmababpmmhhoaaGreat
open Go.RowKit Go.Sep Go.Bv Go.Sha
set_option linter.unusedVariables false
set_option linter.unusedSimpArgs false
def form256 (msg : List Byte) : List Byte := laid 4 (blocks256 H256 msg (msg.length / 64)) ++ layBE 8 (BitVec.ofNat 64 msg.length) ++ waitOf 64 msg
theorem wide64n (n : Nat) : IntKind.u64.wrap (n : Int) = v64 (BitVec.ofNat 64 n) := by
  rw [IntKind.wrap_u64]
  simp only [v64, BitVec.toNat_ofNat]
  omega
set_option maxRecDepth 100000 in
set_option maxHeartbeats 2000000 in
theorem formOf256 {W0 w : World} {L : List Assn} {b : Nat} (msg : List Byte) (hs : Sat W0 w (stM256 b msg L)) :
    Calls Tryz.prog 124 #[.pointer (some ⟨b, 0, none⟩)] w fun e w' => ∃ q c, e = .returned (.slice q 104 c) ∧ Sat W0 w' (row q c 1 104 (u8s (form256 msg)) :: stM256 b msg L) := by
  obtain ⟨i3, hi3, hz3, hs3, hb3⟩ := info_parts Tryz.info_u8
  have hl1 := blocks256_len H256 msg (msg.length / 64) rfl
  have hn : Sat W0 w (seg true b 73 [.bool true] :: _) := hs.pull 3
  have c0 : w.cell? ⟨b, 8, none⟩ = some (.int .i64 (msg.length : Int)) := (hs.pull 1).cell (i := 0) rfl
  go_enter Tryz.func124, Tryz.ntmps124
  go_wp2_with fail
  refine (none256 hn).mono ?_
  rintro e w' ⟨rfl, rfl⟩
  go_wp2_with fail
  go_region_held3 (fun w' => w'.cell? ⟨b, 8, none⟩ = some (.int .i64 (msg.length : Int))) (first | exact c0 | exact (s1.pull 2).cell (i := 0) rfl | exact (s2.pull 3).cell (i := 0) rfl | exact (s3.pull 3).cell (i := 0) rfl) (first | (go_at_call 71; refine (words256 _ hl1 (by first | exact hs | exact hs.drew | exact hs.drew.drew | exact hs.drewN _)).mono ?_; rintro e w1 ⟨q, c, rfl, s1⟩) | (go_at_call 70; rw [wide64n]; refine (lay64 _ (by first | exact s1 | exact s1.drew | exact s1.drewN _)).mono ?_; rintro e w2 ⟨x, rfl, s2⟩) | (refine step_append (by rfl) (.tmp 7) (.tmp 13) 41 (by rfl) Tryz.underlying41 hi3 hz3 hs3 hb3 rfl (by decide) (s2.pull 1) (by rfl) (some ⟨x, 0, none⟩) 8 8 (by rfl) (u8s (layBE 8 (BitVec.ofNat 64 msg.length))) (by rw [u8s_len, layBE_len]) s2.news (fun h => by cases h) (u8s_one _) (by unfold maxLen; omega) (by omega) ?_; intro p' c' w3 s3 _ _))
  have s3x := s3.pull 4
  have hl2 := waitOf_len 64 msg (by omega)
  have HW := Lib.hid hl2; clear hl2
  go_wp2_with (refine wpl_append rfl (.tmp 15) (.tmp 19) 41 rfl Tryz.underlying41 hi3 hz3 hs3 hb3 rfl (by decide) s3 rfl (some ⟨b, 9, none⟩) 64 64 rfl (u8s (waitOf 64 msg)) (by rw [u8s_len, HW.out]) s3x.news (fun h => by cases h) (u8s_one _) (by unfold maxLen; omega) (by omega) ?_; intro p2 c2 w4 s4 _ _)
  go_ret
  refine ⟨p2, c2, rfl, ?_⟩
  rw [← u8s_append, ← u8s_append] at s4
  exact s4.drop 1
end Go.Proofs.YtlmababpmmhhoaaGreat
