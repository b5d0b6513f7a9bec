
/- Layer 5's program: New, Write, words; under the conditions that each names. -/
import Derived.Test.YtlmababpmmhhoaaGreatSha256d
namespace Go.Proofs.YtlmababpmmhhoaaGreat
open Go.RowKit Go.Sep Go.Bv Go.Sha
set_option linter.unusedVariables false
set_option linter.unusedSimpArgs false
theorem bytesOf {W0 w : World} {L : List Assn} {m : Bool} {b o : Nat} {bs : List Byte} (h : Sat W0 w (seg m b o (u8s bs) :: L)) : Sat W0 w (bytes m (some ⟨b, o, none⟩) bs :: L) :=
  h.imp fun _ hx => .inr ⟨b, o, rfl, hx⟩
theorem put256 {W0 w : World} {L : List Assn} {b cap : Nat} {m : Bool} {sp : Option Addr} (p : Option Nat) (rs : List Run3) (msg bs : List Byte) (hcap : bs.length ≤ cap) (hcm : cap ≤ maxLen) (hb : tot rs + msg.length + bs.length ≤ 2305843009213693952) (hl : rs.length ≤ 1048576)
    (hs : Sat W0 w (ledO p rs :: bytes m sp bs :: stM256 b msg L)) :
    Calls Tryz.prog 51 #[.pointer (some ⟨b, 0, none⟩), ptrO p, .slice sp bs.length cap] w fun e w' => e = .returned (.tuple #[]) ∧ Sat W0 w' (ledO p (noteN rs 1 64 ((msg.length + bs.length) / 64 - msg.length / 64)) :: bytes m sp bs :: stM256 b (msg ++ bs) L) := by
  by_cases hne : bs = []
  · subst hne
    clear hb hl
    go_enter Tryz.func51, Tryz.ntmps51
    go_wp2_with fail
    go_loopw [2] (fun t2 wr => t2 = .slice sp 0 cap ∧ wr = w) (fun _ _ => 0)
    case atStart => exact ⟨rfl, rfl⟩
    case round =>
      obtain ⟨rfl, rfl⟩ := hrel
      go_wp2
      refine bodyPost_end (results_none rfl _ _ _) rfl ⟨rfl, ?_⟩
      simpa [noteN] using hs
  · have h1 : Sat W0 w (bytes m sp bs :: ledO p rs :: stM256 b msg L) := hs.pull 1
    obtain ⟨pb, po, rfl, h2⟩ := bytesCell h1 hne
    have h3 : Sat W0 w (ledO p rs :: seg m pb po (u8s bs) :: stM256 b msg L) := h2.pull 1
    refine (put256c p rs msg bs hcap hcm hb hl h3).mono ?_
    rintro e w' ⟨rfl, s⟩
    have s2 : Sat W0 w' (seg m pb po (u8s bs) :: ledO p _ :: stM256 b (msg ++ bs) L) := s.pull 1
    exact ⟨rfl, (bytesOf s2).pull 1⟩
theorem H256_vals : u32s H256 = [.int .u32 1779033703, .int .u32 3144134277, .int .u32 1013904242, .int .u32 2773480762, .int .u32 1359893119, .int .u32 2600822924, .int .u32 528734635, .int .u32 1541459225] := by rfl
set_option maxRecDepth 100000 in
set_option maxHeartbeats 1000000 in
theorem new256 {W0 w : World} {L : List Assn} (hs : Sat W0 w L) : Calls Tryz.prog 33 #[] w fun e w' => ∃ b, e = .returned (.pointer (some ⟨b, 0, none⟩)) ∧ Sat W0 w' (stM256 b [] L) := by
  go_enter Tryz.func33, Tryz.ntmps33
  go_wp2
  go_ret
  refine ⟨_, rfl, ?_⟩
  have s1 := hs.alloc (u32s H256 ++ ([Value.int .i64 0] ++ (u8s (List.replicate 64 0) ++ [Value.bool true]))).toArray 106
  have s2 := s1.part (q := 8) rfl
  have s3 : Sat W0 _ (seg true w.heap.size 8 ([Value.int .i64 0] ++ (u8s (List.replicate 64 0) ++ [Value.bool true])) :: _) := s2.pull 1
  have s4 := s3.part (q := 9) rfl
  have s5 : Sat W0 _ (seg true w.heap.size 9 (u8s (List.replicate 64 0) ++ [Value.bool true]) :: _) := s4.pull 1
  have s6 := s5.part (q := 73) rfl
  have s7 := s6.pick [3, 2, 0, 1]
  exact s7
end Go.Proofs.YtlmababpmmhhoaaGreat
