
/- Layer 5's program: Sum and Clone; under the conditions that each names. -/
import Derived.Test.YtlmababpmmhhoaaGreatSha256f
namespace Go.Proofs.YtlmababpmmhhoaaGreat
open Go.RowKit Go.Sep Go.Bv Go.Sha
set_option linter.unusedVariables false
set_option linter.unusedSimpArgs false
def cells256 (h : List (BitVec 32)) (n : Nat) (wait : List Byte) (made : Bool) : List Value := u32s h ++ ([Value.int .i64 (n : Int)] ++ (u8s wait ++ [Value.bool made]))
theorem cells256_len (h : List (BitVec 32)) (n : Nat) (wait : List Byte) (made : Bool) (hh : h.length = 8) (hw : wait.length = 64) : (cells256 h n wait made).length = 74 := by
  simp [cells256, u32s_len, u8s_len, hh, hw]
theorem st256Join {W0 w : World} {L : List Assn} {b : Nat} {h : List (BitVec 32)} {n : Nat} {wait : List Byte} (hh : h.length = 8) (hw : wait.length = 64) (s : Sat W0 w (st256 b h n wait L)) : Sat W0 w (seg true b 0 (cells256 h n wait true) :: L) := by
  have s1 : Sat W0 w (seg true b 9 (u8s wait) :: seg true b 73 [.bool true] :: seg true b 0 (u32s h) :: seg true b 8 [.int .i64 (n : Int)] :: L) := s.pick [2, 3]
  have s2 := s1.join (by rw [u8s_len, hw])
  have s3 : Sat W0 w (seg true b 8 [.int .i64 (n : Int)] :: seg true b 9 (u8s wait ++ [.bool true]) :: seg true b 0 (u32s h) :: L) := s2.pick [2, 0]
  have s4 := s3.join rfl
  have s5 : Sat W0 w (seg true b 0 (u32s h) :: seg true b 8 ([.int .i64 (n : Int)] ++ (u8s wait ++ [.bool true])) :: L) := s4.pick [1, 0]
  exact s5.join (by rw [u32s_len, hh])
theorem st256Part {W0 w : World} {L : List Assn} {b : Nat} {h : List (BitVec 32)} {n : Nat} {wait : List Byte} (hh : h.length = 8) (hw : wait.length = 64) (s : Sat W0 w (seg true b 0 (cells256 h n wait true) :: L)) : Sat W0 w (st256 b h n wait L) := by
  have s2 := Sat.part (xs := u32s h) (ys := [Value.int .i64 (n : Int)] ++ (u8s wait ++ [Value.bool true])) s (q := 8) (by rw [u32s_len, hh])
  have s3 : Sat W0 w (seg true b 8 ([Value.int .i64 (n : Int)] ++ (u8s wait ++ [Value.bool true])) :: seg true b 0 (u32s h) :: L) := s2.pull 1
  have s4 := s3.part (q := 9) rfl
  have s5 : Sat W0 w (seg true b 9 (u8s wait ++ [Value.bool true]) :: seg true b 8 [Value.int .i64 (n : Int)] :: seg true b 0 (u32s h) :: L) := s4.pull 1
  have s6 := s5.part (q := 73) (by rw [u8s_len, hw])
  exact s6.pick [3, 2, 0, 1]
theorem zero_st256 (w : World) : (zeroValue 106).run Tryz.prog w = .ok (.agg (cells256 (List.replicate 8 0) 0 (List.replicate 64 0) false).toArray) w := by kernel_rfl
theorem cells256_one (h : List (BitVec 32)) (n : Nat) (wait : List Byte) (made : Bool) : ∀ v ∈ cells256 h n wait made, v.oneCell' = true := by
  intro v hv
  simp only [cells256, List.mem_append, List.mem_singleton] at hv
  rcases hv with hv | rfl | hv | rfl
  · exact u32s_one _ v hv
  · rfl
  · exact u8s_one _ v hv
  · rfl
theorem size_st256 : (Tryz.prog.info? 106).map (·.size) = some 74 := by kernel_rfl
set_option maxRecDepth 100000 in
set_option maxHeartbeats 2000000 in
theorem clone256 {W0 w : World} {L : List Assn} {b : Nat} (msg : List Byte) (hs : Sat W0 w (stM256 b msg L)) :
    Calls Tryz.prog 129 #[.pointer (some ⟨b, 0, none⟩)] w fun e w' => ∃ c, e = .returned (.tuple #[.pointer (some ⟨c, 0, none⟩), .int .i64 0]) ∧ Sat W0 w' (stM256 c msg (stM256 b msg L)) := by
  have hl1 := blocks256_len H256 msg (msg.length / 64) rfl
  have hl2 := waitOf_len 64 msg (by omega)
  have hn : Sat W0 w (seg true b 73 [.bool true] :: _) := hs.pull 3
  have sj := st256Join hl1 hl2 hs
  obtain ⟨C, hC⟩ : ∃ C, C = cells256 (blocks256 H256 msg (msg.length / 64)) msg.length (waitOf 64 msg) true := ⟨_, rfl⟩
  have hCl : C.length = 74 := by rw [hC, cells256_len _ _ _ _ hl1 hl2]
  have h1 : ∀ v ∈ C, v.oneCell' = true := by rw [hC]; exact cells256_one _ _ _ _
  have ht : C.take 74 = C := List.take_of_length_le (by omega)
  rw [← hC] at sj
  have hsz : (Tryz.prog.info? 106).map (·.size) = some C.length := by rw [hCl]; exact size_st256
  have hzl : 0 + C.length ≤ (cells256 (List.replicate 8 0) 0 (List.replicate 64 0) false).length := by rw [hCl, cells256_len _ _ _ _ (by simp) (by simp)]; decide
  have Hsz := Lib.hid hsz; have Hzl := Lib.hid hzl; have H1 := Lib.hid h1; have Ht := Lib.hid ht
  clear hsz hzl h1 ht
  have HC := Lib.hid (And.intro hC (And.intro hl1 (And.intro hl2 hCl))); clear hC hl1 hl2 hCl
  go_enter Tryz.func129, Tryz.ntmps129
  go_wp2_with fail
  refine (none256 hn).mono ?_
  rintro e w' ⟨rfl, rfl⟩
  go_wp2_with (first | (refine wpl_load_agg rfl 106 (.tmp 8) rfl Tryz.underlying106 rfl (n := 74) (by kernel_rfl) sj 0 0 rfl rfl (by have := HC.out; omega) ?_) | (refine wpl_alloc_agg rfl 106 rfl sj _ (zero_st256 _) ?_; intro w1 g s1 _; clear sj) | (refine wpl_store_agg rfl rfl 106 (.tmp 4) (.tmp 9) rfl (cs := C) s1 0 0 Hsz.out rfl (show Value.agg (List.take 74 C).toArray = Value.agg C.toArray by rw [Ht.out]) rfl Hzl.out H1.out ?_; intro w2 s2))
  have HC' := HC.out
  have s3 : Sat W0 w2 (seg true g 0 C :: seg true b 0 C :: L) := by
    rw [setL_all C _ (by rw [HC'.2.2.2, cells256_len _ _ _ _ (by simp) (by simp)])] at s2; exact s2
  refine bodyPost_ret (v := .tuple #[.pointer (some ⟨g, 0, none⟩), .int .i64 0]) (by simp [results, Tryz.results129, go_sem]) rfl ⟨g, rfl, ?_⟩
  rw [HC'.1] at s3
  have s4 := st256Part HC'.2.1 HC'.2.2.1 (s3.pull 1)
  have s5 := st256Part HC'.2.1 HC'.2.2.1 (Sat.pull s4 4)
  exact s5
end Go.Proofs.YtlmababpmmhhoaaGreat
