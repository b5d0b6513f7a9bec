
/- Layer 5's program: Sum; under the conditions that each names. -/
import Derived.Test.YtlmababpmmhhoaaGreatSha256g
namespace Go.Proofs.YtlmababpmmhhoaaGreat
open Go.RowKit Go.Sep Go.Bv Go.Sha
set_option linter.unusedVariables false
set_option linter.unusedSimpArgs false
theorem bits64 (n : Nat) : IntKind.u64.wrap (8 * IntKind.u64.wrap (n : Int)) = v64 (BitVec.ofNat 64 (8 * n)) := by
  rw [IntKind.wrap_u64, IntKind.wrap_u64]
  simp only [v64, BitVec.toNat_ofNat]
  omega
theorem padTmod (n : Nat) : ((n : Int).tmod 64) = ((n % 64 : Nat) : Int) := by
  rw [Int.tmod_eq_emod_of_nonneg (by omega)]; omega
theorem padLen (n : Nat) : IntKind.i64.wrap (1 + (IntKind.i64.wrap (119 - ((n % 64 : Nat) : Int))).tmod 64) = (((119 - n % 64) % 64 + 1 : Nat) : Int) := by
  have h1 : IntKind.i64.wrap (119 - ((n % 64 : Nat) : Int)) = ((119 - n % 64 : Nat) : Int) := by
    rw [IntKind.wrap_i64]; omega
  rw [h1, padTmod, IntKind.wrap_i64]; omega
set_option maxRecDepth 100000 in
set_option maxHeartbeats 2000000 in
theorem sum256 {W0 w : World} {L : List Assn} {b : Nat} (p : Option Nat) (rs : List Run3) (msg : List Byte) (hb : tot rs + msg.length + 72 ≤ 2305843009213693952) (hl : rs.length ≤ 1048576) (hs : Sat W0 w (ledO p rs :: stM256 b msg L)) :
    Calls Tryz.prog 52 #[.pointer (some ⟨b, 0, none⟩), ptrO p] w fun e w' => ∃ q c, e = .returned (.tuple #[.slice q 32 c, .int .i64 0]) ∧ Sat W0 w' (row q c 1 32 (u8s (sha256 msg)) :: ledO p (noteN rs 1 64 ((pad256 msg).length / 64 - msg.length / 64)) :: stM256 b msg L) := by
  have hl1 := blocks256_len H256 msg (msg.length / 64) rfl
  have hl2 := waitOf_len 64 msg (by omega)
  have hs' : Sat W0 w (stM256 b msg (ledO p rs :: L)) := hs.pick [1, 2, 3, 4, 0]
  have hn : Sat W0 w (seg true b 73 [.bool true] :: _) := hs'.pull 3
  have sj := st256Join hl1 hl2 hs'
  obtain ⟨C, hC⟩ : ∃ C, C = cells256 (blocks256 H256 msg (msg.length / 64)) msg.length (waitOf 64 msg) true := ⟨_, rfl⟩
  have hCl : C.length = 74 := by rw [hC, cells256_len _ _ _ _ hl1 hl2]
  have h1 : ∀ v ∈ C, v.oneCell' = true := by rw [hC]; exact cells256_one _ _ _ _
  have ht : C.take 74 = C := List.take_of_length_le (by omega)
  rw [← hC] at sj
  have hsz : (Tryz.prog.info? 106).map (·.size) = some C.length := by rw [hCl]; exact size_st256
  have hzl : 0 + C.length ≤ (cells256 (List.replicate 8 0) 0 (List.replicate 64 0) false).length := by rw [hCl, cells256_len _ _ _ _ (by simp) (by simp)]; decide
  have hfin : ∀ w2 g, Sat W0 w2 (seg true g 0 (setL (cells256 (List.replicate 8 0) 0 (List.replicate 64 0) false) 0 C) :: seg true b 0 C :: ledO p rs :: L) → Sat W0 w2 (stM256 g msg (stM256 b msg (ledO p rs :: L))) := by
    intro w2 g s2
    rw [setL_all C _ (by rw [hCl, cells256_len _ _ _ _ (by simp) (by simp)]), hC] at s2
    have s4 := st256Part hl1 hl2 (s2.pull 1)
    exact st256Part hl1 hl2 (s4.pull 4)
  have Hsz := Lib.hid hsz; have Hzl := Lib.hid hzl; have H1 := Lib.hid h1; have Ht := Lib.hid ht; have HF := Lib.hid hfin
  clear hsz hzl h1 ht hfin
  have HC := Lib.hid (And.intro hC (And.intro hl1 (And.intro hl2 (And.intro hCl (And.intro hb hl))))); clear hC hl1 hl2 hCl hb hl
  go_enter Tryz.func52, Tryz.ntmps52
  go_wp2_with fail
  refine (none256 hn).mono ?_
  rintro e w' ⟨rfl, rfl⟩
  go_wp2_with (first | (refine wpl_load_agg rfl 106 (.tmp 12) rfl Tryz.underlying106 rfl (n := 74) (by kernel_rfl) sj 0 0 rfl rfl (by have := HC.out; omega) ?_) | (refine wpl_alloc_agg rfl 106 rfl sj _ (zero_st256 _) ?_; intro w1 g s1 _; clear sj) | (refine wpl_store_agg rfl rfl 106 (.tmp 6) (.tmp 13) rfl (cs := C) s1 0 0 Hsz.out rfl (show Value.agg (List.take 74 C).toArray = Value.agg C.toArray by rw [Ht.out]) rfl Hzl.out H1.out ?_; intro w2 s2'; have s2 := HF.out w2 g s2'; clear s2' s1; have c1 := Sat.cell (Sat.pull s2 5) (i := 0) rfl))
  rw [bits64]
  refine (lay64 _ s2).mono ?_
  rintro e w3 ⟨x, rfl, s3⟩
  clear c1
  have c2 := Sat.cell (Sat.pull s3 6) (i := 0) rfl
  have e1 := padTmod msg.length
  obtain ⟨i3, hi3, hz3, hs3, hb3⟩ := info_parts Tryz.info_u8
  obtain ⟨k, hk⟩ : ∃ k, k = (119 - msg.length % 64) % 64 := ⟨_, rfl⟩
  have hk2 : k < 64 := by omega
  have ek : ((k + 1 : Nat) : Int) = 1 + (119 - (msg.length : Int)) % 64 := by omega
  have hm1 : ∀ w, (Instr.makeSlice 41 (.int .i64 (1 + (119 - (msg.length : Int)) % 64)) (.int .i64 (1 + (119 - (msg.length : Int)) % 64))).run Tryz.prog w = .ok (.slice (some ⟨w.heap.size, 0, none⟩) (k + 1) (k + 1)) (w.alloc (.cells (madeCells #[.int .u8 0] (k + 1)) 5)) := by
    intro w
    have := run_make (P := Tryz.prog) w 41 5 i3 _ Tryz.underlying41 hi3 hz3 .i64 .i64 ((k + 1 : Nat) : Int) ((k + 1 : Nat) : Int) (by omega) (by omega) (by rw [hb3]; omega) (by omega)
    rw [hs3, Int.toNat_natCast, Nat.mul_one, ek] at this
    exact this
  have s4 := s3.make (.int .u8 0) (k + 1) 5
  rw [u8s_zero] at s4
  have c4 := s4.at 0 (u8s_get _ 0 (by simp))
  have f4 := s4.fr 0 (by simp [u8s_len])
  have hst : ((madeCells #[Value.int .u8 0] (k + 1)).setIfInBounds 0 (.int .u8 128)).toList = u8s (128 :: List.replicate k 0) := by
    rw [Array.toList_setIfInBounds, toList_made1, List.replicate_succ]; simp [u8s, v8]
  have s5 := Sat.allocAt s3 ((madeCells #[Value.int .u8 0] (k + 1)).setIfInBounds 0 (.int .u8 128)) 5 rfl
  rw [hst] at s5
  have s6 := s5.rowFull (n := k + 1) (by simp [u8s_len]) (by unfold maxLen; omega)
  have s6x := s5.pull 1
  have Hek := Lib.hid (And.intro ek (And.intro hk hk2))
  clear ek hst hk hk2
  go_wp2_with (refine wpl_append rfl (.tmp 33) (.tmp 34) 41 rfl Tryz.underlying41 hi3 hz3 hs3 hb3 rfl (by decide) s6 rfl (some ⟨x, 0, none⟩) 8 8 rfl (u8s (layBE 8 (BitVec.ofNat 64 (8 * msg.length)))) (by rw [u8s_len, layBE_len]) s6x.news (fun h => by cases h) (u8s_one _) (by have := Hek.out.2.2; unfold maxLen; omega) (by have := Hek.out.2.2; omega) ?_; intro p' c' w4 s7 _ _)
  have hk := Hek.out.2.1
  have hk2 := Hek.out.2.2
  obtain ⟨_, ⟨_, _, h0, _⟩ | ⟨pg, rest, rfl, hc1, hc2, _, s8⟩⟩ := s7.rowOpen
  · omega
  rw [← u8s_append] at s8
  have hpl : ((128 :: List.replicate k (0 : Byte)) ++ layBE 8 (BitVec.ofNat 64 (8 * msg.length))).length = k + 1 + 8 := by simp [layBE_len]
  have hpad : msg ++ ((128 :: List.replicate k (0 : Byte)) ++ layBE 8 (BitVec.ofNat 64 (8 * msg.length))) = pad256 msg := by simp [pad256, hk]
  obtain ⟨P, hP⟩ : ∃ P, P = ((128 :: List.replicate k (0 : Byte)) ++ layBE 8 (BitVec.ofNat 64 (8 * msg.length))) := ⟨_, rfl⟩
  rw [← hP] at s8 hpl hpad
  have s9 := bytesOf (Sat.part s8 (q := (u8s P).length) (by omega))
  have s10 : Sat W0 w4 (ledO p rs :: bytes true (some ⟨pg, 0, none⟩) P :: stM256 g msg (stM256 b msg L)) := ((s9.drop 1).drop 1).pick [9]
  have hput := put256 p rs msg P (cap := c') (by omega) hc2 (by have := HC.out.2.2.2.2.1; omega) HC.out.2.2.2.2.2 s10
  rw [hpl, hpad] at hput
  have hpl2 : msg.length + (k + 1 + 8) = (pad256 msg).length := by rw [← hpad, List.length_append, hpl]
  rw [hpl2] at hput
  clear hk hk2 hpl hpad hpl2 hP s9 s10 s8 s7
  refine hput.mono ?_
  rintro e w5 ⟨rfl, s11⟩
  have s12 : Sat W0 w5 (seg true g 0 (u32s (blocks256 H256 (pad256 msg) ((pad256 msg).length / 64))) :: _) := s11.pull 2
  go_wp2_with fail
  refine (words256 _ (blocks256_len H256 _ _ rfl) s12).mono ?_
  rintro e w6 ⟨q, c, rfl, s13⟩
  go_wp2
  refine bodyPost_ret (v := .tuple #[.slice q 32 c, .int .i64 0]) (by simp [results, Tryz.results52, go_sem]) rfl ⟨q, c, rfl, ?_⟩
  exact (((((s13.drop 1).drop 2).drop 2).drop 2).drop 2)
end Go.Proofs.YtlmababpmmhhoaaGreat
