
/- Layer 6's program: Sum, the package's Sum, Form; under the conditions that each names. -/
import Derived.Test.YtlmababpmmhhoaaGreatSha512d
import Derived.Test.YtlmababpmmhhoaaGreatSha256j
namespace Go.Sha
open Go.Bv
def pad512 (p : List Byte) : List Byte := p ++ 128 :: (List.replicate ((239 - p.length % 128) % 128 + 8) 0 ++ layBE 8 (BitVec.ofNat 64 (8 * p.length)))
def sha512 (p : List Byte) : List Byte := laid 8 (blocks512 H512 (pad512 p) ((pad512 p).length / 128))
def form512 (msg : List Byte) : List Byte := laid 8 (blocks512 H512 msg (msg.length / 128)) ++ layBE 8 (BitVec.ofNat 64 msg.length) ++ waitOf 128 msg
example : (sha512 abc).take 4 = [0xdd, 0xaf, 0x35, 0xa1] := by decide +kernel
theorem pad512_len (p : List Byte) : (pad512 p).length = p.length + (239 - p.length % 128) % 128 + 17 := by simp [pad512, layBE_len]; omega
end Go.Sha
namespace Go.Proofs.YtlmababpmmhhoaaGreat
open Go.RowKit Go.Sep Go.Bv Go.Sha
set_option linter.unusedVariables false
set_option linter.unusedSimpArgs false
/-- The loop that lays eight words one behind the other, in Sum and in Form: what a round does. -/
theorem take_snoc64 (h : List (BitVec 64)) (i : Nat) (hi : i < h.length) : h.take (i + 1) = h.take i ++ [h.getD i 0] := by
  rw [List.take_succ_eq_append_getElem hi]; simp [hi]
theorem bits64u (n : Nat) : IntKind.u64.wrap (8 * (n : Int)) = v64 (BitVec.ofNat 64 (8 * n)) := by
  rw [IntKind.wrap_u64]
  simp only [v64, BitVec.toNat_ofNat]
  omega
set_option maxRecDepth 100000 in
set_option maxHeartbeats 2000000 in
theorem sum512 {W0 w : World} {L : List Assn} {b : Nat} (p : Option Nat) (rs : List Run3) (msg : List Byte) (hb : tot rs + msg.length + 300 ≤ 2305843009213693952) (hl : rs.length ≤ 1048576) (hs : Sat W0 w (ledO p rs :: stM512 b msg L)) :
    Calls Tryz.prog 55 #[.pointer (some ⟨b, 0, none⟩), ptrO p] w fun e w' => ∃ q c, e = .returned (.tuple #[.slice q 64 c, .int .i64 0]) ∧ Sat W0 w' (row q c 1 64 (u8s (sha512 msg)) :: ledO p (noteN rs 2 128 ((pad512 msg).length / 128 - msg.length / 128)) :: stM512 b msg L) := by
  have hl1 := blocks512_len H512 msg (msg.length / 128) rfl
  have hl2 := waitOf_len 128 msg (by omega)
  have hs' : Sat W0 w (stM512 b msg (ledO p rs :: L)) := hs.pick [1, 2, 3, 4, 0]
  have hn : Sat W0 w (seg true b 0 [.bool true] :: _) := hs'.pull 0
  have sj := st512Join hl1 hl2 hs'
  obtain ⟨C, hC⟩ : ∃ C, C = cells512 (blocks512 H512 msg (msg.length / 128)) msg.length (waitOf 128 msg) true := ⟨_, rfl⟩
  have hCl : C.length = 138 := by rw [hC, cells512_len _ _ _ _ hl1 hl2]
  have h1 : ∀ v ∈ C, v.oneCell' = true := by rw [hC]; exact cells512_one _ _ _ _
  have ht : C.take 138 = C := List.take_of_length_le (by omega)
  rw [← hC] at sj
  have hsz : (Tryz.prog.info? 113).map (·.size) = some C.length := by rw [hCl]; exact size_st512
  have hzl : 0 + C.length ≤ (cells512 (List.replicate 8 0) 0 (List.replicate 128 0) false).length := by rw [hCl, cells512_len _ _ _ _ (by simp) (by simp)]; decide
  have hfin : ∀ w2 g, Sat W0 w2 (seg true g 0 (setL (cells512 (List.replicate 8 0) 0 (List.replicate 128 0) false) 0 C) :: seg true b 0 C :: ledO p rs :: L) → Sat W0 w2 (stM512 g msg (stM512 b msg (ledO p rs :: L))) := by
    intro w2 g s2
    rw [setL_all C _ (by rw [hCl, cells512_len _ _ _ _ (by simp) (by simp)]), hC] at s2
    have s4 := st512Part hl1 hl2 (s2.pull 1)
    exact st512Part hl1 hl2 (s4.pull 4)
  have Hsz := Lib.hid hsz; have Hzl := Lib.hid hzl; have H1 := Lib.hid h1; have Ht := Lib.hid ht; have HF := Lib.hid hfin
  clear hsz hzl h1 ht hfin
  have hbig : (msg.length : Int) ≤ 2305843009213693952 := by omega
  have HC := Lib.hid (And.intro hC (And.intro hl1 (And.intro hl2 (And.intro hCl (And.intro hb hl))))); clear hC hl1 hl2 hCl hb hl
  obtain ⟨i3, hi3, hz3, hs3, hb3⟩ := info_parts Tryz.info_u8
  obtain ⟨k, hk⟩ : ∃ k, k = (239 - msg.length % 128) % 128 + 8 := ⟨_, rfl⟩
  have hk2 : k < 136 := by omega
  have ek : ((k + 1 : Nat) : Int) = 1 + (239 - (msg.length : Int)) % 128 + 8 := by omega
  have hm1 : ∀ w, (Instr.makeSlice 41 (.int .i64 (1 + (239 - (msg.length : Int)) % 128 + 8)) (.int .i64 (1 + (239 - (msg.length : Int)) % 128 + 8))).run Tryz.prog w = .ok (.slice (some ⟨w.heap.size, 0, none⟩) (k + 1) (k + 1)) (w.alloc (.cells (madeCells #[.int .u8 0] (k + 1)) 5)) := by
    intro w
    have := run_make (P := Tryz.prog) w 41 5 i3 _ Tryz.underlying41 hi3 hz3 .i64 .i64 ((k + 1 : Nat) : Int) ((k + 1 : Nat) : Int) (by omega) (by omega) (by rw [hb3]; omega) (by omega)
    rw [hs3, Int.toNat_natCast, Nat.mul_one, ek] at this
    exact this
  have Hek := Lib.hid (And.intro ek (And.intro hk hk2)); clear ek hk hk2
  go_enter Tryz.func55, Tryz.ntmps55
  go_wp2_with fail
  refine (is512 hn).mono ?_
  rintro e w' ⟨rfl, rfl⟩
  go_wp2_with (first | (refine wpl_load_agg rfl 113 (.tmp 15) rfl Tryz.underlying113 rfl (n := 138) (by kernel_rfl) sj 0 0 rfl rfl (by have := HC.out; omega) ?_) | (refine wpl_alloc_agg rfl 113 rfl sj _ (zero_st512 _) ?_; intro w1 g s1 _; clear sj) | (refine wpl_store_agg rfl rfl 113 (.tmp 6) (.tmp 16) rfl (cs := C) s1 0 0 Hsz.out rfl (show Value.agg (List.take 138 C).toArray = Value.agg C.toArray by rw [Ht.out]) rfl Hzl.out H1.out ?_; intro w2 s2'; have s2 := HF.out w2 g s2'; clear s2' s1; have c1 : w2.cell? ⟨b, 9, none⟩ = some (.int .u64 (msg.length : Int)) := Sat.cell (Sat.pull s2 6) (i := 0) rfl; have zb : b < w2.heap.size := Sat.lt (m := true) (vs := [.bool true]) (Sat.pull s2 4) (by simp); have s4 := s2.make (.int .u8 0) (k + 1) 5; rw [u8s_zero] at s4; have c4 := s4.at 0 (u8s_get _ 0 (by simp)); have f4 := s4.fr 0 (by simp [u8s_len]); clear s4))
  have hst : ((madeCells #[Value.int .u8 0] (k + 1)).setIfInBounds 0 (.int .u8 128)).toList = u8s (128 :: List.replicate k 0) := by
    rw [Array.toList_setIfInBounds, toList_made1, List.replicate_succ]; simp [u8s, v8]
  have s5 := Sat.allocAt s2 ((madeCells #[Value.int .u8 0] (k + 1)).setIfInBounds 0 (.int .u8 128)) 5 rfl
  rw [hst] at s5
  clear hst c4 f4 c1
  rw [bits64u]
  refine (lay64 _ s5).mono ?_
  rintro e w3 ⟨x, rfl, s6⟩
  have hk2 := Hek.out.2.2
  obtain ⟨pg0, hpg0⟩ : ∃ g, g = w2.heap.size := ⟨_, rfl⟩
  rw [← hpg0] at s6 ⊢
  have s7 : Sat W0 w3 (seg true pg0 0 (u8s (128 :: List.replicate k 0)) :: seg true x 0 (u8s (layBE 8 (BitVec.ofNat 64 (8 * msg.length)))) :: _) := s6.pull 1
  have s8 := s7.rowFull (n := k + 1) (by simp [u8s_len]) (by unfold maxLen; omega)
  clear s5 s2 s7 hpg0
  go_wp2_with (refine wpl_append rfl (.tmp 30) (.tmp 36) 41 rfl Tryz.underlying41 hi3 hz3 hs3 hb3 rfl (by decide) s8 rfl (some ⟨x, 0, none⟩) 8 8 rfl (u8s (layBE 8 (BitVec.ofNat 64 (8 * msg.length)))) (by rw [u8s_len, layBE_len]) s6.news (fun h => by cases h) (u8s_one _) (by have := Hek.out.2.2; unfold maxLen; omega) (by have := Hek.out.2.2; omega) ?_; intro p' c' w4 s9 _ _)
  have hk := Hek.out.2.1
  obtain ⟨_, ⟨_, _, h0, _⟩ | ⟨pg, rest, rfl, hc1, hc2, _, s10⟩⟩ := s9.rowOpen
  · omega
  rw [← u8s_append] at s10
  have hpl : ((128 :: List.replicate k (0 : Byte)) ++ layBE 8 (BitVec.ofNat 64 (8 * msg.length))).length = k + 1 + 8 := by simp [layBE_len]
  have hpad : msg ++ ((128 :: List.replicate k (0 : Byte)) ++ layBE 8 (BitVec.ofNat 64 (8 * msg.length))) = pad512 msg := by simp [pad512, hk]
  obtain ⟨P, hP⟩ : ∃ P, P = ((128 :: List.replicate k (0 : Byte)) ++ layBE 8 (BitVec.ofNat 64 (8 * msg.length))) := ⟨_, rfl⟩
  rw [← hP] at s10 hpl hpad
  have s11 := bytesOf (Sat.part s10 (q := (u8s P).length) (by omega))
  have s12 : Sat W0 w4 (ledO p rs :: bytes true (some ⟨pg, 0, none⟩) P :: stM512 g msg (stM512 b msg L)) := ((s11.drop 1).drop 1).pick [9]
  have hput := write512 p rs msg P (cap := c') (by omega) hc2 (by have := HC.out.2.2.2.2.1; omega) HC.out.2.2.2.2.2 s12
  rw [hpl, hpad] at hput
  have hpl2 : msg.length + (k + 1 + 8) = (pad512 msg).length := by rw [← hpad, List.length_append, hpl]
  rw [hpl2] at hput
  clear hk hk2 hpl hpad hpl2 hP s11 s12 s10 s9 s8 s6
  refine hput.mono ?_
  rintro e w5 ⟨rfl, s13⟩
  obtain ⟨H, hH⟩ : ∃ H, H = blocks512 H512 (pad512 msg) ((pad512 msg).length / 128) := ⟨_, rfl⟩
  have hHl : H.length = 8 := by rw [hH]; exact blocks512_len _ _ _ rfl
  have s14 : Sat W0 w5 (seg true g 1 (u64s H) :: ledO p (noteN rs 2 128 ((pad512 msg).length / 128 - msg.length / 128)) :: stM512 b msg L) := by
    rw [hH]
    exact ((s13.pick [3, 0, 6, 7, 8, 9]).drop 6 |>.drop 6 |>.drop 6 |>.drop 6)
  have hsha : laid 8 H = sha512 msg := by rw [hH]; rfl
  have hix := fun (j : Nat) (hj : j < 8) (w : World) => run_index_list (P := Tryz.prog) (t := 109) (e := 108) Tryz.underlying109 (by kernel_rfl) (fun w => by simp [go_sem]) (u64s H) (by rw [u64s_len, hHl]) j hj w
  have ht8 : (u64s H).take 8 = u64s H := List.take_of_length_le (by rw [u64s_len, hHl]; decide)
  have Hh := Lib.hid (And.intro hHl hsha); clear hHl hsha hH s13
  go_wp2_with (refine wpl_load_agg rfl 109 (.tmp 41) rfl Tryz.underlying109 rfl (n := 8) (by kernel_rfl) s14 0 1 rfl rfl (by rw [u64s_len, Hh.out.1]; decide) ?_)
  go_loopw [8, 43] (fun t8 t43 wr => ∃ (i : Nat) (p' : Option Addr) (c : Nat), i ≤ 8 ∧ t43 = .int .i64 (i : Int) ∧ t8 = .slice p' (i * 8) c ∧ Sat W0 wr (row p' c 1 (i * 8) (u8s (laid 8 (H.take i))) :: ledO p (noteN rs 2 128 ((pad512 msg).length / 128 - msg.length / 128)) :: stM512 b msg L)) (fun _ t43 _ => 8 - (intOf t43).toNat)
  case atStart => exact ⟨0, none, 0, by omega, rfl, rfl, (s14.drop 0).rowNil 1⟩
  case round =>
    clear s14
    obtain ⟨i, p', c, hi, rfl, rfl, s⟩ := hrel
    by_cases hlt : i < 8
    · have hi1 := fun w => hix i hlt w
      have hgd : (u64s H).getD i undef = .int .u64 (v64 (H.getD i 0)) := by
        rw [List.getD_eq_getElem?_getD, u64s_get H i (by rw [Hh.out.1]; exact hlt)]; rfl
      rw [hgd] at hi1
      obtain ⟨y, hy⟩ : ∃ y, y = H.getD i 0 := ⟨_, rfl⟩
      rw [← hy] at hi1
      have hl := lay64 y s
      have Hy := Lib.hid hy; clear hy hgd hix
      go_wp2_with fail
      refine hl.mono ?_
      rintro e w1 ⟨g1, rfl, s1⟩
      have s2 : Sat W0 w1 (row p' c 1 (i * 8) (u8s (laid 8 (H.take i))) :: seg true g1 0 (u8s (layBE 8 y)) :: _) := s1.pull 1
      go_wp2_with (refine wpl_append rfl (.tmp 46) (.tmp 48) 41 rfl Tryz.underlying41 hi3 hz3 hs3 hb3 rfl (by decide) s2 rfl (some ⟨g1, 0, none⟩) 8 8 rfl (u8s (layBE 8 y)) (by rw [u8s_len, layBE_len]) s1.news (fun h => by cases h) (u8s_one _) (by unfold maxLen; omega) (by omega) ?_; intro p2 c2 w2 s3 _ _)
      go_roundw
      case rel =>
        refine ⟨i + 1, p2, c2, by omega, by go_num, by rw [Nat.succ_mul], ?_⟩
        rw [take_snoc64 H i (by rw [Hh.out.1]; exact hlt), ← Hy.out, laid_snoc, u8s_append, Nat.succ_mul]
        exact s3.drop 1
      case measure => simp [intOf]; omega
    · obtain rfl : i = 8 := by omega
      go_wp2
      refine bodyPost_ret (v := .tuple #[.slice p' 64 c, .int .i64 0]) (by simp [results, Tryz.results55, go_sem]) rfl ⟨p', c, rfl, ?_⟩
      rw [List.take_of_length_le (by rw [Hh.out.1]; exact Nat.le_refl _), Hh.out.2] at s
      exact s
end Go.Proofs.YtlmababpmmhhoaaGreat
