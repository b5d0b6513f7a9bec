
/- Layer 6's program: Write of any slice, New, Clone, Wipe; under the conditions that each names. -/
import Derived.Test.YtlmababpmmhhoaaGreatSha512c
import Derived.Test.YtlmababpmmhhoaaGreatSha256f
namespace Go.Proofs.YtlmababpmmhhoaaGreat
open Go.RowKit Go.Sep Go.Bv Go.Sha
set_option linter.unusedVariables false
set_option linter.unusedSimpArgs false
theorem write512 {W0 w : World} {L : List Assn} {b cap : Nat} {m : Bool} {sp : Option Addr} (p : Option Nat) (rs : List Run3) (msg bs : List Byte) (hcap : bs.length ≤ cap) (hcm : cap ≤ maxLen) (hb : tot rs + msg.length + bs.length ≤ 2305843009213693952) (hl : rs.length ≤ 1048576)
    (hs : Sat W0 w (ledO p rs :: bytes m sp bs :: stM512 b msg L)) :
    Calls Tryz.prog 54 #[.pointer (some ⟨b, 0, none⟩), ptrO p, .slice sp bs.length cap] w fun e w' => e = .returned (.int .i64 0) ∧ Sat W0 w' (ledO p (noteN rs 2 128 ((msg.length + bs.length) / 128 - msg.length / 128)) :: bytes m sp bs :: stM512 b (msg ++ bs) L) := by
  by_cases hne : bs = []
  · subst hne
    have hn : Sat W0 w (seg true b 0 [.bool true] :: _) := hs.pull 2
    clear hb hl
    go_enter Tryz.func54, Tryz.ntmps54
    go_wp2_with fail
    refine (is512 hn).mono ?_
    rintro e w' ⟨rfl, rfl⟩
    clear hn
    go_wp2_with fail
    go_loopw [2] (fun t2 wr => t2 = .slice sp 0 cap ∧ wr = w) (fun _ _ => 0)
    case atStart => exact ⟨rfl, rfl⟩
    case round =>
      obtain ⟨rfl, rfl⟩ := hrel
      go_wp2
      go_ret
      refine ⟨rfl, ?_⟩
      simpa [noteN] using hs
  · have h1 : Sat W0 w (bytes m sp bs :: ledO p rs :: stM512 b msg L) := hs.pull 1
    obtain ⟨pb, po, rfl, h2⟩ := bytesCell h1 hne
    have h3 : Sat W0 w (ledO p rs :: seg m pb po (u8s bs) :: stM512 b msg L) := h2.pull 1
    refine (write512c p rs msg bs hcap hcm hb hl h3).mono ?_
    rintro e w' ⟨rfl, s⟩
    have s2 : Sat W0 w' (seg m pb po (u8s bs) :: ledO p _ :: stM512 b (msg ++ bs) L) := s.pull 1
    exact ⟨rfl, (bytesOf s2).pull 1⟩
def cells512 (h : List (BitVec 64)) (n : Nat) (wait : List Byte) (made : Bool) : List Value := [Value.bool made] ++ (u64s h ++ ([Value.int .u64 (n : Int)] ++ u8s wait))
theorem cells512_len (h : List (BitVec 64)) (n : Nat) (wait : List Byte) (made : Bool) (hh : h.length = 8) (hw : wait.length = 128) : (cells512 h n wait made).length = 138 := by
  simp [cells512, u64s_len, u8s_len, hh, hw]
theorem st512Join {W0 w : World} {L : List Assn} {b : Nat} {h : List (BitVec 64)} {n : Nat} {wait : List Byte} (hh : h.length = 8) (hw : wait.length = 128) (s : Sat W0 w (st512 b h n wait L)) : Sat W0 w (seg true b 0 (cells512 h n wait true) :: L) := by
  have s1 : Sat W0 w (seg true b 9 [.int .u64 (n : Int)] :: seg true b 10 (u8s wait) :: seg true b 0 [.bool true] :: seg true b 1 (u64s h) :: L) := s.pick [2, 3]
  have s2 := s1.join rfl
  have s3 : Sat W0 w (seg true b 1 (u64s h) :: seg true b 9 ([.int .u64 (n : Int)] ++ u8s wait) :: seg true b 0 [.bool true] :: L) := s2.pick [2, 0]
  have s4 := s3.join (by rw [u64s_len, hh])
  have s5 : Sat W0 w (seg true b 0 [.bool true] :: seg true b 1 (u64s h ++ ([.int .u64 (n : Int)] ++ u8s wait)) :: L) := s4.pick [1, 0]
  exact s5.join rfl
theorem st512Part {W0 w : World} {L : List Assn} {b : Nat} {h : List (BitVec 64)} {n : Nat} {wait : List Byte} (hh : h.length = 8) (hw : wait.length = 128) (s : Sat W0 w (seg true b 0 (cells512 h n wait true) :: L)) : Sat W0 w (st512 b h n wait L) := by
  have s2 := Sat.part (xs := [Value.bool true]) (ys := u64s h ++ ([Value.int .u64 (n : Int)] ++ u8s wait)) s (q := 1) rfl
  have s3 : Sat W0 w (seg true b 1 (u64s h ++ ([Value.int .u64 (n : Int)] ++ u8s wait)) :: seg true b 0 [.bool true] :: L) := s2.pull 1
  have s4 := s3.part (q := 9) (by rw [u64s_len, hh])
  have s5 : Sat W0 w (seg true b 9 ([Value.int .u64 (n : Int)] ++ u8s wait) :: seg true b 1 (u64s h) :: seg true b 0 [.bool true] :: L) := s4.pull 1
  have s6 := s5.part (q := 10) rfl
  exact s6.pick [3, 2, 0, 1]
theorem zero_st512 (w : World) : (zeroValue 113).run Tryz.prog w = .ok (.agg (cells512 (List.replicate 8 0) 0 (List.replicate 128 0) false).toArray) w := by kernel_rfl
theorem cells512_one (h : List (BitVec 64)) (n : Nat) (wait : List Byte) (made : Bool) : ∀ v ∈ cells512 h n wait made, v.oneCell' = true := by
  intro v hv
  simp only [cells512, List.mem_append, List.mem_singleton] at hv
  rcases hv with rfl | hv | rfl | hv
  · rfl
  · exact u64s_one _ v hv
  · rfl
  · exact u8s_one _ v hv
theorem size_st512 : (Tryz.prog.info? 113).map (·.size) = some 138 := by kernel_rfl
set_option maxRecDepth 100000 in
set_option maxHeartbeats 1000000 in
theorem new512 {W0 w : World} {L : List Assn} (hs : Sat W0 w L) : Calls Tryz.prog 36 #[] w fun e w' => ∃ b, e = .returned (.pointer (some ⟨b, 0, none⟩)) ∧ Sat W0 w' (stM512 b [] L) := by
  go_enter Tryz.func36, Tryz.ntmps36
  go_wp2_with fail
  refine (first512 hs).mono ?_
  rintro e w1 ⟨rfl, s1⟩
  go_wp2_with (first | (refine wpl_build rfl 113 rfl (.agg (cells512 H512 0 (List.replicate 128 0) true).toArray) (by kernel_rfl) ?_) | (refine wpl_box rfl 113 (.tmp 2) rfl (cells512 H512 0 (List.replicate 128 0) true) rfl s1 ?_; intro w2 g s2 _))
  go_ret
  exact ⟨_, rfl, st512Part (by rfl) (by rfl) s2⟩
set_option maxRecDepth 100000 in
set_option maxHeartbeats 2000000 in
theorem clone512 {W0 w : World} {L : List Assn} {b : Nat} (msg : List Byte) (hs : Sat W0 w (stM512 b msg L)) :
    Calls Tryz.prog 134 #[.pointer (some ⟨b, 0, none⟩)] w fun e w' => ∃ c, e = .returned (.tuple #[.pointer (some ⟨c, 0, none⟩), .int .i64 0]) ∧ Sat W0 w' (stM512 c msg (stM512 b msg L)) := by
  have hl1 := blocks512_len H512 msg (msg.length / 128) rfl
  have hl2 := waitOf_len 128 msg (by omega)
  have hn : Sat W0 w (seg true b 0 [.bool true] :: _) := hs.pull 0
  have sj := st512Join hl1 hl2 hs
  obtain ⟨C, hC⟩ : ∃ C, C = cells512 (blocks512 H512 msg (msg.length / 128)) msg.length (waitOf 128 msg) true := ⟨_, rfl⟩
  have hCl : C.length = 138 := by rw [hC, cells512_len _ _ _ _ hl1 hl2]
  have h1 : ∀ v ∈ C, v.oneCell' = true := by rw [hC]; exact cells512_one _ _ _ _
  have ht : C.take 138 = C := List.take_of_length_le (by omega)
  rw [← hC] at sj
  have hsz : (Tryz.prog.info? 113).map (·.size) = some C.length := by rw [hCl]; exact size_st512
  have hzl : 0 + C.length ≤ (cells512 (List.replicate 8 0) 0 (List.replicate 128 0) false).length := by rw [hCl, cells512_len _ _ _ _ (by simp) (by simp)]; decide
  have Hsz := Lib.hid hsz; have Hzl := Lib.hid hzl; have H1 := Lib.hid h1; have Ht := Lib.hid ht
  clear hsz hzl h1 ht
  have HC := Lib.hid (And.intro hC (And.intro hl1 (And.intro hl2 hCl))); clear hC hl1 hl2 hCl
  go_enter Tryz.func134, Tryz.ntmps134
  go_wp2_with fail
  refine (is512 hn).mono ?_
  rintro e w' ⟨rfl, rfl⟩
  go_wp2_with (first | (refine wpl_load_agg rfl 113 (.tmp 9) rfl Tryz.underlying113 rfl (n := 138) (by kernel_rfl) sj 0 0 rfl rfl (by have := HC.out; omega) ?_) | (refine wpl_alloc_agg rfl 113 rfl sj _ (zero_st512 _) ?_; intro w1 g s1 _; clear sj) | (refine wpl_store_agg rfl rfl 113 (.tmp 4) (.tmp 10) rfl (cs := C) s1 0 0 Hsz.out rfl (show Value.agg (List.take 138 C).toArray = Value.agg C.toArray by rw [Ht.out]) rfl Hzl.out H1.out ?_; intro w2 s2))
  have HC' := HC.out
  have s3 : Sat W0 w2 (seg true g 0 C :: seg true b 0 C :: L) := by
    rw [setL_all C _ (by rw [HC'.2.2.2, cells512_len _ _ _ _ (by simp) (by simp)])] at s2; exact s2
  refine bodyPost_ret (v := .tuple #[.pointer (some ⟨g, 0, none⟩), .int .i64 0]) (by simp [results, Tryz.results134, go_sem]) rfl ⟨g, rfl, ?_⟩
  rw [HC'.1] at s3
  have s4 := st512Part HC'.2.1 HC'.2.2.1 (s3.pull 1)
  have s5 := st512Part HC'.2.1 HC'.2.2.1 (Sat.pull s4 4)
  exact s5
theorem zeroCells512 : Tryz.zeroCells113 = (cells512 (List.replicate 8 0) 0 (List.replicate 128 0) false).toArray := by kernel_rfl
set_option maxRecDepth 100000 in
set_option maxHeartbeats 2000000 in
theorem wipe512 {W0 w : World} {L : List Assn} {b : Nat} (p : Option Nat) (rs : List Run3) (msg : List Byte) (hb : tot rs + 1 ≤ 4611686018427387904) (hl : rs.length ≤ 4294967296) (hs : Sat W0 w (ledO p rs :: stM512 b msg L)) :
    Calls Tryz.prog 132 #[.pointer (some ⟨b, 0, none⟩), ptrO p] w fun e w' => e = .returned (.int .i64 0) ∧ Sat W0 w' (seg true b 0 (cells512 (List.replicate 8 0) 0 (List.replicate 128 0) false) :: ledO p (note rs 8 200 1) :: L) := by
  have hl1 := blocks512_len H512 msg (msg.length / 128) rfl
  have hl2 := waitOf_len 128 msg (by omega)
  have hn : Sat W0 w (seg true b 0 [.bool true] :: _) := hs.pull 1
  have hc := noteOne p rs 8 200 hs hb hl
  obtain ⟨Z, hZ⟩ : ∃ Z, Z = cells512 (List.replicate 8 0) 0 (List.replicate 128 0) false := ⟨_, rfl⟩
  have hZl : Z.length = 138 := by rw [hZ, cells512_len _ _ _ _ (by simp) (by simp)]
  have hsz : (Tryz.prog.info? 113).map (·.size) = some Z.length := by rw [hZl]; exact size_st512
  have h1 : ∀ v ∈ Z, v.oneCell' = true := by rw [hZ]; exact cells512_one _ _ _ _
  have H := Lib.hid (And.intro hZ (And.intro hZl (And.intro hsz (And.intro h1 (And.intro hl1 hl2))))); clear hZl hsz h1 hl1 hl2 hb hl
  go_enter Tryz.func132, Tryz.ntmps132
  go_wp2_with fail
  refine (is512 hn).mono ?_
  rintro e w' ⟨rfl, rfl⟩
  go_wp2_with fail
  refine hc.mono ?_
  rintro e w1 ⟨rfl, s1⟩
  have s2 : Sat W0 w1 (stM512 b msg (ledO p (note rs 8 200 1) :: L)) := s1.pick [1, 2, 3, 4]
  have s3 := st512Join H.out.2.2.2.2.1 H.out.2.2.2.2.2 s2
  have hZc : Value.agg Tryz.zeroCells113 = Value.agg Z.toArray := by rw [hZ]; exact congrArg Value.agg zeroCells512
  have hzl : 0 + Z.length ≤ (cells512 (blocks512 H512 msg (msg.length / 128)) msg.length (waitOf 128 msg) true).length := by rw [cells512_len _ _ _ _ H.out.2.2.2.2.1 H.out.2.2.2.2.2, H.out.2.1]; decide
  have HZ := Lib.hid hZc; have Hzl := Lib.hid hzl; clear hZc hzl hZ
  go_wp2_with (refine wpl_store_agg rfl rfl 113 (.tmp 13) (.tmp 12) rfl (cs := Z) s3 0 0 H.out.2.2.1 rfl HZ.out rfl Hzl.out H.out.2.2.2.1 ?_; intro w2 s4)
  go_ret
  refine ⟨rfl, ?_⟩
  rw [setL_all Z _ (by rw [cells512_len _ _ _ _ H.out.2.2.2.2.1 H.out.2.2.2.2.2, H.out.2.1]), H.out.1] at s4
  exact s4
end Go.Proofs.YtlmababpmmhhoaaGreat
