
/- CMAC: a mac begun; under the conditions that each names. -/
import Derived.Test.YtooolimpkafhaaaGreatCmac
namespace Go.Proofs.YtooolimpkafhaaaGreat
open Go.RowKit Go.Sep Go.Bv Go.Aes
set_option linter.unusedVariables false
set_option linter.unusedSimpArgs false
theorem satLt {W0 w : World} {L : List Assn} {m : Bool} {b o : Nat} {vs : List Value} (h : Sat W0 w (seg m b o vs :: L)) (hl : 0 < vs.length) : b < w.heap.size := World.block_lt_of_cell? w _ (h.cell (i := 0) (v := vs[0]) (by simp [hl]))
theorem Tryz.size_cm : (Tryz.prog.info? 160).map (·.size) = some 66 := by kernel_rfl
/-- A mac's cells: the cipher, two keys, the chain, what waits, how many bytes of it. -/
def cmAll (pv : Value) (k1 k2 ch wt : List Byte) (n : Nat) : List Value := [pv] ++ (u8s k1 ++ (u8s k2 ++ (u8s ch ++ (u8s wt ++ [.int .i64 (n : Int)]))))
abbrev cmS (b : Nat) (pv : Value) (k1 k2 ch wt : List Byte) (n : Nat) (L : List Assn) : List Assn :=
  seg true b 0 [pv] :: seg true b 1 (u8s k1) :: seg true b 17 (u8s k2) :: seg true b 33 (u8s ch) :: seg true b 49 (u8s wt) :: seg true b 65 [.int .i64 (n : Int)] :: L
theorem cmPart {W0 w : World} {L : List Assn} {b n : Nat} {pv : Value} {k1 k2 ch wt : List Byte} (h1 : k1.length = 16) (h2 : k2.length = 16) (h3 : ch.length = 16) (h4 : wt.length = 16) (h : Sat W0 w (seg true b 0 (cmAll pv k1 k2 ch wt n) :: L)) : Sat W0 w (cmS b pv k1 k2 ch wt n L) := by
  have s1 := Sat.part h (q := 1) rfl
  have s2 := Sat.part (show Sat W0 w (seg true b 1 (u8s k1 ++ (u8s k2 ++ (u8s ch ++ (u8s wt ++ [.int .i64 (n : Int)])))) :: seg true b 0 [pv] :: L) from s1.pull 1) (q := 17) (by rw [u8s_len, h1])
  have s3 := Sat.part (show Sat W0 w (seg true b 17 (u8s k2 ++ (u8s ch ++ (u8s wt ++ [.int .i64 (n : Int)]))) :: seg true b 1 (u8s k1) :: seg true b 0 [pv] :: L) from s2.pull 1) (q := 33) (by rw [u8s_len, h2])
  have s4 := Sat.part (show Sat W0 w (seg true b 33 (u8s ch ++ (u8s wt ++ [.int .i64 (n : Int)])) :: seg true b 17 (u8s k2) :: seg true b 1 (u8s k1) :: seg true b 0 [pv] :: L) from s3.pull 1) (q := 49) (by rw [u8s_len, h3])
  have s5 := Sat.part (show Sat W0 w (seg true b 49 (u8s wt ++ [.int .i64 (n : Int)]) :: seg true b 33 (u8s ch) :: seg true b 17 (u8s k2) :: seg true b 1 (u8s k1) :: seg true b 0 [pv] :: L) from s4.pull 1) (q := 65) (by rw [u8s_len, h4])
  exact (Sat.sub (s5) (by (repeat (first | with_reducible exact Fr.done | with_reducible exact Fr.nil | (with_reducible apply Fr.cons; (focus ((repeat (first | with_reducible exact Take.here | with_reducible apply Take.there)); done))) | with_reducible apply Fr.skip))))
theorem cmJoin {W0 w : World} {L : List Assn} {b n : Nat} {pv : Value} {k1 k2 ch wt : List Byte} (h1 : k1.length = 16) (h2 : k2.length = 16) (h3 : ch.length = 16) (h4 : wt.length = 16) (h : Sat W0 w (cmS b pv k1 k2 ch wt n L)) : Sat W0 w (seg true b 0 (cmAll pv k1 k2 ch wt n) :: L) := by
  have t5 := Sat.join (show Sat W0 w (seg true b 49 (u8s wt) :: seg true b 65 [.int .i64 (n : Int)] :: seg true b 0 [pv] :: seg true b 1 (u8s k1) :: seg true b 17 (u8s k2) :: seg true b 33 (u8s ch) :: L) from (Sat.sub (h) (by (repeat (first | with_reducible exact Fr.done | with_reducible exact Fr.nil | (with_reducible apply Fr.cons; (focus ((repeat (first | with_reducible exact Take.here | with_reducible apply Take.there)); done))) | with_reducible apply Fr.skip))))) (by rw [u8s_len, h4])
  have t4 := Sat.join (show Sat W0 w (seg true b 33 (u8s ch) :: seg true b 49 (u8s wt ++ [.int .i64 (n : Int)]) :: seg true b 0 [pv] :: seg true b 1 (u8s k1) :: seg true b 17 (u8s k2) :: L) from (Sat.sub (t5) (by (repeat (first | with_reducible exact Fr.done | with_reducible exact Fr.nil | (with_reducible apply Fr.cons; (focus ((repeat (first | with_reducible exact Take.here | with_reducible apply Take.there)); done))) | with_reducible apply Fr.skip))))) (by rw [u8s_len, h3])
  have t3 := Sat.join (show Sat W0 w (seg true b 17 (u8s k2) :: seg true b 33 (u8s ch ++ (u8s wt ++ [.int .i64 (n : Int)])) :: seg true b 0 [pv] :: seg true b 1 (u8s k1) :: L) from (Sat.sub (t4) (by (repeat (first | with_reducible exact Fr.done | with_reducible exact Fr.nil | (with_reducible apply Fr.cons; (focus ((repeat (first | with_reducible exact Take.here | with_reducible apply Take.there)); done))) | with_reducible apply Fr.skip))))) (by rw [u8s_len, h2])
  have t2 := Sat.join (show Sat W0 w (seg true b 1 (u8s k1) :: seg true b 17 (u8s k2 ++ (u8s ch ++ (u8s wt ++ [.int .i64 (n : Int)]))) :: seg true b 0 [pv] :: L) from (Sat.sub (t3) (by (repeat (first | with_reducible exact Fr.done | with_reducible exact Fr.nil | (with_reducible apply Fr.cons; (focus ((repeat (first | with_reducible exact Take.here | with_reducible apply Take.there)); done))) | with_reducible apply Fr.skip))))) (by rw [u8s_len, h1])
  exact Sat.join (show Sat W0 w (seg true b 0 [pv] :: seg true b 1 (u8s k1 ++ (u8s k2 ++ (u8s ch ++ (u8s wt ++ [.int .i64 (n : Int)])))) :: L) from (Sat.sub (t2) (by (repeat (first | with_reducible exact Fr.done | with_reducible exact Fr.nil | (with_reducible apply Fr.cons; (focus ((repeat (first | with_reducible exact Take.here | with_reducible apply Take.there)); done))) | with_reducible apply Fr.skip))))) rfl
theorem cmAll_len {pv : Value} {k1 k2 ch wt : List Byte} {n : Nat} (h1 : k1.length = 16) (h2 : k2.length = 16) (h3 : ch.length = 16) (h4 : wt.length = 16) : (cmAll pv k1 k2 ch wt n).length = 66 := by
  unfold cmAll
  simp only [List.length_append, u8s_len, h1, h2, h3, h4, List.length_cons, List.length_nil]
theorem build_cm (c : Nat) (w : World) : (Instr.build 160 #[(0, .pointer (some ⟨c, 0, none⟩))]).run Tryz.prog w = .ok (.agg (cmAll (.pointer (some ⟨c, 0, none⟩)) nought16 nought16 nought16 nought16 0).toArray) w := by kernel_rfl
theorem build_cm0 (w : World) : (Instr.build 160 #[]).run Tryz.prog w = .ok (.agg (cmAll (.pointer none) nought16 nought16 nought16 nought16 0).toArray) w := by kernel_rfl
theorem zero_cm (w : World) : (zeroValue 160).run Tryz.prog w = .ok (.agg (cmAll (.pointer none) nought16 nought16 nought16 nought16 0).toArray) w := by kernel_rfl
theorem aesEncryptF {W0 w : World} {L : List Assn} {c kl : Nat} {pv bv : Value} (p : Option Nat) (rs : List Run3) (ks B : List Byte) (hp : pv = ptrO p) (hbv : bv = .agg (u8s B).toArray) (hks : ks.length = 240) (hB : B.length = 16) (hk0 : 0 < kl) (hk : kl ≤ 32) (hb : tot rs + 1 ≤ 4611686018427387904) (hl : rs.length ≤ 4294967296) (hs : Sat W0 w (ledO p rs :: cipS c kl ks L)) :
    Calls Tryz.prog 101 #[.pointer (some ⟨c, 0, none⟩), pv, bv] w fun e w' => e = .returned (.tuple #[.agg (u8s (aesEnc kl ks B)).toArray, .int .i64 0]) ∧ Sat W0 w' (ledO p (note rs 5 (kl : Int) 1) :: cipS c kl ks L) := by
  subst hbv
  exact aesEncrypt p rs ks B hp hks hB hk0 hk hb hl hs
/-- The keys of a mac. -/
def cmTop (key : List Byte) : List Byte := aesEnc key.length (expand key) nought16
def cmK1 (key : List Byte) : List Byte := dbl (cmTop key)
def cmK2 (key : List Byte) : List Byte := dbl (cmK1 key)
set_option maxHeartbeats 1000000 in
theorem cmacMade {W0 w : World} {L : List Assn} {b c : Nat} (hs : Sat W0 w (seg true b 0 [.pointer (some ⟨c, 0, none⟩)] :: L)) : Calls Tryz.prog 160 #[.pointer (some ⟨b, 0, none⟩)] w fun e w' => e = .returned (.bool true) ∧ w' = w := by
  have c0 := hs.at 0 rfl
  have z0 := hs.lt (by simp)
  go_enter Tryz.func160, Tryz.ntmps160
  go_wp2
  go_ret
  exact ⟨rfl, rfl⟩
set_option maxRecDepth 100000 in
set_option maxHeartbeats 4000000 in
theorem cmacNew {W0 w : World} {L : List Assn} {m : Bool} {pk : Option Addr} {n cap : Nat} {pv : Value} (p : Option Nat) (rs : List Run3) (key : List Byte) (hp : pv = ptrO p) (hn : key.length = n) (hk3 : n = 16 ∨ n = 24 ∨ n = 32) (hc : n ≤ cap) (hcm : cap ≤ maxLen) (hb : tot rs + 2 ≤ 4611686018427387904) (hl : rs.length + 1 ≤ 4294967296) (hs : Sat W0 w (ledO p rs :: bytes m pk key :: L)) :
    Calls Tryz.prog 66 #[pv, .slice pk n cap] w fun e w' => ∃ b c, e = .returned (.tuple #[.pointer (some ⟨b, 0, none⟩), .int .i64 0]) ∧ Sat W0 w' (cmS b (.pointer (some ⟨c, 0, none⟩)) (cmK1 key) (cmK2 key) nought16 nought16 0 (cipS c n (expand key) (ledO p (note (note rs 4 (n : Int) 1) 5 (n : Int) 1) :: bytes m pk key :: L))) := by
  subst hp
  have hnw := fun (w : World) (s : Sat W0 w (ledO p rs :: bytes m pk key :: L)) => aesNew (cap := cap) p rs key (n / 4) rfl hn (by omega) hk3 hc hcm (by omega) (by omega) s
  have hel : (expand key).length = 240 := expand_len key (n / 4) (by omega) (by omega) (by omega)
  have htop : cmTop key = aesEnc n (expand key) nought16 := by unfold cmTop; rw [hn]
  have htl : (cmTop key).length = 16 := by rw [htop]; exact aesEnc_len n _ _ hel rfl (by omega)
  have h1l : (cmK1 key).length = 16 := dbl_len _
  have h2l : (cmK2 key).length = 16 := dbl_len _
  have h1e : dbl (cmTop key) = cmK1 key := rfl
  have h2e : dbl (cmK1 key) = cmK2 key := rfl
  obtain ⟨E, hE⟩ : ∃ E, E = expand key := ⟨_, rfl⟩
  obtain ⟨T, hT⟩ : ∃ T, T = cmTop key := ⟨_, rfl⟩
  obtain ⟨K1, hK1⟩ : ∃ K, K = cmK1 key := ⟨_, rfl⟩
  obtain ⟨K2, hK2⟩ : ∃ K, K = cmK2 key := ⟨_, rfl⟩
  rw [← hE] at hnw hel htop
  rw [← hT] at htop htl h1e
  rw [← hK1] at h1l h1e h2e
  rw [← hK2] at h2l h2e
  rw [← hE, ← hK1, ← hK2]
  have hkl : n ≤ 32 := by omega
  have hk0 : 0 < n := by omega
  have hnl := fun (rs : List Run3) (k s : Int) => note_len rs k s 1
  have htn := tot_note rs 4 (n : Int) 1
  have hln := note_len rs 4 (n : Int) 1
  obtain ⟨rs1, hrs⟩ : ∃ r, r = note rs 4 (n : Int) 1 := ⟨_, rfl⟩
  rw [← hrs] at hnw htn hln ⊢
  have HN := Lib.hid (And.intro hnw (And.intro hel (And.intro htop (And.intro htl (And.intro h1l (And.intro h2l (And.intro h1e (And.intro h2e (And.intro hkl (And.intro hk0 (And.intro (show tot rs1 + 1 ≤ 4611686018427387904 by omega) (show rs1.length ≤ 4294967296 by omega)))))))))))); clear hnw hel htop htl h1l h2l h1e h2e hkl hk0 hk3 hn hc hcm hb hl hE hT hK1 hK2 hnl htn hln hrs
  go_enter Tryz.func66, Tryz.ntmps66
  go_wp2_with fail
  refine (HN.out.1 _ hs).mono ?_
  rintro e w1 ⟨c, rfl, s1⟩
  clear hs
  have hbc := fun w => build_cm c w
  go_wp2_with (first | (refine wpl_build rfl 160 rfl (.agg (cmAll (.pointer (some ⟨c, 0, none⟩)) nought16 nought16 nought16 nought16 0).toArray) (by simp only [List.map_toArray, List.map_cons, List.map_nil]; exact hbc _) ?_) | (refine wpl_box rfl 160 (.tmp 21) rfl (cmAll (.pointer (some ⟨c, 0, none⟩)) nought16 nought16 nought16 nought16 0) rfl s1 ?_; intro w2 b s2 _))
  have s3 := cmPart rfl rfl rfl rfl s2
  clear s2 s1
  refine (aesEncryptF p rs1 E nought16 rfl rfl HN.out.2.1 rfl HN.out.2.2.2.2.2.2.2.2.2.1 HN.out.2.2.2.2.2.2.2.2.1 HN.out.2.2.2.2.2.2.2.2.2.2.1 HN.out.2.2.2.2.2.2.2.2.2.2.2 (by (repeat (first | with_reducible apply Sat.sub (s3) | with_reducible apply Sat.alloc' | with_reducible apply Sat.drew | with_reducible apply Sat.drewN)); (repeat (first | with_reducible exact Fr.done | with_reducible exact Fr.nil | (with_reducible apply Fr.cons; (focus ((repeat (first | with_reducible exact Take.here | with_reducible apply Take.there)); done))) | with_reducible apply Fr.skip)); done)).mono ?_
  rintro e w3 ⟨rfl, s4⟩
  clear s3
  rw [← HN.out.2.2.1]
  have s5 : Sat W0 w3 (cmS b (.pointer (some ⟨c, 0, none⟩)) nought16 nought16 nought16 nought16 0 (cipS c n E (ledO p (note rs1 5 (n : Int) 1) :: bytes m pk key :: L))) := (Sat.sub (s4) (by (repeat (first | with_reducible exact Fr.done | with_reducible exact Fr.nil | (with_reducible apply Fr.cons; (focus ((repeat (first | with_reducible exact Take.here | with_reducible apply Take.there)); done))) | with_reducible apply Fr.skip))))
  clear s4
  have zb := s5.lt (by simp)
  go_wp2_with (first | (refine wpl_al16 rfl rfl s5 ?_; intro w4 gt s6 _) | (refine wpl_st8a rfl rfl (.tmp 9) (.tmp 28) rfl s6 Tryz.size_b16 rfl rfl HN.out.2.2.2.1 nought16_len ?_; intro w5 s7) | (refine wpl_ld8a rfl (.tmp 9) rfl Tryz.underlying158 Tryz.size_b16 s7 rfl HN.out.2.2.2.1 ?_))
  refine (cmacDouble T rfl HN.out.2.2.2.1 s7).mono ?_
  rintro e w6 ⟨rfl, s8⟩
  rw [HN.out.2.2.2.2.2.2.1]
  clear s5 s6 s7
  have s9 : Sat W0 w6 (seg true b 1 (u8s nought16) :: seg true b 0 [.pointer (some ⟨c, 0, none⟩)] :: seg true b 17 (u8s nought16) :: seg true b 33 (u8s nought16) :: seg true b 49 (u8s nought16) :: seg true b 65 [.int .i64 ((0 : Nat) : Int)] :: cipS c n E (ledO p (note rs1 5 (n : Int) 1) :: bytes m pk key :: L)) := (s8.drop 0).pull 1
  clear s8
  have zb6 := satLt s9 (by decide)
  clear zb
  go_wp2_with (first | (refine wpl_st8a rfl rfl (.tmp 34) (.tmp 32) rfl s9 Tryz.size_b16 rfl rfl HN.out.2.2.2.2.1 nought16_len ?_; intro w7 s10; have zb := satLt s10 (by rw [u8s_len, HN.out.2.2.2.2.1]; decide)) | (refine wpl_ld8a rfl (.tmp 38) rfl Tryz.underlying158 Tryz.size_b16 s10 rfl HN.out.2.2.2.2.1 ?_))
  refine (cmacDouble K1 rfl HN.out.2.2.2.2.1 s10).mono ?_
  rintro e w8 ⟨rfl, s11⟩
  rw [HN.out.2.2.2.2.2.2.2.1]
  clear s9 s10 zb zb6
  have s12 : Sat W0 w8 (seg true b 17 (u8s nought16) :: seg true b 1 (u8s K1) :: seg true b 0 [.pointer (some ⟨c, 0, none⟩)] :: seg true b 33 (u8s nought16) :: seg true b 49 (u8s nought16) :: seg true b 65 [.int .i64 ((0 : Nat) : Int)] :: cipS c n E (ledO p (note rs1 5 (n : Int) 1) :: bytes m pk key :: L)) := s11.pull 2
  clear s11
  have zb := satLt s12 (by decide)
  go_wp2_with (refine wpl_st8a rfl rfl (.tmp 42) (.tmp 40) rfl s12 Tryz.size_b16 rfl rfl HN.out.2.2.2.2.2.1 nought16_len ?_; intro w9 s13)
  have s14 := s13
  clear s12 s13
  have HS := Lib.hid s14; clear s14
  refine bodyPost_ret (v := .tuple #[.pointer (some ⟨b, 0, none⟩), .int .i64 0]) (by simp [results, Tryz.results66, go_sem]) rfl ⟨b, c, rfl, ?_⟩
  have s15 := HS.out
  exact (Sat.sub (s15) (by (repeat (first | with_reducible exact Fr.done | with_reducible exact Fr.nil | (with_reducible apply Fr.cons; (focus ((repeat (first | with_reducible exact Take.here | with_reducible apply Take.there)); done))) | with_reducible apply Fr.skip))))
end Go.Proofs.YtooolimpkafhaaaGreat
