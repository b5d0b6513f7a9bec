/- Cmac5, Cmac6: texts that lie apart elsewhere, as one; each under the conditions that it names. -/
import Derived.Test.YtbefjaodpbgpcaaGreatCmac4
set_option linter.unusedVariables false
set_option linter.unusedSimpArgs false
set_option maxRecDepth 100000
set_option maxHeartbeats 16000000
namespace Go.Proofs.YtbefjaodpbgpcaaGreat
open Go.RowKit Go.Sep Go.Bv Go.Aes
section
variable {P : Program} {w : World} {T : TypeId}
theorem run_build_array {n sz : Nat} {e : TypeId} (hu : P.underlying T = some (.array n e)) (hsz : (P.info? e).map (·.size) = some sz) {zs cells : Array Value} (hz : (zeroValue T).run P w = .ok (.agg zs) w) {parts : Array (Nat × Value)} (hf : Instr.fill (fun i => some (i * sz, sz)) zs parts.toList = some cells) : (Instr.build T parts).run P w = .ok (.agg cells) w := by
 cases hq : P.info? e with
 | none => simp [hq] at hsz
 | some inf =>
  have hsz' : inf.size = sz := by simpa [hq] using hsz
  unfold Instr.build
  have e : (Value.agg zs).cells = zs := rfl
  simp [Sem.run_bind, hz, run_underlying hu, sizeOf, typeInfo, hq, hsz', e, hf]
end
theorem zero_b4x16 (w : World) : (zeroValue 248).run Tryz.prog w = .ok (.agg (u8s (List.replicate 64 0)).toArray) w := by kernel_rfl
theorem fill_u8 (X : List Byte) (i : Nat) (Y : List Byte) (rest : List (Nat × Value)) (hX : X.length = 64) (hY : Y.length = 16) (hi : i * 16 + 16 ≤ 64) : Instr.fill (fun i => some (i * 16, 16)) (u8s X).toArray ((i, .agg (u8s Y).toArray) :: rest) = Instr.fill (fun i => some (i * 16, 16)) (u8s (putB X (i * 16) Y)).toArray rest := by
 rw [fill_one (off := i * 16) (size := 16) rfl (by show (u8s Y).toArray.size = 16; rw [List.size_toArray, u8s_len, hY]) (by rw [List.size_toArray, u8s_len, hX]; exact hi)]
 show Instr.fill _ (setL (u8s X) (i * 16) (u8s Y)).toArray rest = _
 rw [setL_u8s _ _ _ (by omega)]
theorem build_4x16 (A B C D : List Byte) (hA : A.length = 16) (hB : B.length = 16) (hC : C.length = 16) (hD : D.length = 16) (w : World) : (Instr.build 248 #[(0, .agg (u8s A).toArray), (1, .agg (u8s B).toArray), (2, .agg (u8s C).toArray), (3, .agg (u8s D).toArray)]).run Tryz.prog w = .ok (.agg (u8s (A ++ B ++ C ++ D)).toArray) w := by
 refine run_build_array (sz := 16) Tryz.underlying248 Tryz.size_b16 (zero_b4x16 w) ?_
 have p1 : putB (List.replicate 64 (0 : Byte)) 0 A = A ++ List.replicate (64 - 16) 0 := by have := putB_next [] A 0 64 rfl (by omega); simpa [hA] using this
 have p2 : putB (A ++ List.replicate (64 - 16) 0) 16 B = A ++ B ++ List.replicate (64 - 32) 0 := by have := putB_next A B 16 64 hA (by omega); rw [hB] at this; exact this
 have p3 : putB (A ++ B ++ List.replicate (64 - 32) 0) 32 C = A ++ B ++ C ++ List.replicate (64 - 48) 0 := by have := putB_next (A ++ B) C 32 64 (by simp [hA, hB]) (by omega); rw [hC] at this; exact this
 have p4 : putB (A ++ B ++ C ++ List.replicate (64 - 48) 0) 48 D = A ++ B ++ C ++ D := by have := putB_next (A ++ B ++ C) D 48 64 (by simp [hA, hB, hC]) (by omega); rw [hD] at this; simpa using this
 show Instr.fill (fun i => some (i * 16, 16)) (u8s (List.replicate 64 0)).toArray [(0, .agg (u8s A).toArray), (1, .agg (u8s B).toArray), (2, .agg (u8s C).toArray), (3, .agg (u8s D).toArray)] = _
 rw [fill_u8 _ 0 A _ (by simp) hA (by omega), p1, fill_u8 _ 1 B _ (by simp [hA]) hB (by omega), p2, fill_u8 _ 2 C _ (by simp [hA, hB]) hC (by omega), p3, fill_u8 _ 3 D _ (by simp [hA, hB, hC]) hD (by omega), p4]
 rfl
theorem cmAll_one {c : Option Addr} {k1 k2 ch wt : List Byte} {n : Nat} : ∀ u ∈ cmAll (.pointer c) k1 k2 ch wt n, u.oneCell' = true := by
 intro u hu
 unfold cmAll at hu
 simp only [List.mem_append, List.mem_singleton] at hu
 rcases hu with rfl | hu | hu | hu | hu | rfl
 ·rfl
 ·exact u8s_one _ u hu
 ·exact u8s_one _ u hu
 ·exact u8s_one _ u hu
 ·exact u8s_one _ u hu
 ·rfl
theorem cmacClone {W0 w : World} {L : List Assn} {b c kl : Nat} (ks k1 k2 ch wt : List Byte) (n0 : Nat) (hks : ks.length = 240) (hk0 : 0 < kl) (hk1 : k1.length = 16) (hk2 : k2.length = 16) (hch : ch.length = 16) (hwt : wt.length = 16)
  (hs : Sat W0 w (cmS b (.pointer (some ⟨c, 0, none⟩)) k1 k2 ch wt n0 (cipS c kl ks L))) :
  Calls Tryz.prog 136 #[.pointer (some ⟨b, 0, none⟩)] w fun e w' => ∃ d c2, e = .returned (.tuple #[.pointer (some ⟨d, 0, none⟩), .int .i64 0]) ∧ Sat W0 w' (cmS d (.pointer (some ⟨c2, 0, none⟩)) k1 k2 ch wt n0 (cipS c2 kl ks (cmS b (.pointer (some ⟨c, 0, none⟩)) k1 k2 ch wt n0 (cipS c kl ks L)))) := by
 have hm := cmacMade (hs.f : Sat W0 w (seg true b 0 [.pointer (some ⟨c, 0, none⟩)] :: []))
 have sj := cmJoin hk1 hk2 hch hwt hs
 clear hs
 have hcl := cmAll_len (pv := .pointer (some ⟨c, 0, none⟩)) (n := n0) hk1 hk2 hch hwt
 have z0 := satLt sj (by rw [hcl]; decide)
 obtain ⟨cs, hcs⟩ : ∃ cs, cs = cmAll (.pointer (some ⟨c, 0, none⟩)) k1 k2 ch wt n0 := ⟨_, rfl⟩
 have h1 : ∀ u ∈ cs, u.oneCell' = true := by rw [hcs]; exact cmAll_one
 have h0 : cs[0]? = some (.pointer (some ⟨c, 0, none⟩)) := by rw [hcs]; rfl
 rw [← hcs] at sj hcl
 have ht : (cs.drop 0).take 66 = cs := by rw [List.drop_zero]; exact List.take_of_length_le (by omega)
 have hzl : (cmAll (.pointer none) nought16 nought16 nought16 nought16 0).length = 66 := cmAll_len rfl rfl rfl rfl
 have HN := Lib.hid (And.intro hm (And.intro hcl (And.intro h1 (And.intro ht (And.intro h0 (And.intro hcs (And.intro hks (And.intro hk0 (And.intro hk1 (And.intro hk2 (And.intro hch (And.intro hwt hzl)))))))))))); clear hm hcl h1 ht h0 hcs hks hk0 hk1 hk2 hch hwt hzl
 go_enter Tryz.func136, Tryz.ntmps136
 go_wp2_with fail
 refine HN.out.1.mono ?_
 rintro e w1 ⟨rfl, rfl⟩
 go_wp2_with (first | (refine wpl_load_agg rfl 212 (.tmp 10) rfl Tryz.underlying212 rfl Tryz.size_cm sj 0 0 rfl rfl (by rw [HN.out.2.1]; exact Nat.le_refl _) ?_; rw [HN.out.2.2.2.1]) | (refine wpl_alloc_agg rfl 212 rfl sj _ (zero_cm _) ?_; intro w2 d s2 _) | (refine wpl_store_agg rfl rfl 212 (.tmp 4) (.tmp 11) rfl (cs := cs) s2 0 0 (by rw [HN.out.2.1]; exact Tryz.size_cm) rfl rfl rfl (by rw [HN.out.2.1, HN.out.2.2.2.2.2.2.2.2.2.2.2.2]; decide) HN.out.2.2.1 ?_; intro w3 s3; rw [setL_all _ _ (by rw [HN.out.2.1, HN.out.2.2.2.2.2.2.2.2.2.2.2.2])] at s3; have sb : Sat W0 w3 (seg true b 0 cs :: _) := s3.pull 1; have c3 := sb.at 0 HN.out.2.2.2.2.1; have z3 := satLt sb (by rw [HN.out.2.1]; decide); clear sb))
 refine (aesClone ks HN.out.2.2.2.2.2.2.1 HN.out.2.2.2.2.2.2.2.1 (L := seg true d 0 cs :: seg true b 0 cs :: L) s3.f).mono ?_
 rintro e w4 ⟨c2, rfl, s4⟩
 clear s2 s3 sj c3 z3
 have s5 : Sat W0 w4 (seg true d 0 cs :: cipS c2 kl ks (cipS c kl ks (seg true b 0 cs :: L))) := s4.f
 clear s4
 have c5 := s5.at 0 HN.out.2.2.2.2.1
 have f5 := s5.fr 0 (by rw [HN.out.2.1]; decide)
 have z5 := satLt s5 (by rw [HN.out.2.1]; decide)
 have HS := Lib.hid s5; clear s5
 go_wp2_with fail
 refine bodyPost_ret (v := .tuple #[.pointer (some ⟨d, 0, none⟩), .int .i64 0]) (by simp [results, Tryz.results136, go_sem]) rfl ⟨d, c2, rfl, ?_⟩
 obtain ⟨_, hcl, _, _, _, hcs, _, _, hk1, hk2, hch, hwt, _⟩ := HN.out
 have s6 := HS.out
 rw [hcs] at s6
 have s7 := cmPart hk1 hk2 hch hwt s6
 have s8 : Sat W0 (w4.setCell ⟨d, 0, none⟩ (.pointer (some ⟨c2, 0, none⟩))) (cmS d (.pointer (some ⟨c2, 0, none⟩)) k1 k2 ch wt n0 (cipS c2 kl ks (cipS c kl ks (seg true b 0 (cmAll (.pointer (some ⟨c, 0, none⟩)) k1 k2 ch wt n0) :: L)))) := s7.store (i := 0) (by simp) (.pointer (some ⟨c2, 0, none⟩)) (q := 0) rfl
 have s9 := cmPart hk1 hk2 hch hwt (show Sat W0 (w4.setCell ⟨d, 0, none⟩ (.pointer (some ⟨c2, 0, none⟩))) (seg true b 0 (cmAll (.pointer (some ⟨c, 0, none⟩)) k1 k2 ch wt n0) :: cmS d (.pointer (some ⟨c2, 0, none⟩)) k1 k2 ch wt n0 (cipS c2 kl ks (cipS c kl ks L))) from s8.f)
 exact s9.f
theorem v8_small (n : Nat) (h : n < 256) : v8 (BitVec.ofNat 8 n) = (n : Int) := by unfold v8; rw [BitVec.toNat_ofNat, Nat.mod_eq_of_lt h]
end Go.Proofs.YtbefjaodpbgpcaaGreat
namespace Go.Proofs.YtbefjaodpbgpcaaGreat
open Go.RowKit Go.Sep Go.Bv Go.Aes
theorem yieldsIf_build {P : Program} {ops : Array Oper} {S : World → Prop} {op : Oper} {a : Act} (hw : Region.wanted op (yielded ops a.tmps) = true) (ty : TypeId) {parts : Array (Nat × Operand)} (ho : op.op = .build ty parts) (v : Value)
  (hb : ∀ w, (Instr.build ty (parts.map fun (i, x) => (i, a.eval x))).run P w = .ok v w) : YieldsIf P ops S op v a :=
 .inl ⟨hw, fun w _ => by
  unfold execOp
  simp only [ho, hb, Sem.run_bind, Sem.run_pure, Result.andThen_ok]⟩
def cmForm (kl : Nat) (ks k1 k2 ch wt : List Byte) (n : Nat) : List Byte := ks.take (16 * (kl / 4 + 7)) ++ (k1 ++ k2 ++ ch ++ wt) ++ [BitVec.ofNat 8 n]
theorem cmacForm {W0 w : World} {L : List Assn} {b c kl : Nat} (ks k1 k2 ch wt : List Byte) (n0 : Nat) (hks : ks.length = 240) (hk0 : 0 < kl) (hk : kl ≤ 32) (hk1 : k1.length = 16) (hk2 : k2.length = 16) (hch : ch.length = 16) (hwt : wt.length = 16) (hn0 : n0 ≤ 16)
  (hs : Sat W0 w (cmS b (.pointer (some ⟨c, 0, none⟩)) k1 k2 ch wt n0 (cipS c kl ks L))) :
  Calls Tryz.prog 134 #[.pointer (some ⟨b, 0, none⟩)] w fun e w' => ∃ q d, e = .returned (.slice q (16 * (kl / 4 + 7) + 65) d) ∧ Sat W0 w' (row q d 1 (16 * (kl / 4 + 7) + 65) (u8s (cmForm kl ks k1 k2 ch wt n0)) :: cmS b (.pointer (some ⟨c, 0, none⟩)) k1 k2 ch wt n0 (cipS c kl ks L)) := by
 have hm := cmacMade (hs.f : Sat W0 w (seg true b 0 [.pointer (some ⟨c, 0, none⟩)] :: []))
 have c0 : w.cell? ⟨b, 0, none⟩ = some (.pointer (some ⟨c, 0, none⟩)) := hs.at 0 rfl
 have z0 := satLt hs (by simp)
 have hf := fun (w : World) (X : List Assn) (s : Sat W0 w (cipS c kl ks X)) => aesForm ks hks hk0 hk s
 obtain ⟨n, hn⟩ : ∃ n, n = 16 * (kl / 4 + 7) := ⟨_, rfl⟩
 have hn240 : n ≤ 240 := by omega
 obtain ⟨F, hF⟩ : ∃ F, F = ks.take n := ⟨_, rfl⟩
 have hFl : F.length = n := by rw [hF, List.length_take, hks]; omega
 obtain ⟨X, hX⟩ : ∃ X, X = k1 ++ k2 ++ ch ++ wt := ⟨_, rfl⟩
 have hXl : X.length = 64 := by rw [hX]; simp [hk1, hk2, hch, hwt]
 have hfin : cmForm kl ks k1 k2 ch wt n0 = F ++ X.take (16 * 4) ++ [BitVec.ofNat 8 n0] := by unfold cmForm; rw [← hn, ← hF, ← hX, List.take_of_length_le (l := X) (by omega)]
 rw [hfin]
 rw [← hn] at hf ⊢
 rw [← hF] at hf
 have hbd : ∀ w, (Instr.build 248 #[(0, .agg (u8s k1).toArray), (1, .agg (u8s k2).toArray), (2, .agg (u8s ch).toArray), (3, .agg (u8s wt).toArray)]).run Tryz.prog w = .ok (.agg (u8s X).toArray) w := fun w => by rw [hX]; exact build_4x16 k1 k2 ch wt hk1 hk2 hch hwt w
 have hu16 := Tryz.underlying210
 have hz1 : ∀ B : List Byte, B.length = 16 → (Tryz.prog.info? 210).map (·.size) = some (u8s B).length := fun B h => by rw [u8s_len, h]; exact Tryz.size_b16
 have hkx : ∀ wx Y, Sat W0 wx (cmS b (.pointer (some ⟨c, 0, none⟩)) k1 k2 ch wt n0 Y) → (wx.rangeAt b 1 (u8s k1) ∧ wx.rangeAt b 17 (u8s k2) ∧ wx.rangeAt b 33 (u8s ch) ∧ wx.rangeAt b 49 (u8s wt) ∧ b < wx.heap.size) := fun wx Y h => ⟨(h.pull 1 : Sat W0 wx (seg true b 1 (u8s k1) :: _)).range, (h.pull 2 : Sat W0 wx (seg true b 17 (u8s k2) :: _)).range, (h.pull 3 : Sat W0 wx (seg true b 33 (u8s ch) :: _)).range, (h.pull 4 : Sat W0 wx (seg true b 49 (u8s wt) :: _)).range, satLt h (by simp)⟩
 have hvb : v8 (BitVec.ofNat 8 n0) = (n0 : Int) := v8_small n0 (by omega)
 have HN := Lib.hid (And.intro hm (And.intro hf (And.intro hFl (And.intro hXl (And.intro hkx (And.intro hz1 (And.intro hk1 (And.intro hk2 (And.intro hch (And.intro hwt hvb)))))))))); clear hm hf hFl hXl hkx hz1 hk1 hk2 hch hwt hvb hks hk0 hk hn hF hX hfin
 go_enter Tryz.func134, Tryz.ntmps134
 go_wp2_with fail
 refine HN.out.1.mono ?_
 rintro e w1 ⟨rfl, rfl⟩
 go_wp2_with fail
 refine (HN.out.2.1 _ (cmS b (.pointer (some ⟨c, 0, none⟩)) k1 k2 ch wt n0 L) hs.f).mono ?_
 rintro e w2 ⟨q0, d0, rfl, s1⟩
 clear hs c0 z0
 have s2 : Sat W0 w2 (row q0 d0 1 n (u8s F) :: cmS b (.pointer (some ⟨c, 0, none⟩)) k1 k2 ch wt n0 (cipS c kl ks L)) := s1.f
 clear s1
 go_wp2_with fail
 refine region_E (fun w' => w'.rangeAt b 1 (u8s k1) ∧ w'.rangeAt b 17 (u8s k2) ∧ w'.rangeAt b 33 (u8s ch) ∧ w'.rangeAt b 49 (u8s wt) ∧ b < w'.heap.size) [3, 7, 11, 15] (by kernel_rfl) ?_
 have hHeld := (HN.out.2.2.2.2.1 _ _ s2.drew.f)
 iterate 3
  first | refine autoT' hHeld (h := ?_) | refine autoP' (h := ?_)
  try simp only [pA1, pA2, pA3, pA4]
 refine anyE_take (i := 3) (x := ?_) (v := ?_) ?_ (by kernel_rfl) (by kernel_rfl) (by kernel_rfl) (by kernel_rfl) ?_ ?_ hHeld ?_
 rotate_left 2
 ·(simp only [gE1, gE2, gE3]; rfl)
 ·exact fun _ _ _ h => h
 ·refine yieldsIf_load_mid ?_ 210 (.tmp 16) ?_ b 1 ?_ (u8s k1) _ ?_ hu16 rfl (HN.out.2.2.2.2.2.1 _ HN.out.2.2.2.2.2.2.1)
  ·rfl
  ·rfl
  ·rfl
  ·intro w hSw
   exact hSw.1
 try simp only [pA1, pA2, pA3, pA4]
 iterate 3
  first | refine autoT' hHeld (h := ?_) | refine autoP' (h := ?_)
  try simp only [pA1, pA2, pA3, pA4]
 refine anyE_take (i := 7) (x := ?_) (v := ?_) ?_ (by kernel_rfl) (by kernel_rfl) (by kernel_rfl) (by kernel_rfl) ?_ ?_ hHeld ?_
 rotate_left 2
 ·(simp only [gE1, gE2, gE3]; rfl)
 ·exact fun _ _ _ h => h
 ·refine yieldsIf_load_mid ?_ 210 (.tmp 20) ?_ b 17 ?_ (u8s k2) _ ?_ hu16 rfl (HN.out.2.2.2.2.2.1 _ HN.out.2.2.2.2.2.2.2.1)
  ·rfl
  ·rfl
  ·rfl
  ·intro w hSw
   exact hSw.2.1
 try simp only [pA1, pA2, pA3, pA4]
 iterate 3
  first | refine autoT' hHeld (h := ?_) | refine autoP' (h := ?_)
  try simp only [pA1, pA2, pA3, pA4]
 refine anyE_take (i := 11) (x := ?_) (v := ?_) ?_ (by kernel_rfl) (by kernel_rfl) (by kernel_rfl) (by kernel_rfl) ?_ ?_ hHeld ?_
 rotate_left 2
 ·(simp only [gE1, gE2, gE3]; rfl)
 ·exact fun _ _ _ h => h
 ·refine yieldsIf_load_mid ?_ 210 (.tmp 24) ?_ b 33 ?_ (u8s ch) _ ?_ hu16 rfl (HN.out.2.2.2.2.2.1 _ HN.out.2.2.2.2.2.2.2.2.1)
  ·rfl
  ·rfl
  ·rfl
  ·intro w hSw
   exact hSw.2.2.1
 try simp only [pA1, pA2, pA3, pA4]
 iterate 3
  first | refine autoT' hHeld (h := ?_) | refine autoP' (h := ?_)
  try simp only [pA1, pA2, pA3, pA4]
 refine anyE_take (i := 15) (x := ?_) (v := ?_) ?_ (by kernel_rfl) (by kernel_rfl) (by kernel_rfl) (by kernel_rfl) ?_ ?_ hHeld ?_
 rotate_left 2
 ·(simp only [gE1, gE2, gE3]; rfl)
 ·exact fun _ _ _ h => h
 ·refine yieldsIf_load_mid ?_ 210 (.tmp 28) ?_ b 49 ?_ (u8s wt) _ ?_ hu16 rfl (HN.out.2.2.2.2.2.1 _ HN.out.2.2.2.2.2.2.2.2.2.1)
  ·rfl
  ·rfl
  ·rfl
  ·intro w hSw
   exact hSw.2.2.2.1
 try simp only [pA1, pA2, pA3, pA4]
 refine anyE_pure (i := 16) (x := ?_) (v := ?_) ?_ (by kernel_rfl) (by kernel_rfl) (by kernel_rfl) ?_ ?_ ?_
 rotate_left 2
 ·(simp only [gE1, gE2, gE3]; rfl)
 ·exact fun _ _ _ h => h
 ·refine yieldsIf_build ?_ 248 (parts := #[(0, .tmp 17), (1, .tmp 21), (2, .tmp 25), (3, .tmp 29)]) ?_ (.agg (u8s X).toArray) ?_
  ·rfl
  ·rfl
  intro w
  simp only [List.map_toArray, List.map_cons, List.map_nil]
  exact hbd w
 try simp only [pA1, pA2, pA3, pA4]
 iterate 1
  first | refine autoT' hHeld (h := ?_) | refine autoP' (h := ?_)
  try simp only [pA1, pA2, pA3, pA4]
 refine anyE_done (by kernel_rfl) ?_ _
 have s3 := s2.drew
 obtain ⟨w3, hw3⟩ : ∃ w3, w3 = w2.drew := ⟨_, rfl⟩
 rw [← hw3] at s3 ⊢
 clear hw3 s2
 have s4 : Sat W0 w3 (row q0 d0 1 (n + 16 * 0) (u8s (F ++ X.take (16 * 0))) :: cmS b (.pointer (some ⟨c, 0, none⟩)) k1 k2 ch wt n0 (cipS c kl ks L)) := by rw [show 16 * 0 = 0 from rfl, List.take_zero, List.append_nil]; exact s3
 clear s3 hbd
 go_wp2_with fail
 go_loopw [3, 31] (fun t3 t31 wr => ∃ (i : Nat) (q : Option Addr) (d : Nat), i ≤ 4 ∧ t31 = .int .i64 (i : Int) ∧ t3 = .slice q (n + 16 * i) d ∧ Sat W0 wr (row q d 1 (n + 16 * i) (u8s (F ++ X.take (16 * i))) :: cmS b (.pointer (some ⟨c, 0, none⟩)) k1 k2 ch wt n0 (cipS c kl ks L))) (fun _ t31 _ => 4 - (intOf t31).toNat)
 case atStart => exact ⟨0, q0, d0, by omega, rfl, rfl, s4⟩
 case round =>
  clear s4
  obtain ⟨i, q, d, hi, rfl, rfl, s⟩ := hrel
  by_cases hlt : i < 4
  ·have htk : X.take (16 * i) ++ (X.drop (i * 16)).take 16 = X.take (16 * i + 16) := by rw [Nat.mul_comm, ← List.take_add]
   have hVl : ((X.drop (i * 16)).take 16).length = 16 := by rw [List.length_take, List.length_drop, HN.out.2.2.2.1]; omega
   have hix := fun w => run_index_part (P := Tryz.prog) (T := 248) (e := 210) (n := 4) (m := 16) Tryz.underlying248 Tryz.size_b16 (fun w => by kernel_rfl) (u8s X) (by rw [u8s_len, HN.out.2.2.2.1]) i hlt w
   obtain ⟨V, hV⟩ : ∃ V, V = (X.drop (i * 16)).take 16 := ⟨_, rfl⟩
   rw [u8s_drop, u8s_take, ← hV] at hix
   rw [← hV] at htk hVl
   have e1 : IntKind.i64.wrap ((i : Int) + 1) = ((i + 1 : Nat) : Int) := by rw [IntKind.wrap_i64]; omega
   have hsa := fun g w => run_sliceAll (P := Tryz.prog) (T := 210) (U := 5) Tryz.underlying210 (by kernel_rfl) g 0 w
   have HV := Lib.hid (And.intro hVl htk); clear hVl htk hV
   go_wp2_with (first | (refine wpl_al16 rfl rfl s ?_; intro w3 g s3 _) | (refine wpl_st8a rfl rfl (.tmp 5) (.tmp 33) rfl s3 Tryz.size_b16 rfl rfl HV.out.1 nought16_len ?_; intro w4 s4; have s5 : Sat W0 w4 (row q d 1 (n + 16 * i) (u8s (F ++ X.take (16 * i))) :: bytes true (some ⟨g, 0, none⟩) V :: cmS b (.pointer (some ⟨c, 0, none⟩)) k1 k2 ch wt n0 (cipS c kl ks L)) := (bytesOf s4).pull 1) | (at_builtin; refine wpl_app8 rfl (.tmp 34) (.tmp 35) rfl rfl rfl s5 HV.out.1 (by omega) ?_; intro p9 c9 w9 s9; rw [List.append_assoc, HV.out.2] at s9))
   go_roundw
   case rel => exact ⟨i + 1, p9, c9, by omega, by go_num, rfl, s9.drop 1⟩
   case measure => simp [intOf]; omega
  ·obtain rfl : i = 4 := by omega
   have c65 : wr.cell? ⟨b, 65, none⟩ = some (.int .i64 (n0 : Int)) := (s.f : Sat W0 wr (seg true b 65 [.int .i64 (n0 : Int)] :: [])).cell (i := 0) rfl
   have z6 : b < wr.heap.size := satLt (s.f : Sat W0 wr (seg true b 65 [.int .i64 (n0 : Int)] :: [])) (by simp)
   have hw8 : IntKind.u8.wrap (n0 : Int) = (n0 : Int) := by rw [IntKind.wrap_u8]; omega
   have s9 : Sat W0 (wr.alloc (.cells #[.int .u8 (n0 : Int)] 5)) (seg true wr.heap.size 0 (u8s [BitVec.ofNat 8 n0]) :: row q d 1 (n + 16 * 4) (u8s (F ++ X.take (16 * 4))) :: cmS b (.pointer (some ⟨c, 0, none⟩)) k1 k2 ch wt n0 (cipS c kl ks L)) := by rw [show u8s [BitVec.ofNat 8 n0] = [.int .u8 (n0 : Int)] by rw [← HN.out.2.2.2.2.2.2.2.2.2.2]; rfl]; exact s.alloc #[.int .u8 (n0 : Int)] 5
   have s10 := bytesOf s9
   have s11 : Sat W0 _ (row q d 1 (n + 16 * 4) (u8s (F ++ X.take (16 * 4))) :: bytes true (some ⟨wr.heap.size, 0, none⟩) [BitVec.ofNat 8 n0] :: cmS b (.pointer (some ⟨c, 0, none⟩)) k1 k2 ch wt n0 (cipS c kl ks L)) := s10.pull 1
   clear s9 s10
   go_wp2_with (at_builtin; refine wpl_app8 rfl (.tmp 38) (.tmp 44) rfl rfl rfl s11 rfl (by omega) ?_; intro p9 c9 w9 s12)
   have HS := Lib.hid s12; clear s12 s11 s
   go_ret
   exact ⟨p9, c9, rfl, HS.out.drop 1⟩
theorem cmacWipe {W0 w : World} {L : List Assn} {b c kl : Nat} {pv : Value} (p : Option Nat) (rs : List Run3) (ks k1 k2 ch wt : List Byte) (n0 : Nat) (hp : pv = ptrO p) (hks : ks.length = 240) (hk0 : 0 < kl) (hk : kl ≤ 32) (hk1 : k1.length = 16) (hk2 : k2.length = 16) (hch : ch.length = 16) (hwt : wt.length = 16) (hn0 : n0 ≤ 16) (hb : tot rs + 1 ≤ 4611686018427387904) (hl : rs.length ≤ 4294967296)
  (hs : Sat W0 w (ledO p rs :: cmS b (.pointer (some ⟨c, 0, none⟩)) k1 k2 ch wt n0 (cipS c kl ks L))) :
  Calls Tryz.prog 133 #[.pointer (some ⟨b, 0, none⟩), pv] w fun e w' => e = .returned (.int .i64 0) ∧ Sat W0 w' (ledO p (note rs 8 ((16 * (kl / 4 + 7) + 65 : Nat) : Int) 1) :: L) := by
 subst hp
 have hm := cmacMade (hs.f : Sat W0 w (seg true b 0 [.pointer (some ⟨c, 0, none⟩)] :: []))
 have hf := fun (w : World) (X : List Assn) (s : Sat W0 w (cmS b (.pointer (some ⟨c, 0, none⟩)) k1 k2 ch wt n0 (cipS c kl ks X))) => cmacForm ks k1 k2 ch wt n0 hks hk0 hk hk1 hk2 hch hwt hn0 s
 have hwp := fun (w : World) (X : List Assn) (s : Sat W0 w (ledO none [] :: cipS c kl ks X)) => aesWipe none [] ks rfl hks hk0 hk (by decide) (by decide) s
 obtain ⟨n, hn⟩ : ∃ n, n = 16 * (kl / 4 + 7) + 65 := ⟨_, rfl⟩
 rw [← hn] at hf ⊢
 have hnt := fun (w : World) (X : List Assn) (s : Sat W0 w (ledO p rs :: X)) => noteOne p rs 8 (n : Int) s hb hl
 have hcl := cmAll_len (pv := .pointer (some ⟨c, 0, none⟩)) (n := n0) hk1 hk2 hch hwt
 have hjn := fun (w : World) (X : List Assn) (s : Sat W0 w (cmS b (.pointer (some ⟨c, 0, none⟩)) k1 k2 ch wt n0 X)) => cmJoin hk1 hk2 hch hwt s
 obtain ⟨cs, hcs⟩ : ∃ cs, cs = cmAll (.pointer (some ⟨c, 0, none⟩)) k1 k2 ch wt n0 := ⟨_, rfl⟩
 rw [← hcs] at hcl hjn
 have hzl : (cmAll (.pointer none) nought16 nought16 nought16 nought16 0).length = 66 := cmAll_len rfl rfl rfl rfl
 have ho : ∀ u ∈ cmAll (.pointer none) nought16 nought16 nought16 nought16 0, u.oneCell' = true := cmAll_one
 have HN := Lib.hid (And.intro hm (And.intro hf (And.intro hwp (And.intro hnt (And.intro hcl (And.intro hjn (And.intro hzl ho))))))); clear hm hf hwp hnt hcl hjn hzl ho hcs hn hks hk0 hk hk1 hk2 hch hwt hn0 hb hl
 go_enter Tryz.func133, Tryz.ntmps133
 go_wp2_with fail
 refine HN.out.1.mono ?_
 rintro e w1 ⟨rfl, rfl⟩
 go_wp2_with fail
 refine (HN.out.2.1 _ (ledO p rs :: L) hs.f).mono ?_
 rintro e w2 ⟨q, d, rfl, s2⟩
 clear hs
 go_wp2_with fail
 refine (HN.out.2.2.2.1 _ (cmS b (.pointer (some ⟨c, 0, none⟩)) k1 k2 ch wt n0 (cipS c kl ks L)) s2.f).mono ?_
 rintro e w3 ⟨rfl, s3⟩
 clear s2
 have c0 : w3.cell? ⟨b, 0, none⟩ = some (.pointer (some ⟨c, 0, none⟩)) := (s3.f : Sat W0 w3 (seg true b 0 [.pointer (some ⟨c, 0, none⟩)] :: [])).at 0 rfl
 have z0 := satLt (s3.f : Sat W0 w3 (seg true b 0 [.pointer (some ⟨c, 0, none⟩)] :: [])) (by simp)
 go_wp2_with fail
 have s4 : Sat W0 w3 (ledO none [] :: ledO p (note rs 8 (n : Int) 1) :: cmS b (.pointer (some ⟨c, 0, none⟩)) k1 k2 ch wt n0 (cipS c kl ks L)) := s3.emp
 refine (HN.out.2.2.1 _ (ledO p (note rs 8 (n : Int) 1) :: cmS b (.pointer (some ⟨c, 0, none⟩)) k1 k2 ch wt n0 L) s4.f).mono ?_
 rintro e w4 ⟨rfl, s5⟩
 clear s3 s4 c0 z0
 have s6 := HN.out.2.2.2.2.2.1 _ (ledO p (note rs 8 (n : Int) 1) :: L) s5.f
 clear s5
 have z0 := satLt s6 (by rw [HN.out.2.2.2.2.1]; decide)
 go_wp2_with (first | (refine wpl_build rfl 212 rfl (.agg (cmAll (.pointer none) nought16 nought16 nought16 nought16 0).toArray) (build_cm0 _) ?_) | (refine wpl_store_agg rfl rfl 212 (.tmp 21) (.tmp 20) rfl (cs := cmAll (.pointer none) nought16 nought16 nought16 nought16 0) s6 0 0 (by rw [HN.out.2.2.2.2.2.2.1]; exact Tryz.size_cm) rfl rfl rfl (by rw [HN.out.2.2.2.2.2.2.1, HN.out.2.2.2.2.1]; decide) HN.out.2.2.2.2.2.2.2 ?_; intro w5 s7))
 exact bodyPost_ret (v := .int .i64 0) (by simp [results, Tryz.results133, go_sem]) rfl ⟨rfl, s7.tail⟩
end Go.Proofs.YtbefjaodpbgpcaaGreat
