
/- CMAC: a mac's form, wiped; under the conditions that each names. -/
import Derived.Test.YtooolimpkafhaaaGreatCmac5
namespace Go.Proofs.YtooolimpkafhaaaGreat
open Go.RowKit Go.Sep Go.Bv Go.Aes
set_option linter.unusedVariables false
set_option linter.unusedSimpArgs false
theorem yieldsIf_build {P : Program} {ops : Array Oper} {S : World → Prop} {op : Oper} {a : Act} (hw : Region.wanted op (yielded ops a.tmps) = true) (ty : TypeId) {parts : Array (Nat × Operand)} (ho : op.op = .build ty parts) (v : Value)
    (hb : ∀ w, (Instr.build ty (parts.map fun (i, x) => (i, a.eval x))).run P w = .ok v w) : YieldsIf P ops S op v a :=
  .inl ⟨hw, fun w _ => by
    unfold execOp
    simp only [ho, hb, Sem.run_bind, Sem.run_pure, Result.andThen_ok]⟩
/-- What a mac's form lays: the round keys, the four blocks, how many bytes wait. -/
def cmForm (kl : Nat) (ks k1 k2 ch wt : List Byte) (n : Nat) : List Byte := ks.take (16 * (kl / 4 + 7)) ++ (k1 ++ k2 ++ ch ++ wt) ++ [BitVec.ofNat 8 n]
set_option maxRecDepth 100000 in
set_option maxHeartbeats 4000000 in
theorem cmacForm {W0 w : World} {L : List Assn} {b c kl : Nat} (ks k1 k2 ch wt : List Byte) (n0 : Nat) (hks : ks.length = 240) (hk0 : 0 < kl) (hk : kl ≤ 32) (hk1 : k1.length = 16) (hk2 : k2.length = 16) (hch : ch.length = 16) (hwt : wt.length = 16) (hn0 : n0 ≤ 16)
    (hs : Sat W0 w (cmS b (.pointer (some ⟨c, 0, none⟩)) k1 k2 ch wt n0 (cipS c kl ks L))) :
    Calls Tryz.prog 106 #[.pointer (some ⟨b, 0, none⟩)] w fun e w' => ∃ q d, e = .returned (.slice q (16 * (kl / 4 + 7) + 65) d) ∧ Sat W0 w' (row q d 1 (16 * (kl / 4 + 7) + 65) (u8s (cmForm kl ks k1 k2 ch wt n0)) :: cmS b (.pointer (some ⟨c, 0, none⟩)) k1 k2 ch wt n0 (cipS c kl ks L)) := by
  have hm := cmacMade ((Sat.sub (hs) (by (repeat (first | with_reducible exact Fr.done | with_reducible exact Fr.nil | (with_reducible apply Fr.cons; (focus ((repeat (first | with_reducible exact Take.here | with_reducible apply Take.there)); done))) | with_reducible apply Fr.skip)))) : Sat W0 w (seg true b 0 [.pointer (some ⟨c, 0, none⟩)] :: []))
  have c0 : w.cell? ⟨b, 0, none⟩ = some (.pointer (some ⟨c, 0, none⟩)) := hs.at 0 rfl
  have z0 := satLt hs (by simp)
  have hf := fun (w : World) (X : List Assn) (s : Sat W0 w (cipS c kl ks X)) => aesForm ks hks hk0 hk s
  obtain ⟨n, hn⟩ : ∃ n, n = 16 * (kl / 4 + 7) := ⟨_, rfl⟩
  have hn240 : n ≤ 240 := by omega
  obtain ⟨F, hF⟩ : ∃ F, F = ks.take n := ⟨_, rfl⟩
  have hFl : F.length = n := by rw [hF, List.length_take, hks]; omega
  obtain ⟨X, hX⟩ : ∃ X, X = k1 ++ k2 ++ ch ++ wt := ⟨_, rfl⟩
  have hXl : X.length = 64 := by rw [hX]; simp [hk1, hk2, hch, hwt]
  have hfin : cmForm kl ks k1 k2 ch wt n0 = F ++ X.take (16 * 4) ++ [BitVec.ofNat 8 n0] := by unfold cmForm; rw [← hn, ← hF, ← hX, List.take_of_length_le (l := X) (by omega)]
  rw [hfin]
  rw [← hn] at hf ⊢
  rw [← hF] at hf
  have hbd : ∀ w, (Instr.build 211 #[(0, .agg (u8s k1).toArray), (1, .agg (u8s k2).toArray), (2, .agg (u8s ch).toArray), (3, .agg (u8s wt).toArray)]).run Tryz.prog w = .ok (.agg (u8s X).toArray) w := fun w => by rw [hX]; exact build_4x16 k1 k2 ch wt hk1 hk2 hch hwt w
  have hu16 := Tryz.underlying158
  have hz1 : ∀ B : List Byte, B.length = 16 → (Tryz.prog.info? 158).map (·.size) = some (u8s B).length := fun B h => by rw [u8s_len, h]; exact Tryz.size_b16
  have hkx : ∀ wx Y, Sat W0 wx (cmS b (.pointer (some ⟨c, 0, none⟩)) k1 k2 ch wt n0 Y) → (wx.rangeAt b 1 (u8s k1) ∧ wx.rangeAt b 17 (u8s k2) ∧ wx.rangeAt b 33 (u8s ch) ∧ wx.rangeAt b 49 (u8s wt) ∧ b < wx.heap.size) := fun wx Y h => ⟨(h.pull 1 : Sat W0 wx (seg true b 1 (u8s k1) :: _)).range, (h.pull 2 : Sat W0 wx (seg true b 17 (u8s k2) :: _)).range, (h.pull 3 : Sat W0 wx (seg true b 33 (u8s ch) :: _)).range, (h.pull 4 : Sat W0 wx (seg true b 49 (u8s wt) :: _)).range, satLt h (by simp)⟩
  have hvb : v8 (BitVec.ofNat 8 n0) = (n0 : Int) := v8_small n0 (by omega)
  have HN := Lib.hid (And.intro hm (And.intro hf (And.intro hFl (And.intro hXl (And.intro hkx (And.intro hz1 (And.intro hk1 (And.intro hk2 (And.intro hch (And.intro hwt hvb)))))))))); clear hm hf hFl hXl hkx hz1 hk1 hk2 hch hwt hvb hks hk0 hk hn hF hX hfin
  go_enter Tryz.func106, Tryz.ntmps106
  go_wp2_with fail
  refine HN.out.1.mono ?_
  rintro e w1 ⟨rfl, rfl⟩
  go_wp2_with fail
  refine (HN.out.2.1 _ (cmS b (.pointer (some ⟨c, 0, none⟩)) k1 k2 ch wt n0 L) (Sat.sub (hs) (by (repeat (first | with_reducible exact Fr.done | with_reducible exact Fr.nil | (with_reducible apply Fr.cons; (focus ((repeat (first | with_reducible exact Take.here | with_reducible apply Take.there)); done))) | with_reducible apply Fr.skip))))).mono ?_
  rintro e w2 ⟨q0, d0, rfl, s1⟩
  clear hs c0 z0
  have s2 : Sat W0 w2 (row q0 d0 1 n (u8s F) :: cmS b (.pointer (some ⟨c, 0, none⟩)) k1 k2 ch wt n0 (cipS c kl ks L)) := (Sat.sub (s1) (by (repeat (first | with_reducible exact Fr.done | with_reducible exact Fr.nil | (with_reducible apply Fr.cons; (focus ((repeat (first | with_reducible exact Take.here | with_reducible apply Take.there)); done))) | with_reducible apply Fr.skip))))
  clear s1
  go_wp2_with fail
  refine region_E (fun w' => w'.rangeAt b 1 (u8s k1) ∧ w'.rangeAt b 17 (u8s k2) ∧ w'.rangeAt b 33 (u8s ch) ∧ w'.rangeAt b 49 (u8s wt) ∧ b < w'.heap.size) [3, 7, 11, 15] (by kernel_rfl) ?_
  have hHeld := (HN.out.2.2.2.2.1 _ _ (Sat.sub (s2.drew) (by (repeat (first | with_reducible exact Fr.done | with_reducible exact Fr.nil | (with_reducible apply Fr.cons; (focus ((repeat (first | with_reducible exact Take.here | with_reducible apply Take.there)); done))) | with_reducible apply Fr.skip)))))
  refine anyE_pure (i := 0) (x := ?_) (v := ?_) ?_ (by kernel_rfl) (by kernel_rfl) (by kernel_rfl) ?_ ?_ ?_
  rotate_left 2
  · (simp only [List.getElem?_toArray, List.getElem?_cons_succ, List.getElem?_cons_zero]; rfl)
  · exact fun _ _ _ h => h
  · refine Or.inl ⟨by rfl, ?_⟩
    intro w hSw
    go_simp
    try (with_reducible rfl)
  try simp only [Act.put, List.setIfInBounds_toArray, List.set_cons_zero, List.set_cons_succ]
  refine anyE_pure (i := 1) (x := ?_) (v := ?_) ?_ (by kernel_rfl) (by kernel_rfl) (by kernel_rfl) ?_ ?_ ?_
  rotate_left 2
  · (simp only [List.getElem?_toArray, List.getElem?_cons_succ, List.getElem?_cons_zero]; rfl)
  · exact fun _ _ _ h => h
  · refine Or.inl ⟨by rfl, ?_⟩
    intro w hSw
    go_simp
    try (with_reducible rfl)
  try simp only [Act.put, List.setIfInBounds_toArray, List.set_cons_zero, List.set_cons_succ]
  refine anyE_pure (i := 2) (x := ?_) (v := ?_) ?_ (by kernel_rfl) (by kernel_rfl) (by kernel_rfl) ?_ ?_ ?_
  rotate_left 2
  · (simp only [List.getElem?_toArray, List.getElem?_cons_succ, List.getElem?_cons_zero]; rfl)
  · exact fun _ _ _ h => h
  · refine Or.inl ⟨by rfl, ?_⟩
    intro w hSw
    go_simp
    try (with_reducible rfl)
  try simp only [Act.put, List.setIfInBounds_toArray, List.set_cons_zero, List.set_cons_succ]
  refine anyE_take (i := 3) (x := ?_) (v := ?_) ?_ (by kernel_rfl) (by kernel_rfl) (by kernel_rfl) (by kernel_rfl) ?_ ?_ hHeld ?_
  rotate_left 2
  · (simp only [List.getElem?_toArray, List.getElem?_cons_succ, List.getElem?_cons_zero]; rfl)
  · exact fun _ _ _ h => h
  · refine yieldsIf_load_mid ?_ 158 (.tmp 16) ?_ b 1 ?_ (u8s k1) _ ?_ hu16 rfl (HN.out.2.2.2.2.2.1 _ HN.out.2.2.2.2.2.2.1)
    · rfl
    · rfl
    · rfl
    · intro w hSw
      exact hSw.1
  try simp only [Act.put, List.setIfInBounds_toArray, List.set_cons_zero, List.set_cons_succ]
  refine anyE_pure (i := 4) (x := ?_) (v := ?_) ?_ (by kernel_rfl) (by kernel_rfl) (by kernel_rfl) ?_ ?_ ?_
  rotate_left 2
  · (simp only [List.getElem?_toArray, List.getElem?_cons_succ, List.getElem?_cons_zero]; rfl)
  · exact fun _ _ _ h => h
  · refine Or.inl ⟨by rfl, ?_⟩
    intro w hSw
    go_simp
    try (with_reducible rfl)
  try simp only [Act.put, List.setIfInBounds_toArray, List.set_cons_zero, List.set_cons_succ]
  refine anyE_pure (i := 5) (x := ?_) (v := ?_) ?_ (by kernel_rfl) (by kernel_rfl) (by kernel_rfl) ?_ ?_ ?_
  rotate_left 2
  · (simp only [List.getElem?_toArray, List.getElem?_cons_succ, List.getElem?_cons_zero]; rfl)
  · exact fun _ _ _ h => h
  · refine Or.inl ⟨by rfl, ?_⟩
    intro w hSw
    go_simp
    try (with_reducible rfl)
  try simp only [Act.put, List.setIfInBounds_toArray, List.set_cons_zero, List.set_cons_succ]
  refine anyE_pure (i := 6) (x := ?_) (v := ?_) ?_ (by kernel_rfl) (by kernel_rfl) (by kernel_rfl) ?_ ?_ ?_
  rotate_left 2
  · (simp only [List.getElem?_toArray, List.getElem?_cons_succ, List.getElem?_cons_zero]; rfl)
  · exact fun _ _ _ h => h
  · refine Or.inl ⟨by rfl, ?_⟩
    intro w hSw
    go_simp
    try (with_reducible rfl)
  try simp only [Act.put, List.setIfInBounds_toArray, List.set_cons_zero, List.set_cons_succ]
  refine anyE_take (i := 7) (x := ?_) (v := ?_) ?_ (by kernel_rfl) (by kernel_rfl) (by kernel_rfl) (by kernel_rfl) ?_ ?_ hHeld ?_
  rotate_left 2
  · (simp only [List.getElem?_toArray, List.getElem?_cons_succ, List.getElem?_cons_zero]; rfl)
  · exact fun _ _ _ h => h
  · refine yieldsIf_load_mid ?_ 158 (.tmp 20) ?_ b 17 ?_ (u8s k2) _ ?_ hu16 rfl (HN.out.2.2.2.2.2.1 _ HN.out.2.2.2.2.2.2.2.1)
    · rfl
    · rfl
    · rfl
    · intro w hSw
      exact hSw.2.1
  try simp only [Act.put, List.setIfInBounds_toArray, List.set_cons_zero, List.set_cons_succ]
  refine anyE_pure (i := 8) (x := ?_) (v := ?_) ?_ (by kernel_rfl) (by kernel_rfl) (by kernel_rfl) ?_ ?_ ?_
  rotate_left 2
  · (simp only [List.getElem?_toArray, List.getElem?_cons_succ, List.getElem?_cons_zero]; rfl)
  · exact fun _ _ _ h => h
  · refine Or.inl ⟨by rfl, ?_⟩
    intro w hSw
    go_simp
    try (with_reducible rfl)
  try simp only [Act.put, List.setIfInBounds_toArray, List.set_cons_zero, List.set_cons_succ]
  refine anyE_pure (i := 9) (x := ?_) (v := ?_) ?_ (by kernel_rfl) (by kernel_rfl) (by kernel_rfl) ?_ ?_ ?_
  rotate_left 2
  · (simp only [List.getElem?_toArray, List.getElem?_cons_succ, List.getElem?_cons_zero]; rfl)
  · exact fun _ _ _ h => h
  · refine Or.inl ⟨by rfl, ?_⟩
    intro w hSw
    go_simp
    try (with_reducible rfl)
  try simp only [Act.put, List.setIfInBounds_toArray, List.set_cons_zero, List.set_cons_succ]
  refine anyE_pure (i := 10) (x := ?_) (v := ?_) ?_ (by kernel_rfl) (by kernel_rfl) (by kernel_rfl) ?_ ?_ ?_
  rotate_left 2
  · (simp only [List.getElem?_toArray, List.getElem?_cons_succ, List.getElem?_cons_zero]; rfl)
  · exact fun _ _ _ h => h
  · refine Or.inl ⟨by rfl, ?_⟩
    intro w hSw
    go_simp
    try (with_reducible rfl)
  try simp only [Act.put, List.setIfInBounds_toArray, List.set_cons_zero, List.set_cons_succ]
  refine anyE_take (i := 11) (x := ?_) (v := ?_) ?_ (by kernel_rfl) (by kernel_rfl) (by kernel_rfl) (by kernel_rfl) ?_ ?_ hHeld ?_
  rotate_left 2
  · (simp only [List.getElem?_toArray, List.getElem?_cons_succ, List.getElem?_cons_zero]; rfl)
  · exact fun _ _ _ h => h
  · refine yieldsIf_load_mid ?_ 158 (.tmp 24) ?_ b 33 ?_ (u8s ch) _ ?_ hu16 rfl (HN.out.2.2.2.2.2.1 _ HN.out.2.2.2.2.2.2.2.2.1)
    · rfl
    · rfl
    · rfl
    · intro w hSw
      exact hSw.2.2.1
  try simp only [Act.put, List.setIfInBounds_toArray, List.set_cons_zero, List.set_cons_succ]
  refine anyE_pure (i := 12) (x := ?_) (v := ?_) ?_ (by kernel_rfl) (by kernel_rfl) (by kernel_rfl) ?_ ?_ ?_
  rotate_left 2
  · (simp only [List.getElem?_toArray, List.getElem?_cons_succ, List.getElem?_cons_zero]; rfl)
  · exact fun _ _ _ h => h
  · refine Or.inl ⟨by rfl, ?_⟩
    intro w hSw
    go_simp
    try (with_reducible rfl)
  try simp only [Act.put, List.setIfInBounds_toArray, List.set_cons_zero, List.set_cons_succ]
  refine anyE_pure (i := 13) (x := ?_) (v := ?_) ?_ (by kernel_rfl) (by kernel_rfl) (by kernel_rfl) ?_ ?_ ?_
  rotate_left 2
  · (simp only [List.getElem?_toArray, List.getElem?_cons_succ, List.getElem?_cons_zero]; rfl)
  · exact fun _ _ _ h => h
  · refine Or.inl ⟨by rfl, ?_⟩
    intro w hSw
    go_simp
    try (with_reducible rfl)
  try simp only [Act.put, List.setIfInBounds_toArray, List.set_cons_zero, List.set_cons_succ]
  refine anyE_pure (i := 14) (x := ?_) (v := ?_) ?_ (by kernel_rfl) (by kernel_rfl) (by kernel_rfl) ?_ ?_ ?_
  rotate_left 2
  · (simp only [List.getElem?_toArray, List.getElem?_cons_succ, List.getElem?_cons_zero]; rfl)
  · exact fun _ _ _ h => h
  · refine Or.inl ⟨by rfl, ?_⟩
    intro w hSw
    go_simp
    try (with_reducible rfl)
  try simp only [Act.put, List.setIfInBounds_toArray, List.set_cons_zero, List.set_cons_succ]
  refine anyE_take (i := 15) (x := ?_) (v := ?_) ?_ (by kernel_rfl) (by kernel_rfl) (by kernel_rfl) (by kernel_rfl) ?_ ?_ hHeld ?_
  rotate_left 2
  · (simp only [List.getElem?_toArray, List.getElem?_cons_succ, List.getElem?_cons_zero]; rfl)
  · exact fun _ _ _ h => h
  · refine yieldsIf_load_mid ?_ 158 (.tmp 28) ?_ b 49 ?_ (u8s wt) _ ?_ hu16 rfl (HN.out.2.2.2.2.2.1 _ HN.out.2.2.2.2.2.2.2.2.2.1)
    · rfl
    · rfl
    · rfl
    · intro w hSw
      exact hSw.2.2.2.1
  try simp only [Act.put, List.setIfInBounds_toArray, List.set_cons_zero, List.set_cons_succ]
  refine anyE_pure (i := 16) (x := ?_) (v := ?_) ?_ (by kernel_rfl) (by kernel_rfl) (by kernel_rfl) ?_ ?_ ?_
  rotate_left 2
  · (simp only [List.getElem?_toArray, List.getElem?_cons_succ, List.getElem?_cons_zero]; rfl)
  · exact fun _ _ _ h => h
  · refine yieldsIf_build ?_ 211 (parts := #[(0, .tmp 17), (1, .tmp 21), (2, .tmp 25), (3, .tmp 29)]) ?_ (.agg (u8s X).toArray) ?_
    · rfl
    · rfl
    intro w
    simp only [List.map_toArray, List.map_cons, List.map_nil]
    exact hbd w
  try simp only [Act.put, List.setIfInBounds_toArray, List.set_cons_zero, List.set_cons_succ]
  refine anyE_pure (i := 17) (x := ?_) (v := ?_) ?_ (by kernel_rfl) (by kernel_rfl) (by kernel_rfl) ?_ ?_ ?_
  rotate_left 2
  · (simp only [List.getElem?_toArray, List.getElem?_cons_succ, List.getElem?_cons_zero]; rfl)
  · exact fun _ _ _ h => h
  · refine Or.inl ⟨by rfl, ?_⟩
    intro w hSw
    go_simp
    try (with_reducible rfl)
  try simp only [Act.put, List.setIfInBounds_toArray, List.set_cons_zero, List.set_cons_succ]
  refine anyE_done (by kernel_rfl) ?_ _
  have s3 := s2.drew
  obtain ⟨w3, hw3⟩ : ∃ w3, w3 = w2.drew := ⟨_, rfl⟩
  rw [← hw3] at s3 ⊢
  clear hw3 s2
  have s4 : Sat W0 w3 (row q0 d0 1 (n + 16 * 0) (u8s (F ++ X.take (16 * 0))) :: cmS b (.pointer (some ⟨c, 0, none⟩)) k1 k2 ch wt n0 (cipS c kl ks L)) := by rw [show 16 * 0 = 0 from rfl, List.take_zero, List.append_nil]; exact s3
  clear s3 hbd
  go_wp2_with fail
  go_loopw [3, 31] (fun t3 t31 wr => ∃ (i : Nat) (q : Option Addr) (d : Nat), i ≤ 4 ∧ t31 = .int .i64 (i : Int) ∧ t3 = .slice q (n + 16 * i) d ∧ Sat W0 wr (row q d 1 (n + 16 * i) (u8s (F ++ X.take (16 * i))) :: cmS b (.pointer (some ⟨c, 0, none⟩)) k1 k2 ch wt n0 (cipS c kl ks L))) (fun _ t31 _ => 4 - (intOf t31).toNat)
  case atStart => exact ⟨0, q0, d0, by omega, rfl, rfl, s4⟩
  case round =>
    clear s4
    obtain ⟨i, q, d, hi, rfl, rfl, s⟩ := hrel
    by_cases hlt : i < 4
    · have htk : X.take (16 * i) ++ (X.drop (i * 16)).take 16 = X.take (16 * i + 16) := by rw [Nat.mul_comm, ← List.take_add]
      have hVl : ((X.drop (i * 16)).take 16).length = 16 := by rw [List.length_take, List.length_drop, HN.out.2.2.2.1]; omega
      have hix := fun w => run_index_part (P := Tryz.prog) (T := 211) (e := 158) (n := 4) (m := 16) Tryz.underlying211 Tryz.size_b16 (fun w => by kernel_rfl) (u8s X) (by rw [u8s_len, HN.out.2.2.2.1]) i hlt w
      obtain ⟨V, hV⟩ : ∃ V, V = (X.drop (i * 16)).take 16 := ⟨_, rfl⟩
      rw [u8s_drop, u8s_take, ← hV] at hix
      rw [← hV] at htk hVl
      have e1 : IntKind.i64.wrap ((i : Int) + 1) = ((i + 1 : Nat) : Int) := by rw [IntKind.wrap_i64]; omega
      have hsa := fun g w => run_sliceAll (P := Tryz.prog) (T := 158) (U := 5) Tryz.underlying158 (by kernel_rfl) g 0 w
      have HV := Lib.hid (And.intro hVl htk); clear hVl htk hV
      go_wp2_with (first | (refine wpl_al16 rfl rfl s ?_; intro w3 g s3 _) | (refine wpl_st8a rfl rfl (.tmp 5) (.tmp 33) rfl s3 Tryz.size_b16 rfl rfl HV.out.1 nought16_len ?_; intro w4 s4; have s5 : Sat W0 w4 (row q d 1 (n + 16 * i) (u8s (F ++ X.take (16 * i))) :: bytes true (some ⟨g, 0, none⟩) V :: cmS b (.pointer (some ⟨c, 0, none⟩)) k1 k2 ch wt n0 (cipS c kl ks L)) := (bytesOf s4).pull 1) | (at_builtin; refine wpl_app8 rfl (.tmp 34) (.tmp 35) rfl rfl rfl s5 HV.out.1 (by omega) ?_; intro p9 c9 w9 s9; rw [List.append_assoc, HV.out.2] at s9))
      go_roundw
      case rel => exact ⟨i + 1, p9, c9, by omega, by go_num, rfl, s9.drop 1⟩
      case measure => simp [intOf]; omega
    · obtain rfl : i = 4 := by omega
      have c65 : wr.cell? ⟨b, 65, none⟩ = some (.int .i64 (n0 : Int)) := ((Sat.sub (s) (by (repeat (first | with_reducible exact Fr.done | with_reducible exact Fr.nil | (with_reducible apply Fr.cons; (focus ((repeat (first | with_reducible exact Take.here | with_reducible apply Take.there)); done))) | with_reducible apply Fr.skip)))) : Sat W0 wr (seg true b 65 [.int .i64 (n0 : Int)] :: [])).cell (i := 0) rfl
      have z6 : b < wr.heap.size := satLt ((Sat.sub (s) (by (repeat (first | with_reducible exact Fr.done | with_reducible exact Fr.nil | (with_reducible apply Fr.cons; (focus ((repeat (first | with_reducible exact Take.here | with_reducible apply Take.there)); done))) | with_reducible apply Fr.skip)))) : Sat W0 wr (seg true b 65 [.int .i64 (n0 : Int)] :: [])) (by simp)
      have hw8 : IntKind.u8.wrap (n0 : Int) = (n0 : Int) := by rw [IntKind.wrap_u8]; omega
      have s9 : Sat W0 (wr.alloc (.cells #[.int .u8 (n0 : Int)] 5)) (seg true wr.heap.size 0 (u8s [BitVec.ofNat 8 n0]) :: row q d 1 (n + 16 * 4) (u8s (F ++ X.take (16 * 4))) :: cmS b (.pointer (some ⟨c, 0, none⟩)) k1 k2 ch wt n0 (cipS c kl ks L)) := by rw [show u8s [BitVec.ofNat 8 n0] = [.int .u8 (n0 : Int)] by rw [← HN.out.2.2.2.2.2.2.2.2.2.2]; rfl]; exact s.alloc #[.int .u8 (n0 : Int)] 5
      have s10 := bytesOf s9
      have s11 : Sat W0 _ (row q d 1 (n + 16 * 4) (u8s (F ++ X.take (16 * 4))) :: bytes true (some ⟨wr.heap.size, 0, none⟩) [BitVec.ofNat 8 n0] :: cmS b (.pointer (some ⟨c, 0, none⟩)) k1 k2 ch wt n0 (cipS c kl ks L)) := s10.pull 1
      clear s9 s10
      go_wp2_with (at_builtin; refine wpl_app8 rfl (.tmp 38) (.tmp 44) rfl rfl rfl s11 rfl (by omega) ?_; intro p9 c9 w9 s12)
      have HS := Lib.hid s12; clear s12 s11 s
      go_ret
      exact ⟨p9, c9, rfl, HS.out.drop 1⟩
set_option maxRecDepth 100000 in
set_option maxHeartbeats 4000000 in
theorem cmacWipe {W0 w : World} {L : List Assn} {b c kl : Nat} {pv : Value} (p : Option Nat) (rs : List Run3) (ks k1 k2 ch wt : List Byte) (n0 : Nat) (hp : pv = ptrO p) (hks : ks.length = 240) (hk0 : 0 < kl) (hk : kl ≤ 32) (hk1 : k1.length = 16) (hk2 : k2.length = 16) (hch : ch.length = 16) (hwt : wt.length = 16) (hn0 : n0 ≤ 16) (hb : tot rs + 1 ≤ 4611686018427387904) (hl : rs.length ≤ 4294967296)
    (hs : Sat W0 w (ledO p rs :: cmS b (.pointer (some ⟨c, 0, none⟩)) k1 k2 ch wt n0 (cipS c kl ks L))) :
    Calls Tryz.prog 105 #[.pointer (some ⟨b, 0, none⟩), pv] w fun e w' => e = .returned (.int .i64 0) ∧ Sat W0 w' (ledO p (note rs 8 ((16 * (kl / 4 + 7) + 65 : Nat) : Int) 1) :: L) := by
  subst hp
  have hm := cmacMade ((Sat.sub (hs) (by (repeat (first | with_reducible exact Fr.done | with_reducible exact Fr.nil | (with_reducible apply Fr.cons; (focus ((repeat (first | with_reducible exact Take.here | with_reducible apply Take.there)); done))) | with_reducible apply Fr.skip)))) : Sat W0 w (seg true b 0 [.pointer (some ⟨c, 0, none⟩)] :: []))
  have hf := fun (w : World) (X : List Assn) (s : Sat W0 w (cmS b (.pointer (some ⟨c, 0, none⟩)) k1 k2 ch wt n0 (cipS c kl ks X))) => cmacForm ks k1 k2 ch wt n0 hks hk0 hk hk1 hk2 hch hwt hn0 s
  have hwp := fun (w : World) (X : List Assn) (s : Sat W0 w (ledO none [] :: cipS c kl ks X)) => aesWipe none [] ks rfl hks hk0 hk (by decide) (by decide) s
  obtain ⟨n, hn⟩ : ∃ n, n = 16 * (kl / 4 + 7) + 65 := ⟨_, rfl⟩
  rw [← hn] at hf ⊢
  have hnt := fun (w : World) (X : List Assn) (s : Sat W0 w (ledO p rs :: X)) => noteOne p rs 8 (n : Int) s hb hl
  have hcl := cmAll_len (pv := .pointer (some ⟨c, 0, none⟩)) (n := n0) hk1 hk2 hch hwt
  have hjn := fun (w : World) (X : List Assn) (s : Sat W0 w (cmS b (.pointer (some ⟨c, 0, none⟩)) k1 k2 ch wt n0 X)) => cmJoin hk1 hk2 hch hwt s
  obtain ⟨cs, hcs⟩ : ∃ cs, cs = cmAll (.pointer (some ⟨c, 0, none⟩)) k1 k2 ch wt n0 := ⟨_, rfl⟩
  rw [← hcs] at hcl hjn
  have hzl : (cmAll (.pointer none) nought16 nought16 nought16 nought16 0).length = 66 := cmAll_len rfl rfl rfl rfl
  have ho : ∀ u ∈ cmAll (.pointer none) nought16 nought16 nought16 nought16 0, u.oneCell' = true := cmAll_one
  have HN := Lib.hid (And.intro hm (And.intro hf (And.intro hwp (And.intro hnt (And.intro hcl (And.intro hjn (And.intro hzl ho))))))); clear hm hf hwp hnt hcl hjn hzl ho hcs hn hks hk0 hk hk1 hk2 hch hwt hn0 hb hl
  go_enter Tryz.func105, Tryz.ntmps105
  go_wp2_with fail
  refine HN.out.1.mono ?_
  rintro e w1 ⟨rfl, rfl⟩
  go_wp2_with fail
  refine (HN.out.2.1 _ (ledO p rs :: L) (Sat.sub (hs) (by (repeat (first | with_reducible exact Fr.done | with_reducible exact Fr.nil | (with_reducible apply Fr.cons; (focus ((repeat (first | with_reducible exact Take.here | with_reducible apply Take.there)); done))) | with_reducible apply Fr.skip))))).mono ?_
  rintro e w2 ⟨q, d, rfl, s2⟩
  clear hs
  go_wp2_with fail
  refine (HN.out.2.2.2.1 _ (cmS b (.pointer (some ⟨c, 0, none⟩)) k1 k2 ch wt n0 (cipS c kl ks L)) (Sat.sub (s2) (by (repeat (first | with_reducible exact Fr.done | with_reducible exact Fr.nil | (with_reducible apply Fr.cons; (focus ((repeat (first | with_reducible exact Take.here | with_reducible apply Take.there)); done))) | with_reducible apply Fr.skip))))).mono ?_
  rintro e w3 ⟨rfl, s3⟩
  clear s2
  have c0 : w3.cell? ⟨b, 0, none⟩ = some (.pointer (some ⟨c, 0, none⟩)) := ((Sat.sub (s3) (by (repeat (first | with_reducible exact Fr.done | with_reducible exact Fr.nil | (with_reducible apply Fr.cons; (focus ((repeat (first | with_reducible exact Take.here | with_reducible apply Take.there)); done))) | with_reducible apply Fr.skip)))) : Sat W0 w3 (seg true b 0 [.pointer (some ⟨c, 0, none⟩)] :: [])).at 0 rfl
  have z0 := satLt ((Sat.sub (s3) (by (repeat (first | with_reducible exact Fr.done | with_reducible exact Fr.nil | (with_reducible apply Fr.cons; (focus ((repeat (first | with_reducible exact Take.here | with_reducible apply Take.there)); done))) | with_reducible apply Fr.skip)))) : Sat W0 w3 (seg true b 0 [.pointer (some ⟨c, 0, none⟩)] :: [])) (by simp)
  go_wp2_with fail
  have s4 : Sat W0 w3 (ledO none [] :: ledO p (note rs 8 (n : Int) 1) :: cmS b (.pointer (some ⟨c, 0, none⟩)) k1 k2 ch wt n0 (cipS c kl ks L)) := s3.emp
  refine (HN.out.2.2.1 _ (ledO p (note rs 8 (n : Int) 1) :: cmS b (.pointer (some ⟨c, 0, none⟩)) k1 k2 ch wt n0 L) (Sat.sub (s4) (by (repeat (first | with_reducible exact Fr.done | with_reducible exact Fr.nil | (with_reducible apply Fr.cons; (focus ((repeat (first | with_reducible exact Take.here | with_reducible apply Take.there)); done))) | with_reducible apply Fr.skip))))).mono ?_
  rintro e w4 ⟨rfl, s5⟩
  clear s3 s4 c0 z0
  have s6 := HN.out.2.2.2.2.2.1 _ (ledO p (note rs 8 (n : Int) 1) :: L) (Sat.sub (s5) (by (repeat (first | with_reducible exact Fr.done | with_reducible exact Fr.nil | (with_reducible apply Fr.cons; (focus ((repeat (first | with_reducible exact Take.here | with_reducible apply Take.there)); done))) | with_reducible apply Fr.skip))))
  clear s5
  have z0 := satLt s6 (by rw [HN.out.2.2.2.2.1]; decide)
  go_wp2_with (first | (refine wpl_build rfl 160 rfl (.agg (cmAll (.pointer none) nought16 nought16 nought16 nought16 0).toArray) (build_cm0 _) ?_) | (refine wpl_store_agg rfl rfl 160 (.tmp 21) (.tmp 20) rfl (cs := cmAll (.pointer none) nought16 nought16 nought16 nought16 0) s6 0 0 (by rw [HN.out.2.2.2.2.2.2.1]; exact Tryz.size_cm) rfl rfl rfl (by rw [HN.out.2.2.2.2.2.2.1, HN.out.2.2.2.2.1]; decide) HN.out.2.2.2.2.2.2.2 ?_; intro w5 s7))
  exact bodyPost_ret (v := .int .i64 0) (by simp [results, Tryz.results105, go_sem]) rfl ⟨rfl, s7.tail⟩
end Go.Proofs.YtooolimpkafhaaaGreat
