
/- Layer 17's statements: a case that is made to fit; under the conditions that each names. -/
import Derived.Test.YtooolimpkafhaaaGreatL17e
import Derived.Test.YtooolimpkafhaaaGreatPick
namespace Go.Proofs.YtooolimpkafhaaaGreat
open Go.RowKit Go.Sep Go.Bv Go.Kec Go.Aes Go.Sha
set_option linter.unusedVariables false
set_option linter.unusedSimpArgs false
theorem Tryz.size_case : (Tryz.prog.info? 25).map (·.size) = some 4 := by kernel_rfl
def case0 : List Value := [.int .u8 0, .slice none 0 0, .slice none 0 0, .int .i64 0]
theorem zero_case (w : World) : (zeroValue 25).run Tryz.prog w = .ok (.agg case0.toArray) w := by kernel_rfl
theorem wrap64_small {z : Int} (h1 : -1000000 ≤ z) (h2 : z ≤ 1000000) : wrap64 z = z := by
  unfold wrap64; omega
/-- What a case that is made to fit holds. -/
structure Fitted (K : MKind) (x : CaseC) (key custom : List Byte) (o : Nat) : Prop where
  alg : x.a = (K.alg : Int)
  out : x.out = (o : Int)
  fits : K.fits key custom o
  kn : key.length = x.kn
  kc : x.kn ≤ x.kc
  km : x.kc ≤ maxLen
  cn : custom.length = x.cn
  cc : x.cn ≤ x.cc
  cm : x.cc ≤ maxLen
/-- A key of so many bytes out of any. -/
def fitKey (key : List Byte) : List Byte := key.take (16 + 8 * (key.length % 3)) ++ List.replicate (16 + 8 * (key.length % 3) - key.length) 0
theorem fitKey_len (key : List Byte) : (fitKey key).length = 16 + 8 * (key.length % 3) := by unfold fitKey; simp; omega
theorem outFits (K : MKind) (i : Int) : 1 ≤ 1 + pickM i K.most ∧ 1 + pickM i K.most ≤ K.most := by
  have h : 0 < K.most := by rcases K with (wide | wide) | _ | ⟨large | large, xof | xof⟩ <;> decide
  have := pickM_lt i K.most h
  omega
theorem most_le (K : MKind) : 0 < K.most ∧ K.most ≤ 64 := by rcases K with (wide | wide) | _ | ⟨large | large, xof | xof⟩ <;> decide
abbrev CellsC (a : Nat) (kp : Option Addr) (kn kc : Nat) (cp : Option Addr) (cn cc : Nat) (out : Int) : List Value := [.int .u8 (a : Int), .slice kp kn kc, .slice cp cn cc, .int .i64 out]
set_option maxRecDepth 100000 in
set_option maxHeartbeats 8000000 in
theorem begun17 {W0 w : World} {L : List Assn} {a : Nat} {kp : Option Addr} {kn kc : Nat} {cp : Option Addr} {cn cc : Nat} {out : Int} (key custom : List Byte) (hk1 : key.length = kn) (hk2 : kn ≤ kc) (hk3 : kc ≤ maxLen) (hc1 : custom.length = cn) (hc2 : cn ≤ cc) (hc3 : cc ≤ maxLen) (ha : a < 256) (hkb : kn ≤ 1048576) (hcb : cn ≤ 1048576)
    (hs : Sat W0 w (bytes false kp key :: bytes false cp custom :: L)) :
    Calls Tryz.prog 22 #[.agg (CellsC a kp kn kc cp cn cc out).toArray] w fun e w' => ∃ (K : MKind) (x : CaseC) (key' custom' : List Byte) (o : Nat) (m : Bool), e = .returned (.agg (encC x).toArray) ∧ Fitted K x key' custom' o ∧ K.alg = 1 + a % 7 ∧ Sat W0 w' (bytes m x.kp key' :: bytes false x.cp custom' :: bytes false kp key :: bytes false cp custom :: L) := by
  obtain ⟨al, hal⟩ : ∃ al, al = 1 + a % 7 := ⟨_, rfl⟩
  obtain ⟨K, hK⟩ := kindOf al (by omega) (by omega)
  obtain ⟨md, hmd⟩ : ∃ md, md = a % 7 := ⟨_, rfl⟩
  have b1 : -1000000 ≤ (a : Int) ∧ (a : Int) ≤ 1000000 := by omega
  have b2 : -1000000 ≤ (al : Int) ∧ (al : Int) ≤ 1000000 := by omega
  have b3 : (1 : Int) + (md : Int) = (al : Int) := by omega
  have b4 : (al : Int) % 256 = (al : Int) := by omega
  have b5 : (a : Int).tmod 7 = (md : Int) := by rw [Int.tmod_eq_emod_of_nonneg (by omega)]; omega
  have e9 : wrap64 (1 + (wrap64 (a : Int)).tmod 7) % 256 = (al : Int) := by rw [wrap64_small b1.1 b1.2, b5, b3, wrap64_small b2.1 b2.2, b4]
  have e6 : wrap64 (a : Int) = (a : Int) := wrap64_small b1.1 b1.2
  have e7' : wrap64 (al : Int) = (al : Int) := wrap64_small b2.1 b2.2
  have HE := Lib.hid (And.intro e6 (And.intro e7' (And.intro b3 (And.intro b4 b5))))
  clear b1 b2 b3 b4 b5 e9 e6 e7'
  rw [← hal]
  have HK := Lib.hid (And.intro hal hmd); clear hal hmd ha
  have hF : ∀ g wx X (v0 v1 v2 v3 : Value), Sat W0 wx (seg true g 0 [v0, v1, v2, v3] :: X) → wx.cell? ⟨g, 0, none⟩ = some v0 ∧ wx.cell? ⟨g, 1, none⟩ = some v1 ∧ wx.cell? ⟨g, 2, none⟩ = some v2 ∧ wx.cell? ⟨g, 3, none⟩ = some v3 ∧ g < wx.heap.size := fun g wx X v0 v1 v2 v3 h => ⟨h.at 0 rfl, h.at 1 rfl, h.at 2 rfl, h.at 3 rfl, h.lt (by simp)⟩
  have HF := Lib.hid hF; clear hF
  have hcu := fun w => refCustom w K
  have hmo := fun w => refMost w K
  obtain ⟨ho1, ho2⟩ := outFits K out
  obtain ⟨hm1, hm2⟩ := most_le K
  obtain ⟨mo, hmoE⟩ : ∃ mo, mo = K.most := ⟨_, rfl⟩
  obtain ⟨pk, hpk⟩ : ∃ pk, pk = pickM out K.most := ⟨_, rfl⟩
  have hpw : ∀ w, Calls Tryz.prog 32 #[.int .i64 out, .int .i64 (K.most : Int)] w fun e w' => e = .returned (.int .i64 (pickM out K.most : Int)) ∧ w' = w := fun w => (pickW w out K.most hm1 (by omega)).mono fun e w' h => ⟨h.1, h.2.symm⟩
  rw [hK] at hcu hmo
  rw [← hpk] at ho1 ho2 hpw
  rw [← hmoE] at hmo hpw ho2 hm1 hm2
  have e5 : IntKind.i64.wrap (1 + (pk : Int)) = ((1 + pk : Nat) : Int) := by rw [IntKind.wrap_i64]; omega
  have hpk64 : pk ≤ 64 := by omega
  have HC := Lib.hid (And.intro hcu (And.intro hmo (And.intro hpw (And.intro ho2 hmoE)))); clear hcu hmo hpw ho1 ho2 hm1 hm2 hmoE hpk
  have HL := Lib.hid (And.intro hk1 (And.intro hk2 (And.intro hk3 (And.intro hc1 (And.intro hc2 hc3))))); clear hk1 hk2 hk3 hc1 hc2 hc3
  rcases K with wide | _ | ⟨large, xof⟩
  · have h3 : ((al : Int) == 3) = false := by rw [beq_eq_false_iff_ne]; have : al = 1 ∨ al = 2 := (by rw [← hK]; cases wide <;> simp [MKind.alg]); omega
    obtain ⟨e6, e7', b3, b4, b5⟩ := HE.out
    go_enter Tryz.func22, Tryz.ntmps22
    go_wp2_with (first | (refine wpl_box rfl 25 (.tmp 0) rfl (CellsC a kp kn kc cp cn cc out) rfl hs ?_; intro w1 gx s1 _; clear hs) | (refine wpl_alloc_agg rfl 25 rfl s1 _ (zero_case _) ?_; intro w2 gr s2 _; clear s1; have sx : Sat W0 w2 (seg true gx 0 (CellsC a kp kn kc cp cn cc out) :: []) := (Sat.sub (s2) (by (repeat (first | with_reducible exact Fr.done | with_reducible exact Fr.nil | (with_reducible apply Fr.cons; (focus ((repeat (first | with_reducible exact Take.here | with_reducible apply Take.there)); done))) | with_reducible apply Fr.skip)))); obtain ⟨q0, q1, q2, q3, z0⟩ := HF.out _ _ _ _ _ _ _ sx; clear sx) | (refine wpl_alloc_agg rfl 25 rfl s2 _ (zero_case _) ?_; intro w3 g3 s3 _; clear s2 q0 q1 q2 q3 z0) | (refine wpl_store_agg rfl rfl 25 (.tmp 3) (.tmp 13) rfl (cs := [_, _, _, _]) s3 0 0 Tryz.size_case rfl rfl rfl (Nat.le_refl 4) (fun v hv => by simp only [List.mem_cons, List.not_mem_nil, or_false] at hv; rcases hv with rfl | rfl | rfl | rfl <;> rfl) ?_; intro w4 s4; rw [setL_all _ _ (by rfl)] at s4; clear s3 e6 e7' b3 b4 b5; obtain ⟨r0, r1, r2, r3, y0⟩ := HF.out _ _ _ _ _ _ _ s4))
    refine (HC.out.1 _).mono ?_
    rintro e w5 ⟨rfl, rfl⟩
    simp only [MKind.cust]
    clear r0 r1 r2 r3 y0
    have s5' := bytesDup ((Sat.sub (s4) (by (repeat (first | with_reducible exact Fr.done | with_reducible exact Fr.nil | (with_reducible apply Fr.cons; (focus ((repeat (first | with_reducible exact Take.here | with_reducible apply Take.there)); done))) | with_reducible apply Fr.skip)))) : Sat W0 w5 (bytes false kp key :: seg true g3 0 (CellsC al kp kn kc none 0 0 0) :: seg true gr 0 case0 :: seg true gx 0 (CellsC a kp kn kc cp cn cc out) :: bytes false cp custom :: L))
    have s5 : Sat W0 w5 (seg true g3 0 (CellsC al kp kn kc none 0 0 0) :: seg true gr 0 case0 :: seg true gx 0 (CellsC a kp kn kc cp cn cc out) :: bytes false kp key :: bytes false none [] :: bytes false kp key :: bytes false cp custom :: L) := by
      have s6 := bytesNil false none s5'
      exact (Sat.sub (s6) (by (repeat (first | with_reducible exact Fr.done | with_reducible exact Fr.nil | (with_reducible apply Fr.cons; (focus ((repeat (first | with_reducible exact Take.here | with_reducible apply Take.there)); done))) | with_reducible apply Fr.skip))))
    clear s4 s5'
    have sg : Sat W0 w5 (seg true gx 0 (CellsC a kp kn kc cp cn cc out) :: []) := (Sat.sub (s5) (by (repeat (first | with_reducible exact Fr.done | with_reducible exact Fr.nil | (with_reducible apply Fr.cons; (focus ((repeat (first | with_reducible exact Take.here | with_reducible apply Take.there)); done))) | with_reducible apply Fr.skip))))
    obtain ⟨_, _, _, q3, z0⟩ := HF.out _ _ _ _ _ _ _ sg
    obtain ⟨r0, r1, r2, r3, y0⟩ := HF.out _ _ _ _ _ _ _ s5
    have f3 := s5.fr 3 (by simp)
    clear sg
    go_wp2_with fail
    refine wp_region_quiet_tail_lit 7 (by kernel_rfl) (by kernel_rfl) ?_
    simp only [List.take_succ_cons, List.take_zero, List.drop_succ_cons, List.drop_zero]
    repeat (go_big_quiet_step ((first | (go_at_call 45; exact Calls.quiet_of_same (HC.out.2.1 _)) | (go_at_call 32; exact Calls.quiet_of_same (HC.out.2.2.1 _)))))
    refine wpQuiet_nil ?_
    rintro _ ⟨nr, rfl⟩
    have s6 := (s5.drewN nr).store (i := 3) (by simp) (.int .i64 (1 + (pk : Int))) (q := 3) rfl
    have s7 : Sat W0 ((w5.drewN nr).setCell ⟨g3, 3, none⟩ (.int .i64 (1 + (pk : Int)))) (seg true gr 0 case0 :: seg true g3 0 [Value.int .u8 (al : Int), .slice kp kn kc, .slice none 0 0, .int .i64 (1 + (pk : Int))] :: seg true gx 0 (CellsC a kp kn kc cp cn cc out) :: bytes false kp key :: bytes false none [] :: bytes false kp key :: bytes false cp custom :: L) := by
      have s6' : Sat W0 ((w5.drewN nr).setCell ⟨g3, 3, none⟩ (.int .i64 (1 + (pk : Int)))) (seg true g3 0 [Value.int .u8 (al : Int), .slice kp kn kc, .slice none 0 0, .int .i64 (1 + (pk : Int))] :: seg true gr 0 case0 :: seg true gx 0 (CellsC a kp kn kc cp cn cc out) :: bytes false kp key :: bytes false none [] :: bytes false kp key :: bytes false cp custom :: L) := s6
      exact (Sat.sub (s6') (by (repeat (first | with_reducible exact Fr.done | with_reducible exact Fr.nil | (with_reducible apply Fr.cons; (focus ((repeat (first | with_reducible exact Take.here | with_reducible apply Take.there)); done))) | with_reducible apply Fr.skip))))
    have s8 : Sat W0 (((((w5.drewN nr).setCell ⟨g3, 3, none⟩ (.int .i64 (1 + (pk : Int)))).setCell ⟨gr, 0, none⟩ (.int .u8 (al : Int))).setCell ⟨gr, 1, none⟩ (.slice kp kn kc)).setCell ⟨gr, 2, none⟩ (.slice none 0 0) |>.setCell ⟨gr, 3, none⟩ (.int .i64 (1 + (pk : Int)))) (seg true gr 0 [Value.int .u8 (al : Int), .slice kp kn kc, .slice none 0 0, .int .i64 (1 + (pk : Int))] :: seg true g3 0 [Value.int .u8 (al : Int), .slice kp kn kc, .slice none 0 0, .int .i64 (1 + (pk : Int))] :: seg true gx 0 (CellsC a kp kn kc cp cn cc out) :: bytes false kp key :: bytes false none [] :: bytes false kp key :: bytes false cp custom :: L) := (((s7.store (i := 0) (by simp [case0]) (.int .u8 (al : Int)) (q := 0) rfl).store (i := 1) (by simp [case0]) (.slice kp kn kc) (q := 1) rfl).store (i := 2) (by simp [case0]) (.slice none 0 0) (q := 2) rfl).store (i := 3) (by simp [case0]) (.int .i64 (1 + (pk : Int))) (q := 3) rfl
    have sr : Sat W0 w5 (seg true gr 0 case0 :: []) := (Sat.sub (s5) (by (repeat (first | with_reducible exact Fr.done | with_reducible exact Fr.nil | (with_reducible apply Fr.cons; (focus ((repeat (first | with_reducible exact Take.here | with_reducible apply Take.there)); done))) | with_reducible apply Fr.skip))))
    have hne : g3 ≠ gr := Sat.ne' s5 (by simp) (by simp [case0])
    have hne' : gr ≠ g3 := hne.symm
    obtain ⟨t0, t1, t2, t3, tz⟩ := HF.out _ _ _ _ _ _ _ sr
    have u0 := sr.fr 0 (by simp [case0])
    have u1 := sr.fr 1 (by simp [case0])
    have u2 := sr.fr 2 (by simp [case0])
    have u3 := sr.fr 3 (by simp [case0])
    have HS8 := Lib.hid s8
    clear s5 s6 s7 s8 sr
    go_wp2_with fail
    have s8 := HS8.out
    have hr := run_loadVar_agg (P := Tryz.prog) (ty := 25) Tryz.underlying25 rfl Tryz.size_case s8 0 0 rfl (Nat.le_refl 4)
    have hr2 : Sem.run Tryz.prog (loadVar 25 ⟨gr, 0, none⟩) _ = Result.ok (.agg [Value.int .u8 (al : Int), .slice kp kn kc, .slice none 0 0, .int .i64 (1 + (pk : Int))].toArray) _ := hr
    have HS := Lib.hid (((s8.drop 0).drop 0).drop 0); clear s8 hr
    refine bodyPost_ret (v := .agg [Value.int .u8 (al : Int), .slice kp kn kc, .slice none 0 0, .int .i64 (1 + (pk : Int))].toArray) (by simp [results, Tryz.results22, asAddr]; exact hr2) rfl ?_
    exact ⟨.hm wide, ⟨(al : Int), kp, kn, kc, none, 0, 0, 1 + (pk : Int)⟩, key, [], 1 + pk, false, rfl, ⟨by rw [hK], by simp, ⟨by omega, by rw [← HC.out.2.2.2.2]; exact HC.out.2.2.2.1, by rw [HL.out.1]; omega, rfl⟩, HL.out.1, HL.out.2.1, HL.out.2.2.1, rfl, Nat.le_refl _, Nat.zero_le _⟩, by rw [hK], HS.out⟩
  · have hal3 : al = 3 := hK.symm
    have h3 : ((al : Int) == 3) = true := by rw [beq_iff_eq]; omega
    clear hal3
    obtain ⟨i3, hi3, hz3, hs3, hb3⟩ := info_parts Tryz.info_u8
    have HI3 := Lib.hid (And.intro hi3 (And.intro hz3 (And.intro hs3 hb3))); clear hi3 hz3 hs3 hb3
    obtain ⟨m3, hm3⟩ : ∃ m3, m3 = kn % 3 := ⟨_, rfl⟩
    obtain ⟨N, hN⟩ : ∃ N, N = 16 + 8 * m3 := ⟨_, rfl⟩
    have j1 : (kn : Int).tmod 3 = (m3 : Int) := by rw [Int.tmod_eq_emod_of_nonneg (by omega)]; omega
    have j1' : (kn : Int) % 3 = (m3 : Int) := by omega
    have j2 : IntKind.i64.wrap (8 * (m3 : Int)) = ((8 * m3 : Nat) : Int) := by rw [IntKind.wrap_i64]; omega
    have j3 : IntKind.i64.wrap (16 + ((8 * m3 : Nat) : Int)) = (N : Int) := by rw [IntKind.wrap_i64]; omega
    have j4 : (16 : Int) + 8 * (m3 : Int) = (N : Int) := by omega
    have j5 : IntKind.i64.wrap (N : Int) = (N : Int) := by rw [IntKind.wrap_i64]; omega
    have hN32 : N = 16 ∨ N = 24 ∨ N = 32 := by omega
    have hN1 : N ≤ 32 := by omega
    have hfk : fitKey key = key.take N ++ List.replicate (N - kn) 0 := by unfold fitKey; rw [HL.out.1, ← hm3, ← hN]
    have hfl : (fitKey key).length = N := by rw [fitKey_len, HL.out.1, ← hm3, ← hN]
    have hput : putB (List.replicate N 0) 0 (key.take N) = fitKey key := by
      unfold putB
      rw [hfk, List.take_zero, List.nil_append, List.length_take, HL.out.1, Nat.zero_add, List.drop_replicate]
      congr 2
      omega
    have htl : (key.take N).length = Nat.min kn N := by rw [List.length_take, HL.out.1]; exact Nat.min_comm _ _
    have HMK := Lib.hid (And.intro (show 1 * N ≤ 281474976710656 by omega) (show N ≤ 9223372036854775807 by omega))
    have HJ := Lib.hid (And.intro hN32 (And.intro hfl (And.intro hput htl)))
    have HJ2 := Lib.hid (And.intro j1 (And.intro j1' (And.intro j2 (And.intro j3 (And.intro j4 j5))))); clear hN32 hfk hfl hput htl hN hm3 j1 j1' j2 j3 j4 j5 hN1
    obtain ⟨e6, e7', b3, b4, b5⟩ := HE.out
    go_enter Tryz.func22, Tryz.ntmps22
    go_wp2_with (first | (refine wpl_box rfl 25 (.tmp 0) rfl (CellsC a kp kn kc cp cn cc out) rfl hs ?_; intro w1 gx s1 _; clear hs) | (refine wpl_alloc_agg rfl 25 rfl s1 _ (zero_case _) ?_; intro w2 gr s2 _; clear s1; have sx : Sat W0 w2 (seg true gx 0 (CellsC a kp kn kc cp cn cc out) :: []) := (Sat.sub (s2) (by (repeat (first | with_reducible exact Fr.done | with_reducible exact Fr.nil | (with_reducible apply Fr.cons; (focus ((repeat (first | with_reducible exact Take.here | with_reducible apply Take.there)); done))) | with_reducible apply Fr.skip)))); obtain ⟨q0, q1, q2, q3, z0⟩ := HF.out _ _ _ _ _ _ _ sx; clear sx) | (refine wpl_alloc_agg rfl 25 rfl s2 _ (zero_case _) ?_; intro w3 g3 s3 _; clear s2 q0 q1 q2 q3 z0) | (refine wpl_store_agg rfl rfl 25 (.tmp 3) (.tmp 13) rfl (cs := [_, _, _, _]) s3 0 0 Tryz.size_case rfl rfl rfl (Nat.le_refl 4) (fun v hv => by simp only [List.mem_cons, List.not_mem_nil, or_false] at hv; rcases hv with rfl | rfl | rfl | rfl <;> rfl) ?_; intro w4 s4; rw [setL_all _ _ (by rfl)] at s4; clear s3 e6 e7' b3 b4 b5; obtain ⟨r0, r1, r2, r3, y0⟩ := HF.out _ _ _ _ _ _ _ s4; have sx : Sat W0 w4 (seg true gx 0 (CellsC a kp kn kc cp cn cc out) :: []) := (Sat.sub (s4) (by (repeat (first | with_reducible exact Fr.done | with_reducible exact Fr.nil | (with_reducible apply Fr.cons; (focus ((repeat (first | with_reducible exact Take.here | with_reducible apply Take.there)); done))) | with_reducible apply Fr.skip)))); obtain ⟨p0, p1, p2, p3, v0⟩ := HF.out _ _ _ _ _ _ _ sx; clear sx; obtain ⟨j1, j1', j2, j3, j4, j5⟩ := HJ2.out) | (refine wpl_make rfl 23 5 (.tmp 22) (.tmp 22) rfl Tryz.underlying23 HI3.out.1 HI3.out.2.1 HI3.out.2.2.1 HI3.out.2.2.2 rfl N rfl rfl HMK.out.1 HMK.out.2 s4 ?_; clear j1 j1' j2 j3 j4 j5; intro w5 gk s5 _; rw [u8s_zero] at s5; clear s4 r0 r1 r2 r3 y0 p0 p1 p2 p3 v0; have sx : Sat W0 w5 (seg true gx 0 (CellsC a kp kn kc cp cn cc out) :: []) := (Sat.sub (s5) (by (repeat (first | with_reducible exact Fr.done | with_reducible exact Fr.nil | (with_reducible apply Fr.cons; (focus ((repeat (first | with_reducible exact Take.here | with_reducible apply Take.there)); done))) | with_reducible apply Fr.skip)))); obtain ⟨p0, p1, p2, p3, v0⟩ := HF.out _ _ _ _ _ _ _ sx; clear sx) | (have sk : Sat W0 w5 (bytes false kp key :: []) := (Sat.sub (s5) (by (repeat (first | with_reducible exact Fr.done | with_reducible exact Fr.nil | (with_reducible apply Fr.cons; (focus ((repeat (first | with_reducible exact Take.here | with_reducible apply Take.there)); done))) | with_reducible apply Fr.skip)))); have hsrc := bytesNews (bytesTake N sk); refine wpl_copy rfl (.tmp 24) (.tmp 26) 23 23 rfl Tryz.underlying23 (by kernel_rfl) s5 0 0 N N kn kc kp (u8s (key.take N)) rfl rfl rfl (by rw [u8s_len]; exact HJ.out.2.2.2) (by rw [u8s_len, u8s_len, HJ.out.2.2.2, List.length_replicate]; have hmin : Nat.min kn N ≤ N := Nat.min_le_right kn N; omega) hsrc (u8s_one _) ?_; intro w6 s6; rw [setL_u8s _ _ _ (by rw [HJ.out.2.2.2, List.length_replicate]; have hmin : Nat.min kn N ≤ N := Nat.min_le_right kn N; omega), HJ.out.2.2.1] at s6; clear sk hsrc s5 p0 p1 p2 p3 v0; have s6x : Sat W0 w6 (seg true g3 0 (CellsC al kp kn kc none 0 0 0) :: seg true gk 0 (u8s (fitKey key)) :: seg true gr 0 case0 :: seg true gx 0 (CellsC a kp kn kc cp cn cc out) :: bytes false kp key :: bytes false cp custom :: L) := (Sat.sub (s6) (by (repeat (first | with_reducible exact Fr.done | with_reducible exact Fr.nil | (with_reducible apply Fr.cons; (focus ((repeat (first | with_reducible exact Take.here | with_reducible apply Take.there)); done))) | with_reducible apply Fr.skip)))); clear s6; obtain ⟨r0, r1, r2, r3, y0⟩ := HF.out _ _ _ _ _ _ _ s6x; have f1 := s6x.fr 1 (by simp)))
    refine (HC.out.1 _).mono ?_
    rintro e w7 ⟨rfl, rfl⟩
    simp only [MKind.cust]
    have s7a : Sat W0 (w6.setCell ⟨g3, 1, none⟩ (.slice (some ⟨gk, 0, none⟩) N N)) (seg true g3 0 [Value.int .u8 (al : Int), .slice (some ⟨gk, 0, none⟩) N N, .slice none 0 0, .int .i64 0] :: seg true gk 0 (u8s (fitKey key)) :: seg true gr 0 case0 :: seg true gx 0 (CellsC a kp kn kc cp cn cc out) :: bytes false kp key :: bytes false cp custom :: L) := s6x.store (i := 1) (by simp) (.slice (some ⟨gk, 0, none⟩) N N) (q := 1) rfl
    clear r0 r1 r2 r3 y0 s6x f1
    obtain ⟨w5x, hw5⟩ : ∃ x, x = w6.setCell ⟨g3, 1, none⟩ (.slice (some ⟨gk, 0, none⟩) N N) := ⟨_, rfl⟩
    rw [← hw5] at s7a ⊢
    clear hw5
    have s7b := bytesNil false none (bytesOf ((Sat.sub (s7a) (by (repeat (first | with_reducible exact Fr.done | with_reducible exact Fr.nil | (with_reducible apply Fr.cons; (focus ((repeat (first | with_reducible exact Take.here | with_reducible apply Take.there)); done))) | with_reducible apply Fr.skip)))) : Sat W0 w5x (seg true gk 0 (u8s (fitKey key)) :: seg true g3 0 [Value.int .u8 (al : Int), .slice (some ⟨gk, 0, none⟩) N N, .slice none 0 0, .int .i64 0] :: seg true gr 0 case0 :: seg true gx 0 (CellsC a kp kn kc cp cn cc out) :: bytes false kp key :: bytes false cp custom :: L)))
    obtain ⟨w5, hw5⟩ : ∃ x, x = w5x := ⟨_, rfl⟩
    rw [← hw5] at s7b ⊢
    clear hw5 s7a
    have s5 : Sat W0 w5 (seg true g3 0 [Value.int .u8 (al : Int), .slice (some ⟨gk, 0, none⟩) N N, .slice none 0 0, .int .i64 0] :: seg true gr 0 case0 :: seg true gx 0 (CellsC a kp kn kc cp cn cc out) :: bytes true (some ⟨gk, 0, none⟩) (fitKey key) :: bytes false none [] :: bytes false kp key :: bytes false cp custom :: L) := (Sat.sub (s7b) (by (repeat (first | with_reducible exact Fr.done | with_reducible exact Fr.nil | (with_reducible apply Fr.cons; (focus ((repeat (first | with_reducible exact Take.here | with_reducible apply Take.there)); done))) | with_reducible apply Fr.skip))))
    clear s7b
    have sg : Sat W0 w5 (seg true gx 0 (CellsC a kp kn kc cp cn cc out) :: []) := (Sat.sub (s5) (by (repeat (first | with_reducible exact Fr.done | with_reducible exact Fr.nil | (with_reducible apply Fr.cons; (focus ((repeat (first | with_reducible exact Take.here | with_reducible apply Take.there)); done))) | with_reducible apply Fr.skip))))
    obtain ⟨_, _, _, q3, z0⟩ := HF.out _ _ _ _ _ _ _ sg
    obtain ⟨r0, r1, r2, r3, y0⟩ := HF.out _ _ _ _ _ _ _ s5
    have f3 := s5.fr 3 (by simp)
    clear sg
    go_wp2_with fail
    refine wp_region_quiet_tail_lit 7 (by kernel_rfl) (by kernel_rfl) ?_
    simp only [List.take_succ_cons, List.take_zero, List.drop_succ_cons, List.drop_zero]
    repeat (go_big_quiet_step ((first | (go_at_call 45; exact Calls.quiet_of_same (HC.out.2.1 _)) | (go_at_call 32; exact Calls.quiet_of_same (HC.out.2.2.1 _)))))
    refine wpQuiet_nil ?_
    rintro _ ⟨nr, rfl⟩
    have s6 := (s5.drewN nr).store (i := 3) (by simp) (.int .i64 (1 + (pk : Int))) (q := 3) rfl
    have s7 : Sat W0 ((w5.drewN nr).setCell ⟨g3, 3, none⟩ (.int .i64 (1 + (pk : Int)))) (seg true gr 0 case0 :: seg true g3 0 [Value.int .u8 (al : Int), .slice (some ⟨gk, 0, none⟩) N N, .slice none 0 0, .int .i64 (1 + (pk : Int))] :: seg true gx 0 (CellsC a kp kn kc cp cn cc out) :: bytes true (some ⟨gk, 0, none⟩) (fitKey key) :: bytes false none [] :: bytes false kp key :: bytes false cp custom :: L) := by
      have s6' : Sat W0 ((w5.drewN nr).setCell ⟨g3, 3, none⟩ (.int .i64 (1 + (pk : Int)))) (seg true g3 0 [Value.int .u8 (al : Int), .slice (some ⟨gk, 0, none⟩) N N, .slice none 0 0, .int .i64 (1 + (pk : Int))] :: seg true gr 0 case0 :: seg true gx 0 (CellsC a kp kn kc cp cn cc out) :: bytes true (some ⟨gk, 0, none⟩) (fitKey key) :: bytes false none [] :: bytes false kp key :: bytes false cp custom :: L) := s6
      exact (Sat.sub (s6') (by (repeat (first | with_reducible exact Fr.done | with_reducible exact Fr.nil | (with_reducible apply Fr.cons; (focus ((repeat (first | with_reducible exact Take.here | with_reducible apply Take.there)); done))) | with_reducible apply Fr.skip))))
    have s8 : Sat W0 (((((w5.drewN nr).setCell ⟨g3, 3, none⟩ (.int .i64 (1 + (pk : Int)))).setCell ⟨gr, 0, none⟩ (.int .u8 (al : Int))).setCell ⟨gr, 1, none⟩ (.slice (some ⟨gk, 0, none⟩) N N)).setCell ⟨gr, 2, none⟩ (.slice none 0 0) |>.setCell ⟨gr, 3, none⟩ (.int .i64 (1 + (pk : Int)))) (seg true gr 0 [Value.int .u8 (al : Int), .slice (some ⟨gk, 0, none⟩) N N, .slice none 0 0, .int .i64 (1 + (pk : Int))] :: seg true g3 0 [Value.int .u8 (al : Int), .slice (some ⟨gk, 0, none⟩) N N, .slice none 0 0, .int .i64 (1 + (pk : Int))] :: seg true gx 0 (CellsC a kp kn kc cp cn cc out) :: bytes true (some ⟨gk, 0, none⟩) (fitKey key) :: bytes false none [] :: bytes false kp key :: bytes false cp custom :: L) := (((s7.store (i := 0) (by simp [case0]) (.int .u8 (al : Int)) (q := 0) rfl).store (i := 1) (by simp [case0]) (.slice (some ⟨gk, 0, none⟩) N N) (q := 1) rfl).store (i := 2) (by simp [case0]) (.slice none 0 0) (q := 2) rfl).store (i := 3) (by simp [case0]) (.int .i64 (1 + (pk : Int))) (q := 3) rfl
    have sr : Sat W0 w5 (seg true gr 0 case0 :: []) := (Sat.sub (s5) (by (repeat (first | with_reducible exact Fr.done | with_reducible exact Fr.nil | (with_reducible apply Fr.cons; (focus ((repeat (first | with_reducible exact Take.here | with_reducible apply Take.there)); done))) | with_reducible apply Fr.skip))))
    have hne : g3 ≠ gr := Sat.ne' s5 (by simp) (by simp [case0])
    have hne' : gr ≠ g3 := hne.symm
    obtain ⟨t0, t1, t2, t3, tz⟩ := HF.out _ _ _ _ _ _ _ sr
    have u0 := sr.fr 0 (by simp [case0])
    have u1 := sr.fr 1 (by simp [case0])
    have u2 := sr.fr 2 (by simp [case0])
    have u3 := sr.fr 3 (by simp [case0])
    have HS8 := Lib.hid s8
    clear s5 s6 s7 s8 sr
    go_wp2_with fail
    have s8 := HS8.out
    have hr := run_loadVar_agg (P := Tryz.prog) (ty := 25) Tryz.underlying25 rfl Tryz.size_case s8 0 0 rfl (Nat.le_refl 4)
    have hr2 : Sem.run Tryz.prog (loadVar 25 ⟨gr, 0, none⟩) _ = Result.ok (.agg [Value.int .u8 (al : Int), .slice (some ⟨gk, 0, none⟩) N N, .slice none 0 0, .int .i64 (1 + (pk : Int))].toArray) _ := hr
    have HS := Lib.hid (((s8.drop 0).drop 0).drop 0); clear s8 hr
    refine bodyPost_ret (v := .agg [Value.int .u8 (al : Int), .slice (some ⟨gk, 0, none⟩) N N, .slice none 0 0, .int .i64 (1 + (pk : Int))].toArray) (by simp [results, Tryz.results22, asAddr]; exact hr2) rfl ?_
    exact ⟨.cm, ⟨(al : Int), some ⟨gk, 0, none⟩, N, N, none, 0, 0, 1 + (pk : Int)⟩, fitKey key, [], 1 + pk, true, rfl, ⟨by rw [hK], by simp, ⟨by omega, by rw [← HC.out.2.2.2.2]; exact HC.out.2.2.2.1, by rw [HJ.out.2.1]; have := HJ.out.1; omega, ⟨rfl, by rw [HJ.out.2.1]; exact HJ.out.1⟩⟩, HJ.out.2.1, Nat.le_refl _, by have := HJ.out.1; simp only; unfold maxLen; omega, rfl, Nat.le_refl _, Nat.zero_le _⟩, by rw [hK], HS.out⟩
  · have h3 : ((al : Int) == 3) = false := by rw [beq_eq_false_iff_ne]; have : 4 ≤ al := (by rw [← hK]; cases large <;> cases xof <;> simp [MKind.alg]); omega
    obtain ⟨e6, e7', b3, b4, b5⟩ := HE.out
    go_enter Tryz.func22, Tryz.ntmps22
    go_wp2_with (first | (refine wpl_box rfl 25 (.tmp 0) rfl (CellsC a kp kn kc cp cn cc out) rfl hs ?_; intro w1 gx s1 _; clear hs) | (refine wpl_alloc_agg rfl 25 rfl s1 _ (zero_case _) ?_; intro w2 gr s2 _; clear s1; have sx : Sat W0 w2 (seg true gx 0 (CellsC a kp kn kc cp cn cc out) :: []) := (Sat.sub (s2) (by (repeat (first | with_reducible exact Fr.done | with_reducible exact Fr.nil | (with_reducible apply Fr.cons; (focus ((repeat (first | with_reducible exact Take.here | with_reducible apply Take.there)); done))) | with_reducible apply Fr.skip)))); obtain ⟨q0, q1, q2, q3, z0⟩ := HF.out _ _ _ _ _ _ _ sx; clear sx) | (refine wpl_alloc_agg rfl 25 rfl s2 _ (zero_case _) ?_; intro w3 g3 s3 _; clear s2 q0 q1 q2 q3 z0) | (refine wpl_store_agg rfl rfl 25 (.tmp 3) (.tmp 13) rfl (cs := [_, _, _, _]) s3 0 0 Tryz.size_case rfl rfl rfl (Nat.le_refl 4) (fun v hv => by simp only [List.mem_cons, List.not_mem_nil, or_false] at hv; rcases hv with rfl | rfl | rfl | rfl <;> rfl) ?_; intro w4 s4; rw [setL_all _ _ (by rfl)] at s4; clear s3 e6 e7' b3 b4 b5; obtain ⟨r0, r1, r2, r3, y0⟩ := HF.out _ _ _ _ _ _ _ s4))
    refine (HC.out.1 _).mono ?_
    rintro e w5x ⟨rfl, rfl⟩
    simp only [MKind.cust]
    have sg : Sat W0 w5x (seg true gx 0 (CellsC a kp kn kc cp cn cc out) :: []) := (Sat.sub (s4) (by (repeat (first | with_reducible exact Fr.done | with_reducible exact Fr.nil | (with_reducible apply Fr.cons; (focus ((repeat (first | with_reducible exact Take.here | with_reducible apply Take.there)); done))) | with_reducible apply Fr.skip))))
    obtain ⟨_, _, p2, _, z0⟩ := HF.out _ _ _ _ _ _ _ sg
    have f2 := s4.fr 2 (by simp)
    clear sg
    have gc : (cn : Int) ≤ (cc : Int) := by have := HL.out.2.2.2.2.1; omega
    obtain ⟨k, hk⟩ : ∃ k, k = min 64 cn := ⟨_, rfl⟩
    have s5a := s4.store (i := 2) (by simp) (.slice cp k cc) (q := 2) rfl
    have s5b : Sat W0 (w5x.setCell ⟨g3, 2, none⟩ (.slice cp k cc)) (bytes false cp custom :: bytes false kp key :: seg true g3 0 [Value.int .u8 (al : Int), .slice kp kn kc, .slice cp k cc, .int .i64 0] :: seg true gr 0 case0 :: seg true gx 0 (CellsC a kp kn kc cp cn cc out) :: L) := by
      have s5a' : Sat W0 (w5x.setCell ⟨g3, 2, none⟩ (.slice cp k cc)) (seg true g3 0 [Value.int .u8 (al : Int), .slice kp kn kc, .slice cp k cc, .int .i64 0] :: seg true gr 0 case0 :: seg true gx 0 (CellsC a kp kn kc cp cn cc out) :: bytes false kp key :: bytes false cp custom :: L) := s5a
      exact (Sat.sub (s5a') (by (repeat (first | with_reducible exact Fr.done | with_reducible exact Fr.nil | (with_reducible apply Fr.cons; (focus ((repeat (first | with_reducible exact Take.here | with_reducible apply Take.there)); done))) | with_reducible apply Fr.skip))))
    have s5c := bytesTake k (bytesDup s5b)
    have s5d : Sat W0 (w5x.setCell ⟨g3, 2, none⟩ (.slice cp k cc)) (bytes false kp key :: bytes false cp (custom.take k) :: bytes false cp custom :: seg true g3 0 [Value.int .u8 (al : Int), .slice kp kn kc, .slice cp k cc, .int .i64 0] :: seg true gr 0 case0 :: seg true gx 0 (CellsC a kp kn kc cp cn cc out) :: L) := (Sat.sub (s5c) (by (repeat (first | with_reducible exact Fr.done | with_reducible exact Fr.nil | (with_reducible apply Fr.cons; (focus ((repeat (first | with_reducible exact Take.here | with_reducible apply Take.there)); done))) | with_reducible apply Fr.skip))))
    have s5e := bytesDup s5d
    have s5x : Sat W0 (w5x.setCell ⟨g3, 2, none⟩ (.slice cp k cc)) (seg true g3 0 [Value.int .u8 (al : Int), .slice kp kn kc, .slice cp k cc, .int .i64 0] :: seg true gr 0 case0 :: seg true gx 0 (CellsC a kp kn kc cp cn cc out) :: bytes false kp key :: bytes false cp (custom.take k) :: bytes false kp key :: bytes false cp custom :: L) := (Sat.sub (s5e) (by (repeat (first | with_reducible exact Fr.done | with_reducible exact Fr.nil | (with_reducible apply Fr.cons; (focus ((repeat (first | with_reducible exact Take.here | with_reducible apply Take.there)); done))) | with_reducible apply Fr.skip))))
    clear s4 s5a s5b s5c s5d s5e
    have hkl : (custom.take k).length = k := by rw [List.length_take, HL.out.2.2.2.1]; omega
    have hk64 : k ≤ 64 ∧ k ≤ cn := by omega
    have HQ := Lib.hid (And.intro hkl hk64); clear hkl hk64
    by_cases hcn : cn < 64
    · have gk : (cn : Int) ≤ 64 := by omega
      have gk4 : (cn : Int) < 64 := by omega
      have gk5 : ¬ (64 : Int) ≤ (cn : Int) := by omega
      obtain rfl : cn = k := by omega
      clear hk hcn
      go_wp2_with fail
      clear r0 r1 r2 r3 y0 p2 z0 f2
      obtain ⟨w5, hw5⟩ : ∃ x, x = w5x.setCell ⟨g3, 2, none⟩ (.slice cp cn cc) := ⟨_, rfl⟩
      rw [← hw5] at s5x ⊢
      clear hw5
      have s5 := s5x
      clear s5x
      have sg : Sat W0 w5 (seg true gx 0 (CellsC a kp kn kc cp cn cc out) :: []) := (Sat.sub (s5) (by (repeat (first | with_reducible exact Fr.done | with_reducible exact Fr.nil | (with_reducible apply Fr.cons; (focus ((repeat (first | with_reducible exact Take.here | with_reducible apply Take.there)); done))) | with_reducible apply Fr.skip))))
      obtain ⟨_, _, _, q3, z0⟩ := HF.out _ _ _ _ _ _ _ sg
      obtain ⟨r0, r1, r2, r3, y0⟩ := HF.out _ _ _ _ _ _ _ s5
      have f3 := s5.fr 3 (by simp)
      clear sg
      go_wp2_with fail
      refine wp_region_quiet_tail_lit 7 (by kernel_rfl) (by kernel_rfl) ?_
      simp only [List.take_succ_cons, List.take_zero, List.drop_succ_cons, List.drop_zero]
      repeat (go_big_quiet_step ((first | (go_at_call 45; exact Calls.quiet_of_same (HC.out.2.1 _)) | (go_at_call 32; exact Calls.quiet_of_same (HC.out.2.2.1 _)))))
      refine wpQuiet_nil ?_
      rintro _ ⟨nr, rfl⟩
      have s6 := (s5.drewN nr).store (i := 3) (by simp) (.int .i64 (1 + (pk : Int))) (q := 3) rfl
      have s7 : Sat W0 ((w5.drewN nr).setCell ⟨g3, 3, none⟩ (.int .i64 (1 + (pk : Int)))) (seg true gr 0 case0 :: seg true g3 0 [Value.int .u8 (al : Int), .slice kp kn kc, .slice cp cn cc, .int .i64 (1 + (pk : Int))] :: seg true gx 0 (CellsC a kp kn kc cp cn cc out) :: bytes false kp key :: bytes false cp (custom.take cn) :: bytes false kp key :: bytes false cp custom :: L) := by
        have s6' : Sat W0 ((w5.drewN nr).setCell ⟨g3, 3, none⟩ (.int .i64 (1 + (pk : Int)))) (seg true g3 0 [Value.int .u8 (al : Int), .slice kp kn kc, .slice cp cn cc, .int .i64 (1 + (pk : Int))] :: seg true gr 0 case0 :: seg true gx 0 (CellsC a kp kn kc cp cn cc out) :: bytes false kp key :: bytes false cp (custom.take cn) :: bytes false kp key :: bytes false cp custom :: L) := s6
        exact (Sat.sub (s6') (by (repeat (first | with_reducible exact Fr.done | with_reducible exact Fr.nil | (with_reducible apply Fr.cons; (focus ((repeat (first | with_reducible exact Take.here | with_reducible apply Take.there)); done))) | with_reducible apply Fr.skip))))
      have s8 : Sat W0 (((((w5.drewN nr).setCell ⟨g3, 3, none⟩ (.int .i64 (1 + (pk : Int)))).setCell ⟨gr, 0, none⟩ (.int .u8 (al : Int))).setCell ⟨gr, 1, none⟩ (.slice kp kn kc)).setCell ⟨gr, 2, none⟩ (.slice cp cn cc) |>.setCell ⟨gr, 3, none⟩ (.int .i64 (1 + (pk : Int)))) (seg true gr 0 [Value.int .u8 (al : Int), .slice kp kn kc, .slice cp cn cc, .int .i64 (1 + (pk : Int))] :: seg true g3 0 [Value.int .u8 (al : Int), .slice kp kn kc, .slice cp cn cc, .int .i64 (1 + (pk : Int))] :: seg true gx 0 (CellsC a kp kn kc cp cn cc out) :: bytes false kp key :: bytes false cp (custom.take cn) :: bytes false kp key :: bytes false cp custom :: L) := (((s7.store (i := 0) (by simp [case0]) (.int .u8 (al : Int)) (q := 0) rfl).store (i := 1) (by simp [case0]) (.slice kp kn kc) (q := 1) rfl).store (i := 2) (by simp [case0]) (.slice cp cn cc) (q := 2) rfl).store (i := 3) (by simp [case0]) (.int .i64 (1 + (pk : Int))) (q := 3) rfl
      have sr : Sat W0 w5 (seg true gr 0 case0 :: []) := (Sat.sub (s5) (by (repeat (first | with_reducible exact Fr.done | with_reducible exact Fr.nil | (with_reducible apply Fr.cons; (focus ((repeat (first | with_reducible exact Take.here | with_reducible apply Take.there)); done))) | with_reducible apply Fr.skip))))
      have hne : g3 ≠ gr := Sat.ne' s5 (by simp) (by simp [case0])
      have hne' : gr ≠ g3 := hne.symm
      obtain ⟨t0, t1, t2, t3, tz⟩ := HF.out _ _ _ _ _ _ _ sr
      have u0 := sr.fr 0 (by simp [case0])
      have u1 := sr.fr 1 (by simp [case0])
      have u2 := sr.fr 2 (by simp [case0])
      have u3 := sr.fr 3 (by simp [case0])
      have HS8 := Lib.hid s8
      clear s5 s6 s7 s8 sr
      go_wp2_with fail
      have s8 := HS8.out
      have hr := run_loadVar_agg (P := Tryz.prog) (ty := 25) Tryz.underlying25 rfl Tryz.size_case s8 0 0 rfl (Nat.le_refl 4)
      have hr2 : Sem.run Tryz.prog (loadVar 25 ⟨gr, 0, none⟩) _ = Result.ok (.agg [Value.int .u8 (al : Int), .slice kp kn kc, .slice cp cn cc, .int .i64 (1 + (pk : Int))].toArray) _ := hr
      have HS := Lib.hid (((s8.drop 0).drop 0).drop 0); clear s8 hr
      refine bodyPost_ret (v := .agg [Value.int .u8 (al : Int), .slice kp kn kc, .slice cp cn cc, .int .i64 (1 + (pk : Int))].toArray) (by simp [results, Tryz.results22, asAddr]; exact hr2) rfl ?_
      exact ⟨.km large xof, ⟨(al : Int), kp, kn, kc, cp, cn, cc, 1 + (pk : Int)⟩, key, custom.take cn, 1 + pk, false, rfl, ⟨by rw [hK], by simp, ⟨by omega, by rw [← HC.out.2.2.2.2]; exact HC.out.2.2.2.1, by rw [HL.out.1]; omega, by simp only; rw [HQ.out.1]; exact HQ.out.2.1⟩, HL.out.1, HL.out.2.1, HL.out.2.2.1, HQ.out.1, Nat.le_trans HQ.out.2.2 HL.out.2.2.2.2.1, HL.out.2.2.2.2.2⟩, by rw [hK], HS.out⟩
    · by_cases heq : cn = 64
      · subst heq
        have gk2 : (64 : Int) ≤ (cc : Int) := by omega
        obtain rfl : k = 64 := by omega
        clear hk hcn
        go_wp2_with fail
        clear r0 r1 r2 r3 y0 p2 z0 f2
        obtain ⟨w5, hw5⟩ : ∃ x, x = w5x.setCell ⟨g3, 2, none⟩ (.slice cp 64 cc) := ⟨_, rfl⟩
        rw [← hw5] at s5x ⊢
        clear hw5
        have s5 := s5x
        clear s5x
        have sg : Sat W0 w5 (seg true gx 0 (CellsC a kp kn kc cp 64 cc out) :: []) := (Sat.sub (s5) (by (repeat (first | with_reducible exact Fr.done | with_reducible exact Fr.nil | (with_reducible apply Fr.cons; (focus ((repeat (first | with_reducible exact Take.here | with_reducible apply Take.there)); done))) | with_reducible apply Fr.skip))))
        obtain ⟨_, _, _, q3, z0⟩ := HF.out _ _ _ _ _ _ _ sg
        obtain ⟨r0, r1, r2, r3, y0⟩ := HF.out _ _ _ _ _ _ _ s5
        have f3 := s5.fr 3 (by simp)
        clear sg
        go_wp2_with fail
        refine wp_region_quiet_tail_lit 7 (by kernel_rfl) (by kernel_rfl) ?_
        simp only [List.take_succ_cons, List.take_zero, List.drop_succ_cons, List.drop_zero]
        repeat (go_big_quiet_step ((first | (go_at_call 45; exact Calls.quiet_of_same (HC.out.2.1 _)) | (go_at_call 32; exact Calls.quiet_of_same (HC.out.2.2.1 _)))))
        refine wpQuiet_nil ?_
        rintro _ ⟨nr, rfl⟩
        have s6 := (s5.drewN nr).store (i := 3) (by simp) (.int .i64 (1 + (pk : Int))) (q := 3) rfl
        have s7 : Sat W0 ((w5.drewN nr).setCell ⟨g3, 3, none⟩ (.int .i64 (1 + (pk : Int)))) (seg true gr 0 case0 :: seg true g3 0 [Value.int .u8 (al : Int), .slice kp kn kc, .slice cp 64 cc, .int .i64 (1 + (pk : Int))] :: seg true gx 0 (CellsC a kp kn kc cp 64 cc out) :: bytes false kp key :: bytes false cp (custom.take 64) :: bytes false kp key :: bytes false cp custom :: L) := by
          have s6' : Sat W0 ((w5.drewN nr).setCell ⟨g3, 3, none⟩ (.int .i64 (1 + (pk : Int)))) (seg true g3 0 [Value.int .u8 (al : Int), .slice kp kn kc, .slice cp 64 cc, .int .i64 (1 + (pk : Int))] :: seg true gr 0 case0 :: seg true gx 0 (CellsC a kp kn kc cp 64 cc out) :: bytes false kp key :: bytes false cp (custom.take 64) :: bytes false kp key :: bytes false cp custom :: L) := s6
          exact (Sat.sub (s6') (by (repeat (first | with_reducible exact Fr.done | with_reducible exact Fr.nil | (with_reducible apply Fr.cons; (focus ((repeat (first | with_reducible exact Take.here | with_reducible apply Take.there)); done))) | with_reducible apply Fr.skip))))
        have s8 : Sat W0 (((((w5.drewN nr).setCell ⟨g3, 3, none⟩ (.int .i64 (1 + (pk : Int)))).setCell ⟨gr, 0, none⟩ (.int .u8 (al : Int))).setCell ⟨gr, 1, none⟩ (.slice kp kn kc)).setCell ⟨gr, 2, none⟩ (.slice cp 64 cc) |>.setCell ⟨gr, 3, none⟩ (.int .i64 (1 + (pk : Int)))) (seg true gr 0 [Value.int .u8 (al : Int), .slice kp kn kc, .slice cp 64 cc, .int .i64 (1 + (pk : Int))] :: seg true g3 0 [Value.int .u8 (al : Int), .slice kp kn kc, .slice cp 64 cc, .int .i64 (1 + (pk : Int))] :: seg true gx 0 (CellsC a kp kn kc cp 64 cc out) :: bytes false kp key :: bytes false cp (custom.take 64) :: bytes false kp key :: bytes false cp custom :: L) := (((s7.store (i := 0) (by simp [case0]) (.int .u8 (al : Int)) (q := 0) rfl).store (i := 1) (by simp [case0]) (.slice kp kn kc) (q := 1) rfl).store (i := 2) (by simp [case0]) (.slice cp 64 cc) (q := 2) rfl).store (i := 3) (by simp [case0]) (.int .i64 (1 + (pk : Int))) (q := 3) rfl
        have sr : Sat W0 w5 (seg true gr 0 case0 :: []) := (Sat.sub (s5) (by (repeat (first | with_reducible exact Fr.done | with_reducible exact Fr.nil | (with_reducible apply Fr.cons; (focus ((repeat (first | with_reducible exact Take.here | with_reducible apply Take.there)); done))) | with_reducible apply Fr.skip))))
        have hne : g3 ≠ gr := Sat.ne' s5 (by simp) (by simp [case0])
        have hne' : gr ≠ g3 := hne.symm
        obtain ⟨t0, t1, t2, t3, tz⟩ := HF.out _ _ _ _ _ _ _ sr
        have u0 := sr.fr 0 (by simp [case0])
        have u1 := sr.fr 1 (by simp [case0])
        have u2 := sr.fr 2 (by simp [case0])
        have u3 := sr.fr 3 (by simp [case0])
        have HS8 := Lib.hid s8
        clear s5 s6 s7 s8 sr
        go_wp2_with fail
        have s8 := HS8.out
        have hr := run_loadVar_agg (P := Tryz.prog) (ty := 25) Tryz.underlying25 rfl Tryz.size_case s8 0 0 rfl (Nat.le_refl 4)
        have hr2 : Sem.run Tryz.prog (loadVar 25 ⟨gr, 0, none⟩) _ = Result.ok (.agg [Value.int .u8 (al : Int), .slice kp kn kc, .slice cp 64 cc, .int .i64 (1 + (pk : Int))].toArray) _ := hr
        have HS := Lib.hid (((s8.drop 0).drop 0).drop 0); clear s8 hr
        refine bodyPost_ret (v := .agg [Value.int .u8 (al : Int), .slice kp kn kc, .slice cp 64 cc, .int .i64 (1 + (pk : Int))].toArray) (by simp [results, Tryz.results22, asAddr]; exact hr2) rfl ?_
        exact ⟨.km large xof, ⟨(al : Int), kp, kn, kc, cp, 64, cc, 1 + (pk : Int)⟩, key, custom.take 64, 1 + pk, false, rfl, ⟨by rw [hK], by simp, ⟨by omega, by rw [← HC.out.2.2.2.2]; exact HC.out.2.2.2.1, by rw [HL.out.1]; omega, by simp only; rw [HQ.out.1]; exact HQ.out.2.1⟩, HL.out.1, HL.out.2.1, HL.out.2.2.1, HQ.out.1, Nat.le_trans HQ.out.2.2 HL.out.2.2.2.2.1, HL.out.2.2.2.2.2⟩, by rw [hK], HS.out⟩
      · have gk : ¬ (cn : Int) ≤ 64 := by omega
        have gk6 : (64 : Int) ≤ (cn : Int) := by omega
        have gk2 : (64 : Int) ≤ (cc : Int) := by omega
        have gk3 : (64 : Int) < (cn : Int) := by omega
        obtain rfl : k = 64 := by omega
        clear hk hcn
        go_wp2_with fail
        clear r0 r1 r2 r3 y0 p2 z0 f2
        obtain ⟨w5, hw5⟩ : ∃ x, x = w5x.setCell ⟨g3, 2, none⟩ (.slice cp 64 cc) := ⟨_, rfl⟩
        rw [← hw5] at s5x ⊢
        clear hw5
        have s5 := s5x
        clear s5x
        have sg : Sat W0 w5 (seg true gx 0 (CellsC a kp kn kc cp cn cc out) :: []) := (Sat.sub (s5) (by (repeat (first | with_reducible exact Fr.done | with_reducible exact Fr.nil | (with_reducible apply Fr.cons; (focus ((repeat (first | with_reducible exact Take.here | with_reducible apply Take.there)); done))) | with_reducible apply Fr.skip))))
        obtain ⟨_, _, _, q3, z0⟩ := HF.out _ _ _ _ _ _ _ sg
        obtain ⟨r0, r1, r2, r3, y0⟩ := HF.out _ _ _ _ _ _ _ s5
        have f3 := s5.fr 3 (by simp)
        clear sg
        go_wp2_with fail
        refine wp_region_quiet_tail_lit 7 (by kernel_rfl) (by kernel_rfl) ?_
        simp only [List.take_succ_cons, List.take_zero, List.drop_succ_cons, List.drop_zero]
        repeat (go_big_quiet_step ((first | (go_at_call 45; exact Calls.quiet_of_same (HC.out.2.1 _)) | (go_at_call 32; exact Calls.quiet_of_same (HC.out.2.2.1 _)))))
        refine wpQuiet_nil ?_
        rintro _ ⟨nr, rfl⟩
        have s6 := (s5.drewN nr).store (i := 3) (by simp) (.int .i64 (1 + (pk : Int))) (q := 3) rfl
        have s7 : Sat W0 ((w5.drewN nr).setCell ⟨g3, 3, none⟩ (.int .i64 (1 + (pk : Int)))) (seg true gr 0 case0 :: seg true g3 0 [Value.int .u8 (al : Int), .slice kp kn kc, .slice cp 64 cc, .int .i64 (1 + (pk : Int))] :: seg true gx 0 (CellsC a kp kn kc cp cn cc out) :: bytes false kp key :: bytes false cp (custom.take 64) :: bytes false kp key :: bytes false cp custom :: L) := by
          have s6' : Sat W0 ((w5.drewN nr).setCell ⟨g3, 3, none⟩ (.int .i64 (1 + (pk : Int)))) (seg true g3 0 [Value.int .u8 (al : Int), .slice kp kn kc, .slice cp 64 cc, .int .i64 (1 + (pk : Int))] :: seg true gr 0 case0 :: seg true gx 0 (CellsC a kp kn kc cp cn cc out) :: bytes false kp key :: bytes false cp (custom.take 64) :: bytes false kp key :: bytes false cp custom :: L) := s6
          exact (Sat.sub (s6') (by (repeat (first | with_reducible exact Fr.done | with_reducible exact Fr.nil | (with_reducible apply Fr.cons; (focus ((repeat (first | with_reducible exact Take.here | with_reducible apply Take.there)); done))) | with_reducible apply Fr.skip))))
        have s8 : Sat W0 (((((w5.drewN nr).setCell ⟨g3, 3, none⟩ (.int .i64 (1 + (pk : Int)))).setCell ⟨gr, 0, none⟩ (.int .u8 (al : Int))).setCell ⟨gr, 1, none⟩ (.slice kp kn kc)).setCell ⟨gr, 2, none⟩ (.slice cp 64 cc) |>.setCell ⟨gr, 3, none⟩ (.int .i64 (1 + (pk : Int)))) (seg true gr 0 [Value.int .u8 (al : Int), .slice kp kn kc, .slice cp 64 cc, .int .i64 (1 + (pk : Int))] :: seg true g3 0 [Value.int .u8 (al : Int), .slice kp kn kc, .slice cp 64 cc, .int .i64 (1 + (pk : Int))] :: seg true gx 0 (CellsC a kp kn kc cp cn cc out) :: bytes false kp key :: bytes false cp (custom.take 64) :: bytes false kp key :: bytes false cp custom :: L) := (((s7.store (i := 0) (by simp [case0]) (.int .u8 (al : Int)) (q := 0) rfl).store (i := 1) (by simp [case0]) (.slice kp kn kc) (q := 1) rfl).store (i := 2) (by simp [case0]) (.slice cp 64 cc) (q := 2) rfl).store (i := 3) (by simp [case0]) (.int .i64 (1 + (pk : Int))) (q := 3) rfl
        have sr : Sat W0 w5 (seg true gr 0 case0 :: []) := (Sat.sub (s5) (by (repeat (first | with_reducible exact Fr.done | with_reducible exact Fr.nil | (with_reducible apply Fr.cons; (focus ((repeat (first | with_reducible exact Take.here | with_reducible apply Take.there)); done))) | with_reducible apply Fr.skip))))
        have hne : g3 ≠ gr := Sat.ne' s5 (by simp) (by simp [case0])
        have hne' : gr ≠ g3 := hne.symm
        obtain ⟨t0, t1, t2, t3, tz⟩ := HF.out _ _ _ _ _ _ _ sr
        have u0 := sr.fr 0 (by simp [case0])
        have u1 := sr.fr 1 (by simp [case0])
        have u2 := sr.fr 2 (by simp [case0])
        have u3 := sr.fr 3 (by simp [case0])
        have HS8 := Lib.hid s8
        clear s5 s6 s7 s8 sr
        go_wp2_with fail
        have s8 := HS8.out
        have hr := run_loadVar_agg (P := Tryz.prog) (ty := 25) Tryz.underlying25 rfl Tryz.size_case s8 0 0 rfl (Nat.le_refl 4)
        have hr2 : Sem.run Tryz.prog (loadVar 25 ⟨gr, 0, none⟩) _ = Result.ok (.agg [Value.int .u8 (al : Int), .slice kp kn kc, .slice cp 64 cc, .int .i64 (1 + (pk : Int))].toArray) _ := hr
        have HS := Lib.hid (((s8.drop 0).drop 0).drop 0); clear s8 hr
        refine bodyPost_ret (v := .agg [Value.int .u8 (al : Int), .slice kp kn kc, .slice cp 64 cc, .int .i64 (1 + (pk : Int))].toArray) (by simp [results, Tryz.results22, asAddr]; exact hr2) rfl ?_
        exact ⟨.km large xof, ⟨(al : Int), kp, kn, kc, cp, 64, cc, 1 + (pk : Int)⟩, key, custom.take 64, 1 + pk, false, rfl, ⟨by rw [hK], by simp, ⟨by omega, by rw [← HC.out.2.2.2.2]; exact HC.out.2.2.2.1, by rw [HL.out.1]; omega, by simp only; rw [HQ.out.1]; exact HQ.out.2.1⟩, HL.out.1, HL.out.2.1, HL.out.2.2.1, HQ.out.1, Nat.le_trans HQ.out.2.2 HL.out.2.2.2.2.1, HL.out.2.2.2.2.2⟩, by rw [hK], HS.out⟩
end Go.Proofs.YtooolimpkafhaaaGreat
