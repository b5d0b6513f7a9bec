
/- The cipher: a round key xored, a block mixed, a block enciphered; under the conditions that each names. -/
import Derived.Test.YtooolimpkafhaaaGreatAr8
import Derived.Test.YtooolimpkafhaaaGreatGf8
namespace Go.Proofs.YtooolimpkafhaaaGreat
open Go.RowKit Go.Sep Go.Bv Go.Aes
set_option linter.unusedVariables false
set_option linter.unusedSimpArgs false
theorem Tryz.size_b16 : (Tryz.prog.info? 158).map (·.size) = some 16 := by kernel_rfl
theorem Tryz.size_b4 : (Tryz.prog.info? 208).map (·.size) = some 4 := by kernel_rfl
def nought16 : List Byte := List.replicate 16 0
def nought4 : List Byte := List.replicate 4 0
theorem nought16_len : nought16.length = 16 := rfl
theorem nought4_len : nought4.length = 4 := rfl
theorem zero_b16 (w : World) : (zeroValue 158).run Tryz.prog w = .ok (.agg (u8s nought16).toArray) w := by kernel_rfl
theorem zero_b4 (w : World) : (zeroValue 208).run Tryz.prog w = .ok (.agg (u8s nought4).toArray) w := by kernel_rfl
theorem idx_b16 (B : List Byte) (hB : B.length = 16) (i : Nat) (hi : i < 16) (w : World) : (Instr.index 158 (.agg (u8s B).toArray) (.int .i64 (i : Int))).run Tryz.prog w = .ok (.int .u8 (v8 (B.getD i 0))) w :=
  run_idx8 (U := 5) Tryz.underlying158 (by kernel_rfl) (fun w => by simp [go_sem]) B hB i hi w
section
variable {W0 w : World} {L : List Assn} {ops : Array Oper} {rest : List Oper} {o : Oper} {a : Act} {Q : Exit → Act → World → Prop}
theorem wpl_al16 (hgd : o.guard = none) (ho : o.op = .alloc 158) (hs : Sat W0 w L)
    (h : ∀ w' g, Sat W0 w' (seg true g 0 (u8s nought16) :: L) → g < w'.heap.size → wpList Tryz.prog ops Q rest (a.put o.dst (.pointer (some ⟨g, 0, none⟩))) w') : wpList Tryz.prog ops Q (o :: rest) a w :=
  wpl_alloc_agg hgd 158 ho hs _ (zero_b16 _) h
end
/-- A cipher: the key's bytes, the round keys. -/
abbrev cipS (c kl : Nat) (ks : List Byte) (L : List Assn) : List Assn := seg true c 0 [.int .i64 (kl : Int)] :: seg true c 1 (u8s ks) :: L
set_option maxHeartbeats 1000000 in
theorem aesMade {W0 w : World} {L : List Assn} {c kl : Nat} (hk : 0 < kl) (hs : Sat W0 w (seg true c 0 [.int .i64 (kl : Int)] :: L)) : Calls Tryz.prog 155 #[.pointer (some ⟨c, 0, none⟩)] w fun e w' => e = .returned (.bool true) ∧ w' = w := by
  have c0 := hs.at 0 rfl
  have z0 := hs.lt (by simp)
  have hd : decide ((0 : Int) < (kl : Int)) = true := by simp; omega
  go_enter Tryz.func155, Tryz.ntmps155
  go_wp2
  go_ret
  exact ⟨rfl, rfl⟩
set_option maxHeartbeats 1000000 in
theorem aesRounds {W0 w : World} {L : List Assn} {c kl : Nat} (hk : kl ≤ 32) (hs : Sat W0 w (seg true c 0 [.int .i64 (kl : Int)] :: L)) : Calls Tryz.prog 157 #[.pointer (some ⟨c, 0, none⟩)] w fun e w' => e = .returned (.int .i64 ((kl / 4 + 6 : Nat) : Int)) ∧ w' = w := by
  have c0 := hs.at 0 rfl
  have z0 := hs.lt (by simp)
  have e1 : (kl : Int) / 4 = ((kl / 4 : Nat) : Int) := by omega
  have e2 : (kl : Int).tdiv 4 = ((kl / 4 : Nat) : Int) := by rw [Int.tdiv_eq_ediv_of_nonneg (by omega)]; exact e1
  obtain ⟨d, hd⟩ : ∃ d, d = kl / 4 := ⟨_, rfl⟩
  rw [← hd] at e1 e2 ⊢
  have hd2 : d ≤ 8 := by omega
  have Hd := Lib.hid hd; clear hd
  go_enter Tryz.func157, Tryz.ntmps157
  go_wp2
  go_ret
  exact ⟨by first | rfl | (congr 2; omega) | trace_state, rfl⟩
set_option maxRecDepth 100000 in
set_option maxHeartbeats 2000000 in
theorem aesWith {W0 w : World} {L : List Assn} {c kl : Nat} (ks B : List Byte) (r : Nat) (hks : ks.length = 240) (hB : B.length = 16) (hr : r ≤ 14) (hs : Sat W0 w (cipS c kl ks L)) :
    Calls Tryz.prog 156 #[.pointer (some ⟨c, 0, none⟩), .agg (u8s B).toArray, .int .i64 (r : Int)] w fun e w' => e = .returned (.agg (u8s (xorL B (rkey ks r))).toArray) ∧ Sat W0 w' (cipS c kl ks L) := by
  obtain ⟨K, hK⟩ : ∃ K, K = rkey ks r := ⟨_, rfl⟩
  have hKl : K.length = 16 := by rw [hK]; exact rkey_len ks r hks hr
  have hKd : (ks.drop (r * 16)).take 16 = K := hK.symm
  rw [← hK]
  have hfin : xorTo B K 16 = xorL B K := xorTo_all B K 16 hB hKl
  have hst : xorTo B K 0 = B := xorTo_zero B K
  have z0 := hs.lt (by simp)
  have HN := Lib.hid (And.intro hks (And.intro hB (And.intro hKl (And.intro hKd (And.intro hfin hst))))); clear hks hB hKl hKd hfin hst hK
  go_enter Tryz.func156, Tryz.ntmps156
  go_wp2_with (first | (refine wpl_box rfl 158 (.tmp 1) rfl (u8s B) rfl hs ?_; intro w1 gb s1 _; clear hs) | (refine wpl_al16 rfl rfl s1 ?_; intro w2 gr s2 _; clear s1) | (refine wpl_ld8 (k := r * 16) rfl (.tmp 13) rfl Tryz.underlying158 Tryz.size_b16 (s2.pull 3) rfl rfl (by rw [HN.out.1]; omega) ?_; rw [HN.out.2.2.2.1]))
  have s3 : Sat W0 w2 (seg true gb 0 (u8s (xorTo B K 0)) :: seg true gr 0 (u8s nought16) :: cipS c kl ks L) := by rw [HN.out.2.2.2.2.2]; exact s2.pull 1
  clear s2
  go_loopw [15] (fun t15 wr => ∃ i : Nat, i ≤ 16 ∧ t15 = .int .i64 (i : Int) ∧ Sat W0 wr (seg true gb 0 (u8s (xorTo B K i)) :: seg true gr 0 (u8s nought16) :: cipS c kl ks L)) (fun t15 _ => 16 - (intOf t15).toNat)
  case atStart => exact ⟨0, by omega, rfl, s3⟩
  case round =>
    clear s3
    obtain ⟨i, hi, rfl, s⟩ := hrel
    by_cases hlt : i < 16
    · have hx := idx_b16 K HN.out.2.2.1 i hlt
      have hxl := (xorTo_len B K i).trans HN.out.2.1
      have cb := s.at i (u8s_get _ i (by rw [hxl]; exact hlt))
      rw [xorTo_get B K i (by rw [HN.out.2.1]; exact hlt)] at cb
      have fb := s.fr i (by rw [u8s_len, hxl]; exact hlt)
      have zb := s.lt (by rw [u8s_len, hxl]; decide)
      obtain ⟨x, hxx⟩ : ∃ x, x = B.getD i 0 := ⟨_, rfl⟩
      obtain ⟨y, hyy⟩ : ∃ y, y = K.getD i 0 := ⟨_, rfl⟩
      rw [← hxx] at cb
      rw [← hyy] at hx
      have HX := Lib.hid (And.intro hxx (And.intro hyy hxl)); clear hxx hyy hxl
      go_wp2
      go_roundw
      case rel =>
        refine ⟨i + 1, by omega, by go_num, ?_⟩
        have st := s.store (i := i) (by rw [u8s_len, HX.out.2.2]; exact hlt) (.int .u8 (v8 (x ^^^ y))) (q := i) (by simp)
        rw [u8s_set, HX.out.1, HX.out.2.1, xorTo_set, ← HX.out.1, ← HX.out.2.1, ← vxor8] at st
        exact st
      case measure => simp [intOf]; omega
    · obtain rfl : i = 16 := by omega
      rw [HN.out.2.2.2.2.1] at s
      have hRl : (xorL B K).length = 16 := by rw [xorL_len _ _ (by rw [HN.out.2.1, HN.out.2.2.1])]; exact HN.out.2.1
      obtain ⟨R, hR⟩ : ∃ R, R = xorL B K := ⟨_, rfl⟩
      rw [← hR] at s hRl
      have HR := Lib.hid (And.intro hR hRl); clear hR hRl
      go_wp2_with (first | (refine wpl_ld8a rfl (.tmp 4) rfl Tryz.underlying158 Tryz.size_b16 s rfl HR.out.2 ?_) | (refine wpl_st8a rfl rfl (.tmp 6) (.tmp 26) rfl (s.pull 1 : Sat W0 _ (seg true gr 0 (u8s nought16) :: _)) Tryz.size_b16 rfl rfl HR.out.2 nought16_len ?_; intro w9 s9))
      refine bodyPost_ret (v := .agg (u8s R).toArray) ?_ rfl ⟨by rw [HR.out.1], s9.drop 1 |>.drop 0⟩
      · have hr := run_ret8 Tryz.underlying158 Tryz.size_b16 s9 HR.out.2
        simp [results, Tryz.results156, asAddr]; exact hr
set_option maxRecDepth 100000 in
set_option maxHeartbeats 2000000 in
theorem aesMixed {W0 w : World} {L : List Assn} (m B : List Byte) (hm : m.length = 4) (hB : B.length = 16) (hs : Sat W0 w L) :
    Calls Tryz.prog 159 #[.agg (u8s B).toArray, .agg (u8s m).toArray] w fun e w' => e = .returned (.agg (u8s (mix m B)).toArray) ∧ Sat W0 w' L := by
  have hfin := mixTo_all m B
  have hst : mixTo m B 0 0 = nought16 := mixTo_zero m B
  have HN := Lib.hid (And.intro hm (And.intro hB (And.intro hfin hst))); clear hm hB hfin hst
  go_enter Tryz.func159, Tryz.ntmps159
  go_wp2_with (first | (refine wpl_box rfl 158 (.tmp 0) rfl (u8s B) rfl hs ?_; intro w1 gb s1 _; clear hs) | (refine wpl_box rfl 208 (.tmp 1) rfl (u8s m) rfl s1 ?_; intro w2 gm s2 _; clear s1) | (refine wpl_al16 rfl rfl s2 ?_; intro w3 gr s3 _; clear s2) | (refine wpl_al16 rfl rfl s3 ?_; intro w4 go s4 _; clear s3))
  have s5 : Sat W0 w4 (seg true go 0 (u8s (mixTo m B 0 0)) :: seg true gr 0 (u8s nought16) :: seg true gm 0 (u8s m) :: seg true gb 0 (u8s B) :: L) := by rw [HN.out.2.2.2]; exact s4
  clear s4
  go_loopw [9] (fun t9 wr => ∃ i : Nat, i ≤ 16 ∧ t9 = .int .i64 (i : Int) ∧ Sat W0 wr (seg true go 0 (u8s (mixTo m B i 0)) :: seg true gr 0 (u8s nought16) :: seg true gm 0 (u8s m) :: seg true gb 0 (u8s B) :: L)) (fun t9 _ => 16 - (intOf t9).toNat)
  case atStart => exact ⟨0, by omega, rfl, s5⟩
  case round =>
    clear s5
    obtain ⟨i, hi, rfl, s⟩ := hrel
    by_cases hlt : i < 16
    · obtain ⟨k, hk⟩ : ∃ k, k = i % 4 := ⟨_, rfl⟩
      obtain ⟨col, hcol⟩ : ∃ col, col = i - k := ⟨_, rfl⟩
      have hkm : (i : Int) % 4 = (k : Int) := by omega
      have hkt : (i : Int).tmod 4 = (k : Int) := by rw [Int.tmod_eq_emod_of_nonneg (by omega)]; exact hkm
      have hc : (i : Int) - (k : Int) = (col : Int) := by omega
      have hk4 : k < 4 := by omega
      have hc12 : col ≤ 12 := by omega
      have HK := Lib.hid (And.intro hk hcol); clear hk hcol
      go_wp2_with fail
      go_loopw [16] (fun t16 wr => ∃ r : Nat, r ≤ 4 ∧ t16 = .int .i64 (r : Int) ∧ Sat W0 wr (seg true go 0 (u8s (mixTo m B i r)) :: seg true gr 0 (u8s nought16) :: seg true gm 0 (u8s m) :: seg true gb 0 (u8s B) :: L)) (fun t16 _ => 4 - (intOf t16).toNat)
      case atStart => exact ⟨0, by omega, rfl, s⟩
      case round =>
        clear s
        obtain ⟨r, hr, rfl, s⟩ := hrel
        by_cases hrl : r < 4
        · obtain ⟨q, hq⟩ : ∃ q, q = (r + 4 - k) % 4 := ⟨_, rfl⟩
          have e2 : IntKind.i64.wrap ((r : Int) - (k : Int)) = (r : Int) - (k : Int) := by rw [IntKind.wrap_i64]; omega
          have e3 : IntKind.i64.wrap ((r : Int) - (k : Int) + 4) = ((r + 4 - k : Nat) : Int) := by rw [IntKind.wrap_i64]; omega
          have e4 : ((r + 4 - k : Nat) : Int).tmod 4 = (q : Int) := by rw [Int.tmod_eq_emod_of_nonneg (by omega)]; omega
          have e5 : IntKind.i64.wrap ((col : Int) + (r : Int)) = ((col + r : Nat) : Int) := by rw [IntKind.wrap_i64]; omega
          have hq4 : q < 4 := by omega
          have hcr : col + r < 16 := by omega
          have co := s.at i (u8s_get _ i (by rw [mixTo_len]; exact hlt))
          rw [mixTo_get m B i r hlt] at co
          have fo := s.fr i (by rw [u8s_len, mixTo_len]; exact hlt)
          have zo := s.lt (by rw [u8s_len, mixTo_len]; decide)
          have sm : Sat W0 _ (seg true gm 0 (u8s m) :: _) := s.pull 2
          have cm := sm.at q (u8s_get m q (by rw [HN.out.1]; exact hq4))
          have zm := sm.lt (by rw [u8s_len, HN.out.1]; decide)
          have sb : Sat W0 _ (seg true gb 0 (u8s B) :: _) := s.pull 3
          have cb := sb.at (col + r) (u8s_get B (col + r) (by rw [HN.out.2.1]; exact hcr))
          have zb := sb.lt (by rw [u8s_len, HN.out.2.1]; decide)
          obtain ⟨xo, hxo⟩ : ∃ x, x = mixAt m B i r := ⟨_, rfl⟩
          obtain ⟨xm, hxm⟩ : ∃ x, x = m.getD q 0 := ⟨_, rfl⟩
          obtain ⟨xb, hxb⟩ : ∃ x, x = B.getD (col + r) 0 := ⟨_, rfl⟩
          rw [← hxo] at co
          rw [← hxm] at cm
          rw [← hxb] at cb
          have hnext : mixAt m B i (r + 1) = xo ^^^ gmul xm xb := by
            rw [mixAt, hxo, hxm, hxb, hq, HK.out.2, HK.out.1]
          have HX := Lib.hid hnext; clear hnext hxo hxm hxb hq sm sb
          go_wp2_with fail
          refine wp_region_quiet_tail_lit 18 (by kernel_rfl) (by kernel_rfl) ?_
          simp only [List.take_succ_cons, List.take_zero, List.drop_succ_cons, List.drop_zero]
          repeat (go_big_quiet_step ((go_at_call 201; exact Calls.quiet_of_same (gf8Mul _ xm xb))))
          refine wpQuiet_nil ?_
          rintro _ ⟨nq, rfl⟩
          go_wp2
          go_roundw
          case rel =>
            refine ⟨r + 1, by omega, by go_num, ?_⟩
            have st := (s.drewN nq).store (i := i) (by rw [u8s_len, mixTo_len]; exact hlt) (.int .u8 (v8 (xo ^^^ gmul xm xb))) (q := i) (by simp)
            rw [u8s_set, ← HX.out, mixTo_set, HX.out, ← vxor8] at st
            exact st
          case measure => simp [intOf]; omega
        · obtain rfl : r = 4 := by omega
          rw [mixTo_next] at s
          go_wp2
          go_roundw
          case rel => exact ⟨i + 1, by omega, by go_num, s⟩
          case measure => simp [intOf]; omega
    · obtain rfl : i = 16 := by omega
      rw [HN.out.2.2.1] at s
      have hRl : (mix m B).length = 16 := mix_len m B
      obtain ⟨R, hR⟩ : ∃ R, R = mix m B := ⟨_, rfl⟩
      rw [← hR] at s hRl
      have HR := Lib.hid (And.intro hR hRl); clear hR hRl
      go_wp2_with (first | (refine wpl_ld8a rfl (.tmp 5) rfl Tryz.underlying158 Tryz.size_b16 s rfl HR.out.2 ?_) | (refine wpl_st8a rfl rfl (.tmp 4) (.tmp 40) rfl (s.pull 1 : Sat W0 _ (seg true gr 0 (u8s nought16) :: _)) Tryz.size_b16 rfl rfl HR.out.2 nought16_len ?_; intro w9 s9))
      refine bodyPost_ret (v := .agg (u8s R).toArray) ?_ rfl ⟨by rw [HR.out.1], (((s9.drop 0).drop 0).drop 0).drop 0⟩
      · have hr := run_ret8 Tryz.underlying158 Tryz.size_b16 s9 HR.out.2
        simp [results, Tryz.results159, asAddr]; exact hr
theorem aesWithF {W0 w : World} {L : List Assn} {c kl : Nat} {rv : Int} {bv : Value} (ks B : List Byte) (r : Nat) (hrv : rv = (r : Int)) (hbv : bv = .agg (u8s B).toArray) (hks : ks.length = 240) (hB : B.length = 16) (hr : r ≤ 14) (hs : Sat W0 w (cipS c kl ks L)) :
    Calls Tryz.prog 156 #[.pointer (some ⟨c, 0, none⟩), bv, .int .i64 rv] w fun e w' => e = .returned (.agg (u8s (xorL B (rkey ks r))).toArray) ∧ Sat W0 w' (cipS c kl ks L) := by
  subst hrv hbv
  exact aesWith ks B r hks hB hr hs
theorem aesMixedF {W0 w : World} {L : List Assn} {mv bv : Value} (m B : List Byte) (hmv : mv = .agg (u8s m).toArray) (hbv : bv = .agg (u8s B).toArray) (hm : m.length = 4) (hB : B.length = 16) (hs : Sat W0 w L) :
    Calls Tryz.prog 159 #[bv, mv] w fun e w' => e = .returned (.agg (u8s (mix m B)).toArray) ∧ Sat W0 w' L := by
  subst hmv hbv
  exact aesMixed m B hm hB hs
def mixRow : List Byte := [2, 3, 1, 1]
theorem mixRow_v : (u8s mixRow).toArray = #[.int .u8 2, .int .u8 3, .int .u8 1, .int .u8 1] := rfl
set_option maxRecDepth 100000 in
set_option maxHeartbeats 2000000 in
theorem aesEncrypt {W0 w : World} {L : List Assn} {c kl : Nat} {pv : Value} (p : Option Nat) (rs : List Run3) (ks B : List Byte) (hp : pv = ptrO p) (hks : ks.length = 240) (hB : B.length = 16) (hk0 : 0 < kl) (hk : kl ≤ 32) (hb : tot rs + 1 ≤ 4611686018427387904) (hl : rs.length ≤ 4294967296) (hs : Sat W0 w (ledO p rs :: cipS c kl ks L)) :
    Calls Tryz.prog 101 #[.pointer (some ⟨c, 0, none⟩), pv, .agg (u8s B).toArray] w fun e w' => e = .returned (.tuple #[.agg (u8s (aesEnc kl ks B)).toArray, .int .i64 0]) ∧ Sat W0 w' (ledO p (note rs 5 (kl : Int) 1) :: cipS c kl ks L) := by
  subst hp
  obtain ⟨R, hR⟩ : ∃ R, R = kl / 4 + 6 := ⟨_, rfl⟩
  have hrd := fun (w : World) (X : List Assn) (s : Sat W0 w (seg true c 0 [.int .i64 (kl : Int)] :: X)) => aesRounds hk s
  rw [← hR] at hrd
  have hR14 : R ≤ 14 := by omega
  have hR6 : 6 ≤ R := by omega
  have hE : aesEnc kl ks B = encR ks R B R := by rw [hR]; rfl
  have hel := encR_len ks R B hks hB
  have hE0 : xorL B (rkey ks 0) = encR ks R B 0 := rfl
  have hEn : ∀ n, xorL (if n + 1 < R then mix mixRow (sub (encR ks R B n)) else sub (encR ks R B n)) (rkey ks (n + 1)) = encR ks R B (n + 1) := fun n => rfl
  obtain ⟨E, hEd⟩ : ∃ E : Nat → List Byte, E = encR ks R B := ⟨_, rfl⟩
  rw [hE]
  rw [← hEd] at hel hE0 hEn ⊢
  have HN := Lib.hid (And.intro hks (And.intro hB (And.intro hk0 (And.intro hb (And.intro hl (And.intro hrd (And.intro hel (And.intro hE0 hEn)))))))); clear hks hB hk0 hb hl hrd hel hE0 hEn hE hEd hR hk
  go_enter Tryz.func101, Tryz.ntmps101
  go_wp2_with (first | (refine wpl_box rfl 158 (.tmp 2) rfl (u8s B) rfl hs ?_; intro w1 gb s1 _; clear hs) | (refine wpl_al16 rfl rfl s1 ?_; intro w2 gr s2 _; clear s1))
  refine (aesMade HN.out.2.2.1 (by (repeat (first | with_reducible apply Sat.sub (s2) | with_reducible apply Sat.alloc' | with_reducible apply Sat.drew | with_reducible apply Sat.drewN)); (repeat (first | with_reducible exact Fr.done | with_reducible exact Fr.nil | (with_reducible apply Fr.cons; (focus ((repeat (first | with_reducible exact Take.here | with_reducible apply Take.there)); done))) | with_reducible apply Fr.skip)); done)).mono ?_
  rintro e w3 ⟨rfl, rfl⟩
  have hF : ∀ (wx : World) (X : List Assn), Sat W0 wx (seg true c 0 [.int .i64 (kl : Int)] :: X) → wx.cell? ⟨c, 0, none⟩ = some (.int .i64 (kl : Int)) ∧ c < wx.heap.size := fun wx X h => ⟨h.at 0 rfl, h.lt (by simp)⟩
  obtain ⟨c0, z0⟩ := hF _ _ ((Sat.sub (s2) (by (repeat (first | with_reducible exact Fr.done | with_reducible exact Fr.nil | (with_reducible apply Fr.cons; (focus ((repeat (first | with_reducible exact Take.here | with_reducible apply Take.there)); done))) | with_reducible apply Fr.skip)))) : Sat W0 w3 (seg true c 0 [.int .i64 (kl : Int)] :: []))
  clear hF
  go_wp2_with fail
  refine (noteOne p rs 5 (kl : Int) (by (repeat (first | with_reducible apply Sat.sub (s2) | with_reducible apply Sat.alloc' | with_reducible apply Sat.drew | with_reducible apply Sat.drewN)); (repeat (first | with_reducible exact Fr.done | with_reducible exact Fr.nil | (with_reducible apply Fr.cons; (focus ((repeat (first | with_reducible exact Take.here | with_reducible apply Take.there)); done))) | with_reducible apply Fr.skip)); done) HN.out.2.2.2.1 HN.out.2.2.2.2.1).mono ?_
  rintro e w4 ⟨rfl, s4⟩
  clear s2 c0 z0
  have s5 : Sat W0 w4 (seg true gb 0 (u8s B) :: seg true gr 0 (u8s nought16) :: cipS c kl ks (ledO p (note rs 5 (kl : Int) 1) :: L)) := (Sat.sub (s4) (by (repeat (first | with_reducible exact Fr.done | with_reducible exact Fr.nil | (with_reducible apply Fr.cons; (focus ((repeat (first | with_reducible exact Take.here | with_reducible apply Take.there)); done))) | with_reducible apply Fr.skip))))
  clear s4
  go_wp2_with (refine wpl_ld8a rfl (.tmp 5) rfl Tryz.underlying158 Tryz.size_b16 s5 rfl HN.out.2.1 ?_)
  refine (aesWithF ks B 0 rfl rfl HN.out.1 HN.out.2.1 (by decide) (show Sat W0 w4 (cipS c kl ks (seg true gb 0 (u8s B) :: seg true gr 0 (u8s nought16) :: ledO p (note rs 5 (kl : Int) 1) :: L)) from (Sat.sub (s5) (by (repeat (first | with_reducible exact Fr.done | with_reducible exact Fr.nil | (with_reducible apply Fr.cons; (focus ((repeat (first | with_reducible exact Take.here | with_reducible apply Take.there)); done))) | with_reducible apply Fr.skip)))))).mono ?_
  rintro e w5 ⟨rfl, s6⟩
  clear s5
  rw [HN.out.2.2.2.2.2.2.2.1]
  have s7 : Sat W0 w5 (seg true gb 0 (u8s B) :: seg true gr 0 (u8s nought16) :: cipS c kl ks (ledO p (note rs 5 (kl : Int) 1) :: L)) := (Sat.sub (s6) (by (repeat (first | with_reducible exact Fr.done | with_reducible exact Fr.nil | (with_reducible apply Fr.cons; (focus ((repeat (first | with_reducible exact Take.here | with_reducible apply Take.there)); done))) | with_reducible apply Fr.skip))))
  clear s6
  go_wp2_with (refine wpl_st8a rfl rfl (.tmp 5) (.tmp 24) rfl s7 Tryz.size_b16 rfl rfl (HN.out.2.2.2.2.2.2.1 0 (by decide)) HN.out.2.1 ?_; intro w6 s8; clear s7)
  go_loopw [8] (fun t8 wr => ∃ n : Nat, n ≤ R ∧ t8 = .int .i64 ((n : Int) + 1) ∧ Sat W0 wr (seg true gb 0 (u8s (E n)) :: seg true gr 0 (u8s nought16) :: cipS c kl ks (ledO p (note rs 5 (kl : Int) 1) :: L))) (fun t8 _ => R + 1 - (intOf t8).toNat)
  case atStart => exact ⟨0, by omega, rfl, s8⟩
  case round =>
    clear s8
    obtain ⟨n, hn, rfl, s⟩ := hrel
    by_cases hlt : n < R
    · have g1 : (n : Int) + 1 ≤ (R : Int) := by omega
      go_wp2_with (first | (go_at_call 157; refine (HN.out.2.2.2.2.2.1 _ _ (by (repeat (first | with_reducible apply Sat.sub (s) | with_reducible apply Sat.alloc' | with_reducible apply Sat.drew | with_reducible apply Sat.drewN)); (repeat (first | with_reducible exact Fr.done | with_reducible exact Fr.nil | (with_reducible apply Fr.cons; (focus ((repeat (first | with_reducible exact Take.here | with_reducible apply Take.there)); done))) | with_reducible apply Fr.skip)); done)).mono ?_; rintro e w' ⟨rfl, rfl⟩) | (refine wpl_al16 rfl rfl s ?_; intro w8 gs s9 _))
      have s10 : Sat W0 w8 (seg true gs 0 (u8s (subTo (E n) 0)) :: seg true gb 0 (u8s (E n)) :: seg true gr 0 (u8s nought16) :: cipS c kl ks (ledO p (note rs 5 (kl : Int) 1) :: L)) := by rw [show subTo (E n) 0 = nought16 from subTo_zero _]; exact s9
      clear s s9
      have hEl := HN.out.2.2.2.2.2.2.1 n (by omega)
      obtain ⟨F, hFd⟩ : ∃ F, F = E n := ⟨_, rfl⟩
      rw [← hFd] at s10 hEl
      have HF := Lib.hid (And.intro hFd hEl); clear hFd hEl
      go_loopw [31] (fun t31 wr => ∃ i : Nat, i ≤ 16 ∧ t31 = .int .i64 (i : Int) ∧ Sat W0 wr (seg true gs 0 (u8s (subTo F i)) :: seg true gb 0 (u8s F) :: seg true gr 0 (u8s nought16) :: cipS c kl ks (ledO p (note rs 5 (kl : Int) 1) :: L))) (fun t31 _ => 16 - (intOf t31).toNat)
      case atStart => exact ⟨0, by omega, rfl, s10⟩
      case round =>
        clear s10
        obtain ⟨i, hi, rfl, s⟩ := hrel
        by_cases hlt2 : i < 16
        · obtain ⟨k, hk⟩ : ∃ k, k = i % 4 := ⟨_, rfl⟩
          obtain ⟨q, hq⟩ : ∃ q, q = (i + 4 * k) % 16 := ⟨_, rfl⟩
          have hkm : (i : Int) % 4 = (k : Int) := by omega
          have hkt : (i : Int).tmod 4 = (k : Int) := by rw [Int.tmod_eq_emod_of_nonneg (by omega)]; exact hkm
          have hqm : ((i : Int) + 4 * (k : Int)) % 16 = (q : Int) := by omega
          have hqt : ((i : Int) + 4 * (k : Int)).tmod 16 = (q : Int) := by rw [Int.tmod_eq_emod_of_nonneg (by omega)]; exact hqm
          have hq16 : q < 16 := by omega
          have hk4 : k < 4 := by omega
          have hset : (subTo F i).set i (gbox (F.getD q 0)) = subTo F (i + 1) := by rw [hq, hk]; exact subTo_set F i
          have cs := s.at i (u8s_get _ i (by rw [subTo_len]; exact hlt2))
          have fs := s.fr i (by rw [u8s_len, subTo_len]; exact hlt2)
          have zs := s.lt (by rw [u8s_len, subTo_len]; decide)
          have sb : Sat W0 _ (seg true gb 0 (u8s F) :: _) := s.pull 1
          have cb := sb.at q (u8s_get F q (by rw [HF.out.2]; exact hq16))
          have zb := sb.lt (by rw [u8s_len, HF.out.2]; decide)
          obtain ⟨x, hx⟩ : ∃ x, x = F.getD q 0 := ⟨_, rfl⟩
          obtain ⟨y, hy⟩ : ∃ y, y = (subTo F i).getD i 0 := ⟨_, rfl⟩
          rw [← hx] at cb hset
          rw [← hy] at cs
          have HX := Lib.hid hset; clear hset hx hy hq hk sb
          go_wp2_with fail
          refine (gf8Box _ x).mono ?_
          rintro e w9 ⟨rfl, nb, rfl⟩
          go_wp2
          go_roundw
          case rel =>
            refine ⟨i + 1, by omega, by go_num, ?_⟩
            have st := (s.drewN nb).store (i := i) (by rw [u8s_len, subTo_len]; exact hlt2) (.int .u8 (v8 (gbox x))) (q := i) (by simp)
            rw [u8s_set, HX.out] at st
            exact st
          case measure => simp [intOf]; omega
        · obtain rfl : i = 16 := by omega
          rw [subTo_all] at s
          have hnx := HN.out.2.2.2.2.2.2.2.2 n
          rw [← HF.out.1] at hnx
          by_cases hmix : n + 1 < R
          · have g2 : (n : Int) + 1 < (R : Int) := by omega
            rw [if_pos hmix] at hnx
            have hsl := sub_len F
            obtain ⟨S, hS⟩ : ∃ S, S = sub F := ⟨_, rfl⟩
            rw [← hS] at s hnx hsl
            have HS := Lib.hid (And.intro hnx hsl); clear hnx hsl hS
            go_wp2_with (first | (go_at_call 157; refine (HN.out.2.2.2.2.2.1 _ _ (by (repeat (first | with_reducible apply Sat.sub (s) | with_reducible apply Sat.alloc' | with_reducible apply Sat.drew | with_reducible apply Sat.drewN)); (repeat (first | with_reducible exact Fr.done | with_reducible exact Fr.nil | (with_reducible apply Fr.cons; (focus ((repeat (first | with_reducible exact Take.here | with_reducible apply Take.there)); done))) | with_reducible apply Fr.skip)); done)).mono ?_; rintro e w' ⟨rfl, rfl⟩) | (refine wpl_ld8a rfl (.tmp 9) rfl Tryz.underlying158 Tryz.size_b16 s rfl HS.out.2 ?_))
            refine (aesMixedF mixRow S rfl rfl rfl HS.out.2 s).mono ?_
            rintro e w9 ⟨rfl, s11⟩
            clear s
            have hMl := mix_len mixRow S
            obtain ⟨M, hM⟩ : ∃ M, M = mix mixRow S := ⟨_, rfl⟩
            rw [← hM] at hMl ⊢
            have HM := Lib.hid (And.intro hM hMl); clear hM hMl
            go_wp2_with (first | (refine wpl_st8a rfl rfl (.tmp 9) (.tmp 52) rfl s11 Tryz.size_b16 rfl rfl HM.out.2 HS.out.2 ?_; intro w10 s12; clear s11) | (refine wpl_ld8a rfl (.tmp 9) rfl Tryz.underlying158 Tryz.size_b16 s12 rfl HM.out.2 ?_))
            refine (aesWithF ks M (n + 1) rfl rfl HN.out.1 HM.out.2 (by omega) (show Sat W0 w10 (cipS c kl ks (seg true gb 0 (u8s F) :: seg true gr 0 (u8s nought16) :: ledO p (note rs 5 (kl : Int) 1) :: L)) from (Sat.sub (s12) (by (repeat (first | with_reducible exact Fr.done | with_reducible exact Fr.nil | (with_reducible apply Fr.cons; (focus ((repeat (first | with_reducible exact Take.here | with_reducible apply Take.there)); done))) | with_reducible apply Fr.skip)))))).mono ?_
            rintro e w11 ⟨rfl, s13⟩
            clear s12
            rw [HM.out.1, HS.out.1]
            have s14 : Sat W0 w11 (seg true gb 0 (u8s F) :: seg true gr 0 (u8s nought16) :: cipS c kl ks (ledO p (note rs 5 (kl : Int) 1) :: L)) := (Sat.sub (s13) (by (repeat (first | with_reducible exact Fr.done | with_reducible exact Fr.nil | (with_reducible apply Fr.cons; (focus ((repeat (first | with_reducible exact Take.here | with_reducible apply Take.there)); done))) | with_reducible apply Fr.skip))))
            clear s13
            go_wp2_with (refine wpl_st8a rfl rfl (.tmp 5) (.tmp 56) rfl s14 Tryz.size_b16 rfl rfl (HN.out.2.2.2.2.2.2.1 (n + 1) (by omega)) HF.out.2 ?_; intro w12 s15; clear s14)
            go_roundw
            case rel => exact ⟨n + 1, by omega, by go_num, s15⟩
            case measure => simp [intOf]; omega
          · have g2 : ¬ (n : Int) + 1 < (R : Int) := by omega
            rw [if_neg hmix] at hnx
            have hsl := sub_len F
            obtain ⟨S, hS⟩ : ∃ S, S = sub F := ⟨_, rfl⟩
            rw [← hS] at s hnx hsl
            have HS := Lib.hid (And.intro hnx hsl); clear hnx hsl hS
            go_wp2_with (first | (go_at_call 157; refine (HN.out.2.2.2.2.2.1 _ _ (by (repeat (first | with_reducible apply Sat.sub (s) | with_reducible apply Sat.alloc' | with_reducible apply Sat.drew | with_reducible apply Sat.drewN)); (repeat (first | with_reducible exact Fr.done | with_reducible exact Fr.nil | (with_reducible apply Fr.cons; (focus ((repeat (first | with_reducible exact Take.here | with_reducible apply Take.there)); done))) | with_reducible apply Fr.skip)); done)).mono ?_; rintro e w' ⟨rfl, rfl⟩) | (refine wpl_ld8a rfl (.tmp 9) rfl Tryz.underlying158 Tryz.size_b16 s rfl HS.out.2 ?_))
            refine (aesWithF ks S (n + 1) rfl rfl HN.out.1 HS.out.2 (by omega) (show Sat W0 _ (cipS c kl ks (seg true gb 0 (u8s F) :: seg true gr 0 (u8s nought16) :: ledO p (note rs 5 (kl : Int) 1) :: L)) from (Sat.sub (s) (by (repeat (first | with_reducible exact Fr.done | with_reducible exact Fr.nil | (with_reducible apply Fr.cons; (focus ((repeat (first | with_reducible exact Take.here | with_reducible apply Take.there)); done))) | with_reducible apply Fr.skip)))))).mono ?_
            rintro e w11 ⟨rfl, s13⟩
            clear s
            rw [HS.out.1]
            have s14 : Sat W0 w11 (seg true gb 0 (u8s F) :: seg true gr 0 (u8s nought16) :: cipS c kl ks (ledO p (note rs 5 (kl : Int) 1) :: L)) := (Sat.sub (s13) (by (repeat (first | with_reducible exact Fr.done | with_reducible exact Fr.nil | (with_reducible apply Fr.cons; (focus ((repeat (first | with_reducible exact Take.here | with_reducible apply Take.there)); done))) | with_reducible apply Fr.skip))))
            clear s13
            go_wp2_with (refine wpl_st8a rfl rfl (.tmp 5) (.tmp 56) rfl s14 Tryz.size_b16 rfl rfl (HN.out.2.2.2.2.2.2.1 (n + 1) (by omega)) HF.out.2 ?_; intro w12 s15; clear s14)
            go_roundw
            case rel => exact ⟨n + 1, by omega, by go_num, s15⟩
            case measure => simp [intOf]; omega
    · obtain rfl : n = R := by omega
      have g1 : ¬ (n : Int) + 1 ≤ (n : Int) := by omega
      have hEl := HN.out.2.2.2.2.2.2.1 n hR14
      obtain ⟨F, hFd⟩ : ∃ F, F = E n := ⟨_, rfl⟩
      rw [← hFd] at s hEl
      have HF := Lib.hid (And.intro hFd hEl); clear hFd hEl
      go_wp2_with (first | (go_at_call 157; refine (HN.out.2.2.2.2.2.1 _ _ (by (repeat (first | with_reducible apply Sat.sub (s) | with_reducible apply Sat.alloc' | with_reducible apply Sat.drew | with_reducible apply Sat.drewN)); (repeat (first | with_reducible exact Fr.done | with_reducible exact Fr.nil | (with_reducible apply Fr.cons; (focus ((repeat (first | with_reducible exact Take.here | with_reducible apply Take.there)); done))) | with_reducible apply Fr.skip)); done)).mono ?_; rintro e w' ⟨rfl, rfl⟩) | (refine wpl_ld8a rfl (.tmp 5) rfl Tryz.underlying158 Tryz.size_b16 s rfl HF.out.2 ?_) | (refine wpl_st8a rfl rfl (.tmp 6) (.tmp 57) rfl (s.pull 1 : Sat W0 _ (seg true gr 0 (u8s nought16) :: _)) Tryz.size_b16 rfl rfl HF.out.2 nought16_len ?_; intro w9 s9))
      have s10 : Sat W0 w9 (seg true gr 0 (u8s F) :: seg true gb 0 (u8s F) :: cipS c kl ks (ledO p (note rs 5 (kl : Int) 1) :: L)) := s9
      refine bodyPost_ret (v := .tuple #[.agg (u8s F).toArray, .int .i64 0]) ?_ rfl ⟨by rw [HF.out.1], (Sat.sub (s10) (by (repeat (first | with_reducible exact Fr.done | with_reducible exact Fr.nil | (with_reducible apply Fr.cons; (focus ((repeat (first | with_reducible exact Take.here | with_reducible apply Take.there)); done))) | with_reducible apply Fr.skip))))⟩
      have hr := run_ret8 Tryz.underlying158 Tryz.size_b16 s9 HF.out.2
      simp [results, Tryz.results101, asAddr, hr]
end Go.Proofs.YtooolimpkafhaaaGreat
