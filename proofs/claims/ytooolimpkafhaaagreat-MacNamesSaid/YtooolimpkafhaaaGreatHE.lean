/- L17, L17b, L17c, Opn, L17d: texts that lie apart elsewhere, as one; each under the conditions that it names. -/
import Derived.Lib.SmallJoins
import Derived.Test.YtooolimpkafhaaaGreatHD
import Derived.Test.YtooolimpkafhaaaGreatGG
import Derived.Deep.Slices

/- The helpers of layer 17's statements: lives; under the conditions that each names. -/
namespace Go.Proofs.YtooolimpkafhaaaGreat
open Go.RowKit Go.Sep Go.Bv Go.Kec Go.Aes Go.Sha
set_option linter.unusedVariables false
set_option linter.unusedSimpArgs false
def jefe : List Byte := [74, 101, 102, 101]
def whatDo : List Byte := [119, 104, 97, 116, 32, 100, 111, 32, 121, 97, 32, 119, 97, 110, 116, 32, 102, 111, 114, 32, 110, 111, 116, 104, 105, 110, 103, 63]
def jefeTag : List Byte := [91, 220, 193, 70, 191, 96, 117, 78, 106, 4, 36, 38, 8, 149, 117, 199, 90, 0, 63, 8, 157, 39, 57, 131, 157, 236, 88, 185, 100, 236, 56, 67]
theorem jefeHmac : hmac false jefe whatDo = jefeTag := by decide +kernel
theorem jefeIs : (MKind.hm false).tag jefe [] 32 whatDo = jefeTag := by
  show (hmac false jefe whatDo).take 32 = jefeTag
  rw [jefeHmac]; rfl
theorem jefeFits : (MKind.hm false).fits jefe [] 32 := ⟨by decide, by decide, by decide, rfl⟩
theorem bytesMid17 {W0 w : World} {L : List Assn} {m : Bool} {b o : Nat} {bs : List Byte} (i : Nat) (hi : i < bs.length) (h : Sat W0 w (bytes m (some ⟨b, o, none⟩) bs :: L)) : Sat W0 w (bytes m (some ⟨b, o + i, none⟩) (bs.drop i) :: L) :=
  h.imp fun x hx => by
    rcases hx with rfl | ⟨b', o', e, hx⟩
    · exact .inl (by simp)
    · cases e
      refine .inr ⟨b, o + i, rfl, fun j v hv => ?_⟩
      have := hx (i + j) v (by rw [← u8s_drop, List.getElem?_drop] at hv; exact hv)
      rwa [Nat.add_assoc]
set_option maxRecDepth 100000 in
set_option maxHeartbeats 4000000 in
theorem lives17 {W0 w : World} {L : List Assn} (hs : Sat W0 w L) : Calls Tryz.prog 9 #[] w fun e w' => e = .returned (.bool true) ∧ Sat W0 w' L := by
  have kc := fun (w : World) (C : Array Value) (n c g : Nat) (hg : g = w.heap.size) => Joins.run_convert_bytes_const_at (P := Tryz.prog) w 23 5 C n c g hg Tryz.underlying23 Tryz.underlying5
  have hbeg := fun (w : World) (q : Option Addr) (s : Sat W0 w (bytes true q jefe :: L)) => macBegin (ck := 4) (cap := 0) (m2 := true) (pv := .pointer none) (av := .int .u8 1) (ov := .int .i64 32) (pc := none) (MKind.hm false) none [] jefe [] rfl rfl rfl jefeFits ⟨by decide, by decide⟩ rfl (by decide) (by decide) rfl (by decide) (by decide) (Sat.sub (ledNone (bytesNil true none s)) (.cons .here (.cons (.there .here) (.cons .here .done))))
  have hwr := fun (w : World) (q : Option Addr) (X : List Assn) (s : Nat) (h : Sat W0 w (ses (.hm false) s jefe [] 32 [] :: bytes true q whatDo :: X)) => macWrite (cap := 28) (pv := .pointer none) (MKind.hm false) none [] jefe [] [] whatDo rfl jefeFits ⟨by decide, by decide⟩ rfl (by decide) (by decide) (by decide) (Sat.sub (ledNone h) (.cons .here (.cons (.there .here) .done)))
  have hsm := fun (w : World) (X : List Assn) (s : Nat) (h : Sat W0 w (ses (.hm false) s jefe [] 32 whatDo :: X)) => macSum (pv := .pointer none) (MKind.hm false) none [] jefe [] whatDo rfl jefeFits ⟨by decide, by decide⟩ (by decide) (ledNone h)
  rw [jefeIs] at hsm
  have HN := Lib.hid (And.intro hbeg (And.intro hwr hsm)); clear hbeg hwr hsm
  have s1 := hs.allocMark (u8s jefe).toArray 5
  have s2 := bytesOf s1
  clear s1 hs
  go_enter Tryz.func9, Tryz.ntmps9
  go_wp2_with fail
  refine (HN.out.1 _ (some ⟨w.heap.size, 0, none⟩) s2).mono ?_
  rintro e w1 ⟨s, rfl, s3⟩
  clear s2
  have s4 := s3.allocMark (u8s whatDo).toArray 5
  have s5 := bytesOf s4
  have s6 : Sat W0 _ (ses (.hm false) s jefe [] 32 [] :: bytes true (some ⟨w1.heap.size, 0, none⟩) whatDo :: L) := (Sat.sub (s5) (by (repeat (first | with_reducible exact Fr.done | with_reducible exact Fr.nil | (with_reducible apply Fr.cons; (focus ((repeat (first | with_reducible exact Take.here | with_reducible apply Take.there)); done))) | with_reducible apply Fr.skip))))
  clear s3 s4 s5
  go_wp2_with fail
  refine (HN.out.2.1 _ _ L s s6).mono ?_
  rintro e w2 ⟨rfl, s7⟩
  clear s6
  rw [List.nil_append] at s7
  have s8 : Sat W0 w2 (ses (.hm false) s jefe [] 32 whatDo :: L) := (Sat.sub (s7) (by (repeat (first | with_reducible exact Fr.done | with_reducible exact Fr.nil | (with_reducible apply Fr.cons; (focus ((repeat (first | with_reducible exact Take.here | with_reducible apply Take.there)); done))) | with_reducible apply Fr.skip))))
  clear s7
  go_wp2_with fail
  refine (HN.out.2.2 _ L s s8).mono ?_
  rintro e w3 ⟨q, c, rfl, s9⟩
  clear s8
  obtain ⟨hl0, hop⟩ := s9.rowOpen
  rcases hop with ⟨_, _, h0, _⟩ | ⟨g, rest, rfl, hnc, hcm, _, _⟩
  · exact absurd h0 (by decide)
  clear hl0
  obtain ⟨_, _, _, sA⟩ := rowBytes s9
  clear s9
  have sB : Sat W0 w3 (bytes true (some ⟨g, 0, none⟩) jefeTag :: L) := (Sat.sub (sA) (by (repeat (first | with_reducible exact Fr.done | with_reducible exact Fr.nil | (with_reducible apply Fr.cons; (focus ((repeat (first | with_reducible exact Take.here | with_reducible apply Take.there)); done))) | with_reducible apply Fr.skip))))
  clear sA
  unfold maxLen at hcm
  go_wp2_with fail
  have sC : Sat W0 (w3.alloc (.cells #[.int .u8 91, .int .u8 220, .int .u8 193, .int .u8 70] 5)) (bytes true (some ⟨w3.heap.size, 0, none⟩) [91, 220, 193, 70] :: bytes true (some ⟨g, 0, none⟩) jefeTag :: L) := bytesOf (bs := [91, 220, 193, 70]) (sB.alloc #[.int .u8 91, .int .u8 220, .int .u8 193, .int .u8 70] 5)
  have sD : Sat W0 _ (bytes true (some ⟨g, 0, none⟩) (jefeTag.take 4) :: bytes true (some ⟨w3.heap.size, 0, none⟩) [91, 220, 193, 70] :: L) := bytesTake 4 (sC.pull 1)
  refine (sameTrue (ca := c) (cb := 4) (jefeTag.take 4) [91, 220, 193, 70] rfl (by decide) sD).mono ?_
  rintro e w4 ⟨rfl, n4, rfl⟩
  have sE : Sat W0 _ (bytes true (some ⟨g, 0, none⟩) jefeTag :: L) := (sC.drewN n4).tail
  clear sB sC sD
  obtain ⟨w5, hw5⟩ : ∃ w5, w5 = (w3.alloc (.cells #[.int .u8 91, .int .u8 220, .int .u8 193, .int .u8 70] 5)).drewN n4 := ⟨_, rfl⟩
  rw [← hw5] at sE ⊢
  clear hw5
  have g28 : ¬ c = 28 := by omega
  have g32 : (32 : Int) ≤ (c : Int) := by omega
  go_wp2_with fail
  have sF : Sat W0 (w5.alloc (.cells #[.int .u8 100, .int .u8 236, .int .u8 56, .int .u8 67] 5)) (bytes true (some ⟨w5.heap.size, 0, none⟩) [100, 236, 56, 67] :: bytes true (some ⟨g, 0, none⟩) jefeTag :: L) := bytesOf (bs := [100, 236, 56, 67]) (sE.alloc #[.int .u8 100, .int .u8 236, .int .u8 56, .int .u8 67] 5)
  have sG : Sat W0 _ (bytes true (some ⟨g, 28, none⟩) (jefeTag.drop 28) :: bytes true (some ⟨w5.heap.size, 0, none⟩) [100, 236, 56, 67] :: L) := bytesMid17 28 (by decide) (sF.pull 1)
  refine (sameTrue (ca := c - 28) (cb := 4) (jefeTag.drop 28) [100, 236, 56, 67] rfl (by decide) sG).mono ?_
  rintro e w6 ⟨rfl, n6, rfl⟩
  have sH : Sat W0 _ L := ((sF.drewN n6).tail).tail
  have HS := Lib.hid sH; clear sE sF sG sH
  go_wp2_with fail
  go_ret
  exact ⟨rfl, HS.out⟩
end Go.Proofs.YtooolimpkafhaaaGreat

/- The helpers of layer 17's statements: small, the document's code; under the conditions that each names. -/
namespace Go.Proofs.YtooolimpkafhaaaGreat
open Go.RowKit Go.Sep Go.Bv Go.Kec Go.Aes Go.Sha
set_option linter.unusedVariables false
set_option linter.unusedSimpArgs false
/-- A case's cells. -/
structure CaseC where
  a : Int
  kp : Option Addr
  kn : Nat
  kc : Nat
  cp : Option Addr
  cn : Nat
  cc : Nat
  out : Int
def encC (x : CaseC) : List Value := [.int .u8 x.a, .slice x.kp x.kn x.kc, .slice x.cp x.cn x.cc, .int .i64 x.out]
theorem encC_len (x : CaseC) : (encC x).length = 4 := rfl
def sumC : List CaseC → Nat
  | [] => 0
  | x :: cs => x.kn + x.cn + sumC cs
theorem sumC_append : ∀ (a b : List CaseC), sumC (a ++ b) = sumC a + sumC b
  | [], b => by simp [sumC]
  | x :: a, b => by simp [sumC, sumC_append a b, Nat.add_assoc]
theorem sumC_take (cs : List CaseC) (i : Nat) (h : i < cs.length) : sumC (cs.take (i + 1)) = sumC (cs.take i) + cs[i].kn + cs[i].cn := by
  rw [List.take_succ_eq_append_getElem h, sumC_append]; simp [sumC]; omega
theorem sumC_take_le (cs : List CaseC) (i : Nat) : sumC (cs.take i) ≤ sumC cs := by
  have := sumC_append (cs.take i) (cs.drop i)
  rw [List.take_append_drop] at this; omega
set_option maxRecDepth 100000 in
set_option maxHeartbeats 2000000 in
theorem smallOf {W0 w : World} {L : List Assn} {m : Bool} {g k cap : Nat} (cs : List CaseC) (hk : cs.length = k) (hk2 : k ≤ 100) (hsum : sumC cs ≤ 1000000000) (hs : Sat W0 w (seg m g 0 (cs.flatMap encC) :: L)) :
    Calls Tryz.prog 10 #[.slice none 0 0, .slice (some ⟨g, 0, none⟩) k cap] w fun e w' => e = .returned (.bool (decide (sumC cs ≤ 3000))) ∧ ∃ n, w' = w.drewN n := by
  have hcell : ∀ i (h : i < cs.length), w.cell? ⟨g, i * 4 + 1, none⟩ = some (.slice cs[i].kp cs[i].kn cs[i].kc) ∧ w.cell? ⟨g, i * 4 + 2, none⟩ = some (.slice cs[i].cp cs[i].cn cs[i].cc) := fun i h => ⟨hs.at _ (fm_get encC_len cs i 1 h (by decide)), hs.at _ (fm_get encC_len cs i 2 h (by decide))⟩
  have hz : 0 < cs.length → g < w.heap.size := fun h => hs.lt (by rw [fm_len encC_len]; omega)
  have HN := Lib.hid (And.intro hk (And.intro hsum (And.intro hcell hz))); clear hk hsum hcell hz hs
  go_enter Tryz.func10, Tryz.ntmps10
  go_wp2_with fail
  go_loopw [5, 6] (fun t5 t6 wr => ∃ i k2 : Nat, i ≤ k ∧ t6 = .int .i64 (i : Int) ∧ t5 = .int .i64 (sumC (cs.take i) : Int) ∧ wr = w.drewN k2) (fun _ t6 _ => k - (intOf t6).toNat)
  case atStart => exact ⟨0, 0, Nat.zero_le _, rfl, rfl, rfl⟩
  case round =>
    obtain ⟨i, k2, hi, rfl, rfl, rfl⟩ := hrel
    by_cases hlt : i < k
    · have hic : i < cs.length := by rw [HN.out.1]; exact hlt
      obtain ⟨c1, c2⟩ := HN.out.2.2.1 i hic
      have z0 := HN.out.2.2.2 (by omega)
      have hnx := sumC_take cs i hic
      have hle := sumC_take_le cs (i + 1)
      have hsm := HN.out.2.1
      rw [hnx] at hle
      obtain ⟨x, hx⟩ : ∃ x, x = cs[i] := ⟨_, rfl⟩
      rw [← hx] at c1 c2 hnx hle
      obtain ⟨s, hs⟩ : ∃ s, s = sumC (cs.take i) := ⟨_, rfl⟩
      rw [← hs] at hnx hle ⊢
      obtain ⟨xa, xkp, xkn, xkc, xcp, xcn, xcc, xo⟩ := x
      simp only at c1 c2 hnx hle
      have e1 : IntKind.i64.wrap ((s : Int) + (xkn : Int)) = ((s + xkn : Nat) : Int) := by rw [IntKind.wrap_i64]; omega
      have e2 : IntKind.i64.wrap (((s + xkn : Nat) : Int) + (xcn : Int)) = ((s + xkn + xcn : Nat) : Int) := by rw [IntKind.wrap_i64]; omega
      have b1 : s + xkn + xcn ≤ 1000000000 := by omega
      have HX := Lib.hid hnx; clear hnx hle hx hs hic hsm
      go_wp2_with fail
      go_quiet (fail)
      go_wp2_with fail
      go_roundw
      case rel =>
        refine ⟨i + 1, _, by omega, by go_num, ?_, rfl⟩
        rw [HX.out]
        first | rfl | (congr 1; omega) | (simp; omega)
      case measure => simp [intOf]; omega
    · obtain rfl : i = k := by omega
      have ht : cs.take i = cs := List.take_of_length_le (by rw [HN.out.1]; exact Nat.le_refl _)
      rw [ht]
      obtain ⟨s, hs⟩ : ∃ s, s = sumC cs := ⟨_, rfl⟩
      have hd : decide ((s : Int) ≤ 3000) = decide (s ≤ 3000) := by
        by_cases h : s ≤ 3000
        · simp [h]; omega
        · simp [h]; omega
      rw [← hs]
      have HD := Lib.hid (And.intro hs hd); clear hs hd ht
      go_wp2_with fail
      go_loopw [5, 7] (fun t5 t7 wr => t5 = .int .i64 (s : Int) ∧ t7 = .int .i64 0 ∧ wr = w.drewN k2) (fun _ _ _ => 0)
      case atStart => exact ⟨rfl, rfl, rfl⟩
      case round =>
        obtain ⟨rfl, rfl, rfl⟩ := hrel
        go_wp2_with fail
        go_ret
        refine ⟨?_, k2, rfl⟩
        simp [← HD.out.1]; omega
/-- Which kind an algorithm's number names. -/
theorem kindOf (a : Nat) (h1 : 1 ≤ a) (h7 : a ≤ 7) : ∃ K : MKind, K.alg = a := by
  have : a = 1 ∨ a = 2 ∨ a = 3 ∨ a = 4 ∨ a = 5 ∨ a = 6 ∨ a = 7 := by omega
  rcases this with rfl | rfl | rfl | rfl | rfl | rfl | rfl
  · exact ⟨.hm false, rfl⟩
  · exact ⟨.hm true, rfl⟩
  · exact ⟨.cm, rfl⟩
  · exact ⟨.km false false, rfl⟩
  · exact ⟨.km true false, rfl⟩
  · exact ⟨.km false true, rfl⟩
  · exact ⟨.km true true, rfl⟩
theorem alg_lt (K : MKind) : 1 ≤ K.alg ∧ K.alg ≤ 7 := by
  rcases K with (wide | wide) | _ | ⟨large | large, xof | xof⟩ <;> simp only [MKind.alg] <;> omega
set_option maxHeartbeats 1000000 in
theorem refKnown (w : World) (a : Nat) : Calls Tryz.prog 42 #[.int .u8 (a : Int)] w fun e w' => e = .returned (.bool (decide (1 ≤ a ∧ a ≤ 7))) ∧ w' = w := by
  have hc : (1 ≤ a ∧ a ≤ 7) ∨ a < 1 ∨ (1 ≤ a ∧ 7 < a) := by omega
  rcases hc with h | h | h
  · have g1 : (1 : Int) ≤ (a : Int) := by omega
    have g2 : (a : Int) ≤ 7 := by omega
    rw [decide_eq_true h]
    clear h
    go_enter Tryz.func42, Tryz.ntmps42
    go_wp2
    go_ret
    exact ⟨rfl, rfl⟩
  · have g1 : ¬ (1 : Int) ≤ (a : Int) := by omega
    rw [decide_eq_false (show ¬ (1 ≤ a ∧ a ≤ 7) by omega)]
    clear h
    go_enter Tryz.func42, Tryz.ntmps42
    go_wp2
    go_ret
    exact ⟨rfl, rfl⟩
  · have g1 : (1 : Int) ≤ (a : Int) := by omega
    have g2 : ¬ (a : Int) ≤ 7 := by omega
    rw [decide_eq_false (show ¬ (1 ≤ a ∧ a ≤ 7) by omega)]
    clear h
    go_enter Tryz.func42, Tryz.ntmps42
    go_wp2
    go_ret
    exact ⟨rfl, rfl⟩
set_option maxHeartbeats 4000000 in
theorem refMost (w : World) (K : MKind) : Calls Tryz.prog 45 #[.int .u8 (K.alg : Int)] w fun e w' => e = .returned (.int .i64 (K.most : Int)) ∧ w' = w := by
  rcases K with (wide | wide) | _ | ⟨large | large, xof | xof⟩
  all_goals
    simp only [MKind.alg, MKind.most, hsz]
    go_enter Tryz.func45, Tryz.ntmps45
    go_wp2
    go_ret
    exact ⟨rfl, rfl⟩
set_option maxHeartbeats 4000000 in
theorem refCustom (w : World) (K : MKind) : Calls Tryz.prog 44 #[.int .u8 (K.alg : Int)] w fun e w' => e = .returned (.bool K.cust) ∧ w' = w := by
  rcases K with (wide | wide) | _ | ⟨large | large, xof | xof⟩
  all_goals
    simp only [MKind.alg, MKind.cust]
    go_enter Tryz.func44, Tryz.ntmps44
    go_wp2
    go_ret
    exact ⟨rfl, rfl⟩
set_option maxHeartbeats 4000000 in
theorem refKey (w : World) (K : MKind) (n : Nat) : Calls Tryz.prog 43 #[.int .u8 (K.alg : Int), .int .i64 (n : Int)] w fun e w' => e = .returned (.bool (K.keyOk n)) ∧ w' = w := by
  have h0 : (0 : Int) ≤ (n : Int) := by omega
  by_cases h : n = 16 ∨ n = 24 ∨ n = 32
  · have e : (n == 16 || n == 24 || n == 32) = true := by simp only [Bool.or_eq_true, beq_iff_eq]; omega
    rcases K with (wide | wide) | _ | ⟨large | large, xof | xof⟩
    all_goals
      simp only [MKind.alg, MKind.keyOk, e]
      rcases h with rfl | rfl | rfl
      all_goals
        go_enter Tryz.func43, Tryz.ntmps43
        go_wp2
        go_ret
        exact ⟨rfl, rfl⟩
  · have e : (n == 16 || n == 24 || n == 32) = false := by simp only [Bool.or_eq_false_iff, beq_eq_false_iff_ne]; omega
    have e1 : ((n : Int) == 16) = false := by rw [beq_eq_false_iff_ne]; omega
    have e2 : ((n : Int) == 24) = false := by rw [beq_eq_false_iff_ne]; omega
    have e3 : ((n : Int) == 32) = false := by rw [beq_eq_false_iff_ne]; omega
    clear h
    rcases K with (wide | wide) | _ | ⟨large | large, xof | xof⟩
    all_goals
      simp only [MKind.alg, MKind.keyOk, e]
      go_enter Tryz.func43, Tryz.ntmps43
      go_wp2
      go_ret
      exact ⟨rfl, rfl⟩
end Go.Proofs.YtooolimpkafhaaaGreat

/- Layer 17: the document's code; a case as an argument; MacBegins' walk; under the conditions that each names. -/
namespace Go.Proofs.YtooolimpkafhaaaGreat
open Go.RowKit Go.Sep Go.Bv Go.Kec Go.Aes Go.Sha
open Go.ChangeShapes Go.WideShapes Go.ChangeAt
set_option linter.unusedVariables false
set_option linter.unusedSimpArgs false
set_option maxRecDepth 100000 in
set_option maxHeartbeats 8000000 in
theorem refCodeK (w : World) (K : MKind) (nk n : Nat) (out : Int) : Calls Tryz.prog 13 #[.int .u8 (K.alg : Int), .int .i64 (nk : Int), .int .i64 (n : Int), .int .i64 out] w fun e w' => e = .returned (.int .i64 (K.code nk n out)) ∧ w' = w := by
  have h1 := fun w => refKnown w K.alg
  rw [decide_eq_true (alg_lt K)] at h1
  have h2 := fun w => refKey w K nk
  have h3 := fun w => refCustom w K
  have h4 := fun w => refMost w K
  have hcode : K.code nk n out = if K.keyOk nk = false then 7 else if 0 < n ∧ K.cust = false then 2 else if 64 < n then 9 else if out < 1 ∨ (K.most : Int) < out then 11 else 0 := rfl
  obtain ⟨al, hal⟩ : ∃ al : Nat, al = K.alg := ⟨_, rfl⟩
  obtain ⟨mo, hmo⟩ : ∃ mo : Nat, mo = K.most := ⟨_, rfl⟩
  obtain ⟨cu, hcu⟩ : ∃ cu : Bool, cu = K.cust := ⟨_, rfl⟩
  obtain ⟨ko, hko⟩ : ∃ ko : Bool, ko = K.keyOk nk := ⟨_, rfl⟩
  rw [← hal] at h1
  rw [← hal, ← hko] at h2
  rw [← hal, ← hcu] at h3
  rw [← hal, ← hmo] at h4
  rw [← hal]
  rw [← hko, ← hcu, ← hmo] at hcode
  rw [hcode]
  have HN := Lib.hid (And.intro h1 (And.intro h2 (And.intro h3 h4))); clear h1 h2 h3 h4 hcode hal hmo hcu hko
  cases ko with
  | false =>
    rw [if_pos rfl]
    go_enter Tryz.func13, Tryz.ntmps13
    go_wp2_with fail
    refine (HN.out.1 _).mono ?_
    rintro e w1 ⟨rfl, rfl⟩
    go_wp2_with fail
    refine (HN.out.2.1 _).mono ?_
    rintro e w2 ⟨rfl, rfl⟩
    go_wp2_with fail
    refine (HN.out.2.2.1 _).mono ?_
    rintro e w3 ⟨rfl, rfl⟩
    go_wp2_with fail
    go_ret
    exact ⟨rfl, rfl⟩
  | true =>
    rw [if_neg (by decide)]
    by_cases h2 : 0 < n ∧ cu = false
    · rw [if_pos h2]
      obtain ⟨h2, rfl⟩ := h2
      have g1 : (0 : Int) < (n : Int) := by omega
      clear h2
      go_enter Tryz.func13, Tryz.ntmps13
      go_wp2_with fail
      refine (HN.out.1 _).mono ?_
      rintro e w1 ⟨rfl, rfl⟩
      go_wp2_with fail
      refine (HN.out.2.1 _).mono ?_
      rintro e w2 ⟨rfl, rfl⟩
      go_wp2_with fail
      refine (HN.out.2.2.1 _).mono ?_
      rintro e w3 ⟨rfl, rfl⟩
      go_wp2_with fail
      go_ret
      exact ⟨rfl, rfl⟩
    · rw [if_neg h2]
      have hn : (n = 0) ∨ (0 < n ∧ cu = true) := by
        rcases Nat.eq_zero_or_pos n with h | h
        · exact .inl h
        · refine .inr ⟨h, ?_⟩
          cases cu with
          | true => rfl
          | false => exact absurd ⟨h, rfl⟩ h2
      clear h2
      by_cases h9 : 64 < n
      · rw [if_pos h9]
        have hcu : cu = true := by
          rcases hn with h | h
          · omega
          · exact h.2
        subst hcu
        have g1 : (0 : Int) < (n : Int) := by omega
        have g2 : (64 : Int) < (n : Int) := by omega
        clear h9 hn
        go_enter Tryz.func13, Tryz.ntmps13
        go_wp2_with fail
        refine (HN.out.1 _).mono ?_
        rintro e w1 ⟨rfl, rfl⟩
        go_wp2_with fail
        refine (HN.out.2.1 _).mono ?_
        rintro e w2 ⟨rfl, rfl⟩
        go_wp2_with fail
        refine (HN.out.2.2.1 _).mono ?_
        rintro e w3 ⟨rfl, rfl⟩
        go_wp2_with fail
        go_ret
        exact ⟨rfl, rfl⟩
      · rw [if_neg h9]
        have g2 : (n : Int) ≤ 64 := by omega
        clear h9
        by_cases h11 : out < 1 ∨ (mo : Int) < out
        · rw [if_pos h11]
          have ho : out < 1 ∨ (1 ≤ out ∧ (mo : Int) < out) := by omega
          clear h11
          rcases hn with rfl | ⟨h0, rfl⟩
          · rcases ho with ho | ⟨ho, ho2⟩
            · skip
              go_enter Tryz.func13, Tryz.ntmps13
              go_wp2_with fail
              refine (HN.out.1 _).mono ?_
              rintro e w1 ⟨rfl, rfl⟩
              go_wp2_with fail
              refine (HN.out.2.1 _).mono ?_
              rintro e w2 ⟨rfl, rfl⟩
              go_wp2_with fail
              refine (HN.out.2.2.1 _).mono ?_
              rintro e w3 ⟨rfl, rfl⟩
              go_wp2_with fail
              go_ret
              exact ⟨rfl, rfl⟩
            · skip
              go_enter Tryz.func13, Tryz.ntmps13
              go_wp2_with fail
              refine (HN.out.1 _).mono ?_
              rintro e w1 ⟨rfl, rfl⟩
              go_wp2_with fail
              refine (HN.out.2.1 _).mono ?_
              rintro e w2 ⟨rfl, rfl⟩
              go_wp2_with fail
              refine (HN.out.2.2.1 _).mono ?_
              rintro e w3 ⟨rfl, rfl⟩
              go_wp2_with fail
              refine (HN.out.2.2.2 _).mono ?_
              rintro e w4 ⟨rfl, rfl⟩
              go_wp2_with fail
              go_ret
              exact ⟨rfl, rfl⟩
          · have g1 : (0 : Int) < (n : Int) := by omega
            clear h0
            rcases ho with ho | ⟨ho, ho2⟩
            · skip
              go_enter Tryz.func13, Tryz.ntmps13
              go_wp2_with fail
              refine (HN.out.1 _).mono ?_
              rintro e w1 ⟨rfl, rfl⟩
              go_wp2_with fail
              refine (HN.out.2.1 _).mono ?_
              rintro e w2 ⟨rfl, rfl⟩
              go_wp2_with fail
              refine (HN.out.2.2.1 _).mono ?_
              rintro e w3 ⟨rfl, rfl⟩
              go_wp2_with fail
              go_ret
              exact ⟨rfl, rfl⟩
            · skip
              go_enter Tryz.func13, Tryz.ntmps13
              go_wp2_with fail
              refine (HN.out.1 _).mono ?_
              rintro e w1 ⟨rfl, rfl⟩
              go_wp2_with fail
              refine (HN.out.2.1 _).mono ?_
              rintro e w2 ⟨rfl, rfl⟩
              go_wp2_with fail
              refine (HN.out.2.2.1 _).mono ?_
              rintro e w3 ⟨rfl, rfl⟩
              go_wp2_with fail
              refine (HN.out.2.2.2 _).mono ?_
              rintro e w4 ⟨rfl, rfl⟩
              go_wp2_with fail
              go_ret
              exact ⟨rfl, rfl⟩
        · rw [if_neg h11]
          have ho : 1 ≤ out := by omega
          have ho2 : out ≤ (mo : Int) := by omega
          clear h11
          rcases hn with rfl | ⟨h0, rfl⟩
          · skip
            go_enter Tryz.func13, Tryz.ntmps13
            go_wp2_with fail
            refine (HN.out.1 _).mono ?_
            rintro e w1 ⟨rfl, rfl⟩
            go_wp2_with fail
            refine (HN.out.2.1 _).mono ?_
            rintro e w2 ⟨rfl, rfl⟩
            go_wp2_with fail
            refine (HN.out.2.2.1 _).mono ?_
            rintro e w3 ⟨rfl, rfl⟩
            go_wp2_with fail
            refine (HN.out.2.2.2 _).mono ?_
            rintro e w4 ⟨rfl, rfl⟩
            go_wp2_with fail
            go_ret
            exact ⟨rfl, rfl⟩
          · have g1 : (0 : Int) < (n : Int) := by omega
            clear h0
            go_enter Tryz.func13, Tryz.ntmps13
            go_wp2_with fail
            refine (HN.out.1 _).mono ?_
            rintro e w1 ⟨rfl, rfl⟩
            go_wp2_with fail
            refine (HN.out.2.1 _).mono ?_
            rintro e w2 ⟨rfl, rfl⟩
            go_wp2_with fail
            refine (HN.out.2.2.1 _).mono ?_
            rintro e w3 ⟨rfl, rfl⟩
            go_wp2_with fail
            refine (HN.out.2.2.2 _).mono ?_
            rintro e w4 ⟨rfl, rfl⟩
            go_wp2_with fail
            go_ret
            exact ⟨rfl, rfl⟩
set_option maxHeartbeats 4000000 in
theorem refCodeNone (w : World) (a nk n : Nat) (out : Int) (ha : a < 1 ∨ 7 < a) : Calls Tryz.prog 13 #[.int .u8 (a : Int), .int .i64 (nk : Int), .int .i64 (n : Int), .int .i64 out] w fun e w' => e = .returned (.int .i64 4) ∧ w' = w := by
  have h1 := fun w => refKnown w a
  rw [decide_eq_false (show ¬ (1 ≤ a ∧ a ≤ 7) by omega)] at h1
  have h2 : ∀ w, Calls Tryz.prog 43 #[.int .u8 (a : Int), .int .i64 (nk : Int)] w fun e w' => ∃ b : Bool, e = .returned (.bool b) ∧ w' = w := by
    intro w
    have e3 : ((a : Int) == 3) = false := by rw [beq_eq_false_iff_ne]; omega
    have g0 : (0 : Int) ≤ (nk : Int) := by omega
    clear ha h1
    go_enter Tryz.func43, Tryz.ntmps43
    go_wp2
    go_ret
    exact ⟨_, rfl, rfl⟩
  have h3 : ∀ w, Calls Tryz.prog 44 #[.int .u8 (a : Int)] w fun e w' => ∃ b : Bool, e = .returned (.bool b) ∧ w' = w := by
    intro w
    clear ha h1 h2
    go_enter Tryz.func44, Tryz.ntmps44
    go_wp2
    go_ret
    exact ⟨_, rfl, rfl⟩
  have HN := Lib.hid (And.intro h1 (And.intro h2 h3)); clear h1 h2 h3 ha
  go_enter Tryz.func13, Tryz.ntmps13
  go_wp2_with fail
  refine (HN.out.1 _).mono ?_
  rintro e w1 ⟨rfl, rfl⟩
  go_wp2_with fail
  refine (HN.out.2.1 _).mono ?_
  rintro e w2 ⟨b2, rfl, rfl⟩
  go_wp2_with fail
  refine (HN.out.2.2 _).mono ?_
  rintro e w3 ⟨b3, rfl, rfl⟩
  go_wp2_with fail
  go_ret
  exact ⟨rfl, rfl⟩
/-- A case that reads as one. -/
structure CaseA (W : World) (x : CaseC) (key custom : List Byte) : Prop where
  alg : ∃ b : Byte, x.a = v8 b
  key : IsBytes W x.kp x.kn x.kc key
  custom : IsBytes W x.cp x.cn x.cc custom
  out : -9223372036854775808 ≤ x.out ∧ x.out ≤ 9223372036854775807
/-- What the code 0 says. -/
theorem code_fits {K : MKind} {key custom : List Byte} {out : Int} (h : K.code key.length custom.length out = 0) (hk : key.length ≤ 100000000) : ∃ o : Nat, out = (o : Int) ∧ K.fits key custom o := by
  unfold MKind.code at h
  by_cases h7 : K.keyOk key.length = false
  · rw [if_pos h7] at h; cases h
  rw [if_neg h7] at h
  by_cases h2 : 0 < custom.length ∧ K.cust = false
  · rw [if_pos h2] at h; cases h
  rw [if_neg h2] at h
  by_cases h9 : 64 < custom.length
  · rw [if_pos h9] at h; cases h
  rw [if_neg h9] at h
  by_cases h11 : out < 1 ∨ (K.most : Int) < out
  · rw [if_pos h11] at h; cases h
  obtain ⟨o, rfl⟩ : ∃ o : Nat, out = (o : Int) := ⟨out.toNat, by omega⟩
  refine ⟨o, rfl, by omega, by omega, hk, ?_⟩
  cases K with
  | hm wide =>
    simp only [MKind.cust, and_true] at h2
    exact List.eq_nil_of_length_eq_zero (by omega)
  | cm =>
    simp only [MKind.cust, and_true] at h2
    refine ⟨List.eq_nil_of_length_eq_zero (by omega), ?_⟩
    simp only [MKind.keyOk, Bool.not_eq_false, Bool.or_eq_true, beq_iff_eq] at h7
    omega
  | km large xof => simp only; omega
theorem cut_roomy : Roomy [] := ⟨by decide, by decide⟩
end Go.Proofs.YtooolimpkafhaaaGreat

/- Arguments that are lists of calls with bytes in them: how they read; under the conditions that each names. -/
namespace Go.Proofs.YtooolimpkafhaaaGreat
open Go.RowKit Go.Sep Go.Bv Go.Sha
open Go.ChangeShapes Go.WideShapes Go.ChangeAt
set_option linter.unusedVariables false
set_option linter.unusedSimpArgs false
theorem spot_none {W : World} {x : Addr} {v : Value} (h : W.cell? x = some v) : x.spot = none := by
  unfold World.cell? at h
  cases hs : x.spot with
  | none => rfl
  | some s => simp only [hs] at h; split at h <;> simp_all
/-- Bytes out of a value that reads as bytes, where it stands among others. -/
theorem trod_bytes {H : Type} {enc : TypeId × Value → H} {W : World} {base : Nat} {held : Bool} {fuel : Nat} {cs : List Value} {d : DataW H} {p : List MemPlace} (h : DataW.trod enc Tryz.prog W base (fun _ => true) held fuel 23 cs = some (d, p)) :
    ∃ q : Option Addr × Nat × Nat × List Byte, cs = [.slice q.1 q.2.1 q.2.2.1] ∧ IsBytes W q.1 q.2.1 q.2.2.1 q.2.2.2 ∧ q.2.2.1 + 1 ≤ Rows.uptoBulk d := by
  rcases open_ints (k := .u8) Tryz.underlying23 Tryz.underlying5 cells_u8 h with ⟨hcs, hx⟩ | ⟨x, l, c, zs, hcs, _, hl, hm, hz, hx, hc, hwf⟩
  · simp only [Prod.mk.injEq] at hx
    obtain ⟨rfl, _⟩ := hx
    exact ⟨(none, 0, 0, []), hcs, ⟨rfl, Nat.le_refl _, Nat.zero_le _, .inl rfl⟩, by simp [Rows.uptoBulk]⟩
  · simp only [if_true] at hz
    simp only [Prod.mk.injEq] at hx
    obtain ⟨rfl, _⟩ := hx
    have hlen : (zs.take l).length = l := by rw [List.length_take]; omega
    refine ⟨(some x, l, c, (zs.take l).map (BitVec.ofInt 8)), hcs, ⟨by rw [List.length_map, hlen], hl, hm, ?_⟩, ?_⟩
    · by_cases h0 : l = 0
      · subst h0; exact .inl (by simp)
      · have hx0 := spot_none (hc 0 (by omega))
        obtain ⟨b, o, sp⟩ := x
        have hsp : sp = none := by
          have : (Addr.add ⟨b, o, sp⟩ 0).spot = none := hx0
          unfold Addr.add at this
          cases sp with
          | none => rfl
          | some s => simp at this
        subst hsp
        refine .inr ⟨b, o, rfl, fun i v hv => ?_⟩
        simp only [u8s, List.map_map, List.getElem?_map, Option.map_eq_some_iff, Function.comp] at hv
        obtain ⟨z, hz1, rfl⟩ := hv
        rw [List.getElem?_take] at hz1
        split at hz1
        · rename_i hi
          have hc1 := hc i (by omega)
          have hzm : z ∈ zs := List.mem_of_getElem? hz1
          have hw := hwf z hzm
          have hzb : 0 ≤ z ∧ z < 256 := by
            simp only [Lit.wf, Bool.and_eq_true, decide_eq_true_eq] at hw
            have h1 : IntKind.u8.min = 0 := rfl
            have h2 : IntKind.u8.max = 255 := rfl
            rw [h1, h2] at hw
            omega
          rw [v8_ofInt z hzb.1 hzb.2]
          rw [add_lit'] at hc1
          rw [hc1, List.getD_eq_getElem?_getD, hz1]; rfl
        · cases hz1
    · simp only [Rows.uptoBulk, bulk_lits, List.length_take, List.length_drop]
      omega
end Go.Proofs.YtooolimpkafhaaaGreat

/- Layer 17: a case as an argument; under the conditions that each names. -/
namespace Go.Proofs.YtooolimpkafhaaaGreat
open Go.RowKit Go.Sep Go.Bv Go.Kec Go.Aes Go.Sha
open Go.ChangeShapes Go.WideShapes Go.ChangeAt
set_option linter.unusedVariables false
set_option linter.unusedSimpArgs false
theorem cells_alg : Tryz.prog.cellsOf 22 = 1 := by kernel_rfl
theorem cells_sl8 : Tryz.prog.cellsOf 23 = 1 := by kernel_rfl
theorem cells_int : Tryz.prog.cellsOf 3 = 1 := by kernel_rfl
theorem wf_u8 (z : Int) (h : (Lit.int .u8 z).wf = true) : 0 ≤ z ∧ z < 256 := by
  simp only [Lit.wf, Bool.and_eq_true, decide_eq_true_eq] at h
  have h1 : IntKind.u8.min = 0 := rfl
  have h2 : IntKind.u8.max = 255 := rfl
  rw [h1, h2] at h
  omega
theorem wf_i64 (z : Int) (h : (Lit.int .i64 z).wf = true) : -9223372036854775808 ≤ z ∧ z ≤ 9223372036854775807 := by
  simp only [Lit.wf, Bool.and_eq_true, decide_eq_true_eq] at h
  have h1 : IntKind.i64.min = -9223372036854775808 := rfl
  have h2 : IntKind.i64.max = 9223372036854775807 := rfl
  rw [h1, h2] at h
  exact h
set_option maxRecDepth 100000 in
theorem open_case {H : Type} {enc : TypeId × Value → H} {W : World} {base b0 : Nat} {held : Bool} {v : Value} {d : DataW H} {p : List MemPlace} (hv : Value.okWide Tryz.prog W .any b0 25 v) (h : DataW.Trod enc Tryz.prog W base (fun _ => true) held 25 v d p) :
    ∃ q : CaseC × List Byte × List Byte, v = .agg (encC q.1).toArray ∧ CaseA W q.1 q.2.1 q.2.2 ∧ q.1.kc + q.1.cc ≤ Rows.uptoBulk d := by
  obtain ⟨cs, rfl, hsz⟩ := okWide_struct Tryz.underlying25 hv
  obtain ⟨fuel, hf⟩ := h
  obtain ⟨xs, n, _, hx, hl, hlen, hfld⟩ := DataW.trod_struct Tryz.underlying25 hf
  match xs, hlen with
  | [x0, x1, x2, x3], _ =>
    have hcl : cs.toList.length = 4 := by
      have h4 : Tryz.prog.cellsOf 25 = 4 := by kernel_rfl
      rw [Array.length_toList, hsz, h4]
    have f0 : DataW.trod enc Tryz.prog W base (fun _ => true) held n 22 ((cs.toList.drop 0).take (Tryz.prog.cellsOf 22)) = some x0 := hfld 0 _ rfl
    have f1 : DataW.trod enc Tryz.prog W base (fun _ => true) held n 23 ((cs.toList.drop 1).take (Tryz.prog.cellsOf 23)) = some x1 := hfld 1 _ rfl
    have f2 : DataW.trod enc Tryz.prog W base (fun _ => true) held n 23 ((cs.toList.drop 2).take (Tryz.prog.cellsOf 23)) = some x2 := hfld 2 _ rfl
    have f3 : DataW.trod enc Tryz.prog W base (fun _ => true) held n 3 ((cs.toList.drop 3).take (Tryz.prog.cellsOf 3)) = some x3 := hfld 3 _ rfl
    rw [cells_alg] at f0
    rw [cells_sl8] at f1 f2
    rw [cells_int] at f3
    match hc : cs.toList, hcl with
    | [c0, c1, c2, c3], _ =>
      rw [hc] at f0 f1 f2 f3
      obtain ⟨z, h0, _, hw0⟩ := DataW.trod_int Tryz.underlying22 f0
      obtain ⟨o, h3, _, hw3⟩ := DataW.trod_int Tryz.underlying3 f3
      obtain ⟨y1, y2⟩ := x1
      obtain ⟨z1, z2⟩ := x2
      obtain ⟨q1, h1, hb1, hu1⟩ := trod_bytes f1
      obtain ⟨q2, h2, hb2, hu2⟩ := trod_bytes f2
      simp only [List.drop_zero, List.drop_succ_cons, List.take_succ_cons, List.take_zero, List.cons.injEq, and_true] at h0 h1 h2 h3
      subst h0 h1 h2 h3
      have hb := wf_u8 z hw0
      refine ⟨(⟨z, q1.1, q1.2.1, q1.2.2.1, q2.1, q2.2.1, q2.2.2.1, o⟩, q1.2.2.2, q2.2.2.2), ?_, ⟨⟨BitVec.ofInt 8 z, (v8_ofInt z hb.1 hb.2).symm⟩, hb1, hb2, wf_i64 o hw3⟩, ?_⟩
      · have : cs = (cs.toList).toArray := by simp
        rw [this, hc]; rfl
      · simp only [Prod.mk.injEq] at hx
        obtain ⟨rfl, _⟩ := hx
        simp only [List.map_cons, List.map_nil, Rows.uptoBulk, Rows.uptoBulkAll]
        omega
end Go.Proofs.YtooolimpkafhaaaGreat
