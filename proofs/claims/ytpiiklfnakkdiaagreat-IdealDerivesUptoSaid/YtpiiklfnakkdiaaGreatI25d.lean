
/- IdealDerives: derived keys are those of the layers below; where the arguments read as a bool, bytes and numbers. -/
import Derived.Test.YtpiiklfnakkdiaaGreatIdl19
import Derived.Test.YtpiiklfnakkdiaaGreatPick
import Derived.Test.YtpiiklfnakkdiaaGreatGG
namespace Go.Proofs.YtpiiklfnakkdiaaGreat
open Go.RowKit Go.Sep Go.Bv Go.Kec Go.Aes Go.Sha
set_option linter.unusedVariables false
set_option linter.unusedSimpArgs false
def algM (wide : Bool) : Nat := if wide then 2 else 1
theorem algM_algN (wide : Bool) : (algM wide : Int) = algN wide := by cases wide <;> rfl
theorem algM_W (wide : Bool) : algW (algM wide) = wide := by cases wide <;> rfl
theorem algM_or (wide : Bool) : algM wide = 1 ∨ algM wide = 2 := by cases wide <;> decide
theorem hsz_ge (wide : Bool) : 32 ≤ hsz wide := by cases wide <;> decide
def D1 (K : List Byte) : Slots := some (.key K) :: List.replicate 63 none
def D2 (K X : List Byte) : Slots := some (.key K) :: some (.key X) :: List.replicate 62 none
def D3 (K X Y : List Byte) : Slots := some (.key K) :: some (.key X) :: some (.key Y) :: List.replicate 61 none
theorem d1 (K : List Byte) (h : K.length ≤ 512) : iDo S0 ⟨1, 0, 0, 0, 0, K, []⟩ = (D1 K, ⟨0, 0, false, []⟩) := by
 show (if 512 < K.length then (S0, noA 7) else iTake S0 (.key K)) = _
 rw [if_neg (by omega)]
 rfl
theorem d2 (wide : Bool) (K SA I : List Byte) (on : Nat) (hs : SA.length ≤ 2000) (hi : I.length ≤ 2000) (h1 : 1 ≤ on) (h2 : on ≤ 100) : iDo (D1 K) ⟨7, 0, algM wide, 0, (on : Int), SA, I⟩ = (D2 K (hkdf wide (hmac wide SA K) I on), ⟨0, 1, false, []⟩) := by
 have e := iHkdf_some (S := D1 K) (o := ⟨7, 0, algM wide, 0, (on : Int), SA, I⟩) (H := .key K) rfl
 have hh := hsz_ge wide
 simp only at e
 rw [if_neg (by have := algM_or wide; omega), algM_W, if_neg (by rintro (h | h | h) <;> omega), if_neg (by omega), if_neg (show ¬ iFull (D1 K) = true by rw [show iFull (D1 K) = false from rfl]; decide), Int.toNat_natCast] at e
 rw [show iDo (D1 K) ⟨7, 0, algM wide, 0, (on : Int), SA, I⟩ = iHkdf (D1 K) ⟨7, 0, algM wide, 0, (on : Int), SA, I⟩ from rfl, e]
 rfl
theorem d3 (wide : Bool) (K X SA : List Byte) (cn on : Nat) (hs : SA.length ≤ 2000) (hc1 : 1 ≤ cn) (hc2 : cn ≤ 6) (h1 : 1 ≤ on) (h2 : on ≤ 100) : iDo (D2 K X) ⟨8, 0, algM wide, (cn : Int), (on : Int), SA, []⟩ = (D3 K X ((pbMany wide K SA cn (pbM wide on)).take on), ⟨0, 2, false, []⟩) := by
 have e := iPbkdf_some (S := D2 K X) (o := ⟨8, 0, algM wide, (cn : Int), (on : Int), SA, []⟩) (H := .key K) rfl
 have hh := hsz_ge wide
 simp only at e
 rw [if_neg (by have := algM_or wide; omega), algM_W, if_neg (by rintro (h | h) <;> omega), if_neg (by omega), if_neg (by omega), if_neg (show ¬ iFull (D2 K X) = true by rw [show iFull (D2 K X) = false from rfl]; decide), Int.toNat_natCast, Int.toNat_natCast] at e
 rw [show iDo (D2 K X) ⟨8, 0, algM wide, (cn : Int), (on : Int), SA, []⟩ = iPbkdf (D2 K X) ⟨8, 0, algM wide, (cn : Int), (on : Int), SA, []⟩ from rfl, e]
 rfl
theorem d4 (K X Y : List Byte) : iDo (D3 K X Y) ⟨9, 1, 0, 0, 0, [], []⟩ = (D3 K X Y, ⟨0, 0, false, X⟩) := rfl
theorem d5 (K X Y : List Byte) : iDo (D3 K X Y) ⟨9, 2, 0, 0, 0, [], []⟩ = (D3 K X Y, ⟨0, 0, false, Y⟩) := rfl
theorem okDo {B C : Nat} {S S' : Slots} {o : OpC} {a : Ans} (e : iDo S o = (S', a)) (h : okS B S) (hC : C = B + 65536) : okS C S' := by
 have h1 := iDo_ok (o := o) h
 rw [e] at h1
 subst hC
 exact h1
set_option maxRecDepth 100000 in
set_option maxHeartbeats 16000000 in
theorem idealDerives_any (W : World) (big : Bool) (pk ps pi : Option Addr) (kn kc sn sc ni ic : Nat) (K SA I : List Byte) (ct ot : Int) (hk : IsBytes W pk kn kc K) (hsa : IsBytes W ps sn sc SA) (hi : IsBytes W pi ni ic I) :
  Calls Tryz.prog 5 #[.bool big, .slice pk kn kc, .slice ps sn sc, .slice pi ni ic, .int .i64 ct, .int .i64 ot] W fun e W' => e = .returned (.bool true) ∧ Below W.heap.size W W' := by
 have s0 : Sat W W (bytes false pk K :: bytes false ps SA :: bytes false pi I :: []) := hk.sat (hsa.sat (hi.sat (Sat.nil W)))
 obtain ⟨hk1, hk2, hk3, -⟩ := hk
 obtain ⟨hs1, hs2, hs3, -⟩ := hsa
 obtain ⟨hi1, hi2, hi3, -⟩ := hi
 have HB := Lib.hid (And.intro hk1 (And.intro hk2 (And.intro hk3 (And.intro hs1 (And.intro hs2 (And.intro hs3 (And.intro hi1 (And.intro hi2 hi3)))))))); clear hk1 hk2 hk3 hs1 hs2 hs3 hi1 hi2 hi3
 by_cases hk : 512 < kn
 ·have gK : (512 : Int) < (kn : Int) := by omega
  go_enter Tryz.func5, Tryz.ntmps5
  go_wp2_with fail
  refine (awake25 s0).mono ?_
  rintro e w1 ⟨rfl, s1⟩
  clear s0
  have HS := Lib.hid s1.below; clear s1
  go_wp2_with fail
  go_ret
  exact ⟨rfl, HS.out⟩
 ·by_cases hs : 2000 < sn
  ·have gK : ¬ (512 : Int) < (kn : Int) := by omega
   have gS : (2000 : Int) < (sn : Int) := by omega
   go_enter Tryz.func5, Tryz.ntmps5
   go_wp2_with fail
   refine (awake25 s0).mono ?_
   rintro e w1 ⟨rfl, s1⟩
   clear s0
   have HS := Lib.hid s1.below; clear s1
   go_wp2_with fail
   go_ret
   exact ⟨rfl, HS.out⟩
  ·by_cases hi : 2000 < ni
   ·have gK : ¬ (512 : Int) < (kn : Int) := by omega
    have gS : ¬ (2000 : Int) < (sn : Int) := by omega
    have gI : (2000 : Int) < (ni : Int) := by omega
    go_enter Tryz.func5, Tryz.ntmps5
    go_wp2_with fail
    refine (awake25 s0).mono ?_
    rintro e w1 ⟨rfl, s1⟩
    clear s0
    have HS := Lib.hid s1.below; clear s1
    go_wp2_with fail
    go_ret
    exact ⟨rfl, HS.out⟩
   ·have gK : ¬ (512 : Int) < (kn : Int) := by omega
    have gS : ¬ (2000 : Int) < (sn : Int) := by omega
    have gI : ¬ (2000 : Int) < (ni : Int) := by omega
    have HLK : kn ≤ 512 := by omega
    have HLS : sn ≤ 2000 := by omega
    have HLI : ni ≤ 2000 := by omega
    clear hk hs hi
    cases big with
    | false =>
     go_enter Tryz.func5, Tryz.ntmps5
     go_wp2_with fail
     refine (awake25 s0).mono ?_
     rintro e w1 ⟨rfl, s1⟩
     clear s0
     go_wp2_with fail
     refine (pickG 6 rfl (by decide) (by decide)).mono ?_
     rintro e w2 ⟨c0, hc0, rfl, rfl⟩
     obtain ⟨cn, hcn⟩ : ∃ n : Nat, n = 1 + c0 := ⟨_, rfl⟩
     have hc1 : IntKind.i64.wrap (1 + (c0 : Int)) = (cn : Int) := by rw [IntKind.wrap_i64]; omega
     have HC := Lib.hid (show 1 ≤ cn ∧ cn ≤ 6 by omega); clear hcn hc0
     go_wp2_with fail
     clear hc1
     refine (pickG 100 rfl (by decide) (by decide)).mono ?_
     rintro e w3 ⟨o0, ho0, rfl, rfl⟩
     obtain ⟨on, hon⟩ : ∃ n : Nat, n = 1 + o0 := ⟨_, rfl⟩
     have ho1 : IntKind.i64.wrap (1 + (o0 : Int)) = (on : Int) := by rw [IntKind.wrap_i64]; omega
     have HN := Lib.hid (show 1 ≤ cn ∧ cn ≤ 6 ∧ 1 ≤ on ∧ on ≤ 100 from ⟨HC.out.1, HC.out.2, by omega, by omega⟩); clear hon ho0 HC
     go_wp2_with fail
     clear ho1
     refine (iNew s1).mono ?_
     rintro e w4 ⟨v, rfl, s4'⟩
     have s4 : Sat W w4 (vaultA v S0 :: bytes false pk K :: bytes false ps SA :: bytes false pi I :: []) := (Sat.sub (s4') (by with_reducible repeat first | exact Fr1 | exact Fr2 | (apply Fr3; focus ((repeat (first | exact Tk1 | apply Tk2)); done)) | apply Fr4))
     clear s1 s4'
     obtain ⟨X, hX⟩ : ∃ X, X = hkdf false (hmac false SA K) I on := ⟨_, rfl⟩
     obtain ⟨Y, hY⟩ : ∃ Y, Y = (pbMany false K SA cn (pbM false on)).take on := ⟨_, rfl⟩
     obtain ⟨yn, hyn⟩ : ∃ n, n = Y.length := ⟨_, rfl⟩
     have hxn : X.length = on := by rw [hX]; exact hkdf_len false _ _ on HN.out.2.2.1 (by have := hsz_ge false; have := HN.out.2.2.2; omega)
     have e1 := d1 K (by rw [HB.out.1]; exact HLK)
     have e2 := d2 false K SA I on (by rw [HB.out.2.2.2.1]; exact HLS) (by rw [HB.out.2.2.2.2.2.2.1]; exact HLI) HN.out.2.2.1 HN.out.2.2.2
     rw [← hX] at e2
     have e3 := d3 false K X SA cn on (by rw [HB.out.2.2.2.1]; exact HLS) HN.out.1 HN.out.2.1 HN.out.2.2.1 HN.out.2.2.2
     rw [← hY] at e3
     have o1 := okDo e1 (S0_ok 0) rfl
     have o2 := okDo e2 o1 rfl
     have o3 := okDo e3 o2 rfl
     have HE := Lib.hid (And.intro e1 (And.intro e2 (And.intro e3 (And.intro o1 (And.intro o2 (And.intro o3 (And.intro hxn (And.intro hyn.symm (And.intro hX hY))))))))); clear e1 e2 e3 o1 o2 o3 hxn hyn hX hY
     go_wp2_with fail
     refine (iDoY (md := false) (dp := pk) (dc := kc) (L := bytes false ps SA :: bytes false pi I :: []) 1 0 0 0 0 K HE.out.1 rfl rfl rfl rfl rfl rfl (S0_ok 0) (by decide) HB.out.1 HB.out.2.1 HB.out.2.2.1 (by omega) (Sat.sub (s4) (by with_reducible repeat first | exact Fr1 | exact Fr2 | (apply Fr3; focus ((repeat (first | exact Tk1 | apply Tk2)); done)) | apply Fr4))).mono ?_
     rintro e w5 ⟨qa, ca, rfl, _, _, s5'⟩
     have s5 : Sat W w5 (vaultA v (D1 K) :: bytes false pk K :: bytes false ps SA :: bytes false pi I :: []) := (Sat.sub (s5') (by with_reducible repeat first | exact Fr1 | exact Fr2 | (apply Fr3; focus ((repeat (first | exact Tk1 | apply Tk2)); done)) | apply Fr4))
     clear s4 s5'
     go_wp2_with (first | (refine wpl_alloc_agg rfl 35 rfl s5 _ (zero_ans _) ?_; intro w6a ga s5a _; clear s5) | (refine wpl_stAns rfl rfl (.tmp 16) (.tmp 53) rfl s5a rfl rfl ?_; intro w6 s6x; clear s5a))
     have s6 : Sat W w6 (vaultA v (D1 K) :: seg true ga 0 [.int .i64 0, .int .i64 0, .bool false, .slice qa 0 ca] :: bytes false pk K :: bytes false ps SA :: bytes false pi I :: []) := (Sat.sub (s6x) (by with_reducible repeat first | exact Fr1 | exact Fr2 | (apply Fr3; focus ((repeat (first | exact Tk1 | apply Tk2)); done)) | apply Fr4))
     clear s6x
     go_wp2_with fail
     refine (iDoX (v2 := .int .u8 1) (md := false) (mm := false) (dp := ps) (ep := pi) (dc := sc) (ec := ic) (L := seg true ga 0 [.int .i64 0, .int .i64 0, .bool false, .slice qa 0 ca] :: bytes false pk K :: []) 7 0 (algM false) 0 (on : Int) SA I HE.out.2.1 rfl rfl rfl rfl rfl rfl HE.out.2.2.2.1 (by decide) HB.out.2.2.2.1 HB.out.2.2.2.2.1 HB.out.2.2.2.2.2.1 (by omega) HB.out.2.2.2.2.2.2.1 HB.out.2.2.2.2.2.2.2.1 HB.out.2.2.2.2.2.2.2.2 (Sat.sub (s6) (by with_reducible repeat first | exact Fr1 | exact Fr2 | (apply Fr3; focus ((repeat (first | exact Tk1 | apply Tk2)); done)) | apply Fr4))).mono ?_
     rintro e w7 ⟨qb, cb, rfl, _, _, s7'⟩
     have s7 : Sat W w7 (vaultA v (D2 K X) :: seg true ga 0 [.int .i64 0, .int .i64 0, .bool false, .slice qa 0 ca] :: bytes false pk K :: bytes false ps SA :: bytes false pi I :: []) := (Sat.sub (s7') (by with_reducible repeat first | exact Fr1 | exact Fr2 | (apply Fr3; focus ((repeat (first | exact Tk1 | apply Tk2)); done)) | apply Fr4))
     clear s6 s7'
     go_wp2_with (first | (refine wpl_alloc_agg rfl 35 rfl s7 _ (zero_ans _) ?_; intro w8a gb s7a _; clear s7) | (refine wpl_stAns rfl rfl (.tmp 17) (.tmp 60) rfl s7a rfl rfl ?_; intro w8 s8x; clear s7a))
     have s8 : Sat W w8 (vaultA v (D2 K X) :: seg true ga 0 [.int .i64 0, .int .i64 0, .bool false, .slice qa 0 ca] :: seg true gb 0 [.int .i64 0, .int .i64 1, .bool false, .slice qb 0 cb] :: bytes false pk K :: bytes false ps SA :: bytes false pi I :: []) := (Sat.sub (s8x) (by with_reducible repeat first | exact Fr1 | exact Fr2 | (apply Fr3; focus ((repeat (first | exact Tk1 | apply Tk2)); done)) | apply Fr4))
     clear s8x
     go_wp2_with fail
     refine (iDoY (v2 := .int .u8 1) (md := false) (dp := ps) (dc := sc) (L := seg true ga 0 [.int .i64 0, .int .i64 0, .bool false, .slice qa 0 ca] :: seg true gb 0 [.int .i64 0, .int .i64 1, .bool false, .slice qb 0 cb] :: bytes false pk K :: bytes false pi I :: []) 8 0 (algM false) (cn : Int) (on : Int) SA HE.out.2.2.1 rfl rfl rfl rfl rfl rfl HE.out.2.2.2.2.1 (by decide) HB.out.2.2.2.1 HB.out.2.2.2.2.1 HB.out.2.2.2.2.2.1 (by omega) (Sat.sub (s8) (by with_reducible repeat first | exact Fr1 | exact Fr2 | (apply Fr3; focus ((repeat (first | exact Tk1 | apply Tk2)); done)) | apply Fr4))).mono ?_
     rintro e w9 ⟨qc, cc, rfl, _, _, s9'⟩
     have s9 : Sat W w9 (vaultA v (D3 K X Y) :: seg true ga 0 [.int .i64 0, .int .i64 0, .bool false, .slice qa 0 ca] :: seg true gb 0 [.int .i64 0, .int .i64 1, .bool false, .slice qb 0 cb] :: bytes false pk K :: bytes false ps SA :: bytes false pi I :: []) := (Sat.sub (s9') (by with_reducible repeat first | exact Fr1 | exact Fr2 | (apply Fr3; focus ((repeat (first | exact Tk1 | apply Tk2)); done)) | apply Fr4))
     clear s8 s9'
     go_wp2_with (first | (refine wpl_alloc_agg rfl 35 rfl s9 _ (zero_ans _) ?_; intro w10a gc s9a _; clear s9) | (refine wpl_stAns rfl rfl (.tmp 18) (.tmp 67) rfl s9a rfl rfl ?_; intro w10 s10x; clear s9a))
     have s10 : Sat W w10 (vaultA v (D3 K X Y) :: seg true ga 0 [.int .i64 0, .int .i64 0, .bool false, .slice qa 0 ca] :: seg true gb 0 [.int .i64 0, .int .i64 1, .bool false, .slice qb 0 cb] :: seg true gc 0 [.int .i64 0, .int .i64 2, .bool false, .slice qc 0 cc] :: bytes false pk K :: bytes false ps SA :: bytes false pi I :: []) := (Sat.sub (s10x) (by with_reducible repeat first | exact Fr1 | exact Fr2 | (apply Fr3; focus ((repeat (first | exact Tk1 | apply Tk2)); done)) | apply Fr4))
     clear s10x
     go_wp2_with fail
     refine (iDoZ 9 1 0 0 0 (d4 K X Y) HE.out.2.2.2.2.2.2.1 rfl rfl rfl rfl rfl HE.out.2.2.2.2.2.1 (by decide) s10).mono ?_
     rintro e w11 ⟨qd, cd, rfl, _, _, s11'⟩
     have s11 : Sat W w11 (vaultA v (D3 K X Y) :: bytes true qd X :: seg true ga 0 [.int .i64 0, .int .i64 0, .bool false, .slice qa 0 ca] :: seg true gb 0 [.int .i64 0, .int .i64 1, .bool false, .slice qb 0 cb] :: seg true gc 0 [.int .i64 0, .int .i64 2, .bool false, .slice qc 0 cc] :: bytes false pk K :: bytes false ps SA :: bytes false pi I :: []) := (Sat.sub (s11') (by with_reducible repeat first | exact Fr1 | exact Fr2 | (apply Fr3; focus ((repeat (first | exact Tk1 | apply Tk2)); done)) | apply Fr4))
     clear s10 s11'
     go_wp2_with (first | (refine wpl_alloc_agg rfl 35 rfl s11 _ (zero_ans _) ?_; intro w12a gd s11a _; clear s11) | (refine wpl_stAns rfl rfl (.tmp 19) (.tmp 70) rfl s11a rfl rfl ?_; intro w12 s12x; clear s11a))
     have s12 : Sat W w12 (vaultA v (D3 K X Y) :: bytes true qd X :: seg true ga 0 [.int .i64 0, .int .i64 0, .bool false, .slice qa 0 ca] :: seg true gb 0 [.int .i64 0, .int .i64 1, .bool false, .slice qb 0 cb] :: seg true gc 0 [.int .i64 0, .int .i64 2, .bool false, .slice qc 0 cc] :: seg true gd 0 [.int .i64 0, .int .i64 0, .bool false, .slice qd on cd] :: bytes false pk K :: bytes false ps SA :: bytes false pi I :: []) := (Sat.sub (s12x) (by with_reducible repeat first | exact Fr1 | exact Fr2 | (apply Fr3; focus ((repeat (first | exact Tk1 | apply Tk2)); done)) | apply Fr4))
     clear s12x
     go_wp2_with fail
     refine (iDoZ 9 2 0 0 0 (d5 K X Y) HE.out.2.2.2.2.2.2.2.1 rfl rfl rfl rfl rfl HE.out.2.2.2.2.2.1 (by decide) s12).mono ?_
     rintro e w13 ⟨qe, ce, rfl, _, _, s13'⟩
     have s13 : Sat W w13 (vaultA v (D3 K X Y) :: bytes true qe Y :: bytes true qd X :: seg true ga 0 [.int .i64 0, .int .i64 0, .bool false, .slice qa 0 ca] :: seg true gb 0 [.int .i64 0, .int .i64 1, .bool false, .slice qb 0 cb] :: seg true gc 0 [.int .i64 0, .int .i64 2, .bool false, .slice qc 0 cc] :: seg true gd 0 [.int .i64 0, .int .i64 0, .bool false, .slice qd on cd] :: bytes false pk K :: bytes false ps SA :: bytes false pi I :: []) := (Sat.sub (s13') (by with_reducible repeat first | exact Fr1 | exact Fr2 | (apply Fr3; focus ((repeat (first | exact Tk1 | apply Tk2)); done)) | apply Fr4))
     clear s12 s13'
     go_wp2_with (first | (refine wpl_alloc_agg rfl 35 rfl s13 _ (zero_ans _) ?_; intro w14a ge s13a _; clear s13) | (refine wpl_stAns rfl rfl (.tmp 20) (.tmp 73) rfl s13a rfl rfl ?_; intro w14 s14x; clear s13a))
     have s14 : Sat W w14 (vaultA v (D3 K X Y) :: bytes true qe Y :: bytes true qd X :: seg true ga 0 [.int .i64 0, .int .i64 0, .bool false, .slice qa 0 ca] :: seg true gb 0 [.int .i64 0, .int .i64 1, .bool false, .slice qb 0 cb] :: seg true gc 0 [.int .i64 0, .int .i64 2, .bool false, .slice qc 0 cc] :: seg true gd 0 [.int .i64 0, .int .i64 0, .bool false, .slice qd on cd] :: seg true ge 0 [.int .i64 0, .int .i64 0, .bool false, .slice qe yn ce] :: bytes false pk K :: bytes false ps SA :: bytes false pi I :: []) := (Sat.sub (s14x) (by with_reducible repeat first | exact Fr1 | exact Fr2 | (apply Fr3; focus ((repeat (first | exact Tk1 | apply Tk2)); done)) | apply Fr4))
     clear s14x
     go_wp2_with fail
     have s14e : Sat W w14 (ledO none [] :: _) := s14.addEmp
     refine (hkKey (L := bytes true qe Y :: bytes true qd X :: seg true ga 0 [.int .i64 0, .int .i64 0, .bool false, .slice qa 0 ca] :: seg true gb 0 [.int .i64 0, .int .i64 1, .bool false, .slice qb 0 cb] :: seg true gc 0 [.int .i64 0, .int .i64 2, .bool false, .slice qc 0 cc] :: seg true gd 0 [.int .i64 0, .int .i64 0, .bool false, .slice qd on cd] :: seg true ge 0 [.int .i64 0, .int .i64 0, .bool false, .slice qe yn ce] :: []) (pv := .pointer none) (av := .int .u8 1) (kc := kc) (sc := sc) (ic := ic) false none [] K SA I rfl rfl HB.out.1 HB.out.2.1 HB.out.2.2.1 HB.out.2.2.2.1 HB.out.2.2.2.2.1 HB.out.2.2.2.2.2.1 HB.out.2.2.2.2.2.2.1 HB.out.2.2.2.2.2.2.2.1 HB.out.2.2.2.2.2.2.2.2 (by have := hsz_ge false; have := HN.out.2.2.2; omega) (by simp only [tot]; omega) (by simp) (Sat.sub (s14e) (by with_reducible repeat first | exact Fr1 | exact Fr2 | (apply Fr3; focus ((repeat (first | exact Tk1 | apply Tk2)); done)) | apply Fr4))).mono ?_
     rintro e w15 ⟨qx, cx, rfl, _, _, s15'⟩
     rw [← HE.out.2.2.2.2.2.2.2.2.1] at s15'
     have s15 : Sat W w15 (bytes false pk K :: bytes false ps SA :: bytes true qx X :: bytes true qe Y :: bytes true qd X :: seg true ga 0 [.int .i64 0, .int .i64 0, .bool false, .slice qa 0 ca] :: seg true gb 0 [.int .i64 0, .int .i64 1, .bool false, .slice qb 0 cb] :: seg true gc 0 [.int .i64 0, .int .i64 2, .bool false, .slice qc 0 cc] :: seg true gd 0 [.int .i64 0, .int .i64 0, .bool false, .slice qd on cd] :: seg true ge 0 [.int .i64 0, .int .i64 0, .bool false, .slice qe yn ce] :: []) := (Sat.sub (s15') (by with_reducible repeat first | exact Fr1 | exact Fr2 | (apply Fr3; focus ((repeat (first | exact Tk1 | apply Tk2)); done)) | apply Fr4))
     clear s14 s14e s15'
     go_wp2_with fail
     refine (pbKeyG (L := bytes true qx X :: bytes true qe Y :: bytes true qd X :: seg true ga 0 [.int .i64 0, .int .i64 0, .bool false, .slice qa 0 ca] :: seg true gb 0 [.int .i64 0, .int .i64 1, .bool false, .slice qb 0 cb] :: seg true gc 0 [.int .i64 0, .int .i64 2, .bool false, .slice qc 0 cc] :: seg true gd 0 [.int .i64 0, .int .i64 0, .bool false, .slice qd on cd] :: seg true ge 0 [.int .i64 0, .int .i64 0, .bool false, .slice qe yn ce] :: []) (pv := .pointer none) (av := .int .u8 1) (cv := .int .i64 (cn : Int)) (nv := .int .i64 (on : Int)) (ck := kc) (cs := sc) false K SA cn on rfl rfl rfl rfl HB.out.1 HB.out.2.2.2.1 HB.out.2.1 HB.out.2.2.1 HB.out.2.2.2.2.1 HB.out.2.2.2.2.2.1 HN.out.1 (by have := HN.out.2.1; omega) (by have := HN.out.2.2.2; omega) (by omega) (by omega) s15).mono ?_
     rintro e w16 ⟨qy, rfl, hyl, _, s16'⟩
     rw [← HE.out.2.2.2.2.2.2.2.2.2] at s16' hyl
     have hyo : yn = on := by rw [← HE.out.2.2.2.2.2.2.2.1]; exact hyl
     obtain rfl := hyo
     have s16 : Sat W w16 (bytes true qd X :: bytes true qx X :: bytes true qe Y :: bytes true qy Y :: seg true ga 0 [.int .i64 0, .int .i64 0, .bool false, .slice qa 0 ca] :: seg true gb 0 [.int .i64 0, .int .i64 1, .bool false, .slice qb 0 cb] :: seg true gc 0 [.int .i64 0, .int .i64 2, .bool false, .slice qc 0 cc] :: seg true gd 0 [.int .i64 0, .int .i64 0, .bool false, .slice qd yn cd] :: seg true ge 0 [.int .i64 0, .int .i64 0, .bool false, .slice qe yn ce] :: []) := (Sat.sub (s16') (by with_reducible repeat first | exact Fr1 | exact Fr2 | (apply Fr3; focus ((repeat (first | exact Tk1 | apply Tk2)); done)) | apply Fr4))
     clear s15 s16' hyl
     have hkeep : ∀ w', Sat W w' (seg true ga 0 [.int .i64 0, .int .i64 0, .bool false, .slice qa 0 ca] :: seg true gb 0 [.int .i64 0, .int .i64 1, .bool false, .slice qb 0 cb] :: seg true gc 0 [.int .i64 0, .int .i64 2, .bool false, .slice qc 0 cc] :: seg true gd 0 [.int .i64 0, .int .i64 0, .bool false, .slice qd yn cd] :: seg true ge 0 [.int .i64 0, .int .i64 0, .bool false, .slice qe yn ce] :: []) → w'.cell? ⟨ga, 0, none⟩ = some (.int .i64 0) ∧ w'.cell? ⟨gb, 0, none⟩ = some (.int .i64 0) ∧ w'.cell? ⟨gb, 1, none⟩ = some (.int .i64 1) ∧ w'.cell? ⟨gc, 0, none⟩ = some (.int .i64 0) ∧ w'.cell? ⟨gc, 1, none⟩ = some (.int .i64 2) ∧ w'.cell? ⟨gd, 3, none⟩ = some (.slice qd yn cd) ∧ w'.cell? ⟨ge, 3, none⟩ = some (.slice qe yn ce) ∧ ga < w'.heap.size ∧ gb < w'.heap.size ∧ gc < w'.heap.size ∧ gd < w'.heap.size ∧ ge < w'.heap.size := fun w' s => ⟨((Sat.sub (s) (by with_reducible repeat first | exact Fr1 | exact Fr2 | (apply Fr3; focus ((repeat (first | exact Tk1 | apply Tk2)); done)) | apply Fr4)) : Sat W w' (seg true ga 0 [.int .i64 0, .int .i64 0, .bool false, .slice qa 0 ca] :: [])).at 0 rfl, ((Sat.sub (s) (by with_reducible repeat first | exact Fr1 | exact Fr2 | (apply Fr3; focus ((repeat (first | exact Tk1 | apply Tk2)); done)) | apply Fr4)) : Sat W w' (seg true gb 0 [.int .i64 0, .int .i64 1, .bool false, .slice qb 0 cb] :: [])).at 0 rfl, ((Sat.sub (s) (by with_reducible repeat first | exact Fr1 | exact Fr2 | (apply Fr3; focus ((repeat (first | exact Tk1 | apply Tk2)); done)) | apply Fr4)) : Sat W w' (seg true gb 0 [.int .i64 0, .int .i64 1, .bool false, .slice qb 0 cb] :: [])).at 1 rfl, ((Sat.sub (s) (by with_reducible repeat first | exact Fr1 | exact Fr2 | (apply Fr3; focus ((repeat (first | exact Tk1 | apply Tk2)); done)) | apply Fr4)) : Sat W w' (seg true gc 0 [.int .i64 0, .int .i64 2, .bool false, .slice qc 0 cc] :: [])).at 0 rfl, ((Sat.sub (s) (by with_reducible repeat first | exact Fr1 | exact Fr2 | (apply Fr3; focus ((repeat (first | exact Tk1 | apply Tk2)); done)) | apply Fr4)) : Sat W w' (seg true gc 0 [.int .i64 0, .int .i64 2, .bool false, .slice qc 0 cc] :: [])).at 1 rfl, ((Sat.sub (s) (by with_reducible repeat first | exact Fr1 | exact Fr2 | (apply Fr3; focus ((repeat (first | exact Tk1 | apply Tk2)); done)) | apply Fr4)) : Sat W w' (seg true gd 0 [.int .i64 0, .int .i64 0, .bool false, .slice qd yn cd] :: [])).at 3 rfl, ((Sat.sub (s) (by with_reducible repeat first | exact Fr1 | exact Fr2 | (apply Fr3; focus ((repeat (first | exact Tk1 | apply Tk2)); done)) | apply Fr4)) : Sat W w' (seg true ge 0 [.int .i64 0, .int .i64 0, .bool false, .slice qe yn ce] :: [])).at 3 rfl, ((Sat.sub (s) (by with_reducible repeat first | exact Fr1 | exact Fr2 | (apply Fr3; focus ((repeat (first | exact Tk1 | apply Tk2)); done)) | apply Fr4)) : Sat W w' (seg true ga 0 [.int .i64 0, .int .i64 0, .bool false, .slice qa 0 ca] :: [])).lt (by simp), ((Sat.sub (s) (by with_reducible repeat first | exact Fr1 | exact Fr2 | (apply Fr3; focus ((repeat (first | exact Tk1 | apply Tk2)); done)) | apply Fr4)) : Sat W w' (seg true gb 0 [.int .i64 0, .int .i64 1, .bool false, .slice qb 0 cb] :: [])).lt (by simp), ((Sat.sub (s) (by with_reducible repeat first | exact Fr1 | exact Fr2 | (apply Fr3; focus ((repeat (first | exact Tk1 | apply Tk2)); done)) | apply Fr4)) : Sat W w' (seg true gc 0 [.int .i64 0, .int .i64 2, .bool false, .slice qc 0 cc] :: [])).lt (by simp), ((Sat.sub (s) (by with_reducible repeat first | exact Fr1 | exact Fr2 | (apply Fr3; focus ((repeat (first | exact Tk1 | apply Tk2)); done)) | apply Fr4)) : Sat W w' (seg true gd 0 [.int .i64 0, .int .i64 0, .bool false, .slice qd yn cd] :: [])).lt (by simp), ((Sat.sub (s) (by with_reducible repeat first | exact Fr1 | exact Fr2 | (apply Fr3; focus ((repeat (first | exact Tk1 | apply Tk2)); done)) | apply Fr4)) : Sat W w' (seg true ge 0 [.int .i64 0, .int .i64 0, .bool false, .slice qe yn ce] :: [])).lt (by simp)⟩
     have HKEEP := Lib.hid hkeep; clear hkeep
     obtain ⟨a0, b0, b1, c0', c1, d3', e3', za, zb, zc, zd, ze⟩ := HKEEP.out _ (Sat.sub (s16) (by with_reducible repeat first | exact Fr1 | exact Fr2 | (apply Fr3; focus ((repeat (first | exact Tk1 | apply Tk2)); done)) | apply Fr4))
     go_wp2_with fail
     refine (sameT (ca := cd) (cb := cx) X X (by exact HE.out.2.2.2.2.2.2.1) (by exact HE.out.2.2.2.2.2.2.1) (by have := HN.out.2.2.2; omega) rfl s16).mono ?_
     rintro e w17 ⟨rfl, s17'⟩
     have s17 : Sat W w17 (bytes true qe Y :: bytes true qy Y :: seg true ga 0 [.int .i64 0, .int .i64 0, .bool false, .slice qa 0 ca] :: seg true gb 0 [.int .i64 0, .int .i64 1, .bool false, .slice qb 0 cb] :: seg true gc 0 [.int .i64 0, .int .i64 2, .bool false, .slice qc 0 cc] :: seg true gd 0 [.int .i64 0, .int .i64 0, .bool false, .slice qd yn cd] :: seg true ge 0 [.int .i64 0, .int .i64 0, .bool false, .slice qe yn ce] :: []) := (Sat.sub (s17') (by with_reducible repeat first | exact Fr1 | exact Fr2 | (apply Fr3; focus ((repeat (first | exact Tk1 | apply Tk2)); done)) | apply Fr4))
     clear s16 s17' a0 b0 b1 c0' c1 d3' e3' za zb zc zd ze
     obtain ⟨a0, b0, b1, c0', c1, d3', e3', za, zb, zc, zd, ze⟩ := HKEEP.out _ (Sat.sub (s17) (by with_reducible repeat first | exact Fr1 | exact Fr2 | (apply Fr3; focus ((repeat (first | exact Tk1 | apply Tk2)); done)) | apply Fr4))
     go_wp2_with fail
     refine (sameT (ca := ce) (cb := yn) Y Y HE.out.2.2.2.2.2.2.2.1 HE.out.2.2.2.2.2.2.2.1 (by have := HN.out.2.2.2; omega) rfl s17).mono ?_
     rintro e w18 ⟨rfl, s18⟩
     have HS := Lib.hid s18.below; clear s17 s18 a0 b0 b1 c0' c1 d3' e3' za zb zc zd ze
     go_wp2_with fail
     go_ret
     exact ⟨rfl, HS.out⟩
    | true =>
     go_enter Tryz.func5, Tryz.ntmps5
     go_wp2_with fail
     refine (awake25 s0).mono ?_
     rintro e w1 ⟨rfl, s1⟩
     clear s0
     go_wp2_with fail
     refine (pickG 6 rfl (by decide) (by decide)).mono ?_
     rintro e w2 ⟨c0, hc0, rfl, rfl⟩
     obtain ⟨cn, hcn⟩ : ∃ n : Nat, n = 1 + c0 := ⟨_, rfl⟩
     have hc1 : IntKind.i64.wrap (1 + (c0 : Int)) = (cn : Int) := by rw [IntKind.wrap_i64]; omega
     have HC := Lib.hid (show 1 ≤ cn ∧ cn ≤ 6 by omega); clear hcn hc0
     go_wp2_with fail
     clear hc1
     refine (pickG 100 rfl (by decide) (by decide)).mono ?_
     rintro e w3 ⟨o0, ho0, rfl, rfl⟩
     obtain ⟨on, hon⟩ : ∃ n : Nat, n = 1 + o0 := ⟨_, rfl⟩
     have ho1 : IntKind.i64.wrap (1 + (o0 : Int)) = (on : Int) := by rw [IntKind.wrap_i64]; omega
     have HN := Lib.hid (show 1 ≤ cn ∧ cn ≤ 6 ∧ 1 ≤ on ∧ on ≤ 100 from ⟨HC.out.1, HC.out.2, by omega, by omega⟩); clear hon ho0 HC
     go_wp2_with fail
     clear ho1
     refine (iNew s1).mono ?_
     rintro e w4 ⟨v, rfl, s4'⟩
     have s4 : Sat W w4 (vaultA v S0 :: bytes false pk K :: bytes false ps SA :: bytes false pi I :: []) := (Sat.sub (s4') (by with_reducible repeat first | exact Fr1 | exact Fr2 | (apply Fr3; focus ((repeat (first | exact Tk1 | apply Tk2)); done)) | apply Fr4))
     clear s1 s4'
     obtain ⟨X, hX⟩ : ∃ X, X = hkdf true (hmac true SA K) I on := ⟨_, rfl⟩
     obtain ⟨Y, hY⟩ : ∃ Y, Y = (pbMany true K SA cn (pbM true on)).take on := ⟨_, rfl⟩
     obtain ⟨yn, hyn⟩ : ∃ n, n = Y.length := ⟨_, rfl⟩
     have hxn : X.length = on := by rw [hX]; exact hkdf_len true _ _ on HN.out.2.2.1 (by have := hsz_ge true; have := HN.out.2.2.2; omega)
     have e1 := d1 K (by rw [HB.out.1]; exact HLK)
     have e2 := d2 true K SA I on (by rw [HB.out.2.2.2.1]; exact HLS) (by rw [HB.out.2.2.2.2.2.2.1]; exact HLI) HN.out.2.2.1 HN.out.2.2.2
     rw [← hX] at e2
     have e3 := d3 true K X SA cn on (by rw [HB.out.2.2.2.1]; exact HLS) HN.out.1 HN.out.2.1 HN.out.2.2.1 HN.out.2.2.2
     rw [← hY] at e3
     have o1 := okDo e1 (S0_ok 0) rfl
     have o2 := okDo e2 o1 rfl
     have o3 := okDo e3 o2 rfl
     have HE := Lib.hid (And.intro e1 (And.intro e2 (And.intro e3 (And.intro o1 (And.intro o2 (And.intro o3 (And.intro hxn (And.intro hyn.symm (And.intro hX hY))))))))); clear e1 e2 e3 o1 o2 o3 hxn hyn hX hY
     go_wp2_with fail
     refine (iDoY (md := false) (dp := pk) (dc := kc) (L := bytes false ps SA :: bytes false pi I :: []) 1 0 0 0 0 K HE.out.1 rfl rfl rfl rfl rfl rfl (S0_ok 0) (by decide) HB.out.1 HB.out.2.1 HB.out.2.2.1 (by omega) (Sat.sub (s4) (by with_reducible repeat first | exact Fr1 | exact Fr2 | (apply Fr3; focus ((repeat (first | exact Tk1 | apply Tk2)); done)) | apply Fr4))).mono ?_
     rintro e w5 ⟨qa, ca, rfl, _, _, s5'⟩
     have s5 : Sat W w5 (vaultA v (D1 K) :: bytes false pk K :: bytes false ps SA :: bytes false pi I :: []) := (Sat.sub (s5') (by with_reducible repeat first | exact Fr1 | exact Fr2 | (apply Fr3; focus ((repeat (first | exact Tk1 | apply Tk2)); done)) | apply Fr4))
     clear s4 s5'
     go_wp2_with (first | (refine wpl_alloc_agg rfl 35 rfl s5 _ (zero_ans _) ?_; intro w6a ga s5a _; clear s5) | (refine wpl_stAns rfl rfl (.tmp 16) (.tmp 53) rfl s5a rfl rfl ?_; intro w6 s6x; clear s5a))
     have s6 : Sat W w6 (vaultA v (D1 K) :: seg true ga 0 [.int .i64 0, .int .i64 0, .bool false, .slice qa 0 ca] :: bytes false pk K :: bytes false ps SA :: bytes false pi I :: []) := (Sat.sub (s6x) (by with_reducible repeat first | exact Fr1 | exact Fr2 | (apply Fr3; focus ((repeat (first | exact Tk1 | apply Tk2)); done)) | apply Fr4))
     clear s6x
     go_wp2_with fail
     refine (iDoX (v2 := .int .u8 2) (md := false) (mm := false) (dp := ps) (ep := pi) (dc := sc) (ec := ic) (L := seg true ga 0 [.int .i64 0, .int .i64 0, .bool false, .slice qa 0 ca] :: bytes false pk K :: []) 7 0 (algM true) 0 (on : Int) SA I HE.out.2.1 rfl rfl rfl rfl rfl rfl HE.out.2.2.2.1 (by decide) HB.out.2.2.2.1 HB.out.2.2.2.2.1 HB.out.2.2.2.2.2.1 (by omega) HB.out.2.2.2.2.2.2.1 HB.out.2.2.2.2.2.2.2.1 HB.out.2.2.2.2.2.2.2.2 (Sat.sub (s6) (by with_reducible repeat first | exact Fr1 | exact Fr2 | (apply Fr3; focus ((repeat (first | exact Tk1 | apply Tk2)); done)) | apply Fr4))).mono ?_
     rintro e w7 ⟨qb, cb, rfl, _, _, s7'⟩
     have s7 : Sat W w7 (vaultA v (D2 K X) :: seg true ga 0 [.int .i64 0, .int .i64 0, .bool false, .slice qa 0 ca] :: bytes false pk K :: bytes false ps SA :: bytes false pi I :: []) := (Sat.sub (s7') (by with_reducible repeat first | exact Fr1 | exact Fr2 | (apply Fr3; focus ((repeat (first | exact Tk1 | apply Tk2)); done)) | apply Fr4))
     clear s6 s7'
     go_wp2_with (first | (refine wpl_alloc_agg rfl 35 rfl s7 _ (zero_ans _) ?_; intro w8a gb s7a _; clear s7) | (refine wpl_stAns rfl rfl (.tmp 17) (.tmp 60) rfl s7a rfl rfl ?_; intro w8 s8x; clear s7a))
     have s8 : Sat W w8 (vaultA v (D2 K X) :: seg true ga 0 [.int .i64 0, .int .i64 0, .bool false, .slice qa 0 ca] :: seg true gb 0 [.int .i64 0, .int .i64 1, .bool false, .slice qb 0 cb] :: bytes false pk K :: bytes false ps SA :: bytes false pi I :: []) := (Sat.sub (s8x) (by with_reducible repeat first | exact Fr1 | exact Fr2 | (apply Fr3; focus ((repeat (first | exact Tk1 | apply Tk2)); done)) | apply Fr4))
     clear s8x
     go_wp2_with fail
     refine (iDoY (v2 := .int .u8 2) (md := false) (dp := ps) (dc := sc) (L := seg true ga 0 [.int .i64 0, .int .i64 0, .bool false, .slice qa 0 ca] :: seg true gb 0 [.int .i64 0, .int .i64 1, .bool false, .slice qb 0 cb] :: bytes false pk K :: bytes false pi I :: []) 8 0 (algM true) (cn : Int) (on : Int) SA HE.out.2.2.1 rfl rfl rfl rfl rfl rfl HE.out.2.2.2.2.1 (by decide) HB.out.2.2.2.1 HB.out.2.2.2.2.1 HB.out.2.2.2.2.2.1 (by omega) (Sat.sub (s8) (by with_reducible repeat first | exact Fr1 | exact Fr2 | (apply Fr3; focus ((repeat (first | exact Tk1 | apply Tk2)); done)) | apply Fr4))).mono ?_
     rintro e w9 ⟨qc, cc, rfl, _, _, s9'⟩
     have s9 : Sat W w9 (vaultA v (D3 K X Y) :: seg true ga 0 [.int .i64 0, .int .i64 0, .bool false, .slice qa 0 ca] :: seg true gb 0 [.int .i64 0, .int .i64 1, .bool false, .slice qb 0 cb] :: bytes false pk K :: bytes false ps SA :: bytes false pi I :: []) := (Sat.sub (s9') (by with_reducible repeat first | exact Fr1 | exact Fr2 | (apply Fr3; focus ((repeat (first | exact Tk1 | apply Tk2)); done)) | apply Fr4))
     clear s8 s9'
     go_wp2_with (first | (refine wpl_alloc_agg rfl 35 rfl s9 _ (zero_ans _) ?_; intro w10a gc s9a _; clear s9) | (refine wpl_stAns rfl rfl (.tmp 18) (.tmp 67) rfl s9a rfl rfl ?_; intro w10 s10x; clear s9a))
     have s10 : Sat W w10 (vaultA v (D3 K X Y) :: seg true ga 0 [.int .i64 0, .int .i64 0, .bool false, .slice qa 0 ca] :: seg true gb 0 [.int .i64 0, .int .i64 1, .bool false, .slice qb 0 cb] :: seg true gc 0 [.int .i64 0, .int .i64 2, .bool false, .slice qc 0 cc] :: bytes false pk K :: bytes false ps SA :: bytes false pi I :: []) := (Sat.sub (s10x) (by with_reducible repeat first | exact Fr1 | exact Fr2 | (apply Fr3; focus ((repeat (first | exact Tk1 | apply Tk2)); done)) | apply Fr4))
     clear s10x
     go_wp2_with fail
     refine (iDoZ 9 1 0 0 0 (d4 K X Y) HE.out.2.2.2.2.2.2.1 rfl rfl rfl rfl rfl HE.out.2.2.2.2.2.1 (by decide) s10).mono ?_
     rintro e w11 ⟨qd, cd, rfl, _, _, s11'⟩
     have s11 : Sat W w11 (vaultA v (D3 K X Y) :: bytes true qd X :: seg true ga 0 [.int .i64 0, .int .i64 0, .bool false, .slice qa 0 ca] :: seg true gb 0 [.int .i64 0, .int .i64 1, .bool false, .slice qb 0 cb] :: seg true gc 0 [.int .i64 0, .int .i64 2, .bool false, .slice qc 0 cc] :: bytes false pk K :: bytes false ps SA :: bytes false pi I :: []) := (Sat.sub (s11') (by with_reducible repeat first | exact Fr1 | exact Fr2 | (apply Fr3; focus ((repeat (first | exact Tk1 | apply Tk2)); done)) | apply Fr4))
     clear s10 s11'
     go_wp2_with (first | (refine wpl_alloc_agg rfl 35 rfl s11 _ (zero_ans _) ?_; intro w12a gd s11a _; clear s11) | (refine wpl_stAns rfl rfl (.tmp 19) (.tmp 70) rfl s11a rfl rfl ?_; intro w12 s12x; clear s11a))
     have s12 : Sat W w12 (vaultA v (D3 K X Y) :: bytes true qd X :: seg true ga 0 [.int .i64 0, .int .i64 0, .bool false, .slice qa 0 ca] :: seg true gb 0 [.int .i64 0, .int .i64 1, .bool false, .slice qb 0 cb] :: seg true gc 0 [.int .i64 0, .int .i64 2, .bool false, .slice qc 0 cc] :: seg true gd 0 [.int .i64 0, .int .i64 0, .bool false, .slice qd on cd] :: bytes false pk K :: bytes false ps SA :: bytes false pi I :: []) := (Sat.sub (s12x) (by with_reducible repeat first | exact Fr1 | exact Fr2 | (apply Fr3; focus ((repeat (first | exact Tk1 | apply Tk2)); done)) | apply Fr4))
     clear s12x
     go_wp2_with fail
     refine (iDoZ 9 2 0 0 0 (d5 K X Y) HE.out.2.2.2.2.2.2.2.1 rfl rfl rfl rfl rfl HE.out.2.2.2.2.2.1 (by decide) s12).mono ?_
     rintro e w13 ⟨qe, ce, rfl, _, _, s13'⟩
     have s13 : Sat W w13 (vaultA v (D3 K X Y) :: bytes true qe Y :: bytes true qd X :: seg true ga 0 [.int .i64 0, .int .i64 0, .bool false, .slice qa 0 ca] :: seg true gb 0 [.int .i64 0, .int .i64 1, .bool false, .slice qb 0 cb] :: seg true gc 0 [.int .i64 0, .int .i64 2, .bool false, .slice qc 0 cc] :: seg true gd 0 [.int .i64 0, .int .i64 0, .bool false, .slice qd on cd] :: bytes false pk K :: bytes false ps SA :: bytes false pi I :: []) := (Sat.sub (s13') (by with_reducible repeat first | exact Fr1 | exact Fr2 | (apply Fr3; focus ((repeat (first | exact Tk1 | apply Tk2)); done)) | apply Fr4))
     clear s12 s13'
     go_wp2_with (first | (refine wpl_alloc_agg rfl 35 rfl s13 _ (zero_ans _) ?_; intro w14a ge s13a _; clear s13) | (refine wpl_stAns rfl rfl (.tmp 20) (.tmp 73) rfl s13a rfl rfl ?_; intro w14 s14x; clear s13a))
     have s14 : Sat W w14 (vaultA v (D3 K X Y) :: bytes true qe Y :: bytes true qd X :: seg true ga 0 [.int .i64 0, .int .i64 0, .bool false, .slice qa 0 ca] :: seg true gb 0 [.int .i64 0, .int .i64 1, .bool false, .slice qb 0 cb] :: seg true gc 0 [.int .i64 0, .int .i64 2, .bool false, .slice qc 0 cc] :: seg true gd 0 [.int .i64 0, .int .i64 0, .bool false, .slice qd on cd] :: seg true ge 0 [.int .i64 0, .int .i64 0, .bool false, .slice qe yn ce] :: bytes false pk K :: bytes false ps SA :: bytes false pi I :: []) := (Sat.sub (s14x) (by with_reducible repeat first | exact Fr1 | exact Fr2 | (apply Fr3; focus ((repeat (first | exact Tk1 | apply Tk2)); done)) | apply Fr4))
     clear s14x
     go_wp2_with fail
     have s14e : Sat W w14 (ledO none [] :: _) := s14.addEmp
     refine (hkKey (L := bytes true qe Y :: bytes true qd X :: seg true ga 0 [.int .i64 0, .int .i64 0, .bool false, .slice qa 0 ca] :: seg true gb 0 [.int .i64 0, .int .i64 1, .bool false, .slice qb 0 cb] :: seg true gc 0 [.int .i64 0, .int .i64 2, .bool false, .slice qc 0 cc] :: seg true gd 0 [.int .i64 0, .int .i64 0, .bool false, .slice qd on cd] :: seg true ge 0 [.int .i64 0, .int .i64 0, .bool false, .slice qe yn ce] :: []) (pv := .pointer none) (av := .int .u8 2) (kc := kc) (sc := sc) (ic := ic) true none [] K SA I rfl rfl HB.out.1 HB.out.2.1 HB.out.2.2.1 HB.out.2.2.2.1 HB.out.2.2.2.2.1 HB.out.2.2.2.2.2.1 HB.out.2.2.2.2.2.2.1 HB.out.2.2.2.2.2.2.2.1 HB.out.2.2.2.2.2.2.2.2 (by have := hsz_ge true; have := HN.out.2.2.2; omega) (by simp only [tot]; omega) (by simp) (Sat.sub (s14e) (by with_reducible repeat first | exact Fr1 | exact Fr2 | (apply Fr3; focus ((repeat (first | exact Tk1 | apply Tk2)); done)) | apply Fr4))).mono ?_
     rintro e w15 ⟨qx, cx, rfl, _, _, s15'⟩
     rw [← HE.out.2.2.2.2.2.2.2.2.1] at s15'
     have s15 : Sat W w15 (bytes false pk K :: bytes false ps SA :: bytes true qx X :: bytes true qe Y :: bytes true qd X :: seg true ga 0 [.int .i64 0, .int .i64 0, .bool false, .slice qa 0 ca] :: seg true gb 0 [.int .i64 0, .int .i64 1, .bool false, .slice qb 0 cb] :: seg true gc 0 [.int .i64 0, .int .i64 2, .bool false, .slice qc 0 cc] :: seg true gd 0 [.int .i64 0, .int .i64 0, .bool false, .slice qd on cd] :: seg true ge 0 [.int .i64 0, .int .i64 0, .bool false, .slice qe yn ce] :: []) := (Sat.sub (s15') (by with_reducible repeat first | exact Fr1 | exact Fr2 | (apply Fr3; focus ((repeat (first | exact Tk1 | apply Tk2)); done)) | apply Fr4))
     clear s14 s14e s15'
     go_wp2_with fail
     refine (pbKeyG (L := bytes true qx X :: bytes true qe Y :: bytes true qd X :: seg true ga 0 [.int .i64 0, .int .i64 0, .bool false, .slice qa 0 ca] :: seg true gb 0 [.int .i64 0, .int .i64 1, .bool false, .slice qb 0 cb] :: seg true gc 0 [.int .i64 0, .int .i64 2, .bool false, .slice qc 0 cc] :: seg true gd 0 [.int .i64 0, .int .i64 0, .bool false, .slice qd on cd] :: seg true ge 0 [.int .i64 0, .int .i64 0, .bool false, .slice qe yn ce] :: []) (pv := .pointer none) (av := .int .u8 2) (cv := .int .i64 (cn : Int)) (nv := .int .i64 (on : Int)) (ck := kc) (cs := sc) true K SA cn on rfl rfl rfl rfl HB.out.1 HB.out.2.2.2.1 HB.out.2.1 HB.out.2.2.1 HB.out.2.2.2.2.1 HB.out.2.2.2.2.2.1 HN.out.1 (by have := HN.out.2.1; omega) (by have := HN.out.2.2.2; omega) (by omega) (by omega) s15).mono ?_
     rintro e w16 ⟨qy, rfl, hyl, _, s16'⟩
     rw [← HE.out.2.2.2.2.2.2.2.2.2] at s16' hyl
     have hyo : yn = on := by rw [← HE.out.2.2.2.2.2.2.2.1]; exact hyl
     obtain rfl := hyo
     have s16 : Sat W w16 (bytes true qd X :: bytes true qx X :: bytes true qe Y :: bytes true qy Y :: seg true ga 0 [.int .i64 0, .int .i64 0, .bool false, .slice qa 0 ca] :: seg true gb 0 [.int .i64 0, .int .i64 1, .bool false, .slice qb 0 cb] :: seg true gc 0 [.int .i64 0, .int .i64 2, .bool false, .slice qc 0 cc] :: seg true gd 0 [.int .i64 0, .int .i64 0, .bool false, .slice qd yn cd] :: seg true ge 0 [.int .i64 0, .int .i64 0, .bool false, .slice qe yn ce] :: []) := (Sat.sub (s16') (by with_reducible repeat first | exact Fr1 | exact Fr2 | (apply Fr3; focus ((repeat (first | exact Tk1 | apply Tk2)); done)) | apply Fr4))
     clear s15 s16' hyl
     have hkeep : ∀ w', Sat W w' (seg true ga 0 [.int .i64 0, .int .i64 0, .bool false, .slice qa 0 ca] :: seg true gb 0 [.int .i64 0, .int .i64 1, .bool false, .slice qb 0 cb] :: seg true gc 0 [.int .i64 0, .int .i64 2, .bool false, .slice qc 0 cc] :: seg true gd 0 [.int .i64 0, .int .i64 0, .bool false, .slice qd yn cd] :: seg true ge 0 [.int .i64 0, .int .i64 0, .bool false, .slice qe yn ce] :: []) → w'.cell? ⟨ga, 0, none⟩ = some (.int .i64 0) ∧ w'.cell? ⟨gb, 0, none⟩ = some (.int .i64 0) ∧ w'.cell? ⟨gb, 1, none⟩ = some (.int .i64 1) ∧ w'.cell? ⟨gc, 0, none⟩ = some (.int .i64 0) ∧ w'.cell? ⟨gc, 1, none⟩ = some (.int .i64 2) ∧ w'.cell? ⟨gd, 3, none⟩ = some (.slice qd yn cd) ∧ w'.cell? ⟨ge, 3, none⟩ = some (.slice qe yn ce) ∧ ga < w'.heap.size ∧ gb < w'.heap.size ∧ gc < w'.heap.size ∧ gd < w'.heap.size ∧ ge < w'.heap.size := fun w' s => ⟨((Sat.sub (s) (by with_reducible repeat first | exact Fr1 | exact Fr2 | (apply Fr3; focus ((repeat (first | exact Tk1 | apply Tk2)); done)) | apply Fr4)) : Sat W w' (seg true ga 0 [.int .i64 0, .int .i64 0, .bool false, .slice qa 0 ca] :: [])).at 0 rfl, ((Sat.sub (s) (by with_reducible repeat first | exact Fr1 | exact Fr2 | (apply Fr3; focus ((repeat (first | exact Tk1 | apply Tk2)); done)) | apply Fr4)) : Sat W w' (seg true gb 0 [.int .i64 0, .int .i64 1, .bool false, .slice qb 0 cb] :: [])).at 0 rfl, ((Sat.sub (s) (by with_reducible repeat first | exact Fr1 | exact Fr2 | (apply Fr3; focus ((repeat (first | exact Tk1 | apply Tk2)); done)) | apply Fr4)) : Sat W w' (seg true gb 0 [.int .i64 0, .int .i64 1, .bool false, .slice qb 0 cb] :: [])).at 1 rfl, ((Sat.sub (s) (by with_reducible repeat first | exact Fr1 | exact Fr2 | (apply Fr3; focus ((repeat (first | exact Tk1 | apply Tk2)); done)) | apply Fr4)) : Sat W w' (seg true gc 0 [.int .i64 0, .int .i64 2, .bool false, .slice qc 0 cc] :: [])).at 0 rfl, ((Sat.sub (s) (by with_reducible repeat first | exact Fr1 | exact Fr2 | (apply Fr3; focus ((repeat (first | exact Tk1 | apply Tk2)); done)) | apply Fr4)) : Sat W w' (seg true gc 0 [.int .i64 0, .int .i64 2, .bool false, .slice qc 0 cc] :: [])).at 1 rfl, ((Sat.sub (s) (by with_reducible repeat first | exact Fr1 | exact Fr2 | (apply Fr3; focus ((repeat (first | exact Tk1 | apply Tk2)); done)) | apply Fr4)) : Sat W w' (seg true gd 0 [.int .i64 0, .int .i64 0, .bool false, .slice qd yn cd] :: [])).at 3 rfl, ((Sat.sub (s) (by with_reducible repeat first | exact Fr1 | exact Fr2 | (apply Fr3; focus ((repeat (first | exact Tk1 | apply Tk2)); done)) | apply Fr4)) : Sat W w' (seg true ge 0 [.int .i64 0, .int .i64 0, .bool false, .slice qe yn ce] :: [])).at 3 rfl, ((Sat.sub (s) (by with_reducible repeat first | exact Fr1 | exact Fr2 | (apply Fr3; focus ((repeat (first | exact Tk1 | apply Tk2)); done)) | apply Fr4)) : Sat W w' (seg true ga 0 [.int .i64 0, .int .i64 0, .bool false, .slice qa 0 ca] :: [])).lt (by simp), ((Sat.sub (s) (by with_reducible repeat first | exact Fr1 | exact Fr2 | (apply Fr3; focus ((repeat (first | exact Tk1 | apply Tk2)); done)) | apply Fr4)) : Sat W w' (seg true gb 0 [.int .i64 0, .int .i64 1, .bool false, .slice qb 0 cb] :: [])).lt (by simp), ((Sat.sub (s) (by with_reducible repeat first | exact Fr1 | exact Fr2 | (apply Fr3; focus ((repeat (first | exact Tk1 | apply Tk2)); done)) | apply Fr4)) : Sat W w' (seg true gc 0 [.int .i64 0, .int .i64 2, .bool false, .slice qc 0 cc] :: [])).lt (by simp), ((Sat.sub (s) (by with_reducible repeat first | exact Fr1 | exact Fr2 | (apply Fr3; focus ((repeat (first | exact Tk1 | apply Tk2)); done)) | apply Fr4)) : Sat W w' (seg true gd 0 [.int .i64 0, .int .i64 0, .bool false, .slice qd yn cd] :: [])).lt (by simp), ((Sat.sub (s) (by with_reducible repeat first | exact Fr1 | exact Fr2 | (apply Fr3; focus ((repeat (first | exact Tk1 | apply Tk2)); done)) | apply Fr4)) : Sat W w' (seg true ge 0 [.int .i64 0, .int .i64 0, .bool false, .slice qe yn ce] :: [])).lt (by simp)⟩
     have HKEEP := Lib.hid hkeep; clear hkeep
     obtain ⟨a0, b0, b1, c0', c1, d3', e3', za, zb, zc, zd, ze⟩ := HKEEP.out _ (Sat.sub (s16) (by with_reducible repeat first | exact Fr1 | exact Fr2 | (apply Fr3; focus ((repeat (first | exact Tk1 | apply Tk2)); done)) | apply Fr4))
     go_wp2_with fail
     refine (sameT (ca := cd) (cb := cx) X X (by exact HE.out.2.2.2.2.2.2.1) (by exact HE.out.2.2.2.2.2.2.1) (by have := HN.out.2.2.2; omega) rfl s16).mono ?_
     rintro e w17 ⟨rfl, s17'⟩
     have s17 : Sat W w17 (bytes true qe Y :: bytes true qy Y :: seg true ga 0 [.int .i64 0, .int .i64 0, .bool false, .slice qa 0 ca] :: seg true gb 0 [.int .i64 0, .int .i64 1, .bool false, .slice qb 0 cb] :: seg true gc 0 [.int .i64 0, .int .i64 2, .bool false, .slice qc 0 cc] :: seg true gd 0 [.int .i64 0, .int .i64 0, .bool false, .slice qd yn cd] :: seg true ge 0 [.int .i64 0, .int .i64 0, .bool false, .slice qe yn ce] :: []) := (Sat.sub (s17') (by with_reducible repeat first | exact Fr1 | exact Fr2 | (apply Fr3; focus ((repeat (first | exact Tk1 | apply Tk2)); done)) | apply Fr4))
     clear s16 s17' a0 b0 b1 c0' c1 d3' e3' za zb zc zd ze
     obtain ⟨a0, b0, b1, c0', c1, d3', e3', za, zb, zc, zd, ze⟩ := HKEEP.out _ (Sat.sub (s17) (by with_reducible repeat first | exact Fr1 | exact Fr2 | (apply Fr3; focus ((repeat (first | exact Tk1 | apply Tk2)); done)) | apply Fr4))
     go_wp2_with fail
     refine (sameT (ca := ce) (cb := yn) Y Y HE.out.2.2.2.2.2.2.2.1 HE.out.2.2.2.2.2.2.2.1 (by have := HN.out.2.2.2; omega) rfl s17).mono ?_
     rintro e w18 ⟨rfl, s18⟩
     have HS := Lib.hid s18.below; clear s17 s18 a0 b0 b1 c0' c1 d3' e3' za zb zc zd ze
     go_wp2_with fail
     go_ret
     exact ⟨rfl, HS.out⟩
end Go.Proofs.YtpiiklfnakkdiaaGreat
