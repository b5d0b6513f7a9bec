
/- Layer 25's statements: what is too heavy; under the conditions that each names. -/
import Derived.Test.YtpiiklfnakkdiaaGreatI25h
namespace Go.Proofs.YtpiiklfnakkdiaaGreat
open Go.RowKit Go.Sep Go.Bv Go.Kec Go.Aes Go.Sha
set_option linter.unusedVariables false
set_option linter.unusedSimpArgs false
def saysB (W0 : World) (L : List Assn) (e : Ending) (w' : World) : Prop := ∃ b : Bool, e = .returned (.bool b) ∧ Sat W0 w' L
set_option maxRecDepth 100000 in
set_option maxHeartbeats 16000000 in
theorem heavyR {W0 w : World} {L : List Assn} {dp ep : Option Addr} {dn dc en ec : Nat} (kd : Nat) (hd : Int) (ag : Nat) (ct ot : Int) (hs : Sat W0 w L) :
  Calls Tryz.prog 39 #[.agg #[.int .u8 (kd : Int), .int .i64 hd, .int .u8 (ag : Int), .int .i64 ct, .int .i64 ot, .slice dp dn dc, .slice ep en ec]] w fun e w' => saysB W0 L e w' := by
 have HO := Lib.hid (hOp W0)
 by_cases hk : kd = 8
 ·have k8 : ((kd : Int) == 8) = true := by rw [hk]; rfl
  clear hk
  by_cases c2 : 0 < ct
  ·by_cases c3 : ct ≤ 1048576
   ·by_cases c4 : 0 < ot
    ·by_cases c5 : ot ≤ 512
     ·obtain ⟨z, hz⟩ : ∃ z : Int, z = ot.tdiv 32 := ⟨_, rfl⟩
      have hz1 : 0 ≤ z ∧ z ≤ 16 := by rw [hz, Int.tdiv_eq_ediv_of_nonneg (by omega)]; omega
      have hz2 : ot.tdiv 32 = z := hz.symm
      clear hz
      obtain ⟨y, hy⟩ : ∃ y : Int, ct * (z + 1) = y := ⟨_, rfl⟩
      have hy1 : 0 ≤ y ∧ y ≤ 17825792 := by
       rw [← hy]
       refine ⟨Int.mul_nonneg (by omega) (by omega), ?_⟩
       have := Int.mul_le_mul (show ct ≤ 1048576 by omega) (show z + 1 ≤ 17 by omega) (by omega) (by omega)
       omega
      have hw1 : IntKind.i64.wrap z = z := by rw [IntKind.wrap_i64]; omega
      have hw2 : IntKind.i64.wrap (z + 1) = z + 1 := by rw [IntKind.wrap_i64]; omega
      have hw3 : IntKind.i64.wrap y = y := by rw [IntKind.wrap_i64]; omega
      by_cases c10 : (100 : Int) < y
      ·go_enter Tryz.func39, Tryz.ntmps39
       go_wp2_with (refine wpl_box rfl 26 (.tmp 0) rfl [.int .u8 (kd : Int), .int .i64 hd, .int .u8 (ag : Int), .int .i64 ct, .int .i64 ot, .slice dp dn dc, .slice ep en ec] rfl hs ?_; intro w1 g s1 _; clear hs; obtain ⟨o0, o1, o2, o3, o4, o5, o6, zo⟩ := HO.out _ _ _ _ _ _ _ _ _ _ s1; have HS := Lib.hid s1.tail; clear s1)
       go_ret
       exact ⟨_, rfl, HS.out⟩
      ·by_cases c6n : 3000 < dn
       ·have c6 : (3000 : Int) < (dn : Int) := by omega
        go_enter Tryz.func39, Tryz.ntmps39
        go_wp2_with (refine wpl_box rfl 26 (.tmp 0) rfl [.int .u8 (kd : Int), .int .i64 hd, .int .u8 (ag : Int), .int .i64 ct, .int .i64 ot, .slice dp dn dc, .slice ep en ec] rfl hs ?_; intro w1 g s1 _; clear hs; obtain ⟨o0, o1, o2, o3, o4, o5, o6, zo⟩ := HO.out _ _ _ _ _ _ _ _ _ _ s1; have HS := Lib.hid s1.tail; clear s1)
        go_ret
        exact ⟨_, rfl, HS.out⟩
       ·have c6 : ¬ (3000 : Int) < (dn : Int) := by omega
        go_enter Tryz.func39, Tryz.ntmps39
        go_wp2_with (refine wpl_box rfl 26 (.tmp 0) rfl [.int .u8 (kd : Int), .int .i64 hd, .int .u8 (ag : Int), .int .i64 ct, .int .i64 ot, .slice dp dn dc, .slice ep en ec] rfl hs ?_; intro w1 g s1 _; clear hs; obtain ⟨o0, o1, o2, o3, o4, o5, o6, zo⟩ := HO.out _ _ _ _ _ _ _ _ _ _ s1; have HS := Lib.hid s1.tail; clear s1)
        go_ret
        exact ⟨_, rfl, HS.out⟩
     ·by_cases c6n : 3000 < dn
      ·have c6 : (3000 : Int) < (dn : Int) := by omega
       by_cases c7 : dn ≤ 65536
       ·go_enter Tryz.func39, Tryz.ntmps39
        go_wp2_with (refine wpl_box rfl 26 (.tmp 0) rfl [.int .u8 (kd : Int), .int .i64 hd, .int .u8 (ag : Int), .int .i64 ct, .int .i64 ot, .slice dp dn dc, .slice ep en ec] rfl hs ?_; intro w1 g s1 _; clear hs; obtain ⟨o0, o1, o2, o3, o4, o5, o6, zo⟩ := HO.out _ _ _ _ _ _ _ _ _ _ s1; have HS := Lib.hid s1.tail; clear s1)
        go_ret
        exact ⟨_, rfl, HS.out⟩
       ·by_cases c8n : 3000 < en
        ·have c8 : (3000 : Int) < (en : Int) := by omega
         by_cases c9 : en ≤ 65536
         ·go_enter Tryz.func39, Tryz.ntmps39
          go_wp2_with (refine wpl_box rfl 26 (.tmp 0) rfl [.int .u8 (kd : Int), .int .i64 hd, .int .u8 (ag : Int), .int .i64 ct, .int .i64 ot, .slice dp dn dc, .slice ep en ec] rfl hs ?_; intro w1 g s1 _; clear hs; obtain ⟨o0, o1, o2, o3, o4, o5, o6, zo⟩ := HO.out _ _ _ _ _ _ _ _ _ _ s1; have HS := Lib.hid s1.tail; clear s1)
          go_ret
          exact ⟨_, rfl, HS.out⟩
         ·go_enter Tryz.func39, Tryz.ntmps39
          go_wp2_with (refine wpl_box rfl 26 (.tmp 0) rfl [.int .u8 (kd : Int), .int .i64 hd, .int .u8 (ag : Int), .int .i64 ct, .int .i64 ot, .slice dp dn dc, .slice ep en ec] rfl hs ?_; intro w1 g s1 _; clear hs; obtain ⟨o0, o1, o2, o3, o4, o5, o6, zo⟩ := HO.out _ _ _ _ _ _ _ _ _ _ s1; have HS := Lib.hid s1.tail; clear s1)
          go_ret
          exact ⟨_, rfl, HS.out⟩
        ·have c8 : ¬ (3000 : Int) < (en : Int) := by omega
         go_enter Tryz.func39, Tryz.ntmps39
         go_wp2_with (refine wpl_box rfl 26 (.tmp 0) rfl [.int .u8 (kd : Int), .int .i64 hd, .int .u8 (ag : Int), .int .i64 ct, .int .i64 ot, .slice dp dn dc, .slice ep en ec] rfl hs ?_; intro w1 g s1 _; clear hs; obtain ⟨o0, o1, o2, o3, o4, o5, o6, zo⟩ := HO.out _ _ _ _ _ _ _ _ _ _ s1; have HS := Lib.hid s1.tail; clear s1)
         go_ret
         exact ⟨_, rfl, HS.out⟩
      ·have c6 : ¬ (3000 : Int) < (dn : Int) := by omega
       by_cases c8n : 3000 < en
       ·have c8 : (3000 : Int) < (en : Int) := by omega
        by_cases c9 : en ≤ 65536
        ·go_enter Tryz.func39, Tryz.ntmps39
         go_wp2_with (refine wpl_box rfl 26 (.tmp 0) rfl [.int .u8 (kd : Int), .int .i64 hd, .int .u8 (ag : Int), .int .i64 ct, .int .i64 ot, .slice dp dn dc, .slice ep en ec] rfl hs ?_; intro w1 g s1 _; clear hs; obtain ⟨o0, o1, o2, o3, o4, o5, o6, zo⟩ := HO.out _ _ _ _ _ _ _ _ _ _ s1; have HS := Lib.hid s1.tail; clear s1)
         go_ret
         exact ⟨_, rfl, HS.out⟩
        ·go_enter Tryz.func39, Tryz.ntmps39
         go_wp2_with (refine wpl_box rfl 26 (.tmp 0) rfl [.int .u8 (kd : Int), .int .i64 hd, .int .u8 (ag : Int), .int .i64 ct, .int .i64 ot, .slice dp dn dc, .slice ep en ec] rfl hs ?_; intro w1 g s1 _; clear hs; obtain ⟨o0, o1, o2, o3, o4, o5, o6, zo⟩ := HO.out _ _ _ _ _ _ _ _ _ _ s1; have HS := Lib.hid s1.tail; clear s1)
         go_ret
         exact ⟨_, rfl, HS.out⟩
       ·have c8 : ¬ (3000 : Int) < (en : Int) := by omega
        go_enter Tryz.func39, Tryz.ntmps39
        go_wp2_with (refine wpl_box rfl 26 (.tmp 0) rfl [.int .u8 (kd : Int), .int .i64 hd, .int .u8 (ag : Int), .int .i64 ct, .int .i64 ot, .slice dp dn dc, .slice ep en ec] rfl hs ?_; intro w1 g s1 _; clear hs; obtain ⟨o0, o1, o2, o3, o4, o5, o6, zo⟩ := HO.out _ _ _ _ _ _ _ _ _ _ s1; have HS := Lib.hid s1.tail; clear s1)
        go_ret
        exact ⟨_, rfl, HS.out⟩
    ·by_cases c6n : 3000 < dn
     ·have c6 : (3000 : Int) < (dn : Int) := by omega
      by_cases c7 : dn ≤ 65536
      ·go_enter Tryz.func39, Tryz.ntmps39
       go_wp2_with (refine wpl_box rfl 26 (.tmp 0) rfl [.int .u8 (kd : Int), .int .i64 hd, .int .u8 (ag : Int), .int .i64 ct, .int .i64 ot, .slice dp dn dc, .slice ep en ec] rfl hs ?_; intro w1 g s1 _; clear hs; obtain ⟨o0, o1, o2, o3, o4, o5, o6, zo⟩ := HO.out _ _ _ _ _ _ _ _ _ _ s1; have HS := Lib.hid s1.tail; clear s1)
       go_ret
       exact ⟨_, rfl, HS.out⟩
      ·by_cases c8n : 3000 < en
       ·have c8 : (3000 : Int) < (en : Int) := by omega
        by_cases c9 : en ≤ 65536
        ·go_enter Tryz.func39, Tryz.ntmps39
         go_wp2_with (refine wpl_box rfl 26 (.tmp 0) rfl [.int .u8 (kd : Int), .int .i64 hd, .int .u8 (ag : Int), .int .i64 ct, .int .i64 ot, .slice dp dn dc, .slice ep en ec] rfl hs ?_; intro w1 g s1 _; clear hs; obtain ⟨o0, o1, o2, o3, o4, o5, o6, zo⟩ := HO.out _ _ _ _ _ _ _ _ _ _ s1; have HS := Lib.hid s1.tail; clear s1)
         go_ret
         exact ⟨_, rfl, HS.out⟩
        ·go_enter Tryz.func39, Tryz.ntmps39
         go_wp2_with (refine wpl_box rfl 26 (.tmp 0) rfl [.int .u8 (kd : Int), .int .i64 hd, .int .u8 (ag : Int), .int .i64 ct, .int .i64 ot, .slice dp dn dc, .slice ep en ec] rfl hs ?_; intro w1 g s1 _; clear hs; obtain ⟨o0, o1, o2, o3, o4, o5, o6, zo⟩ := HO.out _ _ _ _ _ _ _ _ _ _ s1; have HS := Lib.hid s1.tail; clear s1)
         go_ret
         exact ⟨_, rfl, HS.out⟩
       ·have c8 : ¬ (3000 : Int) < (en : Int) := by omega
        go_enter Tryz.func39, Tryz.ntmps39
        go_wp2_with (refine wpl_box rfl 26 (.tmp 0) rfl [.int .u8 (kd : Int), .int .i64 hd, .int .u8 (ag : Int), .int .i64 ct, .int .i64 ot, .slice dp dn dc, .slice ep en ec] rfl hs ?_; intro w1 g s1 _; clear hs; obtain ⟨o0, o1, o2, o3, o4, o5, o6, zo⟩ := HO.out _ _ _ _ _ _ _ _ _ _ s1; have HS := Lib.hid s1.tail; clear s1)
        go_ret
        exact ⟨_, rfl, HS.out⟩
     ·have c6 : ¬ (3000 : Int) < (dn : Int) := by omega
      by_cases c8n : 3000 < en
      ·have c8 : (3000 : Int) < (en : Int) := by omega
       by_cases c9 : en ≤ 65536
       ·go_enter Tryz.func39, Tryz.ntmps39
        go_wp2_with (refine wpl_box rfl 26 (.tmp 0) rfl [.int .u8 (kd : Int), .int .i64 hd, .int .u8 (ag : Int), .int .i64 ct, .int .i64 ot, .slice dp dn dc, .slice ep en ec] rfl hs ?_; intro w1 g s1 _; clear hs; obtain ⟨o0, o1, o2, o3, o4, o5, o6, zo⟩ := HO.out _ _ _ _ _ _ _ _ _ _ s1; have HS := Lib.hid s1.tail; clear s1)
        go_ret
        exact ⟨_, rfl, HS.out⟩
       ·go_enter Tryz.func39, Tryz.ntmps39
        go_wp2_with (refine wpl_box rfl 26 (.tmp 0) rfl [.int .u8 (kd : Int), .int .i64 hd, .int .u8 (ag : Int), .int .i64 ct, .int .i64 ot, .slice dp dn dc, .slice ep en ec] rfl hs ?_; intro w1 g s1 _; clear hs; obtain ⟨o0, o1, o2, o3, o4, o5, o6, zo⟩ := HO.out _ _ _ _ _ _ _ _ _ _ s1; have HS := Lib.hid s1.tail; clear s1)
        go_ret
        exact ⟨_, rfl, HS.out⟩
      ·have c8 : ¬ (3000 : Int) < (en : Int) := by omega
       go_enter Tryz.func39, Tryz.ntmps39
       go_wp2_with (refine wpl_box rfl 26 (.tmp 0) rfl [.int .u8 (kd : Int), .int .i64 hd, .int .u8 (ag : Int), .int .i64 ct, .int .i64 ot, .slice dp dn dc, .slice ep en ec] rfl hs ?_; intro w1 g s1 _; clear hs; obtain ⟨o0, o1, o2, o3, o4, o5, o6, zo⟩ := HO.out _ _ _ _ _ _ _ _ _ _ s1; have HS := Lib.hid s1.tail; clear s1)
       go_ret
       exact ⟨_, rfl, HS.out⟩
   ·by_cases c6n : 3000 < dn
    ·have c6 : (3000 : Int) < (dn : Int) := by omega
     by_cases c7 : dn ≤ 65536
     ·go_enter Tryz.func39, Tryz.ntmps39
      go_wp2_with (refine wpl_box rfl 26 (.tmp 0) rfl [.int .u8 (kd : Int), .int .i64 hd, .int .u8 (ag : Int), .int .i64 ct, .int .i64 ot, .slice dp dn dc, .slice ep en ec] rfl hs ?_; intro w1 g s1 _; clear hs; obtain ⟨o0, o1, o2, o3, o4, o5, o6, zo⟩ := HO.out _ _ _ _ _ _ _ _ _ _ s1; have HS := Lib.hid s1.tail; clear s1)
      go_ret
      exact ⟨_, rfl, HS.out⟩
     ·by_cases c8n : 3000 < en
      ·have c8 : (3000 : Int) < (en : Int) := by omega
       by_cases c9 : en ≤ 65536
       ·go_enter Tryz.func39, Tryz.ntmps39
        go_wp2_with (refine wpl_box rfl 26 (.tmp 0) rfl [.int .u8 (kd : Int), .int .i64 hd, .int .u8 (ag : Int), .int .i64 ct, .int .i64 ot, .slice dp dn dc, .slice ep en ec] rfl hs ?_; intro w1 g s1 _; clear hs; obtain ⟨o0, o1, o2, o3, o4, o5, o6, zo⟩ := HO.out _ _ _ _ _ _ _ _ _ _ s1; have HS := Lib.hid s1.tail; clear s1)
        go_ret
        exact ⟨_, rfl, HS.out⟩
       ·go_enter Tryz.func39, Tryz.ntmps39
        go_wp2_with (refine wpl_box rfl 26 (.tmp 0) rfl [.int .u8 (kd : Int), .int .i64 hd, .int .u8 (ag : Int), .int .i64 ct, .int .i64 ot, .slice dp dn dc, .slice ep en ec] rfl hs ?_; intro w1 g s1 _; clear hs; obtain ⟨o0, o1, o2, o3, o4, o5, o6, zo⟩ := HO.out _ _ _ _ _ _ _ _ _ _ s1; have HS := Lib.hid s1.tail; clear s1)
        go_ret
        exact ⟨_, rfl, HS.out⟩
      ·have c8 : ¬ (3000 : Int) < (en : Int) := by omega
       go_enter Tryz.func39, Tryz.ntmps39
       go_wp2_with (refine wpl_box rfl 26 (.tmp 0) rfl [.int .u8 (kd : Int), .int .i64 hd, .int .u8 (ag : Int), .int .i64 ct, .int .i64 ot, .slice dp dn dc, .slice ep en ec] rfl hs ?_; intro w1 g s1 _; clear hs; obtain ⟨o0, o1, o2, o3, o4, o5, o6, zo⟩ := HO.out _ _ _ _ _ _ _ _ _ _ s1; have HS := Lib.hid s1.tail; clear s1)
       go_ret
       exact ⟨_, rfl, HS.out⟩
    ·have c6 : ¬ (3000 : Int) < (dn : Int) := by omega
     by_cases c8n : 3000 < en
     ·have c8 : (3000 : Int) < (en : Int) := by omega
      by_cases c9 : en ≤ 65536
      ·go_enter Tryz.func39, Tryz.ntmps39
       go_wp2_with (refine wpl_box rfl 26 (.tmp 0) rfl [.int .u8 (kd : Int), .int .i64 hd, .int .u8 (ag : Int), .int .i64 ct, .int .i64 ot, .slice dp dn dc, .slice ep en ec] rfl hs ?_; intro w1 g s1 _; clear hs; obtain ⟨o0, o1, o2, o3, o4, o5, o6, zo⟩ := HO.out _ _ _ _ _ _ _ _ _ _ s1; have HS := Lib.hid s1.tail; clear s1)
       go_ret
       exact ⟨_, rfl, HS.out⟩
      ·go_enter Tryz.func39, Tryz.ntmps39
       go_wp2_with (refine wpl_box rfl 26 (.tmp 0) rfl [.int .u8 (kd : Int), .int .i64 hd, .int .u8 (ag : Int), .int .i64 ct, .int .i64 ot, .slice dp dn dc, .slice ep en ec] rfl hs ?_; intro w1 g s1 _; clear hs; obtain ⟨o0, o1, o2, o3, o4, o5, o6, zo⟩ := HO.out _ _ _ _ _ _ _ _ _ _ s1; have HS := Lib.hid s1.tail; clear s1)
       go_ret
       exact ⟨_, rfl, HS.out⟩
     ·have c8 : ¬ (3000 : Int) < (en : Int) := by omega
      go_enter Tryz.func39, Tryz.ntmps39
      go_wp2_with (refine wpl_box rfl 26 (.tmp 0) rfl [.int .u8 (kd : Int), .int .i64 hd, .int .u8 (ag : Int), .int .i64 ct, .int .i64 ot, .slice dp dn dc, .slice ep en ec] rfl hs ?_; intro w1 g s1 _; clear hs; obtain ⟨o0, o1, o2, o3, o4, o5, o6, zo⟩ := HO.out _ _ _ _ _ _ _ _ _ _ s1; have HS := Lib.hid s1.tail; clear s1)
      go_ret
      exact ⟨_, rfl, HS.out⟩
  ·by_cases c6n : 3000 < dn
   ·have c6 : (3000 : Int) < (dn : Int) := by omega
    by_cases c7 : dn ≤ 65536
    ·go_enter Tryz.func39, Tryz.ntmps39
     go_wp2_with (refine wpl_box rfl 26 (.tmp 0) rfl [.int .u8 (kd : Int), .int .i64 hd, .int .u8 (ag : Int), .int .i64 ct, .int .i64 ot, .slice dp dn dc, .slice ep en ec] rfl hs ?_; intro w1 g s1 _; clear hs; obtain ⟨o0, o1, o2, o3, o4, o5, o6, zo⟩ := HO.out _ _ _ _ _ _ _ _ _ _ s1; have HS := Lib.hid s1.tail; clear s1)
     go_ret
     exact ⟨_, rfl, HS.out⟩
    ·by_cases c8n : 3000 < en
     ·have c8 : (3000 : Int) < (en : Int) := by omega
      by_cases c9 : en ≤ 65536
      ·go_enter Tryz.func39, Tryz.ntmps39
       go_wp2_with (refine wpl_box rfl 26 (.tmp 0) rfl [.int .u8 (kd : Int), .int .i64 hd, .int .u8 (ag : Int), .int .i64 ct, .int .i64 ot, .slice dp dn dc, .slice ep en ec] rfl hs ?_; intro w1 g s1 _; clear hs; obtain ⟨o0, o1, o2, o3, o4, o5, o6, zo⟩ := HO.out _ _ _ _ _ _ _ _ _ _ s1; have HS := Lib.hid s1.tail; clear s1)
       go_ret
       exact ⟨_, rfl, HS.out⟩
      ·go_enter Tryz.func39, Tryz.ntmps39
       go_wp2_with (refine wpl_box rfl 26 (.tmp 0) rfl [.int .u8 (kd : Int), .int .i64 hd, .int .u8 (ag : Int), .int .i64 ct, .int .i64 ot, .slice dp dn dc, .slice ep en ec] rfl hs ?_; intro w1 g s1 _; clear hs; obtain ⟨o0, o1, o2, o3, o4, o5, o6, zo⟩ := HO.out _ _ _ _ _ _ _ _ _ _ s1; have HS := Lib.hid s1.tail; clear s1)
       go_ret
       exact ⟨_, rfl, HS.out⟩
     ·have c8 : ¬ (3000 : Int) < (en : Int) := by omega
      go_enter Tryz.func39, Tryz.ntmps39
      go_wp2_with (refine wpl_box rfl 26 (.tmp 0) rfl [.int .u8 (kd : Int), .int .i64 hd, .int .u8 (ag : Int), .int .i64 ct, .int .i64 ot, .slice dp dn dc, .slice ep en ec] rfl hs ?_; intro w1 g s1 _; clear hs; obtain ⟨o0, o1, o2, o3, o4, o5, o6, zo⟩ := HO.out _ _ _ _ _ _ _ _ _ _ s1; have HS := Lib.hid s1.tail; clear s1)
      go_ret
      exact ⟨_, rfl, HS.out⟩
   ·have c6 : ¬ (3000 : Int) < (dn : Int) := by omega
    by_cases c8n : 3000 < en
    ·have c8 : (3000 : Int) < (en : Int) := by omega
     by_cases c9 : en ≤ 65536
     ·go_enter Tryz.func39, Tryz.ntmps39
      go_wp2_with (refine wpl_box rfl 26 (.tmp 0) rfl [.int .u8 (kd : Int), .int .i64 hd, .int .u8 (ag : Int), .int .i64 ct, .int .i64 ot, .slice dp dn dc, .slice ep en ec] rfl hs ?_; intro w1 g s1 _; clear hs; obtain ⟨o0, o1, o2, o3, o4, o5, o6, zo⟩ := HO.out _ _ _ _ _ _ _ _ _ _ s1; have HS := Lib.hid s1.tail; clear s1)
      go_ret
      exact ⟨_, rfl, HS.out⟩
     ·go_enter Tryz.func39, Tryz.ntmps39
      go_wp2_with (refine wpl_box rfl 26 (.tmp 0) rfl [.int .u8 (kd : Int), .int .i64 hd, .int .u8 (ag : Int), .int .i64 ct, .int .i64 ot, .slice dp dn dc, .slice ep en ec] rfl hs ?_; intro w1 g s1 _; clear hs; obtain ⟨o0, o1, o2, o3, o4, o5, o6, zo⟩ := HO.out _ _ _ _ _ _ _ _ _ _ s1; have HS := Lib.hid s1.tail; clear s1)
      go_ret
      exact ⟨_, rfl, HS.out⟩
    ·have c8 : ¬ (3000 : Int) < (en : Int) := by omega
     go_enter Tryz.func39, Tryz.ntmps39
     go_wp2_with (refine wpl_box rfl 26 (.tmp 0) rfl [.int .u8 (kd : Int), .int .i64 hd, .int .u8 (ag : Int), .int .i64 ct, .int .i64 ot, .slice dp dn dc, .slice ep en ec] rfl hs ?_; intro w1 g s1 _; clear hs; obtain ⟨o0, o1, o2, o3, o4, o5, o6, zo⟩ := HO.out _ _ _ _ _ _ _ _ _ _ s1; have HS := Lib.hid s1.tail; clear s1)
     go_ret
     exact ⟨_, rfl, HS.out⟩
 ·have k8 : ((kd : Int) == 8) = false := by rw [beq_eq_false_iff_ne]; omega
  clear hk
  by_cases c6n : 3000 < dn
  ·have c6 : (3000 : Int) < (dn : Int) := by omega
   by_cases c7 : dn ≤ 65536
   ·go_enter Tryz.func39, Tryz.ntmps39
    go_wp2_with (refine wpl_box rfl 26 (.tmp 0) rfl [.int .u8 (kd : Int), .int .i64 hd, .int .u8 (ag : Int), .int .i64 ct, .int .i64 ot, .slice dp dn dc, .slice ep en ec] rfl hs ?_; intro w1 g s1 _; clear hs; obtain ⟨o0, o1, o2, o3, o4, o5, o6, zo⟩ := HO.out _ _ _ _ _ _ _ _ _ _ s1; have HS := Lib.hid s1.tail; clear s1)
    go_ret
    exact ⟨_, rfl, HS.out⟩
   ·by_cases c8n : 3000 < en
    ·have c8 : (3000 : Int) < (en : Int) := by omega
     by_cases c9 : en ≤ 65536
     ·go_enter Tryz.func39, Tryz.ntmps39
      go_wp2_with (refine wpl_box rfl 26 (.tmp 0) rfl [.int .u8 (kd : Int), .int .i64 hd, .int .u8 (ag : Int), .int .i64 ct, .int .i64 ot, .slice dp dn dc, .slice ep en ec] rfl hs ?_; intro w1 g s1 _; clear hs; obtain ⟨o0, o1, o2, o3, o4, o5, o6, zo⟩ := HO.out _ _ _ _ _ _ _ _ _ _ s1; have HS := Lib.hid s1.tail; clear s1)
      go_ret
      exact ⟨_, rfl, HS.out⟩
     ·go_enter Tryz.func39, Tryz.ntmps39
      go_wp2_with (refine wpl_box rfl 26 (.tmp 0) rfl [.int .u8 (kd : Int), .int .i64 hd, .int .u8 (ag : Int), .int .i64 ct, .int .i64 ot, .slice dp dn dc, .slice ep en ec] rfl hs ?_; intro w1 g s1 _; clear hs; obtain ⟨o0, o1, o2, o3, o4, o5, o6, zo⟩ := HO.out _ _ _ _ _ _ _ _ _ _ s1; have HS := Lib.hid s1.tail; clear s1)
      go_ret
      exact ⟨_, rfl, HS.out⟩
    ·have c8 : ¬ (3000 : Int) < (en : Int) := by omega
     go_enter Tryz.func39, Tryz.ntmps39
     go_wp2_with (refine wpl_box rfl 26 (.tmp 0) rfl [.int .u8 (kd : Int), .int .i64 hd, .int .u8 (ag : Int), .int .i64 ct, .int .i64 ot, .slice dp dn dc, .slice ep en ec] rfl hs ?_; intro w1 g s1 _; clear hs; obtain ⟨o0, o1, o2, o3, o4, o5, o6, zo⟩ := HO.out _ _ _ _ _ _ _ _ _ _ s1; have HS := Lib.hid s1.tail; clear s1)
     go_ret
     exact ⟨_, rfl, HS.out⟩
  ·have c6 : ¬ (3000 : Int) < (dn : Int) := by omega
   by_cases c8n : 3000 < en
   ·have c8 : (3000 : Int) < (en : Int) := by omega
    by_cases c9 : en ≤ 65536
    ·go_enter Tryz.func39, Tryz.ntmps39
     go_wp2_with (refine wpl_box rfl 26 (.tmp 0) rfl [.int .u8 (kd : Int), .int .i64 hd, .int .u8 (ag : Int), .int .i64 ct, .int .i64 ot, .slice dp dn dc, .slice ep en ec] rfl hs ?_; intro w1 g s1 _; clear hs; obtain ⟨o0, o1, o2, o3, o4, o5, o6, zo⟩ := HO.out _ _ _ _ _ _ _ _ _ _ s1; have HS := Lib.hid s1.tail; clear s1)
     go_ret
     exact ⟨_, rfl, HS.out⟩
    ·go_enter Tryz.func39, Tryz.ntmps39
     go_wp2_with (refine wpl_box rfl 26 (.tmp 0) rfl [.int .u8 (kd : Int), .int .i64 hd, .int .u8 (ag : Int), .int .i64 ct, .int .i64 ot, .slice dp dn dc, .slice ep en ec] rfl hs ?_; intro w1 g s1 _; clear hs; obtain ⟨o0, o1, o2, o3, o4, o5, o6, zo⟩ := HO.out _ _ _ _ _ _ _ _ _ _ s1; have HS := Lib.hid s1.tail; clear s1)
     go_ret
     exact ⟨_, rfl, HS.out⟩
   ·have c8 : ¬ (3000 : Int) < (en : Int) := by omega
    go_enter Tryz.func39, Tryz.ntmps39
    go_wp2_with (refine wpl_box rfl 26 (.tmp 0) rfl [.int .u8 (kd : Int), .int .i64 hd, .int .u8 (ag : Int), .int .i64 ct, .int .i64 ot, .slice dp dn dc, .slice ep en ec] rfl hs ?_; intro w1 g s1 _; clear hs; obtain ⟨o0, o1, o2, o3, o4, o5, o6, zo⟩ := HO.out _ _ _ _ _ _ _ _ _ _ s1; have HS := Lib.hid s1.tail; clear s1)
    go_ret
    exact ⟨_, rfl, HS.out⟩
end Go.Proofs.YtpiiklfnakkdiaaGreat
