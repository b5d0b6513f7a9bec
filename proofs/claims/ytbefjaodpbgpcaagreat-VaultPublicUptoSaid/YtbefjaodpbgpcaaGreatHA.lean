/- Shk, Shk2, Kma, Kma2, Kma3: texts that lie apart elsewhere, as one; each under the conditions that it names. -/
import Derived.Test.YtbefjaodpbgpcaaGreatHJ
import Derived.Lib.AppendZerosOnto
import Derived.Test.YtbefjaodpbgpcaaGreatGG
set_option linter.unusedVariables false
set_option linter.unusedSimpArgs false
set_option maxRecDepth 100000
set_option maxHeartbeats 16000000
namespace Go.Kec
open Go.Bv Go.Sep
def numB : Nat → Nat → List Byte
 | 0, n => [BitVec.ofNat 8 n]
 | f + 1, n => if n < 256 then [BitVec.ofNat 8 n] else numB f (n / 256) ++ [BitVec.ofNat 8 n]
theorem numB_le : ∀ f n, (numB f n).length ≤ f + 1
 | 0, _ => by simp [numB]
 | f + 1, n => by unfold numB; split <;> simp; exact numB_le f _
def leftB (n : Nat) : List Byte := BitVec.ofNat 8 (numB 7 n).length :: numB 7 n
def rightB (n : Nat) : List Byte := numB 7 n ++ [BitVec.ofNat 8 (numB 7 n).length]
def strB (b : List Byte) : List Byte := leftB (8 * b.length) ++ b
def padB (b : List Byte) (r : Nat) : List Byte := leftB r ++ b ++ List.replicate ((r - (leftB r ++ b).length % r) % r) 0
theorem leftB_len (n : Nat) : (leftB n).length = (numB 7 n).length + 1 := rfl
theorem rightB_len (n : Nat) : (rightB n).length = (numB 7 n).length + 1 := by simp [rightB]
theorem leftB_le (n : Nat) : (leftB n).length ≤ 9 := by rw [leftB_len]; have := numB_le 7 n; omega
theorem rightB_le (n : Nat) : (rightB n).length ≤ 9 := by rw [rightB_len]; have := numB_le 7 n; omega
theorem strB_len (b : List Byte) : (strB b).length = (leftB (8 * b.length)).length + b.length := by simp [strB]
theorem padB_len (b : List Byte) (r : Nat) (hr : 0 < r) : (padB b r).length % r = 0 ∧ (padB b r).length ≤ 9 + b.length + r := by
 unfold padB
 rw [List.length_append, List.length_replicate]
 obtain ⟨m, hm⟩ : ∃ m, m = (leftB r ++ b).length := ⟨_, rfl⟩
 have hle : m ≤ 9 + b.length := by rw [hm, List.length_append]; have := leftB_le r; omega
 rw [← hm]
 have hlt := Nat.mod_lt m hr
 have hd := Nat.div_add_mod m r
 by_cases h : m % r = 0
 ·rw [h, Nat.sub_zero, Nat.mod_self, Nat.add_zero]
  exact ⟨h, by omega⟩
 ·rw [Nat.mod_eq_of_lt (show r - m % r < r by omega)]
  have e : m + (r - m % r) = r * (m / r + 1) := by rw [Nat.mul_add, Nat.mul_one]; omega
  refine ⟨by rw [e]; exact Nat.mul_mod_right _ _, by omega⟩
end Go.Kec
namespace Go.Proofs.YtbefjaodpbgpcaaGreat
open Go.RowKit Go.Sep Go.Bv Go.Kec
theorem zerosk8 (k : Nat) : (Builtin.zeroCells (Value.int .u8 0).cells k).toList = u8s (List.replicate k 0) := by
 rw [← u8s_zero]
 have h1 : (Value.int .u8 0).cells = #[.int .u8 0] := rfl
 rw [h1]
 apply List.ext_getElem
 ·simp [Builtin.zeroCells]
 ·intro i h2 h3
  simp [Builtin.zeroCells, Nat.mod_one]
section
variable {W0 w : World} {L : List Assn} {ops : Array Oper} {rest : List Oper} {o : Oper} {a : Act} {Q : Exit → Act → World → Prop}
theorem wpl_appzk (hgd : o.guard = none) (s x : Operand) (ho : o.op = .call { callee := .builtin .append, args := #[s, x], argTypes := #[25, 3] })
  {p : Option Addr} {cp n : Nat} {xs : List Byte} (k : Nat) (hv : a.eval s = .slice p n cp) (hx : a.eval x = .int .i64 k) (hs : Sat W0 w (row p cp 1 n (u8s xs) :: L)) (h0 : 0 < n) (hb : n + k ≤ 1000000000000)
  (h : ∀ p' c' w', Sat W0 w' (row p' c' 1 (n + k) (u8s (xs ++ List.replicate k 0)) :: L) → wpList Tryz.prog ops Q rest (a.put o.dst (.slice p' (n + k) c')) w') : wpList Tryz.prog ops Q (o :: rest) a w := by
 obtain ⟨i3, hi3, hz3, hs3, hb3⟩ := info_parts Tryz.info_u8
 have hcore : ∃ p' c' w', (Builtin.append_ #[25, 3] o.type #[.slice p n cp, .int .i64 (k : Int)]).run Tryz.prog w = .ok (.slice p' (n + k) c') w' ∧ Sat W0 w' (row p' c' 1 (n + k) (u8s (xs ++ List.replicate k 0)) :: L) := by
  rcases Nat.eq_zero_or_pos k with rfl | hk
  ·refine ⟨p, cp, w, ?_, by simpa using hs⟩
   obtain ⟨hxl, hopen⟩ := hs.rowOpen
   rcases hopen with ⟨-, -, h9, -, -⟩ | ⟨g, rst, rfl, hn, hm, hc, hL⟩
   ·omega
   ·have hw0 : IntKind.i64.wrap 0 = 0 := rfl
    have hz0 : (Builtin.zeroCells (Value.int .u8 0).cells 0) = #[] := by simp [Builtin.zeroCells]
    simp [Builtin.append_, run_underlying Tryz.underlying25, run_underlying Tryz.underlying3, sizeOf, typeInfo, zeroValue, hi3, hz3, hs3, hb3, asInt, asIntOf, hn, storeCells, hz0, hw0]
  obtain ⟨hxl, hopen⟩ := hs.rowOpen
  rw [Nat.mul_one] at hxl
  have hlen : (u8s (xs ++ List.replicate k 0)).length = (n + k) * 1 := by rw [u8s_append, List.length_append, hxl, u8s_len]; simp
  rcases hopen with ⟨-, -, h9, -, -⟩ | ⟨g, rst, rfl, hn, hm, hc, hL⟩
  ·omega
  ·have hw : IntKind.i64.wrap (k : Int) = k := by rw [IntKind.wrap_i64]; omega
   have hneg : ¬ ((k : Int) < 0) := by omega
   have hk0 : k ≠ 0 := by omega
   by_cases hroom : n + k ≤ cp
   ·have hfit : n + 0 + (u8s (List.replicate k 0)).length ≤ (u8s xs ++ rst).length := by rw [hc, u8s_len, List.length_replicate, Nat.add_zero, Nat.mul_one]; exact hroom
    obtain ⟨w', hr, hs'⟩ := Sat.run_storeCells (P := Tryz.prog) n n (u8s (List.replicate k 0)) 0 _ w hL (by simp) hfit (u8s_one _)
    have hset : setL (u8s xs ++ rst) (n + 0) (u8s (List.replicate k 0)) = u8s (xs ++ List.replicate k 0) ++ rst.drop k := by
     have hrl : k ≤ rst.length := by rw [u8s_len, List.length_replicate, List.length_append, hxl] at hfit; omega
     have := setL_mid (u8s xs) (rst.take k) (rst.drop k) (u8s (List.replicate k 0)) (by rw [u8s_len]; simp; omega)
     rw [List.append_assoc, List.take_append_drop, hxl] at this
     rw [Nat.add_zero, this, u8s_append]
    rw [hset] at hs'
    refine ⟨some ⟨g, 0, none⟩, cp, w', ?_, hs'.rowMade hlen ?_ hroom hm⟩
    ·have hadd : (⟨g, 0, none⟩ : Addr).add n = ⟨g, n, none⟩ := by rw [add_lit', Nat.zero_add]
     have h48i : ¬ (281474976710656 < (k : Int) * (i3.bytes : Int)) := by rw [hb3]; omega
     simp [Builtin.append_, run_underlying Tryz.underlying25, run_underlying Tryz.underlying3, sizeOf, typeInfo, zeroValue, hi3, hz3, hs3, hb3, asInt, asIntOf, hw, hneg, hroom, hk0, hadd, zerosk8]
     have h48k : ¬ (281474976710656 < (k : Int)) := by omega
     rw [if_neg h48k, show (0#8) = (0 : Byte) from rfl, hr]
     rfl
    ·rw [List.length_append, hlen, List.length_drop]
     rw [List.length_append, hxl] at hc
     omega
   ·have hg : cp < n + k := by omega
    have hold : (Builtin.firstCells i3.size n (.slice (some ⟨g, 0, none⟩) n cp)).run Tryz.prog w.drew = .ok (u8s xs).toArray w.drew := by
     refine run_firstCells_some w.drew i3.size n ⟨g, 0, none⟩ n cp (u8s xs) (by rw [hs3, Nat.mul_one]; exact hxl) fun j u hu => ?_
     rw [add_lit']
     have := hL.cell (i := j) (v := u) (by rw [List.getElem?_append_left (List.getElem?_eq_some_iff.1 hu).1]; exact hu)
     simpa using this
    have hr := Lib.run_append_grow_zeros (P := Tryz.prog) w 25 3 o.type 5 i3 (.int .u8 0) .i64 .i64 Tryz.underlying25 Tryz.underlying3 hi3 hz3 (some ⟨g, 0, none⟩) n cp (u8s xs) hold k hk (by rw [hs3]; decide) hg (by omega) (by rw [hb3]; omega) (growslice_fits (by omega) (by rw [hb3]; omega))
    refine ⟨_, _, _, hr, ?_⟩
    have h9 := hL.tail.drew.alloc ((u8s xs).toArray ++ Builtin.zeroCells (Value.int .u8 0).cells k ++ Builtin.zeroCells (Value.int .u8 0).cells (grownCap w (n + k) cp 5 - (n + k))) 5
    simp only [Array.toList_append, zerosk8] at h9
    rw [← u8s_append] at h9
    have hge := grownCap_ge w (n + k) cp 5
    refine h9.rowMade hlen ?_ hge (grownCap_le_maxLen w _ _ _ (by unfold maxLen; omega))
    rw [List.length_append, hlen, u8s_len, List.length_replicate]
    omega
 obtain ⟨p', c', w', hr, h2⟩ := hcore
 refine wpList_plain hgd fun _ hK => ?_
 unfold Oper.wp execOp
 simp only [ho, resolve, invoke, builtin, Sem.run_bind, Sem.run_pure, Result.andThen_ok, List.map_toArray, List.map_cons, List.map_nil, hv, hx, hr]
 exact hK _ _ (h p' c' w' h2)
end
theorem v8_nat (n : Nat) : v8 (BitVec.ofNat 8 n) = (n : Int) % 256 := by unfold v8; rw [BitVec.toNat_ofNat]; omega
theorem byteOwn {W0 w : World} {L : List Assn} {z : Int} {b : Byte} {T : TypeId} (hz : z = v8 b) (h : Sat W0 w L) : Sat W0 (w.alloc (.cells #[.int .u8 z] T)) (row (some ⟨w.heap.size, 0, none⟩) 1 1 1 (u8s [b]) :: L) := by
 subst hz
 exact (h.alloc #[.int .u8 (v8 b)] T).rowFull (xs := u8s [b]) rfl (by decide)
theorem shNumber {W0 w : World} {L : List Assn} (n : Nat) (hn : n < 256 ^ 8) (hs : Sat W0 w L) :
  Calls Tryz.prog 191 #[.int .i64 (n : Int)] w fun e w' => ∃ q c, e = .returned (.slice q (numB 7 n).length c) ∧ Sat W0 w' (row q c 1 (numB 7 n).length (u8s (numB 7 n)) :: L) := by
 have s0 : Sat W0 w (row none 0 1 ([] : List Byte).length (u8s []) :: L) := hs.rowNil 1
 clear hs
 go_enter Tryz.func191, Tryz.ntmps191
 go_wp2_with fail
 go_loopw [0, 3] (fun t0 t3 wr => ∃ (f m : Nat) (b : List Byte) (q : Option Addr) (c : Nat), t0 = .int .i64 (m : Int) ∧ t3 = .slice q b.length c ∧ m < 256 ^ (f + 1) ∧ f + b.length = 7 ∧ numB 7 n = numB f m ++ b ∧ Sat W0 wr (row q c 1 b.length (u8s b) :: L)) (fun t0 _ _ => (intOf t0).toNat)
 case atStart => exact ⟨7, n, [], none, 0, rfl, rfl, hn, rfl, by rw [List.append_nil], s0⟩
 case round =>
  clear s0
  obtain ⟨f, m, b, q, c, rfl, rfl, hm, hf, hnb, s⟩ := hrel
  obtain ⟨hbl, _, _, sb⟩ := rowBytes s
  have hm64 : m < 18446744073709551616 := Nat.lt_of_lt_of_le hm (by
   have : 256 ^ (f + 1) ≤ 256 ^ 8 := Nat.pow_le_pow_right (by decide) (by omega)
   exact Nat.le_trans this (by decide))
  clear s
  have hw8 : IntKind.u8.wrap (m : Int) = v8 (BitVec.ofNat 8 m) := by rw [v8_nat, IntKind.wrap_u8]
  have hb7 : b.length ≤ 7 := by omega
  obtain ⟨j, hj⟩ : ∃ j, j = b.length := ⟨_, rfl⟩
  rw [← hj] at hf hb7 ⊢
  obtain ⟨d, hd⟩ : ∃ d, d = m / 256 := ⟨_, rfl⟩
  have hdi : (m : Int) / 256 = (d : Int) := by omega
  have HX := Lib.hid (And.intro hm (And.intro hf (And.intro hnb (And.intro hd (And.intro hj hm64))))); clear hm hf hnb hd hj hbl hm64
  have sOwn := byteOwn (T := 5) hw8 sb
  by_cases hd0 : d = 0
  ·have e0 : ((d : Int) == 0) = true := by rw [beq_iff_eq]; omega
   have HD := Lib.hid hd0; clear hd0
   go_wp2_with (at_builtin; refine wpl_app8 rfl (.tmp 6) (.tmp 7) rfl rfl rfl sOwn HX.out.2.2.2.2.1.symm (by omega) ?_; intro p9 c9 w9 s9; clear sOwn)
   have HS := Lib.hid s9; clear s9
   go_ret
   obtain ⟨hm, hf, hnb, hd, hj, hm64⟩ := HX.out
   have hd0 := HD.out
   have h256 : m < 256 := by omega
   have hB : numB 7 n = [BitVec.ofNat 8 m] ++ b := by
    rw [hnb]
    cases f with
    | zero => rfl
    | succ f => unfold numB; rw [if_pos h256]
   have hBl : (numB 7 n).length = 1 + j := by rw [hB, hj, List.length_append]; rfl
   refine ⟨p9, c9, by rw [hBl]; rfl, ?_⟩
   rw [hBl, hB]
   exact HS.out.drop 1
  ·have e0 : ((d : Int) == 0) = false := by rw [beq_eq_false_iff_ne]; omega
   have HD := Lib.hid hd0; clear hd0
   go_wp2_with (at_builtin; refine wpl_app8 rfl (.tmp 6) (.tmp 7) rfl rfl rfl sOwn HX.out.2.2.2.2.1.symm (by omega) ?_; intro p9 c9 w9 s9; clear sOwn)
   have HS := Lib.hid s9; clear s9
   go_roundw
   case rel =>
    obtain ⟨hm, hf, hnb, hd, hj, hm64⟩ := HX.out
    have hd0 := HD.out
    have h256 : ¬ m < 256 := by omega
    cases f with
    | zero => exact absurd hm (by rw [Nat.zero_add, Nat.pow_one]; exact h256)
    | succ f =>
     have hl : ([BitVec.ofNat 8 m] ++ b).length = 1 + j := by rw [List.length_append, hj]; rfl
     refine ⟨f, d, [BitVec.ofNat 8 m] ++ b, p9, c9, rfl, by rw [hl], ?_, by rw [hl]; omega, ?_, by rw [hl]; exact HS.out.drop 1⟩
     ·rw [hd]
      exact Nat.div_lt_of_lt_mul (by rw [Nat.mul_comm, ← Nat.pow_succ]; exact hm)
     ·rw [hnb]
      conv => lhs; unfold numB
      rw [if_neg h256, hd, List.append_assoc]
   case measure =>
    have hd := HX.out.2.2.2.1
    have hd0 := HD.out
    simp [intOf]
    omega
theorem shLeft {W0 w : World} {L : List Assn} (n : Nat) (hn : n < 256 ^ 7) (hs : Sat W0 w L) :
  Calls Tryz.prog 173 #[.int .i64 (n : Int)] w fun e w' => ∃ q c, e = .returned (.tuple #[.slice q (leftB n).length c, .int .i64 0]) ∧ Sat W0 w' (row q c 1 (leftB n).length (u8s (leftB n)) :: L) := by
 have hnum := shNumber n (Nat.lt_of_lt_of_le hn (by decide)) hs
 have hle := numB_le 7 n
 have hlf := leftB_len n
 have hln : leftB n = [BitVec.ofNat 8 (numB 7 n).length] ++ numB 7 n := rfl
 obtain ⟨N, hN⟩ : ∃ N, N = numB 7 n := ⟨_, rfl⟩
 rw [← hN] at hnum hle hlf hln
 obtain ⟨k, hk⟩ : ∃ k, k = N.length := ⟨_, rfl⟩
 rw [← hk] at hle hlf hln hnum
 have h0 : ((n : Int) < 0) = False := by simp
 have hneg : ¬ (n : Int) < 0 := by omega
 have hw8 : IntKind.u8.wrap (k : Int) = v8 (BitVec.ofNat 8 k) := by rw [v8_nat, IntKind.wrap_u8]
 have HX := Lib.hid (And.intro hnum (And.intro hlf (And.intro hln hk))); clear hnum hlf hln hk hN hn hs
 go_enter Tryz.func173, Tryz.ntmps173
 go_wp2_with fail
 refine HX.out.1.mono ?_
 rintro e w1 ⟨q, c, rfl, s1⟩
 obtain ⟨_, _, _, s2⟩ := rowBytes s1
 clear s1
 have sOwn := byteOwn (T := 5) hw8 s2
 go_wp2_with (at_builtin; refine wpl_app8 rfl (.tmp 12) (.tmp 13) rfl rfl rfl sOwn HX.out.2.2.2.symm (by omega) ?_; intro p9 c9 w9 s9; clear sOwn)
 have HS := Lib.hid s9; clear s9 s2
 refine bodyPost_ret (v := .tuple #[.slice p9 (1 + k) c9, .int .i64 0]) (by simp [results, Tryz.results173, go_sem]) rfl ⟨p9, c9, ?_, ?_⟩
 ·rw [HX.out.2.1, Nat.add_comm]
 ·rw [HX.out.2.1, HX.out.2.2.1, Nat.add_comm k 1]
  exact HS.out.drop 1
theorem shRight {W0 w : World} {L : List Assn} {nv : Int} (n : Nat) (hv : nv = (n : Int)) (hn : n < 256 ^ 7) (hs : Sat W0 w L) :
  Calls Tryz.prog 180 #[.int .i64 nv] w fun e w' => ∃ q c, e = .returned (.tuple #[.slice q (rightB n).length c, .int .i64 0]) ∧ Sat W0 w' (row q c 1 (rightB n).length (u8s (rightB n)) :: L) := by
 subst hv
 have hnum := shNumber n (Nat.lt_of_lt_of_le hn (by decide)) hs
 have hle := numB_le 7 n
 have hlf := rightB_len n
 have hln : rightB n = numB 7 n ++ [BitVec.ofNat 8 (numB 7 n).length] := rfl
 obtain ⟨N, hN⟩ : ∃ N, N = numB 7 n := ⟨_, rfl⟩
 rw [← hN] at hnum hle hlf hln
 obtain ⟨k, hk⟩ : ∃ k, k = N.length := ⟨_, rfl⟩
 rw [← hk] at hle hlf hln hnum
 have hneg : ¬ (n : Int) < 0 := by omega
 have hw8 : IntKind.u8.wrap (k : Int) = v8 (BitVec.ofNat 8 k) := by rw [v8_nat, IntKind.wrap_u8]
 have HX := Lib.hid (And.intro hnum (And.intro hlf (And.intro hln hk))); clear hnum hlf hln hk hN hn hs
 go_enter Tryz.func180, Tryz.ntmps180
 go_wp2_with fail
 refine HX.out.1.mono ?_
 rintro e w1 ⟨q, c, rfl, s1⟩
 have s2 := bytesOf (bs := [BitVec.ofNat 8 k]) (s1.alloc #[.int .u8 (v8 (BitVec.ofNat 8 k))] 5)
 rw [← hw8] at s2
 have s3 : Sat W0 _ (row q c 1 k (u8s N) :: bytes true (some ⟨w1.heap.size, 0, none⟩) [BitVec.ofNat 8 k] :: L) := s2.pull 1
 clear s1 s2
 go_wp2_with (at_builtin; refine wpl_app8 rfl (.tmp 9) (.tmp 13) rfl rfl rfl s3 rfl (by omega) ?_; intro p9 c9 w9 s9; clear s3)
 have HS := Lib.hid s9; clear s9
 refine bodyPost_ret (v := .tuple #[.slice p9 (k + 1) c9, .int .i64 0]) (by simp [results, Tryz.results180, go_sem]) rfl ⟨p9, c9, ?_, ?_⟩
 ·rw [HX.out.2.1]
 ·rw [HX.out.2.1, HX.out.2.2.1]
  exact HS.out.drop 1
theorem shString {W0 w : World} {L : List Assn} {m : Bool} {pb : Option Addr} {n cap : Nat} (b : List Byte) (hn : b.length = n) (hcap : n ≤ cap) (hb : n ≤ 1000000000) (hs : Sat W0 w (bytes m pb b :: L)) :
  Calls Tryz.prog 139 #[.slice pb n cap] w fun e w' => ∃ q c, e = .returned (.slice q (strB b).length c) ∧ Sat W0 w' (row q c 1 (strB b).length (u8s (strB b)) :: bytes m pb b :: L) := by
 have hlf := fun (w : World) (s : Sat W0 w (bytes m pb b :: L)) => shLeft (8 * n) (Nat.lt_of_le_of_lt (Nat.mul_le_mul_left 8 hb) (by decide)) s
 have hle := leftB_le (8 * n)
 have hsl := strB_len b
 have hst : strB b = leftB (8 * n) ++ b := by rw [← hn]; rfl
 rw [hn] at hsl
 obtain ⟨N, hN⟩ : ∃ N, N = leftB (8 * n) := ⟨_, rfl⟩
 rw [← hN] at hlf hle hsl hst
 obtain ⟨k, hk⟩ : ∃ k, k = N.length := ⟨_, rfl⟩
 rw [← hk] at hlf hle hsl
 obtain ⟨n8, hn8⟩ : ∃ n8, n8 = 8 * n := ⟨_, rfl⟩
 rw [← hn8] at hlf
 have e8 : IntKind.i64.wrap (8 * (n : Int)) = (n8 : Int) := by rw [IntKind.wrap_i64]; omega
 have HX := Lib.hid (And.intro hlf (And.intro hsl (And.intro hst hn))); clear hlf hsl hst hn hN hk hn8
 go_enter Tryz.func139, Tryz.ntmps139
 go_wp2_with fail
 refine (HX.out.1 _ hs).mono ?_
 rintro e w1 ⟨q, c, rfl, s1⟩
 clear hs
 go_wp2_with (at_builtin; refine wpl_app8 rfl (.tmp 12) (.tmp 13) rfl rfl rfl s1 HX.out.2.2.2 (by omega) ?_; intro p9 c9 w9 s9; clear s1)
 have HS := Lib.hid s9; clear s9
 go_ret
 refine ⟨p9, c9, ?_, ?_⟩
 ·rw [HX.out.2.1]; rfl
 ·rw [HX.out.2.1, HX.out.2.2.1]
  exact HS.out
end Go.Proofs.YtbefjaodpbgpcaaGreat
namespace Go.Kec
open Go.Bv Go.Sep
def nought200K : List Byte := List.replicate 200 0
def spState (r : Nat) (M : List Byte) : SpSt := spFold r (nought200K, 0) M
theorem spState_inv (r : Nat) (hr : 0 < r) (M : List Byte) : (spState r M).1.length = 200 ∧ (spState r M).2 = M.length % r := by
 have h := spFold_inv r hr M (nought200K, 0) 0 (by unfold nought200K; exact List.length_replicate) (Nat.zero_mod r).symm
 rw [Nat.zero_add] at h
 exact h
theorem spState_append (r : Nat) (M P : List Byte) : spState r (M ++ P) = spFold r (spState r M) P := spFold_append r _ M P
def nameK : List Byte := [75, 77, 65, 67]
def kmPre (r : Nat) (key custom : List Byte) : List Byte := padB (strB nameK ++ strB custom) r ++ padB (strB key) r
theorem kmPre_len (r : Nat) (hr : 0 < r) (key custom : List Byte) : (kmPre r key custom).length % r = 0 ∧ (kmPre r key custom).length ≤ 49 + key.length + custom.length + 2 * r := by
 obtain ⟨h1, h2⟩ := padB_len (strB nameK ++ strB custom) r hr
 obtain ⟨h3, h4⟩ := padB_len (strB key) r hr
 rw [List.length_append, strB_len, strB_len] at h2
 rw [strB_len] at h4
 have l1 := leftB_le (8 * nameK.length)
 have l2 := leftB_le (8 * custom.length)
 have l3 := leftB_le (8 * key.length)
 have ln : nameK.length = 4 := rfl
 unfold kmPre
 rw [List.length_append]
 refine ⟨?_, by omega⟩
 rw [Nat.add_mod, h1, h3, Nat.zero_mod]
def kmTag (r : Nat) (M : List Byte) (n bits : Nat) : List Byte := (spEndK r 4 (spState r (M ++ rightB bits))).take n
where spEndK (r : Nat) (sf : Byte) (s : SpSt) : List Byte := perm ((s.1.set s.2 (s.1.getD s.2 0 ^^^ sf)).set (r - 1) ((s.1.set s.2 (s.1.getD s.2 0 ^^^ sf)).getD (r - 1) 0 ^^^ 128))
theorem kmTag_len (r : Nat) (M : List Byte) (n bits : Nat) (h : n ≤ 200) : (kmTag r M n bits).length = n := by
 unfold kmTag kmTag.spEndK
 rw [List.length_take, perm_len]; omega
theorem divDiff (a b r : Nat) (hr : 0 < r) : (a % r + b) / r = (a + b) / r - a / r := by
 have e : a + b = (a % r + b) + r * (a / r) := by have := Nat.div_add_mod a r; omega
 rw [e, Nat.add_mul_div_left _ _ hr, Nat.add_sub_cancel]
end Go.Kec
namespace Go.Proofs.YtbefjaodpbgpcaaGreat
open Go.RowKit Go.Sep Go.Bv Go.Kec
theorem shPad {W0 w : World} {L : List Assn} {m : Bool} {pb : Option Addr} {n cap : Nat} {rv : Int} (b : List Byte) (r : Nat) (hr : r = 168 ∨ r = 136) (hv : rv = (r : Int)) (hn : b.length = n) (hcap : n ≤ cap) (hb : n ≤ 1000000000) (hs : Sat W0 w (bytes m pb b :: L)) :
  Calls Tryz.prog 138 #[.slice pb n cap, .int .i64 rv] w fun e w' => ∃ q c, e = .returned (.tuple #[.slice q (padB b r).length c, .int .i64 0]) ∧ Sat W0 w' (row q c 1 (padB b r).length (u8s (padB b r)) :: bytes m pb b :: L) := by
 subst hv
 have hlf := fun (w : World) (s : Sat W0 w (bytes m pb b :: L)) => shLeft r (by rcases hr with rfl | rfl <;> decide) s
 have hle := leftB_le r
 have hl0 : 0 < (leftB r).length := by rw [leftB_len]; omega
 have hpd : padB b r = (leftB r ++ b) ++ List.replicate ((r - ((leftB r).length + n) % r) % r) 0 := by unfold padB; rw [List.length_append, hn]
 obtain ⟨N, hN⟩ : ∃ N, N = leftB r := ⟨_, rfl⟩
 rw [← hN] at hlf hle hl0 hpd
 obtain ⟨k, hk⟩ : ∃ k, k = N.length := ⟨_, rfl⟩
 rw [← hk] at hlf hle hl0 hpd
 obtain ⟨M, hM⟩ : ∃ M, M = k + n := ⟨_, rfl⟩
 rw [← hM] at hpd
 obtain ⟨x, hx⟩ : ∃ x, x = M % r := ⟨_, rfl⟩
 obtain ⟨y, hy⟩ : ∃ y, y = r - x := ⟨_, rfl⟩
 obtain ⟨z, hz⟩ : ∃ z, z = y % r := ⟨_, rfl⟩
 rw [← hx, ← hy, ← hz] at hpd
 have hpl : (padB b r).length = M + z := by rw [hpd, List.length_append, List.length_append, List.length_replicate, hn, ← hk, hM]
 have hr1 : 136 ≤ r ∧ r ≤ 168 := by omega
 have e1 : (M : Int).tmod (r : Int) = (x : Int) := by rw [Int.tmod_eq_emod_of_nonneg (by omega), hx]; exact (Int.natCast_emod M r).symm
 have e1' : (M : Int) % (r : Int) = (x : Int) := by rw [hx]; exact (Int.natCast_emod M r).symm
 have hxr : x < r := by rw [hx]; exact Nat.mod_lt _ (by omega)
 have e2 : IntKind.i64.wrap ((r : Int) - (x : Int)) = (y : Int) := by rw [IntKind.wrap_i64]; omega
 have e3 : (y : Int).tmod (r : Int) = (z : Int) := by rw [Int.tmod_eq_emod_of_nonneg (by omega), hz]; exact (Int.natCast_emod y r).symm
 have e3' : (y : Int) % (r : Int) = (z : Int) := by rw [hz]; exact (Int.natCast_emod y r).symm
 have hzr : z < r := by rw [hz]; exact Nat.mod_lt _ (by omega)
 have hM0 : 0 < M := by omega
 have hMb : M + z ≤ 1000000000000 := by omega
 have er : (k : Int) + (n : Int) = (M : Int) := by omega
 have hr0 : ¬ r = 0 := by omega
 have HX := Lib.hid (And.intro hlf (And.intro hpd (And.intro hpl (And.intro hn (And.intro hM hl0))))); clear hlf hpd hpl hn hM hx hy hz hN hk hr hl0
 obtain ⟨hr2, hr3⟩ := hr1
 have g1 : (1 : Int) ≤ (r : Int) := by omega
 have g2 : (r : Int) ≤ 256 := by omega
 have g3 : ¬ (r : Int) = 0 := by omega
 go_enter Tryz.func138, Tryz.ntmps138
 go_wp2_with fail
 refine (HX.out.1 _ hs).mono ?_
 rintro e w1 ⟨q, c, rfl, s1⟩
 clear hs
 go_wp2_with (at_builtin; first | (refine wpl_app8 rfl (.tmp 19) (.tmp 20) rfl rfl rfl s1 HX.out.2.2.2.1 (by omega) ?_; intro p9 c9 w9 s9; clear s1; rw [← HX.out.2.2.2.2.1] at s9; rw [← HX.out.2.2.2.2.1]) | (refine wpl_appzk rfl (.tmp 22) (.tmp 30) rfl z rfl rfl s9 hM0 hMb ?_; intro p8 c8 w8 s8; clear s9))
 have HS := Lib.hid s8; clear s8
 refine bodyPost_ret (v := .tuple #[.slice p8 (M + z) c8, .int .i64 0]) (by simp [results, Tryz.results138, go_sem]) rfl ⟨p8, c8, ?_, ?_⟩
 ·rw [HX.out.2.2.1]
 ·rw [HX.out.2.2.1, HX.out.2.1]
  exact HS.out
end Go.Proofs.YtbefjaodpbgpcaaGreat
namespace Go.Proofs.YtbefjaodpbgpcaaGreat
open Go.RowKit Go.Sep Go.Bv Go.Kec
abbrev spM (g r : Nat) (sf : Byte) (M : List Byte) (L : List Assn) : List Assn := spS g (spState r M).1 r (v8 sf) (spState r M).2 false L
theorem spWriteM {W0 w : World} {L : List Assn} {m : Bool} {g n cap r : Nat} {sf : Byte} {pp : Option Addr} {pv : Value} (p : Option Nat) (rs : List Run3) (M P : List Byte) (hp : pv = ptrO p) (hP : P.length = n) (hr : 0 < r) (hr2 : r ≤ 200) (hcap : n ≤ cap) (hcm : cap ≤ maxLen) (hb : tot rs + n + 201 ≤ 4611686018427387904) (hl : rs.length + 1 ≤ 4294967296)
  (hs : Sat W0 w (ledO p rs :: bytes m pp P :: spM g r sf M L)) :
  Calls Tryz.prog 141 #[.pointer (some ⟨g, 0, none⟩), pv, .slice pp n cap] w fun e w' => e = .returned (.int .i64 0) ∧ Sat W0 w' (ledO p (noteN rs 3 200 ((M.length + n) / r - M.length / r)) :: bytes m pp P :: spM g r sf (M ++ P) L) := by
 obtain ⟨h1, h2⟩ := spState_inv r hr M
 have hlt : (spState r M).2 < r := by rw [h2]; exact Nat.mod_lt _ hr
 have := spWrite p rs (spState r M).1 P hp hP h1 hr hr2 hlt hcap hcm (by omega) hl hs
 rw [h2, divDiff _ _ _ hr, ← h2] at this
 unfold spM
 rw [spState_append]
 exact this
theorem shRate (w : World) (st r : Nat) (h : (st = 128 ∧ r = 168) ∨ (st = 256 ∧ r = 136)) : Calls Tryz.prog 171 #[.int .i64 (st : Int)] w fun e w' => e = .returned (.int .i64 (r : Int)) ∧ w' = w := by
 rcases h with ⟨rfl, rfl⟩ | ⟨rfl, rfl⟩
 all_goals
  go_enter Tryz.func171, Tryz.ntmps171
  go_wp2
  go_ret
  exact ⟨rfl, rfl⟩
theorem shBegin {W0 w : World} {L : List Assn} {m : Bool} {pn pc : Option Addr} {cn n cap st r : Nat} {pv sv : Value} (p : Option Nat) (rs : List Run3) (custom : List Byte) (hp : pv = ptrO p) (hsv : sv = .int .i64 (st : Int)) (h : (st = 128 ∧ r = 168) ∨ (st = 256 ∧ r = 136)) (hcn : 4 ≤ cn) (hn : custom.length = n) (hcap : n ≤ cap) (hcm : cap ≤ maxLen) (hb : n ≤ 100000000) (hb2 : tot rs + n + 600 ≤ 4611686018427387904) (hl : rs.length + 1 ≤ 4294967296)
  (hs : Sat W0 w (ledO p rs :: bytes true pn nameK :: bytes m pc custom :: L)) :
  Calls Tryz.prog 137 #[pv, sv, .slice pn 4 cn, .slice pc n cap] w fun e w' => ∃ g, e = .returned (.tuple #[.pointer (some ⟨g, 0, none⟩), .int .i64 0]) ∧ Sat W0 w' (spM g r 4 (padB (strB nameK ++ strB custom) r) (ledO p (noteN rs 3 200 ((padB (strB nameK ++ strB custom) r).length / r)) :: bytes m pc custom :: L)) := by
 subst hp hsv
 have hr : r = 168 ∨ r = 136 := by omega
 have hr0 : 0 < r := by omega
 have hr2 : r ≤ 200 := by omega
 have hra := fun w => shRate w st r h
 have hnl : nameK.length = 4 := rfl
 have hs1 := fun (w : World) (s : Sat W0 w (bytes true pn nameK :: spM 0 r 4 [] (ledO p rs :: bytes m pc custom :: L))) => shString nameK hnl hcn (by decide) s
 have h12 : (strB nameK ++ strB custom).length = (strB nameK).length + (strB custom).length := List.length_append
 have hcl := strB_len custom
 have hl2 := leftB_le (8 * custom.length)
 have hnl2 := strB_len nameK
 have hl3 := leftB_le (8 * nameK.length)
 rw [hnl] at hnl2 hl3
 obtain ⟨hpl1, hpl2⟩ := padB_len (strB nameK ++ strB custom) r hr0
 have hsn := fun (w : World) (X : List Assn) (s : Sat W0 w (bytes true pn nameK :: X)) => shString nameK hnl hcn (by decide) s
 have hsc := fun (w : World) (X : List Assn) (s : Sat W0 w (bytes m pc custom :: X)) => shString custom hn hcap (by omega) s
 obtain ⟨A1, hA1⟩ : ∃ A, A = strB nameK := ⟨_, rfl⟩
 obtain ⟨A2, hA2⟩ : ∃ A, A = strB custom := ⟨_, rfl⟩
 rw [← hA1, ← hA2] at h12 hpl1 hpl2
 rw [← hA1] at hnl2 hsn
 rw [← hA2] at hcl hsc
 obtain ⟨k1, hk1⟩ : ∃ k, k = A1.length := ⟨_, rfl⟩
 obtain ⟨k2, hk2⟩ : ∃ k, k = A2.length := ⟨_, rfl⟩
 rw [← hk1] at hnl2 h12 hsn
 rw [← hk2] at hcl h12 hsc
 have hpd := fun (w : World) (pb : Option Addr) (c : Nat) (X : List Assn) (hc : k1 + k2 ≤ c) (s : Sat W0 w (bytes true pb (A1 ++ A2) :: X)) => shPad (cap := c) (A1 ++ A2) r hr rfl h12 hc (by omega) s
 rw [← hA1, ← hA2]
 obtain ⟨PD, hPD⟩ : ∃ PD, PD = padB (A1 ++ A2) r := ⟨_, rfl⟩
 rw [← hPD] at hpd hpl1 hpl2 ⊢
 obtain ⟨d, hd⟩ : ∃ d, d = PD.length := ⟨_, rfl⟩
 rw [← hd] at hpd hpl1 hpl2 ⊢
 have hd700 : d ≤ 300 + n := by omega
 have hk12 : k1 + k2 ≤ 1000000000 := by omega
 have hrate0 : ((r : Int) == 0) = false := by rw [beq_eq_false_iff_ne]; omega
 have hnew := fun (w : World) (X : List Assn) (s : Sat W0 w X) => spNew (rv := (r : Int)) r (v8 4) hr rfl s
 have hwr := fun (w : World) (g q c : Nat) (qa : Option Addr) (X : List Assn) (hdc : d ≤ c) (hcM : c ≤ maxLen) (s : Sat W0 w (ledO p rs :: bytes true qa PD :: spM g r 4 [] X)) => spWriteM (cap := c) (pv := ptrO p) p rs [] PD rfl hd.symm hr0 hr2 hdc hcM (by omega) hl s
 have HX := Lib.hid (And.intro hra (And.intro hsn (And.intro hsc (And.intro hpd (And.intro hnew (And.intro hwr hk2)))))); clear hra hsn hsc hpd hnew hwr hs1 hpl1 hpl2 h12 hd hPD hA1 hA2 hk1 hk2 hr hr0 h hcl hnl2 hl2 hl3 hnl hb hb2 hl hn
 go_enter Tryz.func137, Tryz.ntmps137
 go_wp2_with fail
 refine (HX.out.1 _).mono ?_
 rintro e w1 ⟨rfl, rfl⟩
 go_wp2_with fail
 refine (HX.out.2.2.2.2.1 _ _ hs).mono ?_
 rintro e w2 ⟨g, rfl, s2⟩
 clear hs
 go_wp2_with fail
 refine (HX.out.2.1 _ (spS g nought200 r (v8 4) 0 false (ledO p rs :: bytes m pc custom :: L)) s2.f).mono ?_
 rintro e w3 ⟨q1, c1, rfl, s3⟩
 clear s2
 go_wp2_with fail
 refine (HX.out.2.2.1 _ (row q1 c1 1 k1 (u8s A1) :: spS g nought200 r (v8 4) 0 false (ledO p rs :: L)) s3.f).mono ?_
 rintro e w4 ⟨q2, c2, rfl, s4⟩
 clear s3
 obtain ⟨_, _, _, s5⟩ := rowBytes s4
 clear s4
 have s6 : Sat W0 w4 (row q1 c1 1 k1 (u8s A1) :: bytes true q2 A2 :: spS g nought200 r (v8 4) 0 false (ledO p rs :: bytes m pc custom :: L)) := s5.f
 clear s5
 go_wp2_with (at_builtin; refine wpl_app8 rfl (.tmp 40) (.tmp 42) rfl rfl rfl s6 HX.out.2.2.2.2.2.2.symm (by omega) ?_; intro q3 c3 w5 s7; clear s6)
 obtain ⟨_, hc3, _, s8⟩ := rowBytes s7
 clear s7
 refine (HX.out.2.2.2.1 _ _ _ _ hc3 s8).mono ?_
 rintro e w6 ⟨q4, c4, rfl, s9⟩
 clear s8
 obtain ⟨_, hc4, hc4m, s10⟩ := rowBytes s9
 clear s9
 have s11 : Sat W0 w6 (ledO p rs :: bytes true q4 PD :: spS g nought200 r (v8 4) 0 false (bytes m pc custom :: L)) := s10.f
 clear s10
 go_wp2_with fail
 refine (HX.out.2.2.2.2.2.1 _ g 0 c4 q4 _ hc4 hc4m s11).mono ?_
 rintro e w7 ⟨rfl, s12⟩
 clear s11
 rw [List.nil_append, List.length_nil, Nat.zero_add, Nat.zero_div, Nat.sub_zero] at s12
 have HS := Lib.hid s12; clear s12
 go_wp2_with fail
 refine bodyPost_ret (v := .tuple #[.pointer (some ⟨g, 0, none⟩), .int .i64 0]) (by simp [results, Tryz.results137, go_sem]) rfl ⟨g, rfl, ?_⟩
 have s13 := HS.out
 exact s13.f
end Go.Proofs.YtbefjaodpbgpcaaGreat
namespace Go.Proofs.YtbefjaodpbgpcaaGreat
open Go.RowKit Go.Sep Go.Bv Go.Kec
abbrev kmS (c g st r : Nat) (M : List Byte) (L : List Assn) : List Assn := seg true c 0 [.pointer (some ⟨g, 0, none⟩), .int .i64 (st : Int)] :: spM g r 4 M L
def kmOk (st r : Nat) : Prop := (st = 128 ∧ r = 168) ∨ (st = 256 ∧ r = 136)
theorem kmNew {W0 w : World} {L : List Assn} {m m2 : Bool} {pk pc : Option Addr} {nk ck n cap st r : Nat} {pv sv : Value} (p : Option Nat) (rs : List Run3) (key custom : List Byte) (hp : pv = ptrO p) (hsv : sv = .int .i64 (st : Int)) (h : kmOk st r) (hnk : key.length = nk) (hck : nk ≤ ck) (hckm : ck ≤ maxLen) (hbk : nk ≤ 100000000) (hn : custom.length = n) (hcap : n ≤ cap) (hcm : cap ≤ maxLen) (hb : n ≤ 100000000) (hb2 : tot rs + n + nk + 2000 ≤ 4611686018427387904) (hl : rs.length + 4 ≤ 4294967296)
  (hs : Sat W0 w (ledO p rs :: bytes m pk key :: bytes m2 pc custom :: L)) :
  Calls Tryz.prog 111 #[pv, sv, .slice pk nk ck, .slice pc n cap] w fun e w' => ∃ c g, e = .returned (.tuple #[.pointer (some ⟨c, 0, none⟩), .int .i64 0]) ∧ Sat W0 w' (kmS c g st r (kmPre r key custom) (ledO p (noteN rs 3 200 ((kmPre r key custom).length / r)) :: bytes m pk key :: bytes m2 pc custom :: L)) := by
 subst hp hsv
 have hr : r = 168 ∨ r = 136 := by unfold kmOk at h; omega
 have hr0 : 0 < r := by omega
 have hr2 : r ≤ 200 := by omega
 have hN : nameK.length = 4 := rfl
 have hbeg := fun (w : World) (pn : Option Addr) (s : Sat W0 w (ledO p rs :: bytes true pn nameK :: bytes m2 pc custom :: bytes m pk key :: L)) => shBegin (cn := 4) (pv := ptrO p) (sv := .int .i64 (st : Int)) p rs custom rfl rfl h (by decide) hn hcap hcm hb (by omega) (by omega) s
 have hstr := fun (w : World) (X : List Assn) (s : Sat W0 w (bytes m pk key :: X)) => shString key hnk hck (by omega) s
 have hsl := strB_len key
 have hl2 := leftB_le (8 * key.length)
 obtain ⟨hq1, hq2⟩ := padB_len (strB nameK ++ strB custom) r hr0
 obtain ⟨hp1, hp2⟩ := padB_len (strB key) r hr0
 have hpre : kmPre r key custom = padB (strB nameK ++ strB custom) r ++ padB (strB key) r := rfl
 have hcl := strB_len custom
 have hl3 := leftB_le (8 * custom.length)
 have hnl2 := strB_len nameK
 have hl4 := leftB_le (8 * nameK.length)
 have hln : (strB nameK ++ strB custom).length = (strB nameK).length + (strB custom).length := List.length_append
 rw [hN] at hnl2 hl4
 obtain ⟨D, hD⟩ : ∃ D, D = padB (strB nameK ++ strB custom) r := ⟨_, rfl⟩
 rw [← hD] at hbeg hq1 hq2 hpre
 obtain ⟨A, hA⟩ : ∃ A, A = strB key := ⟨_, rfl⟩
 rw [← hA] at hstr hsl hp1 hp2 hpre
 obtain ⟨k, hk⟩ : ∃ k, k = A.length := ⟨_, rfl⟩
 rw [← hk] at hstr hsl hp2
 have hpd := fun (w : World) (pb : Option Addr) (c : Nat) (X : List Assn) (hc : k ≤ c) (s : Sat W0 w (bytes true pb A :: X)) => shPad (cap := c) (rv := (r : Int)) A r hr rfl hk.symm hc (by omega) s
 obtain ⟨E, hE⟩ : ∃ E, E = padB A r := ⟨_, rfl⟩
 rw [← hE] at hpd hp1 hp2 hpre
 obtain ⟨d, hd⟩ : ∃ d, d = E.length := ⟨_, rfl⟩
 rw [← hd] at hpd hp1 hp2
 have hcount : D.length / r + ((D.length + d) / r - D.length / r) = (kmPre r key custom).length / r := by
  rw [hpre, List.length_append, ← hd]
  have := Nat.div_le_div_right (c := r) (show D.length ≤ D.length + d by omega)
  omega
 have hdv := Nat.div_le_self D.length r
 have hwr := fun (w : World) (g c : Nat) (qa : Option Addr) (X : List Assn) (hdc : d ≤ c) (hcM : c ≤ maxLen) (s : Sat W0 w (ledO p (noteN rs 3 200 (D.length / r)) :: bytes true qa E :: spM g r 4 D X)) => spWriteM (cap := c) (pv := ptrO p) p _ D E rfl hd.symm hr0 hr2 hdc hcM (by rw [tot_noteN]; omega) (by have := noteN_len rs 3 200 (D.length / r); omega) s
 have hrt := fun (w : World) (g : Nat) (x y z : Value) (X : List Assn) (s : Sat W0 w (seg true g 200 [.int .i64 (r : Int), x, y, z] :: X)) => spRate s
 have HX := Lib.hid (And.intro hbeg (And.intro hstr (And.intro hrt (And.intro hpd (And.intro hwr (And.intro hcount hpre)))))); clear hbeg hstr hrt hpd hwr hcount hpre hsl hl2 hq1 hq2 hp1 hp2 hcl hl3 hnl2 hl4 hln hD hA hk hE hd hdv hr hr0 hr2 h hnk hbk hn hb hb2 hl hN hcm hckm hcap hck
 have kc := fun (w : World) (C : Array Value) (n c g : Nat) (hg : g = w.heap.size) => Joins.run_convert_bytes_const_at (P := Tryz.prog) w 25 5 C n c g hg Tryz.underlying25 Tryz.underlying5
 have s0 := hs.allocMark (u8s [75, 77, 65, 67]).toArray 5
 have s1 : Sat W0 _ (bytes true (some ⟨w.heap.size, 0, none⟩) nameK :: ledO p rs :: bytes m pk key :: bytes m2 pc custom :: L) := bytesOf s0
 clear s0 hs
 go_enter Tryz.func111, Tryz.ntmps111
 go_wp2_with fail
 refine (HX.out.1 _ (some ⟨w.heap.size, 0, none⟩) s1.f).mono ?_
 rintro e w2 ⟨g, rfl, s2⟩
 clear s1
 go_wp2_with fail
 refine (HX.out.2.1 _ (spM g r 4 D (ledO p (noteN rs 3 200 (D.length / r)) :: bytes m2 pc custom :: L)) s2.f).mono ?_
 rintro e w3 ⟨q1, c1, rfl, s3⟩
 clear s2
 go_wp2_with fail
 refine (HX.out.2.2.1 _ g _ _ _ _ (s3.f : Sat W0 w3 (seg true g 200 [.int .i64 (r : Int), .int .u8 (v8 4), .int .i64 ((spState r D).2 : Int), .bool false] :: []))).mono ?_
 rintro e w' ⟨rfl, rfl⟩
 obtain ⟨_, hc1, _, s4⟩ := rowBytes s3
 clear s3
 go_wp2_with fail
 refine (HX.out.2.2.2.1 _ q1 c1 _ hc1 s4).mono ?_
 rintro e w5 ⟨q2, c2, rfl, s5⟩
 clear s4
 obtain ⟨_, hc2, hc2m, s6⟩ := rowBytes s5
 clear s5
 go_wp2_with fail
 refine (HX.out.2.2.2.2.1 _ g c2 q2 (bytes m pk key :: bytes m2 pc custom :: L) hc2 hc2m s6.f).mono ?_
 rintro e w7 ⟨rfl, s7⟩
 clear s6
 rw [noteN_add, HX.out.2.2.2.2.2.1, ← HX.out.2.2.2.2.2.2] at s7
 have HS := Lib.hid s7; clear s7
 go_wp2_with fail
 refine bodyPost_ret (v := .tuple #[.pointer (some ⟨w7.heap.size, 0, none⟩), .int .i64 0]) (by simp [results, Tryz.results111, go_sem]) rfl ⟨w7.heap.size, g, rfl, ?_⟩
 have s8 : Sat W0 (w7.alloc (.cells #[.pointer (some ⟨g, 0, none⟩), .int .i64 (st : Int)] 222)) (seg true w7.heap.size 0 [.pointer (some ⟨g, 0, none⟩), .int .i64 (st : Int)] :: ledO p (noteN rs 3 200 ((kmPre r key custom).length / r)) :: bytes true q2 E :: spM g r 4 (kmPre r key custom) (bytes m pk key :: bytes m2 pc custom :: L)) := HS.out.alloc #[.pointer (some ⟨g, 0, none⟩), .int .i64 (st : Int)] 222
 exact s8.f
theorem kmNone {W0 w : World} {L : List Assn} {c st : Nat} {x : Value} (h0 : 0 < st) (hs : Sat W0 w (seg true c 0 [x, .int .i64 (st : Int)] :: L)) :
  Calls Tryz.prog 176 #[.pointer (some ⟨c, 0, none⟩)] w fun e w' => e = .returned (.bool false) ∧ w' = w := by
 have c0 := hs.at 1 rfl
 have z0 := satLt hs (by simp)
 have e0 : ((st : Int) == 0) = false := by rw [beq_eq_false_iff_ne]; omega
 go_enter Tryz.func176, Tryz.ntmps176
 go_wp2
 go_ret
 exact ⟨rfl, rfl⟩
theorem kmWrite {W0 w : World} {L : List Assn} {m : Bool} {pp : Option Addr} {n cap c g st r : Nat} {pv : Value} (p : Option Nat) (rs : List Run3) (M P : List Byte) (hp : pv = ptrO p) (h : kmOk st r) (hP : P.length = n) (hcap : n ≤ cap) (hcm : cap ≤ maxLen) (hb : tot rs + n + 201 ≤ 4611686018427387904) (hl : rs.length + 1 ≤ 4294967296)
  (hs : Sat W0 w (ledO p rs :: bytes m pp P :: kmS c g st r M L)) :
  Calls Tryz.prog 142 #[.pointer (some ⟨c, 0, none⟩), pv, .slice pp n cap] w fun e w' => e = .returned (.int .i64 0) ∧ Sat W0 w' (ledO p (noteN rs 3 200 ((M.length + n) / r - M.length / r)) :: bytes m pp P :: kmS c g st r (M ++ P) L) := by
 subst hp
 have hst : 0 < st ∧ 0 < r ∧ r ≤ 200 := by unfold kmOk at h; omega
 have hno := kmNone hst.1 (hs.f : Sat W0 w (seg true c 0 [.pointer (some ⟨g, 0, none⟩), .int .i64 (st : Int)] :: []))
 have sC : Sat W0 w (seg true c 0 [.pointer (some ⟨g, 0, none⟩), .int .i64 (st : Int)] :: []) := hs.f
 have c0 := sC.at 0 rfl
 have z0 := satLt sC (by simp)
 have hwr := spWriteM (g := g) (sf := 4) (L := seg true c 0 [.pointer (some ⟨g, 0, none⟩), .int .i64 (st : Int)] :: L) (pv := ptrO p) p rs M P rfl hP hst.2.1 hst.2.2 hcap hcm hb hl hs.f
 have HX := Lib.hid (And.intro hno hwr); clear hno hwr hs sC hst h hP hcap hcm hb hl
 go_enter Tryz.func142, Tryz.ntmps142
 go_wp2_with fail
 refine HX.out.1.mono ?_
 rintro e w1 ⟨rfl, rfl⟩
 go_wp2_with fail
 refine HX.out.2.mono ?_
 rintro e w2 ⟨rfl, s2⟩
 have HS := Lib.hid s2; clear s2 c0 z0
 go_wp2_with fail
 go_ret
 have s3 := HS.out
 exact ⟨rfl, s3.f⟩
theorem kmForm {W0 w : World} {L : List Assn} {c g st r : Nat} (M : List Byte) (h : kmOk st r) (hs : Sat W0 w (kmS c g st r M L)) :
  Calls Tryz.prog 144 #[.pointer (some ⟨c, 0, none⟩)] w fun e w' => ∃ q d, e = .returned (.slice (some ⟨q, 0, none⟩) 203 d) ∧ Sat W0 w' (row (some ⟨q, 0, none⟩) d 1 203 (u8s (spForm (spState r M).1 (spState r M).2 false)) :: kmS c g st r M L) := by
 have hst : 0 < st ∧ 0 < r ∧ r ≤ 200 := by unfold kmOk at h; omega
 have hno := kmNone hst.1 (hs.f : Sat W0 w (seg true c 0 [.pointer (some ⟨g, 0, none⟩), .int .i64 (st : Int)] :: []))
 have sC : Sat W0 w (seg true c 0 [.pointer (some ⟨g, 0, none⟩), .int .i64 (st : Int)] :: []) := hs.f
 have c0 := sC.at 0 rfl
 have z0 := satLt sC (by simp)
 obtain ⟨h1, h2⟩ := spState_inv r hst.2.1 M
 have hlt : (spState r M).2 < 256 := by rw [h2]; have := Nat.mod_lt M.length hst.2.1; omega
 have hfo := spFormOf (g := g) (suf := v8 4) (L := seg true c 0 [.pointer (some ⟨g, 0, none⟩), .int .i64 (st : Int)] :: L) (spState r M).1 h1 hst.2.1 hlt hs.f
 have HX := Lib.hid (And.intro hno hfo); clear hno hfo hs sC hst h h1 h2 hlt
 go_enter Tryz.func144, Tryz.ntmps144
 go_wp2_with fail
 refine HX.out.1.mono ?_
 rintro e w1 ⟨rfl, rfl⟩
 go_wp2_with fail
 refine HX.out.2.mono ?_
 rintro e w2 ⟨q, d, rfl, s2⟩
 have HS := Lib.hid s2; clear s2 c0 z0
 go_wp2_with fail
 go_ret
 have s3 := HS.out
 exact ⟨q, d, rfl, s3.f⟩
theorem kmWipe {W0 w : World} {L : List Assn} {c g st r : Nat} {pv : Value} (p : Option Nat) (rs : List Run3) (M : List Byte) (hp : pv = ptrO p) (h : kmOk st r) (hb : tot rs + 1 ≤ 4611686018427387904) (hl : rs.length ≤ 4294967296) (hs : Sat W0 w (ledO p rs :: kmS c g st r M L)) :
  Calls Tryz.prog 143 #[.pointer (some ⟨c, 0, none⟩), pv] w fun e w' => e = .returned (.int .i64 0) ∧ Sat W0 w' (ledO p (note rs 8 203 1) :: L) := by
 subst hp
 have hst : 0 < st ∧ 0 < r ∧ r ≤ 200 := by unfold kmOk at h; omega
 have hno := kmNone hst.1 (hs.f : Sat W0 w (seg true c 0 [.pointer (some ⟨g, 0, none⟩), .int .i64 (st : Int)] :: []))
 have sC : Sat W0 w (seg true c 0 [.pointer (some ⟨g, 0, none⟩), .int .i64 (st : Int)] :: []) := hs.f
 have c0 := sC.at 0 rfl
 have z0 := satLt sC (by simp)
 obtain ⟨h1, h2⟩ := spState_inv r hst.2.1 M
 have hwi := spWipe (g := g) (suf := v8 4) (L := seg true c 0 [.pointer (some ⟨g, 0, none⟩), .int .i64 (st : Int)] :: L) (pv := ptrO p) p rs (spState r M).1 rfl h1 hst.2.1 hb hl hs.f
 have HX := Lib.hid (And.intro hno hwi); clear hno hwi hs sC hst h h1 h2 hb hl
 go_enter Tryz.func143, Tryz.ntmps143
 go_wp2_with fail
 refine HX.out.1.mono ?_
 rintro e w1 ⟨rfl, rfl⟩
 go_wp2_with fail
 refine HX.out.2.mono ?_
 rintro e w2 ⟨rfl, s2'⟩
 have s2 : Sat W0 w2 (seg true c 0 [.pointer (some ⟨g, 0, none⟩), .int .i64 (st : Int)] :: ledO p (note rs 8 203 1) :: L) := s2'.f
 clear s2' c0 z0
 have f0 := s2.fr 0 (by simp)
 have f1 := s2.fr 1 (by simp)
 have c0 := s2.at 0 rfl
 have c1 := s2.at 1 rfl
 have z0 := satLt s2 (by simp)
 go_wp2_with fail
 have st2 := ((s2.store (i := 0) (by simp) (.pointer none) (q := 0) rfl).store (i := 1) (by simp) (.int .i64 0) (q := 1) rfl).tail
 have HS := Lib.hid st2; clear st2 s2
 go_ret
 exact ⟨rfl, HS.out⟩
theorem kmClone {W0 w : World} {L : List Assn} {c g st r : Nat} (M : List Byte) (h : kmOk st r) (hs : Sat W0 w (kmS c g st r M L)) :
  Calls Tryz.prog 148 #[.pointer (some ⟨c, 0, none⟩)] w fun e w' => ∃ d g2, e = .returned (.tuple #[.pointer (some ⟨d, 0, none⟩), .int .i64 0]) ∧ Sat W0 w' (kmS d g2 st r M (kmS c g st r M L)) := by
 have hst : 0 < st ∧ 0 < r ∧ r ≤ 200 := by unfold kmOk at h; omega
 have hno := kmNone hst.1 (hs.f : Sat W0 w (seg true c 0 [.pointer (some ⟨g, 0, none⟩), .int .i64 (st : Int)] :: []))
 have sC : Sat W0 w (seg true c 0 [.pointer (some ⟨g, 0, none⟩), .int .i64 (st : Int)] :: []) := hs.f
 have c0 := sC.at 0 rfl
 have z0 := satLt sC (by simp)
 obtain ⟨h1, h2⟩ := spState_inv r hst.2.1 M
 have hcl := spClone (g := g) (suf := v8 4) (k := (spState r M).2) (shut := false) (L := seg true c 0 [.pointer (some ⟨g, 0, none⟩), .int .i64 (st : Int)] :: L) (spState r M).1 h1 hst.2.1 hs.f
 have HX := Lib.hid (And.intro hno hcl); clear hno hcl hs sC hst h h1 h2
 go_enter Tryz.func148, Tryz.ntmps148
 go_wp2_with fail
 refine HX.out.1.mono ?_
 rintro e w1 ⟨rfl, rfl⟩
 go_wp2_with fail
 refine HX.out.2.mono ?_
 rintro e w2 ⟨d, rfl, s2'⟩
 have s2 : Sat W0 w2 (seg true c 0 [.pointer (some ⟨g, 0, none⟩), .int .i64 (st : Int)] :: spM d r 4 M (spM g r 4 M L)) := s2'.f
 clear s2' c0 z0
 have c1 := s2.at 1 rfl
 have z0 := satLt s2 (by simp)
 have HS := Lib.hid s2; clear s2
 go_wp2_with fail
 refine bodyPost_ret (v := .tuple #[.pointer (some ⟨w2.heap.size, 0, none⟩), .int .i64 0]) (by simp [results, Tryz.results148, go_sem]) rfl ⟨w2.heap.size, d, rfl, ?_⟩
 have s8 : Sat W0 (w2.alloc (.cells #[.pointer (some ⟨d, 0, none⟩), .int .i64 (st : Int)] 222)) (seg true w2.heap.size 0 [.pointer (some ⟨d, 0, none⟩), .int .i64 (st : Int)] :: seg true c 0 [.pointer (some ⟨g, 0, none⟩), .int .i64 (st : Int)] :: spM d r 4 M (spM g r 4 M L)) := HS.out.alloc #[.pointer (some ⟨d, 0, none⟩), .int .i64 (st : Int)] 222
 exact s8.f
end Go.Proofs.YtbefjaodpbgpcaaGreat
namespace Go.Proofs.YtbefjaodpbgpcaaGreat
open Go.RowKit Go.Sep Go.Bv Go.Kec
def kmBits (xof : Bool) (n : Nat) : Nat := if xof then 0 else 8 * n
def kmEnd (r : Nat) (M : List Byte) (n bits : Nat) : Nat := ((M.length + (rightB bits).length) / r - M.length / r) + 1
theorem kmTag_eq (r : Nat) (M : List Byte) (n bits : Nat) : (spEnd r 4 ((spState r (M ++ rightB bits)).1, (spState r (M ++ rightB bits)).2)).take n = kmTag r M n bits := rfl
theorem kmSum {W0 w : World} {L : List Assn} {c g st r : Nat} {pv nv xv : Value} (p : Option Nat) (rs : List Run3) (M : List Byte) (n : Nat) (xof : Bool) (hp : pv = ptrO p) (hnv : nv = .int .i64 (n : Int)) (hxv : xv = .bool xof) (h : kmOk st r) (hn0 : 0 < n) (hn : n ≤ 64) (hb : tot rs + 500 ≤ 4611686018427387904) (hl : rs.length + 4 ≤ 4294967296)
  (hs : Sat W0 w (ledO p rs :: kmS c g st r M L)) :
  Calls Tryz.prog 146 #[.pointer (some ⟨c, 0, none⟩), pv, nv, xv] w fun e w' => ∃ q, e = .returned (.tuple #[.slice (some ⟨q, 0, none⟩) n n, .int .i64 0]) ∧ Sat W0 w' (seg true q 0 (u8s (kmTag r M n (kmBits xof n))) :: ledO p (noteN rs 3 200 (kmEnd r M n (kmBits xof n))) :: kmS c g st r M L) := by
 subst hp hnv hxv
 have hst : 0 < st ∧ 136 ≤ r ∧ r ≤ 200 := by unfold kmOk at h; omega
 have hr0 : 0 < r := by omega
 have hno := kmNone hst.1 (hs.f : Sat W0 w (seg true c 0 [.pointer (some ⟨g, 0, none⟩), .int .i64 (st : Int)] :: []))
 have sC : Sat W0 w (seg true c 0 [.pointer (some ⟨g, 0, none⟩), .int .i64 (st : Int)] :: []) := hs.f
 have c0 := sC.at 0 rfl
 have z0 := satLt sC (by simp)
 clear sC
 obtain ⟨h1, h2⟩ := spState_inv r hr0 M
 have hcl := spClone (g := g) (suf := v8 4) (k := (spState r M).2) (shut := false) (L := seg true c 0 [.pointer (some ⟨g, 0, none⟩), .int .i64 (st : Int)] :: ledO p rs :: L) (spState r M).1 h1 hr0 hs.f
 obtain ⟨bits, hbits⟩ : ∃ b, b = kmBits xof n := ⟨_, rfl⟩
 have hbb : bits ≤ 512 := by rw [hbits]; unfold kmBits; split <;> omega
 have hbv : bits < 256 ^ 7 := Nat.lt_of_le_of_lt hbb (by decide)
 have hrg := fun (w : World) (X : List Assn) (s : Sat W0 w X) => shRight (nv := (bits : Int)) bits rfl hbv s
 have hrl := rightB_le bits
 have hend : kmEnd r M n bits = ((M.length + (rightB bits).length) / r - M.length / r) + 1 := rfl
 obtain ⟨R, hR⟩ : ∃ R, R = rightB bits := ⟨_, rfl⟩
 have htag := fun (M' : List Byte) (hM : M' = M ++ rightB bits) => (by rw [hM]; exact kmTag_eq r M n bits : (spEnd r 4 ((spState r M').1, (spState r M').2)).take n = kmTag r M n bits)
 rw [← hR] at hrg hrl hend htag
 obtain ⟨d, hd⟩ : ∃ d, d = R.length := ⟨_, rfl⟩
 rw [← hd] at hrg hrl hend
 obtain ⟨j1, hj1⟩ : ∃ j, j = (M.length + d) / r - M.length / r := ⟨_, rfl⟩
 rw [← hj1] at hend
 have hjle : j1 ≤ d + 1 := by
  rw [hj1, ← divDiff _ _ _ hr0]
  have hm := Nat.mod_lt M.length hr0
  have hq : (M.length % r + d) / r ≤ d + 1 := by
   have h3 := Nat.div_le_div_right (c := r) (show M.length % r + d ≤ r + d by omega)
   rw [Nat.add_div_left _ hr0] at h3
   have := Nat.div_le_self d r
   omega
  exact hq
 have hwr := fun (w : World) (g2 c : Nat) (qa : Option Addr) (X : List Assn) (hdc : d ≤ c) (hcM : c ≤ maxLen) (s : Sat W0 w (ledO p rs :: bytes true qa R :: spM g2 r 4 M X)) => spWriteM (cap := c) (pv := ptrO p) p rs M R rfl hd.symm hr0 hst.2.2 hdc hcM (by omega) (by omega) s
 rw [← hj1] at hwr
 obtain ⟨M2, hM2⟩ : ∃ M2, M2 = M ++ R := ⟨_, rfl⟩
 rw [← hM2] at hwr
 have htag2 := htag M2 hM2
 obtain ⟨h3, h4⟩ := spState_inv r hr0 M2
 have hk2 : (spState r M2).2 < r := by rw [h4]; exact Nat.mod_lt _ hr0
 have hrd := fun (w : World) (g2 : Nat) (X : List Assn) (s : Sat W0 w (ledO p (noteN rs 3 200 j1) :: spM g2 r 4 M2 X)) => spRead (pv := ptrO p) p _ (spState r M2).1 4 n rfl h3 hr0 hst.2.2 hk2 hn0 (by omega) (by rw [tot_noteN]; omega) (by have := noteN_len rs 3 200 j1; omega) s
 rw [htag2] at hrd
 rw [← hbits]
 have hx : (xof = true ∧ bits = 0) ∨ (xof = false ∧ IntKind.i64.wrap (8 * (n : Int)) = (bits : Int)) := by
  cases xof with
  | true => exact .inl ⟨rfl, hbits⟩
  | false => exact .inr ⟨rfl, by rw [hbits, IntKind.wrap_i64]; unfold kmBits; simp only [Bool.false_eq_true, if_false]; omega⟩
 have e8 : IntKind.i64.wrap (8 * (n : Int)) = ((8 * n : Nat) : Int) := by rw [IntKind.wrap_i64]; omega
 have HX := Lib.hid (And.intro hno (And.intro hcl (And.intro hrg (And.intro hwr (And.intro hrd hend))))); clear hno hcl hrg hwr hrd hend htag htag2 h1 h2 h3 h4 hk2 hM2 hd hR hbits hbb hbv hj1 hjle hrl hst hr0 h hb hl hs
 rcases hx with ⟨rfl, hx⟩ | ⟨rfl, hx⟩
 ·have hb0 : (bits : Int) = 0 := by omega
  have HB := Lib.hid hb0; clear hb0 hx e8
  go_enter Tryz.func146, Tryz.ntmps146
  go_wp2_with fail
  refine HX.out.1.mono ?_
  rintro e w1 ⟨rfl, rfl⟩
  go_wp2_with fail
  refine HX.out.2.1.mono ?_
  rintro e w2 ⟨g2, rfl, s2⟩
  clear c0 z0
  go_wp2_with fail
  rw [← HB.out]
  refine (HX.out.2.2.1 _ _ s2).mono ?_
  rintro e w3 ⟨q1, c1, rfl, s3⟩
  clear s2
  obtain ⟨_, hc1, hc1m, s4⟩ := rowBytes s3
  clear s3
  go_wp2_with fail
  refine (HX.out.2.2.2.1 _ g2 c1 q1 (seg true c 0 [.pointer (some ⟨g, 0, none⟩), .int .i64 (st : Int)] :: spM g r 4 M L) hc1 hc1m s4.f).mono ?_
  rintro e w4 ⟨rfl, s5⟩
  clear s4
  go_wp2_with fail
  refine (HX.out.2.2.2.2.1 _ g2 (seg true c 0 [.pointer (some ⟨g, 0, none⟩), .int .i64 (st : Int)] :: spM g r 4 M L) s5.f).mono ?_
  rintro e w5 ⟨q, rfl, s6⟩
  clear s5
  rw [noteN_note, ← HX.out.2.2.2.2.2] at s6
  have HS := Lib.hid s6; clear s6
  go_wp2_with fail
  exact bodyPost_ret (v := .tuple #[.slice (some ⟨q, 0, none⟩) n n, .int .i64 0]) (by simp [results, Tryz.results146, go_sem]) rfl ⟨q, rfl, HS.out⟩
 ·clear e8
  go_enter Tryz.func146, Tryz.ntmps146
  go_wp2_with fail
  refine HX.out.1.mono ?_
  rintro e w1 ⟨rfl, rfl⟩
  go_wp2_with fail
  refine HX.out.2.1.mono ?_
  rintro e w2 ⟨g2, rfl, s2⟩
  clear c0 z0
  go_wp2_with fail
  refine (HX.out.2.2.1 _ _ s2).mono ?_
  rintro e w3 ⟨q1, c1, rfl, s3⟩
  clear s2
  obtain ⟨_, hc1, hc1m, s4⟩ := rowBytes s3
  clear s3
  go_wp2_with fail
  refine (HX.out.2.2.2.1 _ g2 c1 q1 (seg true c 0 [.pointer (some ⟨g, 0, none⟩), .int .i64 (st : Int)] :: spM g r 4 M L) hc1 hc1m s4.f).mono ?_
  rintro e w4 ⟨rfl, s5⟩
  clear s4
  go_wp2_with fail
  refine (HX.out.2.2.2.2.1 _ g2 (seg true c 0 [.pointer (some ⟨g, 0, none⟩), .int .i64 (st : Int)] :: spM g r 4 M L) s5.f).mono ?_
  rintro e w5 ⟨q, rfl, s6⟩
  clear s5
  rw [noteN_note, ← HX.out.2.2.2.2.2] at s6
  have HS := Lib.hid s6; clear s6
  go_wp2_with fail
  exact bodyPost_ret (v := .tuple #[.slice (some ⟨q, 0, none⟩) n n, .int .i64 0]) (by simp [results, Tryz.results146, go_sem]) rfl ⟨q, rfl, HS.out⟩
end Go.Proofs.YtbefjaodpbgpcaaGreat
