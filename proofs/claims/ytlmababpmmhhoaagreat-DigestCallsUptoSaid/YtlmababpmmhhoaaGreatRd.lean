
/- The document's digests: what is padded, the words, the bytes; each under the conditions that it names. -/
import Derived.Test.YtlmababpmmhhoaaGreatR06
import Derived.Test.YtlmababpmmhhoaaGreatRL
import Derived.Lib.AppendZerosOnto
namespace Go.Proofs.YtlmababpmmhhoaaGreat
open Go.RowKit Go.Sep Go.Bv Go.Sha
set_option linter.unusedVariables false
set_option linter.unusedSimpArgs false
/-- A byte in a block of its own, behind what one holds. -/
theorem byteIn {W0 w : World} {L : List Assn} {A : Assn} {z : Int} {b : Byte} {T : TypeId} (hz : z = v8 b) (h : Sat W0 w (A :: L)) : Sat W0 (w.alloc (.cells #[.int .u8 z] T)) (A :: bytes true (some ⟨w.heap.size, 0, none⟩) [b] :: L) := by
  subst hz
  exact (bytesOf (bs := [b]) (h.alloc #[.int .u8 (v8 b)] T)).pull 1
theorem zeros8 (k : Nat) : (Builtin.zeroCells (Value.int .u8 0).cells k).toList = u8s (List.replicate k 0) := by
  rw [← u8s_zero]
  have h1 : (Value.int .u8 0).cells = #[.int .u8 0] := rfl
  rw [h1]
  apply List.ext_getElem
  · simp [Builtin.zeroCells]
  · intro i h2 h3
    simp [Builtin.zeroCells, Nat.mod_one]
section
variable {W0 w : World} {L : List Assn} {ops : Array Oper} {rest : List Oper} {o : Oper} {a : Act} {Q : Exit → Act → World → Prop}
/-- 'append(s, make([]byte, k)...)'. -/
theorem wpl_appz8 (hgd : o.guard = none) (s x : Operand) (ho : o.op = .call { callee := .builtin .append, args := #[s, x], argTypes := #[41, 3] })
    {p : Option Addr} {cp n : Nat} {xs : List Byte} (k : Nat) (hv : a.eval s = .slice p n cp) (hx : a.eval x = .int .i64 k) (hs : Sat W0 w (row p cp 1 n (u8s xs) :: L)) (h0 : 0 < n) (hk : 0 < k) (hb : n + k ≤ 1000000000000)
    (h : ∀ p' c' w', Sat W0 w' (row p' c' 1 (n + k) (u8s (xs ++ List.replicate k 0)) :: L) → wpList Tryz.prog ops Q rest (a.put o.dst (.slice p' (n + k) c')) w') : wpList Tryz.prog ops Q (o :: rest) a w := by
  obtain ⟨i3, hi3, hz3, hs3, hb3⟩ := info_parts Tryz.info_u8
  have hcore : ∃ p' c' w', (Builtin.append_ #[41, 3] o.type #[.slice p n cp, .int .i64 (k : Int)]).run Tryz.prog w = .ok (.slice p' (n + k) c') w' ∧ Sat W0 w' (row p' c' 1 (n + k) (u8s (xs ++ List.replicate k 0)) :: L) := by
    obtain ⟨hxl, hopen⟩ := hs.rowOpen
    rw [Nat.mul_one] at hxl
    have hlen : (u8s (xs ++ List.replicate k 0)).length = (n + k) * 1 := by rw [u8s_append, List.length_append, hxl, u8s_len]; simp
    rcases hopen with ⟨-, -, h9, -, -⟩ | ⟨g, rst, rfl, hn, hm, hc, hL⟩
    · omega
    · have hw : IntKind.i64.wrap (k : Int) = k := by rw [IntKind.wrap_i64]; omega
      have hneg : ¬ ((k : Int) < 0) := by omega
      have hk0 : k ≠ 0 := by omega
      by_cases hroom : n + k ≤ cp
      · have hfit : n + 0 + (u8s (List.replicate k 0)).length ≤ (u8s xs ++ rst).length := by rw [hc, u8s_len, List.length_replicate, Nat.add_zero, Nat.mul_one]; exact hroom
        obtain ⟨w', hr, hs'⟩ := Sat.run_storeCells (P := Tryz.prog) n n (u8s (List.replicate k 0)) 0 _ w hL (by simp) hfit (u8s_one _)
        have hset : setL (u8s xs ++ rst) (n + 0) (u8s (List.replicate k 0)) = u8s (xs ++ List.replicate k 0) ++ rst.drop k := by
          have hrl : k ≤ rst.length := by rw [u8s_len, List.length_replicate, List.length_append, hxl] at hfit; omega
          have := setL_mid (u8s xs) (rst.take k) (rst.drop k) (u8s (List.replicate k 0)) (by rw [u8s_len]; simp; omega)
          rw [List.append_assoc, List.take_append_drop, hxl] at this
          rw [Nat.add_zero, this, u8s_append]
        rw [hset] at hs'
        refine ⟨some ⟨g, 0, none⟩, cp, w', ?_, hs'.rowMade hlen ?_ hroom hm⟩
        · have hadd : (⟨g, 0, none⟩ : Addr).add n = ⟨g, n, none⟩ := by rw [add_lit', Nat.zero_add]
          have h48i : ¬ (281474976710656 < (k : Int) * (i3.bytes : Int)) := by rw [hb3]; omega
          simp [Builtin.append_, run_underlying Tryz.underlying41, run_underlying Tryz.underlying3, sizeOf, typeInfo, zeroValue, hi3, hz3, hs3, hb3, asInt, asIntOf, hw, hneg, hroom, hk0, hadd, zeros8]
          have h48k : ¬ (281474976710656 < (k : Int)) := by omega
          rw [if_neg h48k, show (0#8) = (0 : Byte) from rfl, hr]
          rfl
        · rw [List.length_append, hlen, List.length_drop]
          rw [List.length_append, hxl] at hc
          omega
      · have hg : cp < n + k := by omega
        have hold : (Builtin.firstCells i3.size n (.slice (some ⟨g, 0, none⟩) n cp)).run Tryz.prog w.drew = .ok (u8s xs).toArray w.drew := by
          refine run_firstCells_some w.drew i3.size n ⟨g, 0, none⟩ n cp (u8s xs) (by rw [hs3, Nat.mul_one]; exact hxl) fun j u hu => ?_
          rw [add_lit']
          have := hL.cell (i := j) (v := u) (by rw [List.getElem?_append_left (List.getElem?_eq_some_iff.1 hu).1]; exact hu)
          simpa using this
        have hr := Lib.run_append_grow_zeros (P := Tryz.prog) w 41 3 o.type 5 i3 (.int .u8 0) .i64 .i64 Tryz.underlying41 Tryz.underlying3 hi3 hz3 (some ⟨g, 0, none⟩) n cp (u8s xs) hold k hk (by rw [hs3]; decide) hg (by omega) (by rw [hb3]; omega) (growslice_fits (by omega) (by rw [hb3]; omega))
        refine ⟨_, _, _, hr, ?_⟩
        have h9 := hL.tail.drew.alloc ((u8s xs).toArray ++ Builtin.zeroCells (Value.int .u8 0).cells k ++ Builtin.zeroCells (Value.int .u8 0).cells (grownCap w (n + k) cp 5 - (n + k))) 5
        simp only [Array.toList_append, zeros8] at h9
        rw [← u8s_append] at h9
        have hge := grownCap_ge w (n + k) cp 5
        refine h9.rowMade hlen ?_ hge (grownCap_le_maxLen w _ _ _ (by unfold maxLen; omega))
        rw [List.length_append, hlen, u8s_len, List.length_replicate]
        omega
  obtain ⟨p', c', w', hr, h2⟩ := hcore
  refine wpList_plain hgd fun _ hK => ?_
  unfold Oper.wp execOp
  simp only [ho, resolve, invoke, builtin, Sem.run_bind, Sem.run_pure, Result.andThen_ok, List.map_toArray, List.map_cons, List.map_nil, hv, hx, hr]
  exact hK _ _ (h p' c' w' h2)
end
theorem layBE_take {w : Nat} (n : Nat) (x : BitVec w) (i : Nat) (h : i < n) : (layBE n x).take (i + 1) = (layBE n x).take i ++ [(x >>> (8 * (n - 1 - i))).setWidth 8] := by
  rw [List.take_succ_eq_append_getElem (by rw [layBE_len]; exact h)]
  simp [layBE]
set_option maxRecDepth 100000 in
set_option maxHeartbeats 2000000 in
theorem rpad256 {W0 w : World} {L : List Assn} {m : Bool} {pp : Option Addr} {n cap : Nat} (P : List Byte) (hP : P.length = n) (hn : n ≤ 1000000000) (hs : Sat W0 w (bytes m pp P :: L)) :
    Calls Tryz.prog 76 #[.slice pp n cap] w fun e w' => ∃ q c, e = .returned (.slice q (pad256 P).length c) ∧ Sat W0 w' (row q c 1 (pad256 P).length (u8s (pad256 P)) :: bytes m pp P :: L) := by
  obtain ⟨Z, hZ⟩ : ∃ Z, Z = (119 - n % 64) % 64 := ⟨_, rfl⟩
  have HP := Lib.hid hP; clear hP
  go_enter Tryz.func76, Tryz.ntmps76
  go_wp2_with (first | (at_builtin; refine wpl_app8 (xs := []) rfl (.tmp 6) (.tmp 7) rfl rfl rfl (hs.rowNil 1) HP.out (by omega) ?_; intro pa ca wa sa; rw [Nat.zero_add, List.nil_append] at sa; clear hs) | (at_builtin; refine wpl_app8 rfl (.tmp 9) (.tmp 10) rfl rfl rfl (byteIn (b := 128) (by rfl) sa) rfl (by omega) ?_; intro pb cb wb sb))
  have s1 : Sat W0 wb (row pb cb 1 (n + 1) (u8s (P ++ [128])) :: bytes m pp P :: L) := (by (repeat (first | with_reducible apply Sat.sub (sb) | with_reducible apply Sat.alloc' | with_reducible apply Sat.drew | with_reducible apply Sat.drewN)); (repeat (first | with_reducible exact Fr.done | with_reducible exact Fr.nil | (with_reducible apply Fr.cons; (focus ((repeat (first | with_reducible exact Take.here | with_reducible apply Take.there)); done))) | with_reducible apply Fr.skip)); done)
  clear sa sb
  go_loopw [3] (fun t3 wr => ∃ (j : Nat) (q : Option Addr) (c : Nat), j ≤ Z ∧ t3 = .slice q (n + 1 + j) c ∧ Sat W0 wr (row q c 1 (n + 1 + j) (u8s (P ++ 128 :: List.replicate j 0)) :: bytes m pp P :: L)) (fun t3 _ => n + 200 - (match t3 with | .slice _ l _ => l | _ => 0))
  case atStart => exact ⟨0, pb, cb, Nat.zero_le _, rfl, s1⟩
  case round =>
    clear s1
    obtain ⟨j, q, c, hj, rfl, s⟩ := hrel
    obtain ⟨k, hk⟩ : ∃ k, k = n + 1 + j := ⟨_, rfl⟩
    rw [← hk] at s ⊢
    by_cases hlt : j < Z
    · have g1 : ¬ (k : Int) % 64 = 56 := by omega
      have g2 : ¬ (k : Int).tmod 64 = 56 := by rw [Int.tmod_eq_emod_of_nonneg (by omega)]; exact g1
      have hkb : k ≤ 2000000000 := by omega
      have HK := Lib.hid (And.intro hk hZ); clear hk hZ
      go_wp2_with (at_builtin; refine wpl_app8 rfl (.tmp 16) (.tmp 17) rfl rfl rfl (byteIn (b := 0) (by rfl) s) rfl (by omega) ?_; intro p9 c9 w9 s9)
      go_roundw
      case rel => exact ⟨j + 1, p9, c9, by omega, by rw [show k + 1 = n + 1 + (j + 1) from by have := HK.out.1; omega], by rw [show n + 1 + (j + 1) = k + 1 from by have := HK.out.1; omega, show P ++ 128 :: List.replicate (j + 1) 0 = P ++ 128 :: List.replicate j 0 ++ [0] by rw [List.replicate_succ']; simp]; exact s9.drop 1⟩
      case measure => have := HK.out.1; have := HK.out.2; simp; omega
    · obtain rfl : j = Z := by omega
      have g1 : (k : Int) % 64 = 56 := by omega
      have g2 : (k : Int).tmod 64 = 56 := by rw [Int.tmod_eq_emod_of_nonneg (by omega)]; exact g1
      obtain ⟨X, hX⟩ : ∃ X : BitVec 64, X = BitVec.ofNat 64 (8 * n) := ⟨_, rfl⟩
      have hv : v64 X = 8 * (n : Int) := by rw [hX]; unfold v64; rw [BitVec.toNat_ofNat, Nat.mod_eq_of_lt (by omega)]; omega
      obtain ⟨B, hB⟩ : ∃ B, B = P ++ 128 :: List.replicate j 0 := ⟨_, rfl⟩
      rw [← hB] at s
      have hfin : B ++ layBE 8 X = pad256 P := by rw [hB, hX, hZ, pad256, HP.out]
      have hfl : (pad256 P).length = k + 8 := by rw [← hfin, List.length_append, layBE_len, hB]; simp [HP.out]; omega
      have HF := Lib.hid (And.intro hfin (And.intro hv hfl)); clear hfin hfl hv hB hX
      have hkb : k ≤ 2000000000 := by omega
      clear hZ hk
      go_wp2_with fail
      rw [← HF.out.2.1]
      go_loopw [3, 5] (fun t3 t5 wr => ∃ (i : Nat) (q : Option Addr) (c : Nat), i ≤ 8 ∧ t5 = .int .i64 (i : Int) ∧ t3 = .slice q (k + i) c ∧ Sat W0 wr (row q c 1 (k + i) (u8s (B ++ (layBE 8 X).take i)) :: bytes m pp P :: L)) (fun _ t5 _ => 8 - (intOf t5).toNat)
      case atStart => exact ⟨0, q, c, by omega, rfl, rfl, by rw [List.take_zero, List.append_nil]; exact s⟩
      case round =>
        clear s
        obtain ⟨i, q, c, hi, rfl, rfl, s⟩ := hrel
        by_cases hlt8 : i < 8
        · have b1 : (56 : Int) - 8 * (i : Int) = ((8 * (8 - 1 - i) : Nat) : Int) := by omega
          go_wp2_with (at_builtin; refine wpl_app8 rfl (.tmp 27) (.tmp 34) rfl rfl rfl (byteIn (b := (X >>> (8 * (7 - i))).setWidth 8) (by rw [← vlow64, ← vshr64]) s) rfl (by omega) ?_; intro p9 c9 w9 s9)
          go_roundw
          case rel => exact ⟨i + 1, p9, c9, by omega, by go_num, rfl, by rw [layBE_take 8 X i hlt8, ← List.append_assoc]; exact s9.drop 1⟩
          case measure => simp [intOf]; omega
        · obtain rfl : i = 8 := by omega
          have e1 : (layBE 8 X).take 8 = layBE 8 X := List.take_of_length_le (by rw [layBE_len]; exact Nat.le_refl _)
          rw [e1, HF.out.1] at s
          go_wp2
          go_ret
          exact ⟨q, c, by rw [HF.out.2.2]; rfl, by rw [HF.out.2.2]; exact s⟩
set_option maxRecDepth 100000 in
set_option maxHeartbeats 2000000 in
theorem rlaid256 {W0 w : World} {L : List Assn} (h : List (BitVec 32)) (hh : h.length = 8) (hs : Sat W0 w L) :
    Calls Tryz.prog 74 #[.agg (u32s h).toArray] w fun e w' => ∃ q c, e = .returned (.slice q 32 c) ∧ Sat W0 w' (row q c 1 32 (u8s (laid 4 h)) :: L) := by
  have HH := Lib.hid hh; clear hh
  go_enter Tryz.func74, Tryz.ntmps74
  go_wp2_with (refine wpl_box rfl 103 (.tmp 0) rfl (u32s h) rfl hs ?_; intro w1 gh s1 _; clear hs)
  go_loopw [3, 4] (fun t3 t4 wr => ∃ (i : Nat) (q : Option Addr) (c : Nat), i ≤ 8 ∧ t4 = .int .i64 (i : Int) ∧ t3 = .slice q (i * 4) c ∧ Sat W0 wr (row q c 1 (i * 4) (u8s (laid 4 (h.take i))) :: seg true gh 0 (u32s h) :: L)) (fun _ t4 _ => 8 - (intOf t4).toNat)
  case atStart => exact ⟨0, none, 0, by omega, rfl, rfl, s1.rowNil 1⟩
  case round =>
    clear s1
    obtain ⟨i, q, c, hi, rfl, rfl, s⟩ := hrel
    by_cases hlt : i < 8
    · have sh : Sat W0 wr (seg true gh 0 (u32s h) :: _) := s.pull 1
      have ch := sh.at i (u32s_get _ i (by rw [HH.out]; exact hlt))
      have zh := sh.lt (by rw [u32s_len, HH.out]; decide)
      obtain ⟨X, hX⟩ : ∃ X, X = h.getD i 0 := ⟨_, rfl⟩
      rw [← hX] at ch
      have hn : laid 4 (h.take (i + 1)) = laid 4 (h.take i) ++ layBE 4 X := by
        rw [List.take_succ_eq_append_getElem (by rw [HH.out]; exact hlt), laid_snoc, hX, List.getD_eq_getElem?_getD, List.getElem?_eq_getElem (by rw [HH.out]; exact hlt)]
        rfl
      obtain ⟨k, hk⟩ : ∃ k, k = i * 4 := ⟨_, rfl⟩
      obtain ⟨B, hB⟩ : ∃ B, B = laid 4 (h.take i) := ⟨_, rfl⟩
      rw [← hk, ← hB] at s
      rw [← hk]
      rw [← hB] at hn
      have HN := Lib.hid (And.intro hn (And.intro hk hX)); clear hn hk hB hX
      have hkb : k ≤ 28 := by have := HN.out.2.1; omega
      have g0 : decide ((i : Int) < 8) = true := by simp; omega
      go_wp2_with fail
      try rw [g0]
      go_loopw [3, 5] (fun t3 t5 wr => ∃ (j : Nat) (q : Option Addr) (c : Nat), j ≤ 4 ∧ t5 = .int .i64 (j : Int) ∧ t3 = .slice q (k + j) c ∧ Sat W0 wr (row q c 1 (k + j) (u8s (B ++ (layBE 4 X).take j)) :: seg true gh 0 (u32s h) :: L)) (fun _ t5 _ => 4 - (intOf t5).toNat)
      case atStart => exact ⟨0, q, c, by omega, rfl, rfl, by rw [List.take_zero, List.append_nil]; exact s⟩
      case round =>
        clear s sh ch zh
        obtain ⟨j, q, c, hj, rfl, rfl, s⟩ := hrel
        by_cases hlt4 : j < 4
        · have sh : Sat W0 wr (seg true gh 0 (u32s h) :: _) := s.pull 1
          have ch := sh.at i (u32s_get _ i (by rw [HH.out]; exact hlt))
          have zh := sh.lt (by rw [u32s_len, HH.out]; decide)
          rw [← HN.out.2.2] at ch
          have b1 : (24 : Int) - 8 * (j : Int) = ((8 * (3 - j) : Nat) : Int) := by omega
          go_wp2_with (at_builtin; refine wpl_app8 rfl (.tmp 14) (.tmp 23) rfl rfl rfl (byteIn (b := (X >>> (8 * (3 - j))).setWidth 8) (by rw [← vlow32, ← vshr32]) s) rfl (by omega) ?_; intro p9 c9 w9 s9)
          go_roundw
          case rel => exact ⟨j + 1, p9, c9, by omega, by go_num, rfl, by rw [layBE_take 4 X j hlt4, ← List.append_assoc]; exact s9.drop 1⟩
          case measure => simp [intOf]; omega
        · obtain rfl : j = 4 := by omega
          have e1 : (layBE 4 X).take 4 = layBE 4 X := List.take_of_length_le (by rw [layBE_len]; exact Nat.le_refl _)
          rw [e1, ← HN.out.1] at s
          clear e1
          go_wp2
          go_roundw
          case rel => exact ⟨i + 1, q, c, by omega, by go_num, by rw [show k + 4 = (i + 1) * 4 from by have := HN.out.2.1; omega], by rw [show (i + 1) * 4 = k + 4 from by have := HN.out.2.1; omega]; exact s⟩
          case measure => simp [intOf]; omega
    · obtain rfl : i = 8 := by omega
      have e1 : h.take 8 = h := List.take_of_length_le (by rw [HH.out]; exact Nat.le_refl _)
      rw [e1] at s
      go_wp2
      go_ret
      exact ⟨q, c, rfl, s.drop 1⟩
set_option maxRecDepth 100000 in
set_option maxHeartbeats 2000000 in
theorem rwords256 {W0 w : World} {L : List Assn} {m : Bool} {bp op n cap : Nat} (P : List Byte) (hP : P.length = n) (hn : n ≤ 1000000000000) (hs : Sat W0 w (seg m bp op (u8s P) :: L)) :
    Calls Tryz.prog 75 #[.slice (some ⟨bp, op, none⟩) n cap] w fun e w' => e = .returned (.agg (u32s (blocks256 H256 P (n / 64))).toArray) ∧ Sat W0 w' (seg m bp op (u8s P) :: L) := by
  have HP := Lib.hid hP; clear hP
  go_enter Tryz.func75, Tryz.ntmps75
  go_wp2_with (refine wpl_alloc_agg rfl 103 rfl hs _ (zero_a8u32 _) ?_; intro w1 gr s1 _; clear hs)
  refine (rbegin256 s1).mono ?_
  rintro e w2 ⟨rfl, s2⟩
  clear s1
  go_wp2_with (first | (refine wpl_alloc_agg rfl 103 rfl s2 _ (zero_a8u32 _) ?_; intro w3 gh s3 _; clear s2) | (refine wpl_store_agg rfl rfl 103 (.tmp 3) (.tmp 5) rfl (cs := u32s H256) s3 0 0 Tryz.size_a8u32 rfl rfl rfl (by rw [u32s_len, u32s_len, H256_len', nought8_len]; decide) (u32s_one _) ?_; intro w4 s4; rw [setL_all _ _ (by rw [u32s_len, u32s_len, H256_len', nought8_len])] at s4; clear s3))
  have s5 : Sat W0 w4 (seg true gh 0 (u32s (blocks256 H256 P 0)) :: seg true gr 0 (u32s nought8) :: seg m bp op (u8s P) :: L) := s4
  clear s4
  go_loopw [4] (fun t4 wr => ∃ (i : Nat), i ≤ n / 64 ∧ t4 = .int .i64 (64 * (i : Int)) ∧ Sat W0 wr (seg true gh 0 (u32s (blocks256 H256 P i)) :: seg true gr 0 (u32s nought8) :: seg m bp op (u8s P) :: L)) (fun t4 _ => n - (intOf t4).toNat)
  case atStart => exact ⟨0, Nat.zero_le _, rfl, s5⟩
  case round =>
    clear s5
    obtain ⟨i, hi, rfl, s⟩ := hrel
    obtain ⟨H, hH⟩ : ∃ H, H = blocks256 H256 P i := ⟨_, rfl⟩
    have hHl : H.length = 8 := by rw [hH]; exact blk_len (fun h b hh => comp_len _ _ _ _ _ _ hh) 64 _ _ _ rfl
    rw [← hH] at s
    have hz8 : 0 + (u32s H).length ≤ (u32s nought8).length := by rw [u32s_len, u32s_len, hHl, nought8_len]; decide
    have hsz8 : (Tryz.prog.info? 103).map (·.size) = some (u32s H).length := by rw [u32s_len, hHl]; exact Tryz.size_a8u32
    have ht8 : (u32s H).take 8 = u32s H := List.take_of_length_le (by rw [u32s_len, hHl]; exact Nat.le_refl _)
    have HR := Lib.hid (And.intro hH (And.intro hHl (And.intro hz8 (And.intro hsz8 ht8)))); clear hH hHl hz8 hsz8 ht8
    obtain ⟨a, ha⟩ : ∃ a, a = 64 * i := ⟨_, rfl⟩
    have ha2 : 64 * (i : Int) = (a : Int) := by omega
    rw [ha2]
    by_cases hlt : a + 64 ≤ n
    · have g1 : (a : Int) + 64 ≤ (n : Int) := by omega
      have hR : blocks256 H256 P (i + 1) = comp256 H ((P.drop a).take 64) := by rw [HR.out.1, ha]; rfl
      obtain ⟨R, hR2⟩ : ∃ R, R = comp256 H ((P.drop a).take 64) := ⟨_, rfl⟩
      have hRl : R.length = 8 := by rw [hR2]; exact comp_len _ _ _ _ _ _ HR.out.2.1
      rw [← hR2] at hR
      have hsz9 : (Tryz.prog.info? 103).map (·.size) = some (u32s R).length := by rw [u32s_len, hRl]; exact Tryz.size_a8u32
      have hz9 : 0 + (u32s R).length ≤ (u32s H).length := by rw [u32s_len, u32s_len, hRl, HR.out.2.1]; decide
      have HS := Lib.hid (And.intro hR (And.intro hR2 (And.intro hRl (And.intro hsz9 (And.intro hz9 ha))))); clear hR hR2 hRl hsz9 hz9 ha ha2
      go_wp2_with (refine wpl_load_agg rfl 103 (.tmp 3) rfl Tryz.underlying103 rfl (n := 8) (by kernel_rfl) s 0 0 rfl rfl (by rw [u32s_len, HR.out.2.1]; exact Nat.le_refl _) ?_)
      rw [show Value.agg (List.take 8 (u32s H)).toArray = Value.agg (u32s H).toArray by rw [HR.out.2.2.2.2]]
      refine (rcomp256 H P HR.out.2.1 HP.out (by omega) (by omega) (s.pull 2)).mono ?_
      rintro e w5 ⟨rfl, s6⟩
      rw [← HS.out.2.1]
      have s7 : Sat W0 w5 (seg true gh 0 (u32s H) :: seg true gr 0 (u32s nought8) :: seg m bp op (u8s P) :: L) := s6.pick [1, 2]
      clear s s6
      go_wp2_with (refine wpl_store_agg rfl rfl 103 (.tmp 3) (.tmp 16) rfl (cs := u32s R) s7 0 0 HS.out.2.2.2.1 rfl rfl rfl HS.out.2.2.2.2.1 (u32s_one _) ?_; intro w8 s8; rw [setL_all _ _ (by rw [u32s_len, u32s_len, HS.out.2.2.1, HR.out.2.1]), ← HS.out.1] at s8)
      go_roundw
      case rel => exact ⟨i + 1, by have := HS.out.2.2.2.2.2; omega, by rw [show (a : Int) + 64 = 64 * ((i + 1 : Nat) : Int) from by have := HS.out.2.2.2.2.2; omega], s8⟩
      case measure => simp [intOf]; omega
    · have g1 : ¬ (a : Int) + 64 ≤ (n : Int) := by omega
      have hie : i = n / 64 := by omega
      have sr : Sat W0 wr (seg true gr 0 (u32s nought8) :: _) := s.pull 1
      have hab : a ≤ 1000000000000 := by omega
      have HI := Lib.hid hie; clear hie ha ha2 hi
      go_wp2_with (first | (refine wpl_load_agg rfl 103 (.tmp 3) rfl Tryz.underlying103 rfl (n := 8) (by kernel_rfl) s 0 0 rfl rfl (by rw [u32s_len, HR.out.2.1]; exact Nat.le_refl _) ?_) | (refine wpl_store_agg rfl rfl 103 (.tmp 2) (.tmp 17) rfl (cs := u32s H) sr 0 0 HR.out.2.2.2.1 rfl (show Value.agg (List.take 8 (u32s H)).toArray = Value.agg (u32s H).toArray by rw [HR.out.2.2.2.2]) rfl HR.out.2.2.1 (u32s_one _) ?_; intro w12 s12))
      rw [setL_all _ _ (by rw [u32s_len, u32s_len, HR.out.2.1, nought8_len])] at s12
      refine bodyPost_ret (v := .agg (u32s H).toArray) ?_ rfl ⟨by rw [HR.out.1, HI.out], ?_⟩
      · have hr := run_loadVar_agg (P := Tryz.prog) (ty := 103) Tryz.underlying103 rfl Tryz.size_a8u32 s12 0 0 rfl (by simp [u32s_len, HR.out.2.1])
        rw [List.drop_zero, List.take_of_length_le (by simp [u32s_len, HR.out.2.1])] at hr
        simp [results, Tryz.results75, asAddr]; exact hr
      · exact (s12.drop 0).drop 0
theorem pad256_ne (P : List Byte) : pad256 P ≠ [] := by intro h; have := congrArg List.length h; simp [pad256] at this
set_option maxHeartbeats 1000000 in
theorem rdigest256 {W0 w : World} {L : List Assn} {m : Bool} {pp : Option Addr} {n cap : Nat} (P : List Byte) (hP : P.length = n) (hn : n ≤ 1000000000) (hs : Sat W0 w (bytes m pp P :: L)) :
    Calls Tryz.prog 62 #[.slice pp n cap] w fun e w' => ∃ q c, e = .returned (.slice q 32 c) ∧ Sat W0 w' (row q c 1 32 (u8s (hash false P)) :: bytes m pp P :: L) := by
  have hB : (pad256 P).length ≤ 1000000200 := by rw [pad256_len, hP]; omega
  have HP := Lib.hid (And.intro hP hB); clear hP hB
  go_enter Tryz.func62, Tryz.ntmps62
  go_wp2_with fail
  refine (rpad256 P HP.out.1 hn hs).mono ?_
  rintro e w1 ⟨q, c, rfl, s1⟩
  clear hs
  obtain ⟨B, hB⟩ : ∃ B, B = pad256 P := ⟨_, rfl⟩
  rw [← hB] at s1 ⊢
  have hne : B ≠ [] := by rw [hB]; exact pad256_ne P
  have hbl : B.length ≤ 1000000200 := by rw [hB]; exact HP.out.2
  obtain ⟨_, hc1, hc2, s2⟩ := rowBytes s1
  obtain ⟨b5, o5, rfl, s3⟩ := bytesCell s2 hne
  clear s1 s2
  obtain ⟨H, hH⟩ : ∃ H, H = blocks256 H256 B (B.length / 64) := ⟨_, rfl⟩
  have hHl : H.length = 8 := by rw [hH]; exact blk_len (fun h b hh => comp_len _ _ _ _ _ _ hh) 64 _ _ _ rfl
  have HB := Lib.hid (And.intro hB (And.intro hH hHl)); clear hB hH hHl hne
  go_wp2_with fail
  refine (rwords256 B rfl (by omega) s3).mono ?_
  rintro e w2 ⟨rfl, s4⟩
  rw [← HB.out.2.1]
  clear s3
  go_wp2_with fail
  refine (rlaid256 H HB.out.2.2 s4).mono ?_
  rintro e w3 ⟨q5, c5, rfl, s5⟩
  go_wp2
  go_ret
  refine ⟨q5, c5, rfl, ?_⟩
  have e1 : hash false P = laid 4 H := by rw [HB.out.2.1, HB.out.1]; rfl
  rw [e1]
  exact s5.drop 1
set_option maxHeartbeats 1000000 in
theorem revent05 {W0 w : World} {L : List Assn} (hs : Sat W0 w L) : Calls Tryz.prog 58 #[] w fun e w' => e = .returned (.agg #[.int .u8 1, .int .i64 64]) ∧ Sat W0 w' L := by
  go_enter Tryz.func58, Tryz.ntmps58
  go_wp2
  refine bodyPost_ret (v := .agg #[.int .u8 1, .int .i64 64]) (by simp [results, Tryz.results58, go_sem, asAddr]) rfl ⟨rfl, ?_⟩
  exact (hs.alloc _ _).tail
set_option maxHeartbeats 1000000 in
theorem rsum05 {W0 w : World} {L : List Assn} {m : Bool} {pp : Option Addr} {n cap l : Nat} (rs : List Run3) (P : List Byte) (hP : P.length = n) (hn : n ≤ 1000000000) (hb : tot rs + n + 1000 ≤ 4611686018427387904) (hl : rs.length ≤ 4294967296) (hs : Sat W0 w (rled l rs :: bytes m pp P :: L)) :
    Calls Tryz.prog 122 #[.pointer (some ⟨l, 0, none⟩), .slice pp n cap] w fun e w' => ∃ q c, e = .returned (.slice q 32 c) ∧ Sat W0 w' (row q c 1 32 (u8s (hash false P)) :: rled l (noteN rs 1 64 (padN false n)) :: bytes m pp P :: L) := by
  have hpl : (pad256 P).length / 64 = padN false n := by rw [pad256N, hP]
  obtain ⟨k, hk⟩ : ∃ k, k = (pad256 P).length := ⟨_, rfl⟩
  have hkb : k ≤ 1000000200 := by rw [hk, pad256_len, hP]; omega
  have HP := Lib.hid (And.intro hP (And.intro hb (And.intro hpl hk))); clear hP hb hpl hk
  go_enter Tryz.func122, Tryz.ntmps122
  go_wp2_with fail
  refine (revent05 hs).mono ?_
  rintro e w1 ⟨rfl, s1⟩
  clear hs
  go_wp2_with fail
  refine (rpad256 P HP.out.1 hn (by (repeat (first | with_reducible apply Sat.sub (s1) | with_reducible apply Sat.alloc' | with_reducible apply Sat.drew | with_reducible apply Sat.drewN)); (repeat (first | with_reducible exact Fr.done | with_reducible exact Fr.nil | (with_reducible apply Fr.cons; (focus ((repeat (first | with_reducible exact Take.here | with_reducible apply Take.there)); done))) | with_reducible apply Fr.skip)); done)).mono ?_
  rintro e w2 ⟨q, c, rfl, s2⟩
  clear s1
  rw [← HP.out.2.2.2] at s2 ⊢
  go_wp2_with fail
  refine (rnoteN rs 1 64 (padN false n) (by rw [← HP.out.2.2.1, ← HP.out.2.2.2]; omega) (by (repeat (first | with_reducible apply Sat.sub (s2) | with_reducible apply Sat.alloc' | with_reducible apply Sat.drew | with_reducible apply Sat.drewN)); (repeat (first | with_reducible exact Fr.done | with_reducible exact Fr.nil | (with_reducible apply Fr.cons; (focus ((repeat (first | with_reducible exact Take.here | with_reducible apply Take.there)); done))) | with_reducible apply Fr.skip)); done) (by rw [← HP.out.2.2.1, ← HP.out.2.2.2]; have := HP.out.2.1; rw [HP.out.2.2.2, pad256_len, HP.out.1]; omega) hl).mono ?_
  rintro e w3 ⟨rfl, s3⟩
  clear s2
  go_wp2_with fail
  refine (rdigest256 P HP.out.1 hn (by (repeat (first | with_reducible apply Sat.sub (s3) | with_reducible apply Sat.alloc' | with_reducible apply Sat.drew | with_reducible apply Sat.drewN)); (repeat (first | with_reducible exact Fr.done | with_reducible exact Fr.nil | (with_reducible apply Fr.cons; (focus ((repeat (first | with_reducible exact Take.here | with_reducible apply Take.there)); done))) | with_reducible apply Fr.skip)); done)).mono ?_
  rintro e w4 ⟨q4, c4, rfl, s4⟩
  clear s3
  go_wp2
  go_ret
  exact ⟨q4, c4, rfl, (by (repeat (first | with_reducible apply Sat.sub (s4) | with_reducible apply Sat.alloc' | with_reducible apply Sat.drew | with_reducible apply Sat.drewN)); (repeat (first | with_reducible exact Fr.done | with_reducible exact Fr.nil | (with_reducible apply Fr.cons; (focus ((repeat (first | with_reducible exact Take.here | with_reducible apply Take.there)); done))) | with_reducible apply Fr.skip)); done)⟩
end Go.Proofs.YtlmababpmmhhoaaGreat
