
/- Layer 6's program goes on with a message: Write; under the conditions that it names. -/
import Derived.Deep.RegionHeld3
import Derived.Deep.MidRow
import Derived.Test.YtlmababpmmhhoaaGreatSha512b
import Derived.Test.YtlmababpmmhhoaaGreatSha256e
namespace Go.Sep
set_option linter.unusedVariables false
set_option linter.unusedSimpArgs false
theorem Sat.setCells {W0 : World} {L : List Assn} {b o : Nat} : ∀ (cs : List Value) (w : World) (vs : List Value) (k q : Nat), Sat W0 w (seg true b o vs :: L) → q = o + k → k + cs.length ≤ vs.length → Sat W0 (w.setCells b q cs) (seg true b o (setL vs k cs) :: L)
  | [], w, vs, k, q, h, _, _ => h
  | v :: cs, w, vs, k, q, h, hq, hl => by
    simp only [List.length_cons] at hl
    exact Sat.setCells cs (w.setCell ⟨b, q, none⟩ v) (vs.set k v) (k + 1) (q + 1) (h.store (by omega) v hq) (by omega) (by simp; omega)
theorem Sat.rangeAt {W0 w : World} {L : List Assn} {m : Bool} {b o : Nat} {vs : List Value} (h : Sat W0 w (seg m b o vs :: L)) : w.rangeAt b o vs := fun j v hv => h.cell hv
theorem Sat.there {W0 w : World} {L : List Assn} {b o n : Nat} {vs : List Value} (h : Sat W0 w (seg true b o vs :: L)) (hn : n ≤ vs.length) : w.there b o n := fun j hj => by
  have hj' : j < vs.length := by omega
  exact ⟨by rw [h.cell (i := j) (v := vs[j]) (by simp [hj'])]; rfl, (h.free hj').1⟩
/-- A whole array or struct is read in a region's head. -/
theorem wpq_load_agg {P : Program} {W0 w : World} {L : List Assn} {ops : Array Oper} {Q : Act → Prop} {o : Oper} {rest : List Oper} {a : Act} (hgd : o.guard = none) (ty : TypeId) (x : Operand) (ho : o.op = .load ty x) {d : TypeDesc} (hu : P.underlying ty = some d) (hd : (match d with | .struct _ | .array _ _ => true | _ => false) = true)
    {n : Nat} (hi : (P.info? ty).map (·.size) = some n) {m : Bool} {b off : Nat} {vs : List Value} (hs : Sat W0 w (seg m b off vs :: L)) (k q : Nat) (hx : a.eval x = .pointer (some ⟨b, q, none⟩)) (hq : q = off + k) (hn : k + n ≤ vs.length)
    (h : wpQuiet P ops (fun w' => ∃ j, w' = w.drewN j) Q rest (a.put o.dst (.agg ((vs.drop k).take n).toArray))) : wpQuiet P ops (fun w' => ∃ j, w' = w.drewN j) Q (o :: rest) a := by
  refine wpQuiet_step fun K hK => ?_
  rw [if_pos (by simp [Region.wanted, hgd])]
  refine ⟨_, ?_, hK _ h⟩
  rintro w' ⟨j, rfl⟩
  unfold Oper.quietAt execOp
  simp only [ho, hx, Instr.loadAt, Instr.sureAddr, Sem.run_bind, Sem.run_pure, Result.andThen_ok, run_loadVar_agg hu hd hi (hs.drewN j) k q hq hn]
  exact ⟨rfl, rfl⟩
end Go.Sep
namespace Go.Proofs.YtlmababpmmhhoaaGreat
open Go.RowKit Go.Sep Go.Bv Go.Sha
set_option linter.unusedVariables false
set_option linter.unusedSimpArgs false
/-- A state's memory: whether it is made, the words, the length, what waits. -/
abbrev st512 (b : Nat) (h : List (BitVec 64)) (n : Nat) (wait : List Byte) (L : List Assn) : List Assn :=
  seg true b 0 [.bool true] :: seg true b 1 (u64s h) :: seg true b 9 [.int .u64 (n : Int)] :: seg true b 10 (u8s wait) :: L
abbrev stM512 (b : Nat) (msg : List Byte) (L : List Assn) : List Assn := st512 b (blocks512 H512 msg (msg.length / 128)) msg.length (waitOf 128 msg) L
theorem comp512_len (h : List (BitVec 64)) (b : List Byte) (hh : h.length = 8) : (comp512 h b).length = 8 := comp_len _ _ _ _ _ _ hh
theorem blocks512_len (h : List (BitVec 64)) (p : List Byte) (n : Nat) (hh : h.length = 8) : (blocks512 h p n).length = 8 := blk_len comp512_len 128 h p n hh
theorem is512 {W0 w : World} {L : List Assn} {b : Nat} (hs : Sat W0 w (seg true b 0 [.bool true] :: L)) : Calls Tryz.prog 72 #[.pointer (some ⟨b, 0, none⟩)] w fun e w' => e = .returned (.bool true) ∧ w = w' := by
  have c := hs.cell (i := 0) rfl
  go_enter Tryz.func72, Tryz.ntmps72
  go_wp2
  go_ret
  exact ⟨rfl, rfl⟩
set_option maxRecDepth 100000 in
set_option maxHeartbeats 4000000 in
theorem write512c {W0 w : World} {L : List Assn} {b pb po cap : Nat} {m : Bool} (p : Option Nat) (rs : List Run3) (msg bs : List Byte) (hcap : bs.length ≤ cap) (hcm : cap ≤ maxLen) (hb : tot rs + msg.length + bs.length ≤ 2305843009213693952) (hl : rs.length ≤ 1048576)
    (hs : Sat W0 w (ledO p rs :: seg m pb po (u8s bs) :: stM512 b msg L)) :
    Calls Tryz.prog 54 #[.pointer (some ⟨b, 0, none⟩), ptrO p, .slice (some ⟨pb, po, none⟩) bs.length cap] w fun e w' => e = .returned (.int .i64 0) ∧ Sat W0 w' (ledO p (noteN rs 2 128 ((msg.length + bs.length) / 128 - msg.length / 128)) :: seg m pb po (u8s bs) :: stM512 b (msg ++ bs) L) := by
  obtain ⟨len, hlen⟩ : ∃ len, len = bs.length := ⟨_, rfl⟩
  rw [← hlen] at hcap ⊢
  unfold maxLen at hcm
  have hn : Sat W0 w (seg true b 0 [.bool true] :: _) := hs.pull 2
  have Hb := Lib.hid hb; have Hlen := Lib.hid hlen; clear hb hlen
  go_enter Tryz.func54, Tryz.ntmps54
  go_wp2_with fail
  refine (is512 hn).mono ?_
  rintro e w' ⟨rfl, rfl⟩
  clear hn
  go_wp2_with fail
  go_loopw [2] (fun t2 wr => ∃ (j : Nat) (q : Option Addr) (c' : Nat), j ≤ len ∧ t2 = .slice q (len - j) c' ∧ (j < len → q = some ⟨pb, po + j, none⟩) ∧ len - j ≤ c' ∧ c' ≤ 9223372036854775807 ∧ Sat W0 wr (ledO p (noteN rs 2 128 ((msg.length + j) / 128 - msg.length / 128)) :: seg m pb po (u8s bs) :: stM512 b (msg ++ bs.take j) L)) (fun t2 _ => match t2 with | .slice _ n _ => n | _ => 0)
  case atStart => exact ⟨0, _, cap, Nat.zero_le _, rfl, fun _ => rfl, hcap, hcm, by simpa [noteN] using hs⟩
  case round =>
    clear hs
    obtain ⟨j, q, c', hj, rfl, hq, hc1, hc2, s⟩ := hrel
    by_cases hlt : j < len
    · obtain rfl := hq hlt
      obtain ⟨M, hM⟩ : ∃ M, M = msg ++ bs.take j := ⟨_, rfl⟩
      rw [← hM] at s
      have hMl : M.length = msg.length + j := by rw [hM, List.length_append, List.length_take, ← Hlen.out]; omega
      obtain ⟨r, hr⟩ : ∃ r, r = M.length % 128 := ⟨_, rfl⟩
      have hr64 : r < 128 := by omega
      have sn : Sat W0 wr (seg true b 9 [.int .u64 (M.length : Int)] :: _) := s.pull 4
      have sw : Sat W0 wr (seg true b 10 (u8s (waitOf 128 M)) :: _) := s.pull 5
      have cn : wr.cell? ⟨b, 9, none⟩ = some (.int .u64 (M.length : Int)) := sn.cell (i := 0) rfl
      have fn : wr.frozen? ⟨b, 9, none⟩ = false := (sn.free (i := 0) (by simp)).1
      have e1 : ((M.length : Int)) % 128 = (r : Int) := by omega
      have e2 : (M.length : Int).tmod 128 = (r : Int) := by rw [Int.tmod_eq_emod_of_nonneg (by omega)]; exact e1
      have hbig : (M.length : Int) ≤ 2305843009213693952 := by have := Hb.out; have := Hlen.out; omega
      obtain ⟨x, hx⟩ : ∃ x, x = (bs.drop j).take (128 - r) := ⟨_, rfl⟩
      have hxl : x.length = Nat.min (len - j) (128 - r) := by rw [hx, List.length_take, List.length_drop, ← Hlen.out, Nat.min_comm]
      obtain ⟨k, hk⟩ : ∃ k, k = x.length := ⟨_, rfl⟩
      have hk1 : k ≤ len - j := by rw [hk, hxl]; exact Nat.min_le_left _ _
      have hk2 : k ≤ 128 - r := by rw [hk, hxl]; exact Nat.min_le_right _ _
      have hk0 : 0 < k := by rw [hk, hxl]; exact Nat.lt_min.2 ⟨by omega, by omega⟩
      have hwl : r + (u8s x).length ≤ (u8s (waitOf 128 M)).length := by rw [u8s_len, u8s_len, waitOf_len _ _ (by omega)]; omega
      have hsrc : ∀ i v, (u8s x)[i]? = some v → ∃ ad, (some ⟨pb, po + j, none⟩ : Option Addr) = some ad ∧ wr.cell? (ad.add i) = some v := by
        intro i v hv
        refine ⟨_, rfl, ?_⟩
        rw [add_lit', Nat.add_assoc]
        have sp : Sat W0 wr (seg m pb po (u8s bs) :: _) := s.pull 1
        refine sp.cell ?_
        simp only [u8s, List.getElem?_map, Option.map_eq_some_iff] at hv ⊢
        obtain ⟨y, hy, hv⟩ := hv
        refine ⟨y, ?_, hv⟩
        rw [hx, List.getElem?_take] at hy
        split at hy
        · rw [List.getElem?_drop] at hy; exact hy
        · cases hy
      have hxl2 : (u8s x).length = Nat.min (len - j) (128 - r) := by rw [u8s_len]; exact hxl
      have hxk : ((u8s x).length : Int) = (k : Int) := by rw [u8s_len, hk]
      have HM := Lib.hid (And.intro hM (And.intro hMl (And.intro hr (And.intro hx hk)))); clear hM hMl hr hx hk hxl
      have Hxl := Lib.hid hxl2; clear hxl2
      have hr64' : (r : Int) ≤ 128 := by omega
      have h64 : ¬ 128 = r := by omega
      have ewu : IntKind.u64.wrap (k : Int) = (k : Int) := by rw [IntKind.wrap_u64]; omega
      obtain ⟨hM, hMl, hr, hx, hk⟩ := HM.out
      have hM' : msg ++ bs.take (j + k) = M ++ x := by
        rw [hM, List.append_assoc, List.take_add, hk, hx, List.length_take, ← List.take_eq_take_min]
      have hjk : msg.length + (j + k) = M.length + k := by omega
      have hpw := put_wait 128 M x (by omega)
      rw [← hr, ← hk] at hpw
      clear e2 sn
      by_cases hfull : r + k = 128
      · have e7 : (r : Int) + (k : Int) = 128 := by omega
        obtain ⟨Hh, hHh⟩ : ∃ Hh, Hh = blocks512 H512 M (M.length / 128) := ⟨_, rfl⟩
        obtain ⟨wt, hwt⟩ : ∃ wt, wt = restOf 128 M ++ x := ⟨_, rfl⟩
        have hHl : Hh.length = 8 := by rw [hHh]; exact blocks512_len _ _ _ rfl
        have hwtl : wt.length = 128 := by rw [hwt, List.length_append, restOf_len]; omega
        have hf1 : ∀ w2, Sat W0 w2 (seg true b 10 (setL (u8s (waitOf 128 M)) r (u8s x)) :: (ledO p (noteN rs 2 128 ((msg.length + j) / 128 - msg.length / 128)) :: seg m pb po (u8s bs) :: stM512 b M L).eraseIdx 5) → Sat W0 (w2.setCell ⟨b, 9, none⟩ (.int .u64 ((M.length : Int) + (k : Int)))) (ledO p (noteN rs 2 128 ((msg.length + j) / 128 - msg.length / 128)) :: seg true b 1 (u64s Hh) :: seg true b 10 (u8s wt) :: seg true b 0 [.bool true] :: seg true b 9 [.int .u64 ((M.length + k : Nat) : Int)] :: seg m pb po (u8s bs) :: L) := by
          intro w2 s2
          rw [hpw, show 128 - r - k = 0 by omega, List.replicate_zero, List.append_nil, ← hwt] at s2
          have s3 : Sat W0 w2 (seg true b 9 [.int .u64 (M.length : Int)] :: _) := s2.pull 5
          have s4 := s3.store (i := 0) (by simp) (.int .u64 ((M.length : Int) + (k : Int))) (q := 9) (by simp)
          exact (s4.pick [2, 5, 1, 4, 0, 3]).to (by simp [pick, hHh])
        have hbk := blk_full comp512 128 H512 M x (by omega) (by omega)
        have hwf := wait_full 128 M x (by omega) (by omega)
        have hdiv := div_next M.length 128 k (by omega) (by omega)
        have hbig2 : tot (noteN rs 2 128 ((msg.length + j) / 128 - msg.length / 128)) + 1 ≤ 4611686018427387904 := by rw [tot_noteN]; have := Hb.out; have := Hlen.out; omega
        have hln := noteN_len rs 2 128 ((msg.length + j) / 128 - msg.length / 128)
        have hf2 : ∀ w', Sat W0 w' (seg true b 10 (u8s (List.replicate 128 0)) :: seg true b 1 (u64s (comp512 Hh wt)) :: ledO p (note (noteN rs 2 128 ((msg.length + j) / 128 - msg.length / 128)) 2 128 1) :: seg true b 0 [.bool true] :: seg true b 9 [.int .u64 ((M.length + k : Nat) : Int)] :: seg m pb po (u8s bs) :: L) → Sat W0 w' (ledO p (noteN rs 2 128 ((msg.length + (j + k)) / 128 - msg.length / 128)) :: seg m pb po (u8s bs) :: stM512 b (msg ++ bs.take (j + k)) L) := by
          intro w' hs'
          have e5 : (msg.length + (j + k)) / 128 - msg.length / 128 = (msg.length + j) / 128 - msg.length / 128 + 1 := by
            rw [hjk, hdiv.1, hMl]
            have : msg.length / 128 ≤ (msg.length + j) / 128 := Nat.div_le_div_right (by omega)
            omega
          rw [e5, ← noteN_note, hM']
          refine (hs'.pick [2, 5, 3, 1, 4, 0]).to ?_
          have hbk' : blocks512 H512 (M ++ x) ((M ++ x).length / 128) = comp512 Hh wt := by rw [hHh, hwt]; exact hbk
          rw [stM512, hbk', hwf, List.length_append, ← hk]
          rfl
        have hc := fun wx sx => compress512 (W0 := W0) (w := wx) (L := seg true b 1 (u64s Hh) :: seg true b 10 (u8s wt) :: seg true b 0 [.bool true] :: seg true b 9 [.int .u64 ((M.length + k : Nat) : Int)] :: seg m pb po (u8s bs) :: L) p (noteN rs 2 128 ((msg.length + j) / 128 - msg.length / 128)) Hh wt hHl hwtl hbig2 (by omega) sx
        have ht8 : (u64s Hh).take 8 = u64s Hh := List.take_of_length_le (by rw [u64s_len, hHl]; exact Nat.le_refl _)
        have ht128 : (u8s wt).take 128 = u8s wt := List.take_of_length_le (by rw [u8s_len, hwtl]; exact Nat.le_refl _)
        have hi3 : (Tryz.prog.info? 109).map (·.size) = some (u64s (comp512 Hh wt)).length := by rw [u64s_len, comp512_len _ _ hHl]; exact Tryz.size_a8u64
        have hln1 : 8 ≤ (u64s Hh).length := by rw [u64s_len, hHl]; exact Nat.le_refl _
        have hln2 : 128 ≤ (u8s wt).length := by rw [u8s_len, hwtl]; exact Nat.le_refl _
        have hln3 : 0 + (u64s (comp512 Hh wt)).length ≤ (u64s Hh).length := by rw [u64s_len, u64s_len, comp512_len _ _ hHl, hHl]; decide
        have hse : setL (u64s Hh) 0 (u64s (comp512 Hh wt)) = u64s (comp512 Hh wt) := setL_all _ _ (by rw [u64s_len, u64s_len, comp512_len _ _ hHl, hHl])
        have hse2 : setL (u8s wt) 0 (u8s (List.replicate 128 0)) = u8s (List.replicate 128 0) := setL_all _ _ (by rw [u8s_len, u8s_len, hwtl]; simp)
        have hln4 : 0 + (u8s (List.replicate 128 0)).length ≤ (u8s wt).length := by rw [u8s_len, u8s_len, hwtl]; simp
        have HF := Lib.hid (And.intro hf1 hf2)
        have HC := Lib.hid hc
        have HX := Lib.hid (And.intro ht8 (And.intro ht128 (And.intro hi3 (And.intro hln1 (And.intro hln2 (And.intro hln3 (And.intro hse (And.intro hse2 hln4))))))))
        have hsa : ∀ w, (Instr.arrayAt 111 (.slice (some ⟨b, 10, none⟩) 128 128)).run Tryz.prog w = .ok (.pointer (some ⟨b, 10, none⟩)) w := fun w => by kernel_rfl
        clear hf1 hf2 hbk hwf hM' hjk hM hMl hr hx hk hpw hdiv hbig2 hln hHh hwt hHl hwtl hc ht8 ht128 hi3 hln1 hln2 hln3 hse hse2 hln4
        go_wp2_with (refine wpl_copy rfl (.tmp 25) (.tmp 26) 41 41 rfl Tryz.underlying41 (by kernel_rfl) sw r (10 + r) (128 - r) (128 - r) (len - j) c' (some ⟨pb, po + j, none⟩) (u8s x) rfl rfl rfl Hxl.out hwl hsrc (u8s_one _) ?_; intro w2 s2; have sn2 : Sat W0 w2 (seg true b 9 [.int .u64 (M.length : Int)] :: _) := s2.pull 5; have cn2 : w2.cell? ⟨b, 9, none⟩ = some (.int .u64 (M.length : Int)) := sn2.cell (i := 0) rfl; have fn2 : w2.frozen? ⟨b, 9, none⟩ = false := (sn2.free (i := 0) (by simp)).1)
        all_goals
          have s5 := HF.out.1 w2 s2
          clear sn2 cn2 fn2 s2
          obtain ⟨wd, hwd⟩ : ∃ wd, wd = w2.setCell ⟨b, 9, none⟩ (.int .u64 ((M.length : Int) + (k : Int))) := ⟨_, rfl⟩
          rw [← hwd] at s5 ⊢
          clear hwd
          have q1 : Sat W0 wd (seg true b 1 (u64s Hh) :: _) := s5.pull 1
          have q2 : Sat W0 wd (seg true b 10 (u8s wt) :: _) := s5.pull 2
          refine wp_region_move_tail_lit 12 (by kernel_rfl) (by kernel_rfl) _ rfl rfl (fun _ _ _ _ h => h) ?_
          simp only [List.take_succ_cons, List.take_zero, List.drop_succ_cons, List.drop_zero, Nat.add_one_sub_one, Nat.reduceSub]
          go_simp
          repeat (first | (refine wpq_load_agg rfl 109 (.tmp 48) rfl Tryz.underlying109 rfl (n := 8) (by kernel_rfl) q1 0 1 rfl rfl (by rw [Nat.zero_add]; exact HX.out.2.2.2.1) ?_; go_simp) | (refine wpq_load_agg rfl 111 (.tmp 54) rfl Tryz.underlying111 rfl (n := 128) (by kernel_rfl) q2 0 10 rfl rfl (by rw [Nat.zero_add]; exact HX.out.2.2.2.2.1) ?_; go_simp) | go_big_quiet_step (fail))
          refine wpQuiet_nil ?_
          intro nq
          rw [HX.out.1, HX.out.2.1]
          go_wp2_with fail
          refine (HC.out _ (s5.drewN _)).mono ?_
          rintro e w3 ⟨rfl, s6⟩
          go_wp2_with (first | (refine wpl_store_agg rfl rfl 109 (.tmp 58) (.tmp 56) rfl (cs := u64s (comp512 Hh wt)) (s6.pull 1) 0 1 HX.out.2.2.1 rfl rfl rfl HX.out.2.2.2.2.2.1 (u64s_one _) ?_; intro w4 s7; rw [HX.out.2.2.2.2.2.2.1] at s7; have s8 : Sat W0 w4 (seg true b 10 (u8s wt) :: _) := s7.pull 2) | (refine wpl_store_agg rfl rfl 111 (.tmp 62) (.tmp 60) rfl (cs := u8s (List.replicate 128 0)) s8 0 10 (by kernel_rfl) rfl (by rfl) rfl HX.out.2.2.2.2.2.2.2.2 (u8s_one _) ?_; intro w5 s9; rw [HX.out.2.2.2.2.2.2.2.1] at s9))
          have s10 := HF.out.2 w5 s9
          go_roundw
          case rel => first | exact ⟨j + k, _, c' - k, by omega, by rw [Nat.sub_sub], by intro h; rw [Nat.add_assoc], by omega, by omega, s10⟩ | exact ⟨j + k, _, 0, by omega, by rw [Nat.sub_sub], by intro h; exfalso; omega, by omega, by omega, s10⟩
          case measure => simp; omega
      · have hlt2 : r + k < 128 := by omega
        have e7 : ((r : Int) + (k : Int) == 128) = false := by simp; omega
        have hbk := blk_part comp512 128 H512 M x (by omega) (by omega)
        have hwp := wait_part 128 M x (by omega) (by omega)
        have hdiv := div_same M.length 128 k (by omega) (by omega)
        have hfin : ∀ w2, Sat W0 w2 (seg true b 10 (setL (u8s (waitOf 128 M)) r (u8s x)) :: (ledO p (noteN rs 2 128 ((msg.length + j) / 128 - msg.length / 128)) :: seg m pb po (u8s bs) :: stM512 b M L).eraseIdx 5) → Sat W0 (w2.setCell ⟨b, 9, none⟩ (.int .u64 ((M.length : Int) + (k : Int)))) (ledO p (noteN rs 2 128 ((msg.length + (j + k)) / 128 - msg.length / 128)) :: seg m pb po (u8s bs) :: stM512 b (msg ++ bs.take (j + k)) L) := by
          intro w2 s2
          have e5 : (msg.length + (j + k)) / 128 - msg.length / 128 = (msg.length + j) / 128 - msg.length / 128 := by rw [hjk, hdiv, hMl]
          rw [hpw] at s2
          have s3 : Sat W0 w2 (seg true b 9 [.int .u64 (M.length : Int)] :: _) := s2.pull 5
          have s4 := s3.store (i := 0) (by simp) (.int .u64 ((M.length : Int) + (k : Int))) (q := 9) (by simp)
          rw [e5, hM']
          refine (s4.pick [2, 3, 4, 5, 0, 1]).to ?_
          have hbk' : blocks512 H512 (M ++ x) ((M ++ x).length / 128) = blocks512 H512 M (M.length / 128) := hbk
          show _ = ledO p _ :: seg m pb po (u8s bs) :: st512 b (blocks512 H512 (M ++ x) ((M ++ x).length / 128)) (M ++ x).length (waitOf 128 (M ++ x)) L
          rw [hbk', hwp, List.length_append, ← hk, ← hr]
          rfl
        have HF := Lib.hid hfin
        clear hfin hbk hwp hM' hjk hM hMl hr hx hk hpw hdiv
        go_wp2_with (refine wpl_copy rfl (.tmp 25) (.tmp 26) 41 41 rfl Tryz.underlying41 (by kernel_rfl) sw r (10 + r) (128 - r) (128 - r) (len - j) c' (some ⟨pb, po + j, none⟩) (u8s x) rfl rfl rfl Hxl.out hwl hsrc (u8s_one _) ?_; intro w2 s2; have sn2 : Sat W0 w2 (seg true b 9 [.int .u64 (M.length : Int)] :: _) := s2.pull 5; have cn2 : w2.cell? ⟨b, 9, none⟩ = some (.int .u64 (M.length : Int)) := sn2.cell (i := 0) rfl; have fn2 : w2.frozen? ⟨b, 9, none⟩ = false := (sn2.free (i := 0) (by simp)).1)
        all_goals
          go_roundw
          case rel => first | exact ⟨j + k, _, c' - k, by omega, by rw [Nat.sub_sub], by intro h; first | rw [if_neg (by omega), Nat.add_assoc] | rw [Nat.add_assoc], by omega, by omega, HF.out _ s2⟩ | exact ⟨j + k, _, 0, by omega, by rw [Nat.sub_sub], by intro h; exfalso; omega, by omega, by omega, HF.out _ s2⟩
          case measure => simp; omega
    · have hj' : j = len := by omega
      subst hj'
      go_wp2
      go_ret
      refine ⟨rfl, ?_⟩
      rw [List.take_of_length_le (by rw [← Hlen.out]; exact Nat.le_refl _)] at s
      exact s
end Go.Proofs.YtlmababpmmhhoaaGreat
