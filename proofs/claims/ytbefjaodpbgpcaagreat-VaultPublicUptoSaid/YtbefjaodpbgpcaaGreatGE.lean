/- Sha512c, Sha512d, Sha512e, Sha512f, Dig, Wpm: texts that lie apart elsewhere, as one; each under the conditions that it names. -/
import Derived.Deep.RegionHeld3
import Derived.Deep.MidRow
import Derived.Test.YtbefjaodpbgpcaaGreatGD
import Derived.Test.YtbefjaodpbgpcaaGreatGC
import Derived.Laws.EntriesVeiled
set_option linter.unusedVariables false
set_option linter.unusedSimpArgs false
set_option maxRecDepth 100000
set_option maxHeartbeats 16000000

/- Layer 6's program goes on with a message: Write; under the conditions that it names. -/
namespace Go.Sep
theorem Sat.rangeAt {W0 w : World} {L : List Assn} {m : Bool} {b o : Nat} {vs : List Value} (h : Sat W0 w (seg m b o vs :: L)) : w.rangeAt b o vs := fun j v hv => h.cell hv
theorem Sat.there {W0 w : World} {L : List Assn} {b o n : Nat} {vs : List Value} (h : Sat W0 w (seg true b o vs :: L)) (hn : n ≤ vs.length) : w.there b o n := fun j hj => by
 have hj' : j < vs.length := by omega
 exact ⟨by rw [h.cell (i := j) (v := vs[j]) (by simp [hj'])]; rfl, (h.free hj').1⟩
theorem wpq_load_agg {P : Program} {W0 w : World} {L : List Assn} {ops : Array Oper} {Q : Act → Prop} {o : Oper} {rest : List Oper} {a : Act} (hgd : o.guard = none) (ty : TypeId) (x : Operand) (ho : o.op = .load ty x) {d : TypeDesc} (hu : P.underlying ty = some d) (hd : (match d with | .struct _ | .array _ _ => true | _ => false) = true)
  {n : Nat} (hi : (P.info? ty).map (·.size) = some n) {m : Bool} {b off : Nat} {vs : List Value} (hs : Sat W0 w (seg m b off vs :: L)) (k q : Nat) (hx : a.eval x = .pointer (some ⟨b, q, none⟩)) (hq : q = off + k) (hn : k + n ≤ vs.length)
  (h : wpQuiet P ops (fun w' => ∃ j, w' = w.drewN j) Q rest (a.put o.dst (.agg ((vs.drop k).take n).toArray))) : wpQuiet P ops (fun w' => ∃ j, w' = w.drewN j) Q (o :: rest) a := by
 refine wpQuiet_step fun K hK => ?_
 rw [if_pos (by simp [Region.wanted, hgd])]
 refine ⟨_, ?_, hK _ h⟩
 rintro w' ⟨j, rfl⟩
 unfold Oper.quietAt execOp
 simp only [ho, hx, Instr.loadAt, Instr.sureAddr, Sem.run_bind, Sem.run_pure, Result.andThen_ok, run_loadVar_agg hu hd hi (hs.drewN j) k q hq hn]
 exact ⟨rfl, rfl⟩
end Go.Sep
namespace Go.Proofs.YtbefjaodpbgpcaaGreat
open Go.RowKit Go.Sep Go.Bv Go.Sha
abbrev st512 (b : Nat) (h : List (BitVec 64)) (n : Nat) (wait : List Byte) (L : List Assn) : List Assn :=
 seg true b 0 [.bool true] :: seg true b 1 (u64s h) :: seg true b 9 [.int .u64 (n : Int)] :: seg true b 10 (u8s wait) :: L
abbrev stM512 (b : Nat) (msg : List Byte) (L : List Assn) : List Assn := st512 b (blocks512 H512 msg (msg.length / 128)) msg.length (waitOf 128 msg) L
theorem comp512_len (h : List (BitVec 64)) (b : List Byte) (hh : h.length = 8) : (comp512 h b).length = 8 := comp_len _ _ _ _ _ _ hh
theorem blocks512_len (h : List (BitVec 64)) (p : List Byte) (n : Nat) (hh : h.length = 8) : (blocks512 h p n).length = 8 := blk_len comp512_len 128 h p n hh
theorem is512 {W0 w : World} {L : List Assn} {b : Nat} (hs : Sat W0 w (seg true b 0 [.bool true] :: L)) : Calls Tryz.prog 200 #[.pointer (some ⟨b, 0, none⟩)] w fun e w' => e = .returned (.bool true) ∧ w = w' := by
 have c := hs.cell (i := 0) rfl
 go_enter Tryz.func200, Tryz.ntmps200
 go_wp2
 go_ret
 exact ⟨rfl, rfl⟩
theorem write512c {W0 w : World} {L : List Assn} {b pb po cap : Nat} {m : Bool} (p : Option Nat) (rs : List Run3) (msg bs : List Byte) (hcap : bs.length ≤ cap) (hcm : cap ≤ maxLen) (hb : tot rs + msg.length + bs.length ≤ 2305843009213693952) (hl : rs.length ≤ 1048576)
  (hs : Sat W0 w (ledO p rs :: seg m pb po (u8s bs) :: stM512 b msg L)) :
  Calls Tryz.prog 185 #[.pointer (some ⟨b, 0, none⟩), ptrO p, .slice (some ⟨pb, po, none⟩) bs.length cap] w fun e w' => e = .returned (.int .i64 0) ∧ Sat W0 w' (ledO p (noteN rs 2 128 ((msg.length + bs.length) / 128 - msg.length / 128)) :: seg m pb po (u8s bs) :: stM512 b (msg ++ bs) L) := by
 obtain ⟨len, hlen⟩ : ∃ len, len = bs.length := ⟨_, rfl⟩
 rw [← hlen] at hcap ⊢
 unfold maxLen at hcm
 have hn : Sat W0 w (seg true b 0 [.bool true] :: _) := hs.pull 2
 have Hb := Lib.hid hb; have Hlen := Lib.hid hlen; clear hb hlen
 go_enter Tryz.func185, Tryz.ntmps185
 go_wp2_with fail
 refine (is512 hn).mono ?_
 rintro e w' ⟨rfl, rfl⟩
 clear hn
 go_wp2_with fail
 go_loopw [2] (fun t2 wr => ∃ (j : Nat) (q : Option Addr) (c' : Nat), j ≤ len ∧ t2 = .slice q (len - j) c' ∧ (j < len → q = some ⟨pb, po + j, none⟩) ∧ len - j ≤ c' ∧ c' ≤ 9223372036854775807 ∧ Sat W0 wr (ledO p (noteN rs 2 128 ((msg.length + j) / 128 - msg.length / 128)) :: seg m pb po (u8s bs) :: stM512 b (msg ++ bs.take j) L)) (fun t2 _ => match t2 with | .slice _ n _ => n | _ => 0)
 case atStart => exact ⟨0, _, cap, Nat.zero_le _, rfl, fun _ => rfl, hcap, hcm, by simpa [noteN] using hs⟩
 case round =>
  clear hs
  obtain ⟨j, q, c', hj, rfl, hq, hc1, hc2, s⟩ := hrel
  by_cases hlt : j < len
  ·obtain rfl := hq hlt
   obtain ⟨M, hM⟩ : ∃ M, M = msg ++ bs.take j := ⟨_, rfl⟩
   rw [← hM] at s
   have hMl : M.length = msg.length + j := by rw [hM, List.length_append, List.length_take, ← Hlen.out]; omega
   obtain ⟨r, hr⟩ : ∃ r, r = M.length % 128 := ⟨_, rfl⟩
   have hr64 : r < 128 := by omega
   have sn : Sat W0 wr (seg true b 9 [.int .u64 (M.length : Int)] :: _) := s.pull 4
   have sw : Sat W0 wr (seg true b 10 (u8s (waitOf 128 M)) :: _) := s.pull 5
   have cn : wr.cell? ⟨b, 9, none⟩ = some (.int .u64 (M.length : Int)) := sn.cell (i := 0) rfl
   have fn : wr.frozen? ⟨b, 9, none⟩ = false := (sn.free (i := 0) (by simp)).1
   have e1 : ((M.length : Int)) % 128 = (r : Int) := by omega
   have e2 : (M.length : Int).tmod 128 = (r : Int) := by rw [Int.tmod_eq_emod_of_nonneg (by omega)]; exact e1
   have hbig : (M.length : Int) ≤ 2305843009213693952 := by have := Hb.out; have := Hlen.out; omega
   obtain ⟨x, hx⟩ : ∃ x, x = (bs.drop j).take (128 - r) := ⟨_, rfl⟩
   have hxl : x.length = Nat.min (len - j) (128 - r) := by rw [hx, List.length_take, List.length_drop, ← Hlen.out, Nat.min_comm]
   obtain ⟨k, hk⟩ : ∃ k, k = x.length := ⟨_, rfl⟩
   have hk1 : k ≤ len - j := by rw [hk, hxl]; exact Nat.min_le_left _ _
   have hk2 : k ≤ 128 - r := by rw [hk, hxl]; exact Nat.min_le_right _ _
   have hk0 : 0 < k := by rw [hk, hxl]; exact Nat.lt_min.2 ⟨by omega, by omega⟩
   have hwl : r + (u8s x).length ≤ (u8s (waitOf 128 M)).length := by rw [u8s_len, u8s_len, waitOf_len _ _ (by omega)]; omega
   have hsrc : ∀ i v, (u8s x)[i]? = some v → ∃ ad, (some ⟨pb, po + j, none⟩ : Option Addr) = some ad ∧ wr.cell? (ad.add i) = some v := by
    intro i v hv
    refine ⟨_, rfl, ?_⟩
    rw [add_lit', Nat.add_assoc]
    have sp : Sat W0 wr (seg m pb po (u8s bs) :: _) := s.pull 1
    refine sp.cell ?_
    simp only [u8s, List.getElem?_map, Option.map_eq_some_iff] at hv ⊢
    obtain ⟨y, hy, hv⟩ := hv
    refine ⟨y, ?_, hv⟩
    rw [hx, List.getElem?_take] at hy
    split at hy
    ·rw [List.getElem?_drop] at hy; exact hy
    ·cases hy
   have hxl2 : (u8s x).length = Nat.min (len - j) (128 - r) := by rw [u8s_len]; exact hxl
   have hxk : ((u8s x).length : Int) = (k : Int) := by rw [u8s_len, hk]
   have HM := Lib.hid (And.intro hM (And.intro hMl (And.intro hr (And.intro hx hk)))); clear hM hMl hr hx hk hxl
   have Hxl := Lib.hid hxl2; clear hxl2
   have hr64' : (r : Int) ≤ 128 := by omega
   have h64 : ¬ 128 = r := by omega
   have ewu : IntKind.u64.wrap (k : Int) = (k : Int) := by rw [IntKind.wrap_u64]; omega
   obtain ⟨hM, hMl, hr, hx, hk⟩ := HM.out
   have hM' : msg ++ bs.take (j + k) = M ++ x := by
    rw [hM, List.append_assoc, List.take_add, hk, hx, List.length_take, ← List.take_eq_take_min]
   have hjk : msg.length + (j + k) = M.length + k := by omega
   have hpw := put_wait 128 M x (by omega)
   rw [← hr, ← hk] at hpw
   clear e2 sn
   by_cases hfull : r + k = 128
   ·have e7 : (r : Int) + (k : Int) = 128 := by omega
    obtain ⟨Hh, hHh⟩ : ∃ Hh, Hh = blocks512 H512 M (M.length / 128) := ⟨_, rfl⟩
    obtain ⟨wt, hwt⟩ : ∃ wt, wt = restOf 128 M ++ x := ⟨_, rfl⟩
    have hHl : Hh.length = 8 := by rw [hHh]; exact blocks512_len _ _ _ rfl
    have hwtl : wt.length = 128 := by rw [hwt, List.length_append, restOf_len]; omega
    have hf1 : ∀ w2, Sat W0 w2 (seg true b 10 (setL (u8s (waitOf 128 M)) r (u8s x)) :: (ledO p (noteN rs 2 128 ((msg.length + j) / 128 - msg.length / 128)) :: seg m pb po (u8s bs) :: stM512 b M L).eraseIdx 5) → Sat W0 (w2.setCell ⟨b, 9, none⟩ (.int .u64 ((M.length : Int) + (k : Int)))) (ledO p (noteN rs 2 128 ((msg.length + j) / 128 - msg.length / 128)) :: seg true b 1 (u64s Hh) :: seg true b 10 (u8s wt) :: seg true b 0 [.bool true] :: seg true b 9 [.int .u64 ((M.length + k : Nat) : Int)] :: seg m pb po (u8s bs) :: L) := by
     intro w2 s2
     rw [hpw, show 128 - r - k = 0 by omega, List.replicate_zero, List.append_nil, ← hwt] at s2
     have s3 : Sat W0 w2 (seg true b 9 [.int .u64 (M.length : Int)] :: _) := s2.pull 5
     have s4 := s3.store (i := 0) (by simp) (.int .u64 ((M.length : Int) + (k : Int))) (q := 9) (by simp)
     exact (s4.pick [2, 5, 1, 4, 0, 3]).to (by simp [pick, hHh])
    have hbk := blk_full comp512 128 H512 M x (by omega) (by omega)
    have hwf := wait_full 128 M x (by omega) (by omega)
    have hdiv := div_next M.length 128 k (by omega) (by omega)
    have hbig2 : tot (noteN rs 2 128 ((msg.length + j) / 128 - msg.length / 128)) + 1 ≤ 4611686018427387904 := by rw [tot_noteN]; have := Hb.out; have := Hlen.out; omega
    have hln := noteN_len rs 2 128 ((msg.length + j) / 128 - msg.length / 128)
    have hf2 : ∀ w', Sat W0 w' (seg true b 10 (u8s (List.replicate 128 0)) :: seg true b 1 (u64s (comp512 Hh wt)) :: ledO p (note (noteN rs 2 128 ((msg.length + j) / 128 - msg.length / 128)) 2 128 1) :: seg true b 0 [.bool true] :: seg true b 9 [.int .u64 ((M.length + k : Nat) : Int)] :: seg m pb po (u8s bs) :: L) → Sat W0 w' (ledO p (noteN rs 2 128 ((msg.length + (j + k)) / 128 - msg.length / 128)) :: seg m pb po (u8s bs) :: stM512 b (msg ++ bs.take (j + k)) L) := by
     intro w' hs'
     have e5 : (msg.length + (j + k)) / 128 - msg.length / 128 = (msg.length + j) / 128 - msg.length / 128 + 1 := by
      rw [hjk, hdiv.1, hMl]
      have : msg.length / 128 ≤ (msg.length + j) / 128 := Nat.div_le_div_right (by omega)
      omega
     rw [e5, ← noteN_note, hM']
     refine (hs'.pick [2, 5, 3, 1, 4, 0]).to ?_
     have hbk' : blocks512 H512 (M ++ x) ((M ++ x).length / 128) = comp512 Hh wt := by rw [hHh, hwt]; exact hbk
     rw [stM512, hbk', hwf, List.length_append, ← hk]
     rfl
    have hc := fun wx sx => compress512 (W0 := W0) (w := wx) (L := seg true b 1 (u64s Hh) :: seg true b 10 (u8s wt) :: seg true b 0 [.bool true] :: seg true b 9 [.int .u64 ((M.length + k : Nat) : Int)] :: seg m pb po (u8s bs) :: L) p (noteN rs 2 128 ((msg.length + j) / 128 - msg.length / 128)) Hh wt hHl hwtl hbig2 (by omega) sx
    have ht8 : (u64s Hh).take 8 = u64s Hh := List.take_of_length_le (by rw [u64s_len, hHl]; exact Nat.le_refl _)
    have ht128 : (u8s wt).take 128 = u8s wt := List.take_of_length_le (by rw [u8s_len, hwtl]; exact Nat.le_refl _)
    have hi3 : (Tryz.prog.info? 262).map (·.size) = some (u64s (comp512 Hh wt)).length := by rw [u64s_len, comp512_len _ _ hHl]; exact Tryz.size_a8u64
    have hln1 : 8 ≤ (u64s Hh).length := by rw [u64s_len, hHl]; exact Nat.le_refl _
    have hln2 : 128 ≤ (u8s wt).length := by rw [u8s_len, hwtl]; exact Nat.le_refl _
    have hln3 : 0 + (u64s (comp512 Hh wt)).length ≤ (u64s Hh).length := by rw [u64s_len, u64s_len, comp512_len _ _ hHl, hHl]; decide
    have hse : setL (u64s Hh) 0 (u64s (comp512 Hh wt)) = u64s (comp512 Hh wt) := setL_all _ _ (by rw [u64s_len, u64s_len, comp512_len _ _ hHl, hHl])
    have hse2 : setL (u8s wt) 0 (u8s (List.replicate 128 0)) = u8s (List.replicate 128 0) := setL_all _ _ (by rw [u8s_len, u8s_len, hwtl]; simp)
    have hln4 : 0 + (u8s (List.replicate 128 0)).length ≤ (u8s wt).length := by rw [u8s_len, u8s_len, hwtl]; simp
    have HF := Lib.hid (And.intro hf1 hf2)
    have HC := Lib.hid hc
    have HX := Lib.hid (And.intro ht8 (And.intro ht128 (And.intro hi3 (And.intro hln1 (And.intro hln2 (And.intro hln3 (And.intro hse (And.intro hse2 hln4))))))))
    have hsa : ∀ w, (Instr.arrayAt 264 (.slice (some ⟨b, 10, none⟩) 128 128)).run Tryz.prog w = .ok (.pointer (some ⟨b, 10, none⟩)) w := fun w => by kernel_rfl
    clear hf1 hf2 hbk hwf hM' hjk hM hMl hr hx hk hpw hdiv hbig2 hln hHh hwt hHl hwtl hc ht8 ht128 hi3 hln1 hln2 hln3 hse hse2 hln4
    go_wp2_with (refine wpl_copy rfl (.tmp 25) (.tmp 26) 25 25 rfl Tryz.underlying25 (by kernel_rfl) sw r (10 + r) (128 - r) (128 - r) (len - j) c' (some ⟨pb, po + j, none⟩) (u8s x) rfl rfl rfl Hxl.out hwl hsrc (u8s_one _) ?_; intro w2 s2; have sn2 : Sat W0 w2 (seg true b 9 [.int .u64 (M.length : Int)] :: _) := s2.pull 5; have cn2 : w2.cell? ⟨b, 9, none⟩ = some (.int .u64 (M.length : Int)) := sn2.cell (i := 0) rfl; have fn2 : w2.frozen? ⟨b, 9, none⟩ = false := (sn2.free (i := 0) (by simp)).1)
    all_goals
     have s5 := HF.out.1 w2 s2
     clear sn2 cn2 fn2 s2
     obtain ⟨wd, hwd⟩ : ∃ wd, wd = w2.setCell ⟨b, 9, none⟩ (.int .u64 ((M.length : Int) + (k : Int))) := ⟨_, rfl⟩
     rw [← hwd] at s5 ⊢
     clear hwd
     have q1 : Sat W0 wd (seg true b 1 (u64s Hh) :: _) := s5.pull 1
     have q2 : Sat W0 wd (seg true b 10 (u8s wt) :: _) := s5.pull 2
     refine wp_region_move_tail_lit 12 (by kernel_rfl) (by kernel_rfl) _ rfl rfl (fun _ _ _ _ h => h) ?_
     simp only [List.take_succ_cons, List.take_zero, List.drop_succ_cons, List.drop_zero, Nat.add_one_sub_one, Nat.reduceSub]
     go_simp
     repeat (first | (refine wpq_load_agg rfl 262 (.tmp 48) rfl Tryz.underlying262 rfl (n := 8) (by kernel_rfl) q1 0 1 rfl rfl (by rw [Nat.zero_add]; exact HX.out.2.2.2.1) ?_; go_simp) | (refine wpq_load_agg rfl 264 (.tmp 54) rfl Tryz.underlying264 rfl (n := 128) (by kernel_rfl) q2 0 10 rfl rfl (by rw [Nat.zero_add]; exact HX.out.2.2.2.2.1) ?_; go_simp) | go_big_quiet_step (fail))
     refine wpQuiet_nil ?_
     intro nq
     rw [HX.out.1, HX.out.2.1]
     go_wp2_with fail
     refine (HC.out _ (s5.drewN _)).mono ?_
     rintro e w3 ⟨rfl, s6⟩
     go_wp2_with (first | (refine wpl_store_agg rfl rfl 262 (.tmp 58) (.tmp 56) rfl (cs := u64s (comp512 Hh wt)) (s6.pull 1) 0 1 HX.out.2.2.1 rfl rfl rfl HX.out.2.2.2.2.2.1 (u64s_one _) ?_; intro w4 s7; rw [HX.out.2.2.2.2.2.2.1] at s7; have s8 : Sat W0 w4 (seg true b 10 (u8s wt) :: _) := s7.pull 2) | (refine wpl_store_agg rfl rfl 264 (.tmp 62) (.tmp 60) rfl (cs := u8s (List.replicate 128 0)) s8 0 10 (by kernel_rfl) rfl (by rfl) rfl HX.out.2.2.2.2.2.2.2.2 (u8s_one _) ?_; intro w5 s9; rw [HX.out.2.2.2.2.2.2.2.1] at s9))
     have s10 := HF.out.2 w5 s9
     go_roundw
     case rel => first | exact ⟨j + k, _, c' - k, by omega, by rw [Nat.sub_sub], by intro h; rw [Nat.add_assoc], by omega, by omega, s10⟩ | exact ⟨j + k, _, 0, by omega, by rw [Nat.sub_sub], by intro h; exfalso; omega, by omega, by omega, s10⟩
     case measure => simp; omega
   ·have hlt2 : r + k < 128 := by omega
    have e7 : ((r : Int) + (k : Int) == 128) = false := by simp; omega
    have hbk := blk_part comp512 128 H512 M x (by omega) (by omega)
    have hwp := wait_part 128 M x (by omega) (by omega)
    have hdiv := div_same M.length 128 k (by omega) (by omega)
    have hfin : ∀ w2, Sat W0 w2 (seg true b 10 (setL (u8s (waitOf 128 M)) r (u8s x)) :: (ledO p (noteN rs 2 128 ((msg.length + j) / 128 - msg.length / 128)) :: seg m pb po (u8s bs) :: stM512 b M L).eraseIdx 5) → Sat W0 (w2.setCell ⟨b, 9, none⟩ (.int .u64 ((M.length : Int) + (k : Int)))) (ledO p (noteN rs 2 128 ((msg.length + (j + k)) / 128 - msg.length / 128)) :: seg m pb po (u8s bs) :: stM512 b (msg ++ bs.take (j + k)) L) := by
     intro w2 s2
     have e5 : (msg.length + (j + k)) / 128 - msg.length / 128 = (msg.length + j) / 128 - msg.length / 128 := by rw [hjk, hdiv, hMl]
     rw [hpw] at s2
     have s3 : Sat W0 w2 (seg true b 9 [.int .u64 (M.length : Int)] :: _) := s2.pull 5
     have s4 := s3.store (i := 0) (by simp) (.int .u64 ((M.length : Int) + (k : Int))) (q := 9) (by simp)
     rw [e5, hM']
     refine (s4.pick [2, 3, 4, 5, 0, 1]).to ?_
     have hbk' : blocks512 H512 (M ++ x) ((M ++ x).length / 128) = blocks512 H512 M (M.length / 128) := hbk
     show _ = ledO p _ :: seg m pb po (u8s bs) :: st512 b (blocks512 H512 (M ++ x) ((M ++ x).length / 128)) (M ++ x).length (waitOf 128 (M ++ x)) L
     rw [hbk', hwp, List.length_append, ← hk, ← hr]
     rfl
    have HF := Lib.hid hfin
    clear hfin hbk hwp hM' hjk hM hMl hr hx hk hpw hdiv
    go_wp2_with (refine wpl_copy rfl (.tmp 25) (.tmp 26) 25 25 rfl Tryz.underlying25 (by kernel_rfl) sw r (10 + r) (128 - r) (128 - r) (len - j) c' (some ⟨pb, po + j, none⟩) (u8s x) rfl rfl rfl Hxl.out hwl hsrc (u8s_one _) ?_; intro w2 s2; have sn2 : Sat W0 w2 (seg true b 9 [.int .u64 (M.length : Int)] :: _) := s2.pull 5; have cn2 : w2.cell? ⟨b, 9, none⟩ = some (.int .u64 (M.length : Int)) := sn2.cell (i := 0) rfl; have fn2 : w2.frozen? ⟨b, 9, none⟩ = false := (sn2.free (i := 0) (by simp)).1)
    all_goals
     go_roundw
     case rel => first | exact ⟨j + k, _, c' - k, by omega, by rw [Nat.sub_sub], by intro h; first | rw [if_neg (by omega), Nat.add_assoc] | rw [Nat.add_assoc], by omega, by omega, HF.out _ s2⟩ | exact ⟨j + k, _, 0, by omega, by rw [Nat.sub_sub], by intro h; exfalso; omega, by omega, by omega, HF.out _ s2⟩
     case measure => simp; omega
  ·have hj' : j = len := by omega
   subst hj'
   go_wp2
   go_ret
   refine ⟨rfl, ?_⟩
   rw [List.take_of_length_le (by rw [← Hlen.out]; exact Nat.le_refl _)] at s
   exact s
end Go.Proofs.YtbefjaodpbgpcaaGreat

/- Layer 6's program: Write of any slice, New, Clone, Wipe; under the conditions that each names. -/
namespace Go.Proofs.YtbefjaodpbgpcaaGreat
open Go.RowKit Go.Sep Go.Bv Go.Sha
theorem write512 {W0 w : World} {L : List Assn} {b cap : Nat} {m : Bool} {sp : Option Addr} (p : Option Nat) (rs : List Run3) (msg bs : List Byte) (hcap : bs.length ≤ cap) (hcm : cap ≤ maxLen) (hb : tot rs + msg.length + bs.length ≤ 2305843009213693952) (hl : rs.length ≤ 1048576)
  (hs : Sat W0 w (ledO p rs :: bytes m sp bs :: stM512 b msg L)) :
  Calls Tryz.prog 185 #[.pointer (some ⟨b, 0, none⟩), ptrO p, .slice sp bs.length cap] w fun e w' => e = .returned (.int .i64 0) ∧ Sat W0 w' (ledO p (noteN rs 2 128 ((msg.length + bs.length) / 128 - msg.length / 128)) :: bytes m sp bs :: stM512 b (msg ++ bs) L) := by
 by_cases hne : bs = []
 ·subst hne
  have hn : Sat W0 w (seg true b 0 [.bool true] :: _) := hs.pull 2
  clear hb hl
  go_enter Tryz.func185, Tryz.ntmps185
  go_wp2_with fail
  refine (is512 hn).mono ?_
  rintro e w' ⟨rfl, rfl⟩
  clear hn
  go_wp2_with fail
  go_loopw [2] (fun t2 wr => t2 = .slice sp 0 cap ∧ wr = w) (fun _ _ => 0)
  case atStart => exact ⟨rfl, rfl⟩
  case round =>
   obtain ⟨rfl, rfl⟩ := hrel
   go_wp2
   go_ret
   refine ⟨rfl, ?_⟩
   simpa [noteN] using hs
 ·have h1 : Sat W0 w (bytes m sp bs :: ledO p rs :: stM512 b msg L) := hs.pull 1
  obtain ⟨pb, po, rfl, h2⟩ := bytesCell h1 hne
  have h3 : Sat W0 w (ledO p rs :: seg m pb po (u8s bs) :: stM512 b msg L) := h2.pull 1
  refine (write512c p rs msg bs hcap hcm hb hl h3).mono ?_
  rintro e w' ⟨rfl, s⟩
  have s2 : Sat W0 w' (seg m pb po (u8s bs) :: ledO p _ :: stM512 b (msg ++ bs) L) := s.pull 1
  exact ⟨rfl, (bytesOf s2).pull 1⟩
def cells512 (h : List (BitVec 64)) (n : Nat) (wait : List Byte) (made : Bool) : List Value := [Value.bool made] ++ (u64s h ++ ([Value.int .u64 (n : Int)] ++ u8s wait))
theorem cells512_len (h : List (BitVec 64)) (n : Nat) (wait : List Byte) (made : Bool) (hh : h.length = 8) (hw : wait.length = 128) : (cells512 h n wait made).length = 138 := by
 simp [cells512, u64s_len, u8s_len, hh, hw]
theorem st512Join {W0 w : World} {L : List Assn} {b : Nat} {h : List (BitVec 64)} {n : Nat} {wait : List Byte} (hh : h.length = 8) (hw : wait.length = 128) (s : Sat W0 w (st512 b h n wait L)) : Sat W0 w (seg true b 0 (cells512 h n wait true) :: L) := by
 have s1 : Sat W0 w (seg true b 9 [.int .u64 (n : Int)] :: seg true b 10 (u8s wait) :: seg true b 0 [.bool true] :: seg true b 1 (u64s h) :: L) := s.pick [2, 3]
 have s2 := s1.join rfl
 have s3 : Sat W0 w (seg true b 1 (u64s h) :: seg true b 9 ([.int .u64 (n : Int)] ++ u8s wait) :: seg true b 0 [.bool true] :: L) := s2.pick [2, 0]
 have s4 := s3.join (by rw [u64s_len, hh])
 have s5 : Sat W0 w (seg true b 0 [.bool true] :: seg true b 1 (u64s h ++ ([.int .u64 (n : Int)] ++ u8s wait)) :: L) := s4.pick [1, 0]
 exact s5.join rfl
theorem st512Part {W0 w : World} {L : List Assn} {b : Nat} {h : List (BitVec 64)} {n : Nat} {wait : List Byte} (hh : h.length = 8) (hw : wait.length = 128) (s : Sat W0 w (seg true b 0 (cells512 h n wait true) :: L)) : Sat W0 w (st512 b h n wait L) := by
 have s2 := Sat.part (xs := [Value.bool true]) (ys := u64s h ++ ([Value.int .u64 (n : Int)] ++ u8s wait)) s (q := 1) rfl
 have s3 : Sat W0 w (seg true b 1 (u64s h ++ ([Value.int .u64 (n : Int)] ++ u8s wait)) :: seg true b 0 [.bool true] :: L) := s2.pull 1
 have s4 := s3.part (q := 9) (by rw [u64s_len, hh])
 have s5 : Sat W0 w (seg true b 9 ([Value.int .u64 (n : Int)] ++ u8s wait) :: seg true b 1 (u64s h) :: seg true b 0 [.bool true] :: L) := s4.pull 1
 have s6 := s5.part (q := 10) rfl
 exact s6.pick [3, 2, 0, 1]
theorem zero_st512 (w : World) : (zeroValue 266).run Tryz.prog w = .ok (.agg (cells512 (List.replicate 8 0) 0 (List.replicate 128 0) false).toArray) w := by kernel_rfl
theorem cells512_one (h : List (BitVec 64)) (n : Nat) (wait : List Byte) (made : Bool) : ∀ v ∈ cells512 h n wait made, v.oneCell' = true := by
 intro v hv
 simp only [cells512, List.mem_append, List.mem_singleton] at hv
 rcases hv with rfl | hv | rfl | hv
 ·rfl
 ·exact u64s_one _ v hv
 ·rfl
 ·exact u8s_one _ v hv
theorem size_st512 : (Tryz.prog.info? 266).map (·.size) = some 138 := by kernel_rfl
theorem new512 {W0 w : World} {L : List Assn} (hs : Sat W0 w L) : Calls Tryz.prog 153 #[] w fun e w' => ∃ b, e = .returned (.pointer (some ⟨b, 0, none⟩)) ∧ Sat W0 w' (stM512 b [] L) := by
 go_enter Tryz.func153, Tryz.ntmps153
 go_wp2_with fail
 refine (first512 hs).mono ?_
 rintro e w1 ⟨rfl, s1⟩
 go_wp2_with (first | (refine wpl_build rfl 266 rfl (.agg (cells512 H512 0 (List.replicate 128 0) true).toArray) (by kernel_rfl) ?_) | (refine wpl_box rfl 266 (.tmp 2) rfl (cells512 H512 0 (List.replicate 128 0) true) rfl s1 ?_; intro w2 g s2 _))
 go_ret
 exact ⟨_, rfl, st512Part (by rfl) (by rfl) s2⟩
theorem clone512 {W0 w : World} {L : List Assn} {b : Nat} (msg : List Byte) (hs : Sat W0 w (stM512 b msg L)) :
  Calls Tryz.prog 249 #[.pointer (some ⟨b, 0, none⟩)] w fun e w' => ∃ c, e = .returned (.tuple #[.pointer (some ⟨c, 0, none⟩), .int .i64 0]) ∧ Sat W0 w' (stM512 c msg (stM512 b msg L)) := by
 have hl1 := blocks512_len H512 msg (msg.length / 128) rfl
 have hl2 := waitOf_len 128 msg (by omega)
 have hn : Sat W0 w (seg true b 0 [.bool true] :: _) := hs.pull 0
 have sj := st512Join hl1 hl2 hs
 obtain ⟨C, hC⟩ : ∃ C, C = cells512 (blocks512 H512 msg (msg.length / 128)) msg.length (waitOf 128 msg) true := ⟨_, rfl⟩
 have hCl : C.length = 138 := by rw [hC, cells512_len _ _ _ _ hl1 hl2]
 have h1 : ∀ v ∈ C, v.oneCell' = true := by rw [hC]; exact cells512_one _ _ _ _
 have ht : C.take 138 = C := List.take_of_length_le (by omega)
 rw [← hC] at sj
 have hsz : (Tryz.prog.info? 266).map (·.size) = some C.length := by rw [hCl]; exact size_st512
 have hzl : 0 + C.length ≤ (cells512 (List.replicate 8 0) 0 (List.replicate 128 0) false).length := by rw [hCl, cells512_len _ _ _ _ (by simp) (by simp)]; decide
 have Hsz := Lib.hid hsz; have Hzl := Lib.hid hzl; have H1 := Lib.hid h1; have Ht := Lib.hid ht
 clear hsz hzl h1 ht
 have HC := Lib.hid (And.intro hC (And.intro hl1 (And.intro hl2 hCl))); clear hC hl1 hl2 hCl
 go_enter Tryz.func249, Tryz.ntmps249
 go_wp2_with fail
 refine (is512 hn).mono ?_
 rintro e w' ⟨rfl, rfl⟩
 go_wp2_with (first | (refine wpl_load_agg rfl 266 (.tmp 9) rfl Tryz.underlying266 rfl (n := 138) (by kernel_rfl) sj 0 0 rfl rfl (by have := HC.out; omega) ?_) | (refine wpl_alloc_agg rfl 266 rfl sj _ (zero_st512 _) ?_; intro w1 g s1 _; clear sj) | (refine wpl_store_agg rfl rfl 266 (.tmp 4) (.tmp 10) rfl (cs := C) s1 0 0 Hsz.out rfl (show Value.agg (List.take 138 C).toArray = Value.agg C.toArray by rw [Ht.out]) rfl Hzl.out H1.out ?_; intro w2 s2))
 have HC' := HC.out
 have s3 : Sat W0 w2 (seg true g 0 C :: seg true b 0 C :: L) := by
  rw [setL_all C _ (by rw [HC'.2.2.2, cells512_len _ _ _ _ (by simp) (by simp)])] at s2; exact s2
 refine bodyPost_ret (v := .tuple #[.pointer (some ⟨g, 0, none⟩), .int .i64 0]) (by simp [results, Tryz.results249, go_sem]) rfl ⟨g, rfl, ?_⟩
 rw [HC'.1] at s3
 have s4 := st512Part HC'.2.1 HC'.2.2.1 (s3.pull 1)
 have s5 := st512Part HC'.2.1 HC'.2.2.1 (Sat.pull s4 4)
 exact s5
theorem zeroCells512 : Tryz.zeroCells266 = (cells512 (List.replicate 8 0) 0 (List.replicate 128 0) false).toArray := by kernel_rfl
theorem wipe512 {W0 w : World} {L : List Assn} {b : Nat} (p : Option Nat) (rs : List Run3) (msg : List Byte) (hb : tot rs + 1 ≤ 4611686018427387904) (hl : rs.length ≤ 4294967296) (hs : Sat W0 w (ledO p rs :: stM512 b msg L)) :
  Calls Tryz.prog 247 #[.pointer (some ⟨b, 0, none⟩), ptrO p] w fun e w' => e = .returned (.int .i64 0) ∧ Sat W0 w' (seg true b 0 (cells512 (List.replicate 8 0) 0 (List.replicate 128 0) false) :: ledO p (note rs 8 200 1) :: L) := by
 have hl1 := blocks512_len H512 msg (msg.length / 128) rfl
 have hl2 := waitOf_len 128 msg (by omega)
 have hn : Sat W0 w (seg true b 0 [.bool true] :: _) := hs.pull 1
 have hc := noteOne p rs 8 200 hs hb hl
 obtain ⟨Z, hZ⟩ : ∃ Z, Z = cells512 (List.replicate 8 0) 0 (List.replicate 128 0) false := ⟨_, rfl⟩
 have hZl : Z.length = 138 := by rw [hZ, cells512_len _ _ _ _ (by simp) (by simp)]
 have hsz : (Tryz.prog.info? 266).map (·.size) = some Z.length := by rw [hZl]; exact size_st512
 have h1 : ∀ v ∈ Z, v.oneCell' = true := by rw [hZ]; exact cells512_one _ _ _ _
 have H := Lib.hid (And.intro hZ (And.intro hZl (And.intro hsz (And.intro h1 (And.intro hl1 hl2))))); clear hZl hsz h1 hl1 hl2 hb hl
 go_enter Tryz.func247, Tryz.ntmps247
 go_wp2_with fail
 refine (is512 hn).mono ?_
 rintro e w' ⟨rfl, rfl⟩
 go_wp2_with fail
 refine hc.mono ?_
 rintro e w1 ⟨rfl, s1⟩
 have s2 : Sat W0 w1 (stM512 b msg (ledO p (note rs 8 200 1) :: L)) := s1.pick [1, 2, 3, 4]
 have s3 := st512Join H.out.2.2.2.2.1 H.out.2.2.2.2.2 s2
 have hZc : Value.agg Tryz.zeroCells266 = Value.agg Z.toArray := by rw [hZ]; exact congrArg Value.agg zeroCells512
 have hzl : 0 + Z.length ≤ (cells512 (blocks512 H512 msg (msg.length / 128)) msg.length (waitOf 128 msg) true).length := by rw [cells512_len _ _ _ _ H.out.2.2.2.2.1 H.out.2.2.2.2.2, H.out.2.1]; decide
 have HZ := Lib.hid hZc; have Hzl := Lib.hid hzl; clear hZc hzl hZ
 go_wp2_with (refine wpl_store_agg rfl rfl 266 (.tmp 13) (.tmp 12) rfl (cs := Z) s3 0 0 H.out.2.2.1 rfl HZ.out rfl Hzl.out H.out.2.2.2.1 ?_; intro w2 s4)
 go_ret
 refine ⟨rfl, ?_⟩
 rw [setL_all Z _ (by rw [cells512_len _ _ _ _ H.out.2.2.2.2.1 H.out.2.2.2.2.2, H.out.2.1]), H.out.1] at s4
 exact s4
end Go.Proofs.YtbefjaodpbgpcaaGreat

/- Layer 6's program: Sum, the package's Sum, Form; under the conditions that each names. -/
namespace Go.Sha
open Go.Bv
def pad512 (p : List Byte) : List Byte := p ++ 128 :: (List.replicate ((239 - p.length % 128) % 128 + 8) 0 ++ layBE 8 (BitVec.ofNat 64 (8 * p.length)))
def sha512 (p : List Byte) : List Byte := laid 8 (blocks512 H512 (pad512 p) ((pad512 p).length / 128))
def form512 (msg : List Byte) : List Byte := laid 8 (blocks512 H512 msg (msg.length / 128)) ++ layBE 8 (BitVec.ofNat 64 msg.length) ++ waitOf 128 msg
example : (sha512 abc).take 4 = [0xdd, 0xaf, 0x35, 0xa1] := by decide +kernel
theorem pad512_len (p : List Byte) : (pad512 p).length = p.length + (239 - p.length % 128) % 128 + 17 := by simp [pad512, layBE_len]; omega
end Go.Sha
namespace Go.Proofs.YtbefjaodpbgpcaaGreat
open Go.RowKit Go.Sep Go.Bv Go.Sha
theorem take_snoc64 (h : List (BitVec 64)) (i : Nat) (hi : i < h.length) : h.take (i + 1) = h.take i ++ [h.getD i 0] := by
 rw [List.take_succ_eq_append_getElem hi]; simp [hi]
theorem bits64u (n : Nat) : IntKind.u64.wrap (8 * (n : Int)) = v64 (BitVec.ofNat 64 (8 * n)) := by
 rw [IntKind.wrap_u64]
 simp only [v64, BitVec.toNat_ofNat]
 omega
theorem sum512 {W0 w : World} {L : List Assn} {b : Nat} (p : Option Nat) (rs : List Run3) (msg : List Byte) (hb : tot rs + msg.length + 300 ≤ 2305843009213693952) (hl : rs.length ≤ 1048576) (hs : Sat W0 w (ledO p rs :: stM512 b msg L)) :
  Calls Tryz.prog 186 #[.pointer (some ⟨b, 0, none⟩), ptrO p] w fun e w' => ∃ q c, e = .returned (.tuple #[.slice q 64 c, .int .i64 0]) ∧ Sat W0 w' (row q c 1 64 (u8s (sha512 msg)) :: ledO p (noteN rs 2 128 ((pad512 msg).length / 128 - msg.length / 128)) :: stM512 b msg L) := by
 have hl1 := blocks512_len H512 msg (msg.length / 128) rfl
 have hl2 := waitOf_len 128 msg (by omega)
 have hs' : Sat W0 w (stM512 b msg (ledO p rs :: L)) := hs.pick [1, 2, 3, 4, 0]
 have hn : Sat W0 w (seg true b 0 [.bool true] :: _) := hs'.pull 0
 have sj := st512Join hl1 hl2 hs'
 obtain ⟨C, hC⟩ : ∃ C, C = cells512 (blocks512 H512 msg (msg.length / 128)) msg.length (waitOf 128 msg) true := ⟨_, rfl⟩
 have hCl : C.length = 138 := by rw [hC, cells512_len _ _ _ _ hl1 hl2]
 have h1 : ∀ v ∈ C, v.oneCell' = true := by rw [hC]; exact cells512_one _ _ _ _
 have ht : C.take 138 = C := List.take_of_length_le (by omega)
 rw [← hC] at sj
 have hsz : (Tryz.prog.info? 266).map (·.size) = some C.length := by rw [hCl]; exact size_st512
 have hzl : 0 + C.length ≤ (cells512 (List.replicate 8 0) 0 (List.replicate 128 0) false).length := by rw [hCl, cells512_len _ _ _ _ (by simp) (by simp)]; decide
 have hfin : ∀ w2 g, Sat W0 w2 (seg true g 0 (setL (cells512 (List.replicate 8 0) 0 (List.replicate 128 0) false) 0 C) :: seg true b 0 C :: ledO p rs :: L) → Sat W0 w2 (stM512 g msg (stM512 b msg (ledO p rs :: L))) := by
  intro w2 g s2
  rw [setL_all C _ (by rw [hCl, cells512_len _ _ _ _ (by simp) (by simp)]), hC] at s2
  have s4 := st512Part hl1 hl2 (s2.pull 1)
  exact st512Part hl1 hl2 (s4.pull 4)
 have Hsz := Lib.hid hsz; have Hzl := Lib.hid hzl; have H1 := Lib.hid h1; have Ht := Lib.hid ht; have HF := Lib.hid hfin
 clear hsz hzl h1 ht hfin
 have hbig : (msg.length : Int) ≤ 2305843009213693952 := by omega
 have HC := Lib.hid (And.intro hC (And.intro hl1 (And.intro hl2 (And.intro hCl (And.intro hb hl))))); clear hC hl1 hl2 hCl hb hl
 obtain ⟨i3, hi3, hz3, hs3, hb3⟩ := info_parts Tryz.info_u8
 obtain ⟨k, hk⟩ : ∃ k, k = (239 - msg.length % 128) % 128 + 8 := ⟨_, rfl⟩
 have hk2 : k < 136 := by omega
 have ek : ((k + 1 : Nat) : Int) = 1 + (239 - (msg.length : Int)) % 128 + 8 := by omega
 have hm1 : ∀ w, (Instr.makeSlice 25 (.int .i64 (1 + (239 - (msg.length : Int)) % 128 + 8)) (.int .i64 (1 + (239 - (msg.length : Int)) % 128 + 8))).run Tryz.prog w = .ok (.slice (some ⟨w.heap.size, 0, none⟩) (k + 1) (k + 1)) (w.alloc (.cells (madeCells #[.int .u8 0] (k + 1)) 5)) := by
  intro w
  have := run_make (P := Tryz.prog) w 25 5 i3 _ Tryz.underlying25 hi3 hz3 .i64 .i64 ((k + 1 : Nat) : Int) ((k + 1 : Nat) : Int) (by omega) (by omega) (by rw [hb3]; omega) (by omega)
  rw [hs3, Int.toNat_natCast, Nat.mul_one, ek] at this
  exact this
 have Hek := Lib.hid (And.intro ek (And.intro hk hk2)); clear ek hk hk2
 go_enter Tryz.func186, Tryz.ntmps186
 go_wp2_with fail
 refine (is512 hn).mono ?_
 rintro e w' ⟨rfl, rfl⟩
 go_wp2_with (first | (refine wpl_load_agg rfl 266 (.tmp 15) rfl Tryz.underlying266 rfl (n := 138) (by kernel_rfl) sj 0 0 rfl rfl (by have := HC.out; omega) ?_) | (refine wpl_alloc_agg rfl 266 rfl sj _ (zero_st512 _) ?_; intro w1 g s1 _; clear sj) | (refine wpl_store_agg rfl rfl 266 (.tmp 6) (.tmp 16) rfl (cs := C) s1 0 0 Hsz.out rfl (show Value.agg (List.take 138 C).toArray = Value.agg C.toArray by rw [Ht.out]) rfl Hzl.out H1.out ?_; intro w2 s2'; have s2 := HF.out w2 g s2'; clear s2' s1; have c1 : w2.cell? ⟨b, 9, none⟩ = some (.int .u64 (msg.length : Int)) := Sat.cell (Sat.pull s2 6) (i := 0) rfl; have zb : b < w2.heap.size := Sat.lt (m := true) (vs := [.bool true]) (Sat.pull s2 4) (by simp); have s4 := s2.make (.int .u8 0) (k + 1) 5; rw [u8s_zero] at s4; have c4 := s4.at 0 (u8s_get _ 0 (by simp)); have f4 := s4.fr 0 (by simp [u8s_len]); clear s4))
 have hst : ((madeCells #[Value.int .u8 0] (k + 1)).setIfInBounds 0 (.int .u8 128)).toList = u8s (128 :: List.replicate k 0) := by
  rw [Array.toList_setIfInBounds, toList_made1, List.replicate_succ]; simp [u8s, v8]
 have s5 := Sat.allocAt s2 ((madeCells #[Value.int .u8 0] (k + 1)).setIfInBounds 0 (.int .u8 128)) 5 rfl
 rw [hst] at s5
 clear hst c4 f4 c1
 rw [bits64u]
 refine (lay64 _ s5).mono ?_
 rintro e w3 ⟨x, rfl, s6⟩
 have hk2 := Hek.out.2.2
 obtain ⟨pg0, hpg0⟩ : ∃ g, g = w2.heap.size := ⟨_, rfl⟩
 rw [← hpg0] at s6 ⊢
 have s7 : Sat W0 w3 (seg true pg0 0 (u8s (128 :: List.replicate k 0)) :: seg true x 0 (u8s (layBE 8 (BitVec.ofNat 64 (8 * msg.length)))) :: _) := s6.pull 1
 have s8 := s7.rowFull (n := k + 1) (by simp [u8s_len]) (by unfold maxLen; omega)
 clear s5 s2 s7 hpg0
 go_wp2_with (refine wpl_append rfl (.tmp 30) (.tmp 36) 25 rfl Tryz.underlying25 hi3 hz3 hs3 hb3 rfl (by decide) s8 rfl (some ⟨x, 0, none⟩) 8 8 rfl (u8s (layBE 8 (BitVec.ofNat 64 (8 * msg.length)))) (by rw [u8s_len, layBE_len]) s6.news (fun h => by cases h) (u8s_one _) (by have := Hek.out.2.2; unfold maxLen; omega) (by have := Hek.out.2.2; omega) ?_; intro p' c' w4 s9 _ _)
 have hk := Hek.out.2.1
 obtain ⟨_, ⟨_, _, h0, _⟩ | ⟨pg, rest, rfl, hc1, hc2, _, s10⟩⟩ := s9.rowOpen
 ·omega
 rw [← u8s_append] at s10
 have hpl : ((128 :: List.replicate k (0 : Byte)) ++ layBE 8 (BitVec.ofNat 64 (8 * msg.length))).length = k + 1 + 8 := by simp [layBE_len]
 have hpad : msg ++ ((128 :: List.replicate k (0 : Byte)) ++ layBE 8 (BitVec.ofNat 64 (8 * msg.length))) = pad512 msg := by simp [pad512, hk]
 obtain ⟨P, hP⟩ : ∃ P, P = ((128 :: List.replicate k (0 : Byte)) ++ layBE 8 (BitVec.ofNat 64 (8 * msg.length))) := ⟨_, rfl⟩
 rw [← hP] at s10 hpl hpad
 have s11 := bytesOf (Sat.part s10 (q := (u8s P).length) (by omega))
 have s12 : Sat W0 w4 (ledO p rs :: bytes true (some ⟨pg, 0, none⟩) P :: stM512 g msg (stM512 b msg L)) := ((s11.drop 1).drop 1).pick [9]
 have hput := write512 p rs msg P (cap := c') (by omega) hc2 (by have := HC.out.2.2.2.2.1; omega) HC.out.2.2.2.2.2 s12
 rw [hpl, hpad] at hput
 have hpl2 : msg.length + (k + 1 + 8) = (pad512 msg).length := by rw [← hpad, List.length_append, hpl]
 rw [hpl2] at hput
 clear hk hk2 hpl hpad hpl2 hP s11 s12 s10 s9 s8 s6
 refine hput.mono ?_
 rintro e w5 ⟨rfl, s13⟩
 obtain ⟨H, hH⟩ : ∃ H, H = blocks512 H512 (pad512 msg) ((pad512 msg).length / 128) := ⟨_, rfl⟩
 have hHl : H.length = 8 := by rw [hH]; exact blocks512_len _ _ _ rfl
 have s14 : Sat W0 w5 (seg true g 1 (u64s H) :: ledO p (noteN rs 2 128 ((pad512 msg).length / 128 - msg.length / 128)) :: stM512 b msg L) := by
  rw [hH]
  exact ((s13.pick [3, 0, 6, 7, 8, 9]).drop 6 |>.drop 6 |>.drop 6 |>.drop 6)
 have hsha : laid 8 H = sha512 msg := by rw [hH]; rfl
 have hix := fun (j : Nat) (hj : j < 8) (w : World) => run_index_list (P := Tryz.prog) (t := 262) (e := 261) Tryz.underlying262 (by kernel_rfl) (fun w => by simp [go_sem]) (u64s H) (by rw [u64s_len, hHl]) j hj w
 have ht8 : (u64s H).take 8 = u64s H := List.take_of_length_le (by rw [u64s_len, hHl]; decide)
 have Hh := Lib.hid (And.intro hHl hsha); clear hHl hsha hH s13
 go_wp2_with (refine wpl_load_agg rfl 262 (.tmp 41) rfl Tryz.underlying262 rfl (n := 8) (by kernel_rfl) s14 0 1 rfl rfl (by rw [u64s_len, Hh.out.1]; decide) ?_)
 go_loopw [8, 43] (fun t8 t43 wr => ∃ (i : Nat) (p' : Option Addr) (c : Nat), i ≤ 8 ∧ t43 = .int .i64 (i : Int) ∧ t8 = .slice p' (i * 8) c ∧ Sat W0 wr (row p' c 1 (i * 8) (u8s (laid 8 (H.take i))) :: ledO p (noteN rs 2 128 ((pad512 msg).length / 128 - msg.length / 128)) :: stM512 b msg L)) (fun _ t43 _ => 8 - (intOf t43).toNat)
 case atStart => exact ⟨0, none, 0, by omega, rfl, rfl, (s14.drop 0).rowNil 1⟩
 case round =>
  clear s14
  obtain ⟨i, p', c, hi, rfl, rfl, s⟩ := hrel
  by_cases hlt : i < 8
  ·have hi1 := fun w => hix i hlt w
   have hgd : (u64s H).getD i undef = .int .u64 (v64 (H.getD i 0)) := by
    rw [List.getD_eq_getElem?_getD, u64s_get H i (by rw [Hh.out.1]; exact hlt)]; rfl
   rw [hgd] at hi1
   obtain ⟨y, hy⟩ : ∃ y, y = H.getD i 0 := ⟨_, rfl⟩
   rw [← hy] at hi1
   have hl := lay64 y s
   have Hy := Lib.hid hy; clear hy hgd hix
   go_wp2_with fail
   refine hl.mono ?_
   rintro e w1 ⟨g1, rfl, s1⟩
   have s2 : Sat W0 w1 (row p' c 1 (i * 8) (u8s (laid 8 (H.take i))) :: seg true g1 0 (u8s (layBE 8 y)) :: _) := s1.pull 1
   go_wp2_with (refine wpl_append rfl (.tmp 46) (.tmp 48) 25 rfl Tryz.underlying25 hi3 hz3 hs3 hb3 rfl (by decide) s2 rfl (some ⟨g1, 0, none⟩) 8 8 rfl (u8s (layBE 8 y)) (by rw [u8s_len, layBE_len]) s1.news (fun h => by cases h) (u8s_one _) (by unfold maxLen; omega) (by omega) ?_; intro p2 c2 w2 s3 _ _)
   go_roundw
   case rel =>
    refine ⟨i + 1, p2, c2, by omega, by go_num, by rw [Nat.succ_mul], ?_⟩
    rw [take_snoc64 H i (by rw [Hh.out.1]; exact hlt), ← Hy.out, laid_snoc, u8s_append, Nat.succ_mul]
    exact s3.drop 1
   case measure => simp [intOf]; omega
  ·obtain rfl : i = 8 := by omega
   go_wp2
   refine bodyPost_ret (v := .tuple #[.slice p' 64 c, .int .i64 0]) (by simp [results, Tryz.results186, go_sem]) rfl ⟨p', c, rfl, ?_⟩
   rw [List.take_of_length_le (by rw [Hh.out.1]; exact Nat.le_refl _), Hh.out.2] at s
   exact s
end Go.Proofs.YtbefjaodpbgpcaaGreat

/- Layer 6's program: the package's Sum, and Form; under the conditions that each names. -/
namespace Go.Proofs.YtbefjaodpbgpcaaGreat
open Go.RowKit Go.Sep Go.Bv Go.Sha
theorem whole512 {W0 w : World} {L : List Assn} {cap : Nat} {m : Bool} {sp : Option Addr} (p : Option Nat) (rs : List Run3) (bs : List Byte) (hcap : bs.length ≤ cap) (hcm : cap ≤ maxLen) (hb : tot rs + 2 * bs.length + 400 ≤ 2305843009213693952) (hl : rs.length + 1 ≤ 1048576)
  (hs : Sat W0 w (ledO p rs :: bytes m sp bs :: L)) :
  Calls Tryz.prog 154 #[ptrO p, .slice sp bs.length cap] w fun e w' => ∃ q c, e = .returned (.slice q 64 c) ∧ Sat W0 w' (row q c 1 64 (u8s (sha512 bs)) :: ledO p (noteN rs 2 128 ((pad512 bs).length / 128)) :: bytes m sp bs :: L) := by
 have hn := new512 hs
 have HB := Lib.hid (And.intro hb (And.intro hl (And.intro hcap hcm))); clear hb hl hcap hcm
 go_enter Tryz.func154, Tryz.ntmps154
 go_wp2_with fail
 refine hn.mono ?_
 rintro e w1 ⟨b, rfl, s1⟩
 have s2 : Sat W0 w1 (ledO p rs :: bytes m sp bs :: stM512 b [] L) := s1.pick [4, 5]
 have hp := write512 p rs [] bs HB.out.2.2.1 HB.out.2.2.2 (by have := HB.out.1; simp; omega) (by have := HB.out.2.1; omega) s2
 go_wp2_with fail
 refine hp.mono ?_
 rintro e w2 ⟨rfl, s3⟩
 simp only [List.nil_append, List.length_nil, Nat.zero_add, Nat.zero_div, Nat.sub_zero] at s3
 have s4 : Sat W0 w2 (ledO p (noteN rs 2 128 (bs.length / 128)) :: stM512 b bs (bytes m sp bs :: L)) := s3.pick [0, 2, 3, 4, 5]
 have hq := sum512 p _ bs (by rw [tot_noteN]; have := HB.out.1; omega) (by have := HB.out.2.1; have := noteN_len rs 2 128 (bs.length / 128); omega) s4
 go_wp2_with fail
 refine hq.mono ?_
 rintro e w3 ⟨q, c, rfl, s5⟩
 go_wp2
 go_ret
 refine ⟨q, c, rfl, ?_⟩
 rw [noteN_add, show bs.length / 128 + ((pad512 bs).length / 128 - bs.length / 128) = (pad512 bs).length / 128 by rw [pad512_len]; omega] at s5
 exact ((((s5.drop 2).drop 2).drop 2).drop 2)
theorem lay64n (n : Nat) (h : (n : Int) ≤ 2305843009213693952) : (n : Int) = v64 (BitVec.ofNat 64 n) := by
 simp only [v64, BitVec.toNat_ofNat]; omega
theorem formOf512 {W0 w : World} {L : List Assn} {b : Nat} (msg : List Byte) (hb : msg.length ≤ 2305843009213693952) (hs : Sat W0 w (stM512 b msg L)) :
  Calls Tryz.prog 245 #[.pointer (some ⟨b, 0, none⟩)] w fun e w' => ∃ q c, e = .returned (.slice q 200 c) ∧ Sat W0 w' (row q c 1 200 (u8s (form512 msg)) :: stM512 b msg L) := by
 obtain ⟨i3, hi3, hz3, hs3, hb3⟩ := info_parts Tryz.info_u8
 have hn : Sat W0 w (seg true b 0 [.bool true] :: _) := hs.pull 0
 obtain ⟨H, hH⟩ : ∃ H, H = blocks512 H512 msg (msg.length / 128) := ⟨_, rfl⟩
 have hHl : H.length = 8 := by rw [hH]; exact blocks512_len _ _ _ rfl
 have hform : laid 8 H ++ layBE 8 (BitVec.ofNat 64 msg.length) ++ waitOf 128 msg = form512 msg := by rw [hH]; rfl
 have s14 : Sat W0 w (seg true b 1 (u64s H) :: seg true b 0 [.bool true] :: seg true b 9 [.int .u64 (msg.length : Int)] :: seg true b 10 (u8s (waitOf 128 msg)) :: L) := by rw [hH]; exact hs.pull 1
 have hix := fun (j : Nat) (hj : j < 8) (w : World) => run_index_list (P := Tryz.prog) (t := 262) (e := 261) Tryz.underlying262 (by kernel_rfl) (fun w => by simp [go_sem]) (u64s H) (by rw [u64s_len, hHl]) j hj w
 have ht8 : (u64s H).take 8 = u64s H := List.take_of_length_le (by rw [u64s_len, hHl]; decide)
 have hwl := waitOf_len 128 msg (by omega)
 have hmsg : (msg.length : Int) = v64 (BitVec.ofNat 64 msg.length) := lay64n _ (by omega)
 have hst : Sat W0 w (stM512 b msg L) = Sat W0 w (seg true b 0 [.bool true] :: seg true b 1 (u64s H) :: seg true b 9 [.int .u64 (msg.length : Int)] :: seg true b 10 (u8s (waitOf 128 msg)) :: L) := by rw [hH]
 have Hh := Lib.hid (And.intro hHl (And.intro hform (And.intro hH (And.intro hwl hmsg)))); clear hHl hform hH hwl hmsg hst hs hb
 go_enter Tryz.func245, Tryz.ntmps245
 go_wp2_with fail
 refine (is512 hn).mono ?_
 rintro e w' ⟨rfl, rfl⟩
 go_wp2_with (refine wpl_load_agg rfl 262 (.tmp 11) rfl Tryz.underlying262 rfl (n := 8) (by kernel_rfl) s14 0 1 rfl rfl (by rw [u64s_len, Hh.out.1]; decide) ?_)
 go_loopw [3, 13] (fun t8 t43 wr => ∃ (i : Nat) (p' : Option Addr) (c : Nat), i ≤ 8 ∧ t43 = .int .i64 (i : Int) ∧ t8 = .slice p' (i * 8) c ∧ Sat W0 wr (row p' c 1 (i * 8) (u8s (laid 8 (H.take i))) :: seg true b 1 (u64s H) :: seg true b 0 [.bool true] :: seg true b 9 [.int .u64 (msg.length : Int)] :: seg true b 10 (u8s (waitOf 128 msg)) :: L)) (fun _ t43 _ => 8 - (intOf t43).toNat)
 case atStart => exact ⟨0, none, 0, by omega, rfl, rfl, s14.rowNil 1⟩
 case round =>
  clear s14 hn
  obtain ⟨i, p', c, hi, rfl, rfl, s⟩ := hrel
  by_cases hlt : i < 8
  ·have hi1 := fun w => hix i hlt w
   have hgd : (u64s H).getD i undef = .int .u64 (v64 (H.getD i 0)) := by
    rw [List.getD_eq_getElem?_getD, u64s_get H i (by rw [Hh.out.1]; exact hlt)]; rfl
   rw [hgd] at hi1
   obtain ⟨y, hy⟩ : ∃ y, y = H.getD i 0 := ⟨_, rfl⟩
   rw [← hy] at hi1
   have hl := lay64 y s
   have Hy := Lib.hid hy; clear hy hgd hix
   go_wp2_with fail
   refine hl.mono ?_
   rintro e w1 ⟨g1, rfl, s1⟩
   have s2 : Sat W0 w1 (row p' c 1 (i * 8) (u8s (laid 8 (H.take i))) :: seg true g1 0 (u8s (layBE 8 y)) :: _) := s1.pull 1
   go_wp2_with (refine wpl_append rfl (.tmp 16) (.tmp 18) 25 rfl Tryz.underlying25 hi3 hz3 hs3 hb3 rfl (by decide) s2 rfl (some ⟨g1, 0, none⟩) 8 8 rfl (u8s (layBE 8 y)) (by rw [u8s_len, layBE_len]) s1.news (fun h => by cases h) (u8s_one _) (by unfold maxLen; omega) (by omega) ?_; intro p2 c2 w2 s3 _ _)
   go_roundw
   case rel =>
    refine ⟨i + 1, p2, c2, by omega, by go_num, by rw [Nat.succ_mul], ?_⟩
    rw [take_snoc64 H i (by rw [Hh.out.1]; exact hlt), ← Hy.out, laid_snoc, u8s_append, Nat.succ_mul]
    exact s3.drop 1
   case measure => simp [intOf]; omega
  ·obtain rfl : i = 8 := by omega
   have s : Sat W0 wr (row p' c 1 64 (u8s (laid 8 H)) :: seg true b 1 (u64s H) :: seg true b 0 [.bool true] :: seg true b 9 [.int .u64 (msg.length : Int)] :: seg true b 10 (u8s (waitOf 128 msg)) :: L) := by
    rw [List.take_of_length_le (by rw [Hh.out.1]; exact Nat.le_refl _)] at s; exact s
   have sn : Sat W0 wr (seg true b 9 [.int .u64 (msg.length : Int)] :: _) := s.pull 3
   have cn : wr.cell? ⟨b, 9, none⟩ = some (.int .u64 (msg.length : Int)) := sn.cell (i := 0) rfl
   have hl := lay64 (BitVec.ofNat 64 msg.length) s
   rw [← Hh.out.2.2.2.2] at hl
   go_wp2_with fail
   refine hl.mono ?_
   rintro e w1 ⟨g1, rfl, s1⟩
   have s2 : Sat W0 w1 (row p' c 1 64 (u8s (laid 8 H)) :: seg true g1 0 (u8s (layBE 8 (BitVec.ofNat 64 msg.length))) :: _) := s1.pull 1
   go_wp2_with (first | (refine wpl_append rfl (.tmp 21) (.tmp 26) 25 rfl Tryz.underlying25 hi3 hz3 hs3 hb3 rfl (by decide) s2 rfl (some ⟨g1, 0, none⟩) 8 8 rfl (u8s (layBE 8 (BitVec.ofNat 64 msg.length))) (by rw [u8s_len, layBE_len]) s1.news (fun h => by cases h) (u8s_one _) (by unfold maxLen; omega) (by omega) ?_; intro p2 c2 w2 s3 _ _; have s4 : Sat W0 w2 (seg true b 10 (u8s (waitOf 128 msg)) :: _) := s3.pull 5) | (refine wpl_append rfl (.tmp 28) (.tmp 32) 25 rfl Tryz.underlying25 hi3 hz3 hs3 hb3 rfl (by decide) s3 rfl (some ⟨b, 10, none⟩) 128 128 rfl (u8s (waitOf 128 msg)) (by rw [u8s_len, Hh.out.2.2.2.1]) s4.news (fun h => by cases h) (u8s_one _) (by unfold maxLen; omega) (by omega) ?_; intro p3 c3 w3 s5 _ _))
   go_ret
   refine ⟨p3, c3, rfl, ?_⟩
   rw [← u8s_append, ← u8s_append, Hh.out.2.1] at s5
   rw [Hh.out.2.2.1] at s5
   exact (s5.drop 1).pick [0, 2, 1]
end Go.Proofs.YtbefjaodpbgpcaaGreat

/- Layer 11's program: the two hash functions behind one face; under the conditions that each names. -/
namespace Go.Sep
theorem Sat.open4 {W0 w : World} {L : List Assn} {A B C D : Assn} (h : Sat W0 w (sep A (sep B (sep C D)) :: L)) : Sat W0 w (A :: B :: C :: D :: L) := by
 have h1 : Sat W0 w (sep B (sep C D) :: A :: L) := h.sepOpen.pull 1
 have h2 : Sat W0 w (sep C D :: B :: A :: L) := h1.sepOpen.pull 1
 exact h2.sepOpen.pick [3, 2, 0, 1]
theorem Sat.shut4 {W0 w : World} {L : List Assn} {A B C D : Assn} (h : Sat W0 w (A :: B :: C :: D :: L)) : Sat W0 w (sep A (sep B (sep C D)) :: L) := by
 have h1 : Sat W0 w (C :: D :: A :: B :: L) := h.pick [2, 3]
 have h2 : Sat W0 w (B :: sep C D :: A :: L) := h1.sepShut.pick [2, 0]
 have h3 : Sat W0 w (A :: sep B (sep C D) :: L) := h2.sepShut.pick [1, 0]
 exact h3.sepShut
end Go.Sep
namespace Go.Sha
open Go.Bv
def hsz : Bool → Nat | false => 32 | true => 64
def bsz : Bool → Nat | false => 64 | true => 128
def evK : Bool → Int | false => 1 | true => 2
def evS : Bool → Int | false => 64 | true => 128
def algN : Bool → Int | false => 1 | true => 2
def roomN : Bool → Nat | false => 9 | true => 17
def hash : Bool → List Byte → List Byte | false => sha256 | true => sha512
def fsz : Bool → Nat | false => 104 | true => 200
def padN (wide : Bool) (n : Nat) : Nat := (n + roomN wide + bsz wide - 1) / bsz wide
theorem pad256N (p : List Byte) : (pad256 p).length / 64 = padN false p.length := by
 rw [show (pad256 p).length = p.length + (119 - p.length % 64) % 64 + 9 by simp [pad256, layBE_len]; omega]
 show _ = (p.length + 9 + 64 - 1) / 64
 omega
theorem pad512N (p : List Byte) : (pad512 p).length / 128 = padN true p.length := by
 rw [pad512_len]
 show _ = (p.length + 17 + 128 - 1) / 128
 omega
theorem sha256_len (p : List Byte) : (sha256 p).length = 32 := by
 unfold sha256 laid
 have : (blocks256 H256 (pad256 p) ((pad256 p).length / 64)).length = 8 := blk_len (fun h b hh => comp_len _ _ _ _ _ _ hh) 64 _ _ _ rfl
 match blocks256 H256 (pad256 p) ((pad256 p).length / 64), this with
 | [a, b, c, d, e, f, g, h], _ => simp [layBE_len]
theorem sha512_len (p : List Byte) : (sha512 p).length = 64 := by
 unfold sha512 laid
 have : (blocks512 H512 (pad512 p) ((pad512 p).length / 128)).length = 8 := blk_len (fun h b hh => comp_len _ _ _ _ _ _ hh) 128 _ _ _ rfl
 match blocks512 H512 (pad512 p) ((pad512 p).length / 128), this with
 | [a, b, c, d, e, f, g, h], _ => simp [layBE_len]
theorem hash_len (wide : Bool) (p : List Byte) : (hash wide p).length = hsz wide := by
 cases wide
 ·exact sha256_len p
 ·exact sha512_len p
end Go.Sha
namespace Go.Proofs.YtbefjaodpbgpcaaGreat
open Go.RowKit Go.Sep Go.Bv Go.Sha
def formH : Bool → List Byte → List Byte | false => form256 | true => form512
def dst : Bool → Nat → List Byte → Assn
 | false, b, msg => sep (seg true b 0 (u32s (blocks256 H256 msg (msg.length / 64)))) (sep (seg true b 8 [.int .i64 (msg.length : Int)]) (sep (seg true b 9 (u8s (waitOf 64 msg))) (seg true b 73 [.bool true])))
 | true, b, msg => sep (seg true b 0 [.bool true]) (sep (seg true b 1 (u64s (blocks512 H512 msg (msg.length / 128)))) (sep (seg true b 9 [.int .u64 (msg.length : Int)]) (seg true b 10 (u8s (waitOf 128 msg)))))
theorem dstOpen0 {W0 w : World} {L : List Assn} {b : Nat} {msg : List Byte} (h : Sat W0 w (dst false b msg :: L)) : Sat W0 w (stM256 b msg L) := Sat.open4 h
theorem dstOpen1 {W0 w : World} {L : List Assn} {b : Nat} {msg : List Byte} (h : Sat W0 w (dst true b msg :: L)) : Sat W0 w (stM512 b msg L) := Sat.open4 h
theorem dstShut0 {W0 w : World} {L : List Assn} {b : Nat} {msg : List Byte} (h : Sat W0 w (stM256 b msg L)) : Sat W0 w (dst false b msg :: L) := Sat.shut4 h
theorem dstShut1 {W0 w : World} {L : List Assn} {b : Nat} {msg : List Byte} (h : Sat W0 w (stM512 b msg L)) : Sat W0 w (dst true b msg :: L) := Sat.shut4 h
def ifv : Bool → Nat → Value
 | false, b => .iface 228 (.agg #[.pointer (some ⟨b, 0, none⟩)])
 | true, b => .iface 232 (.agg #[.pointer (some ⟨b, 0, none⟩)])
def fWrite : Bool → Nat | false => 242 | true => 185
def fSum : Bool → Nat | false => 183 | true => 186
def fForm : Bool → Nat | false => 239 | true => 245
def fWipe : Bool → Nat | false => 241 | true => 247
def fCopy : Bool → Nat | false => 243 | true => 248
def fNew : Bool → Nat | false => 149 | true => 152
def fWhole : Bool → Nat | false => 151 | true => 154
theorem dWrite {W0 w : World} {L : List Assn} {b cap : Nat} {m : Bool} {sp : Option Addr} (wide : Bool) (p : Option Nat) (rs : List Run3) (msg bs : List Byte) (hcap : bs.length ≤ cap) (hcm : cap ≤ maxLen) (hb : tot rs + msg.length + bs.length ≤ 2305843009213693952) (hl : rs.length ≤ 1048576)
  (hs : Sat W0 w (ledO p rs :: bytes m sp bs :: dst wide b msg :: L)) :
  Calls Tryz.prog (fWrite wide) #[.pointer (some ⟨b, 0, none⟩), ptrO p, .slice sp bs.length cap] w fun e w' => e = .returned (.int .i64 0) ∧ Sat W0 w' (ledO p (noteN rs (evK wide) (evS wide) ((msg.length + bs.length) / bsz wide - msg.length / bsz wide)) :: bytes m sp bs :: dst wide b (msg ++ bs) :: L) := by
 cases wide
 ·have h1 : Sat W0 w (ledO p rs :: bytes m sp bs :: stM256 b msg L) := (dstOpen0 (hs.pick [2] : Sat W0 w (dst false b msg :: ledO p rs :: bytes m sp bs :: L))).pick [4, 5]
  refine (write256 p rs msg bs hcap hcm hb hl h1).mono ?_
  rintro e w' ⟨rfl, s⟩
  refine ⟨rfl, ?_⟩
  have s1 : Sat W0 w' (stM256 b (msg ++ bs) (ledO p _ :: bytes m sp bs :: L)) := s.pick [2, 3, 4, 5]
  exact (dstShut0 s1).pick [1, 2]
 ·have h1 : Sat W0 w (ledO p rs :: bytes m sp bs :: stM512 b msg L) := (dstOpen1 (hs.pick [2] : Sat W0 w (dst true b msg :: ledO p rs :: bytes m sp bs :: L))).pick [4, 5]
  refine (write512 p rs msg bs hcap hcm hb hl h1).mono ?_
  rintro e w' ⟨rfl, s⟩
  refine ⟨rfl, ?_⟩
  have s1 : Sat W0 w' (stM512 b (msg ++ bs) (ledO p _ :: bytes m sp bs :: L)) := s.pick [2, 3, 4, 5]
  exact (dstShut1 s1).pick [1, 2]
theorem dSum {W0 w : World} {L : List Assn} {b : Nat} (wide : Bool) (p : Option Nat) (rs : List Run3) (msg : List Byte) (hb : tot rs + msg.length + 300 ≤ 2305843009213693952) (hl : rs.length ≤ 1048576) (hs : Sat W0 w (ledO p rs :: dst wide b msg :: L)) :
  Calls Tryz.prog (fSum wide) #[.pointer (some ⟨b, 0, none⟩), ptrO p] w fun e w' => ∃ q c, e = .returned (.tuple #[.slice q (hsz wide) c, .int .i64 0]) ∧ Sat W0 w' (row q c 1 (hsz wide) (u8s (hash wide msg)) :: ledO p (noteN rs (evK wide) (evS wide) (padN wide msg.length - msg.length / bsz wide)) :: dst wide b msg :: L) := by
 cases wide
 ·have h1 : Sat W0 w (ledO p rs :: stM256 b msg L) := (dstOpen0 (hs.pick [1] : Sat W0 w (dst false b msg :: ledO p rs :: L))).pick [4]
  refine (sum256 p rs msg (by omega) hl h1).mono ?_
  rintro e w' ⟨q, c, rfl, s⟩
  refine ⟨q, c, rfl, ?_⟩
  rw [pad256N] at s
  have s1 : Sat W0 w' (stM256 b msg (row q c 1 32 (u8s (sha256 msg)) :: ledO p _ :: L)) := s.pick [2, 3, 4, 5]
  exact (dstShut0 s1).pick [1, 2]
 ·have h1 : Sat W0 w (ledO p rs :: stM512 b msg L) := (dstOpen1 (hs.pick [1] : Sat W0 w (dst true b msg :: ledO p rs :: L))).pick [4]
  refine (sum512 p rs msg (by omega) hl h1).mono ?_
  rintro e w' ⟨q, c, rfl, s⟩
  refine ⟨q, c, rfl, ?_⟩
  rw [pad512N] at s
  have s1 : Sat W0 w' (stM512 b msg (row q c 1 64 (u8s (sha512 msg)) :: ledO p _ :: L)) := s.pick [2, 3, 4, 5]
  exact (dstShut1 s1).pick [1, 2]
theorem dForm {W0 w : World} {L : List Assn} {b : Nat} (wide : Bool) (msg : List Byte) (hb : msg.length ≤ 2305843009213693952) (hs : Sat W0 w (dst wide b msg :: L)) :
  Calls Tryz.prog (fForm wide) #[.pointer (some ⟨b, 0, none⟩)] w fun e w' => ∃ q c, e = .returned (.slice q (fsz wide) c) ∧ Sat W0 w' (row q c 1 (fsz wide) (u8s (formH wide msg)) :: dst wide b msg :: L) := by
 cases wide
 ·refine (formOf256 msg (dstOpen0 hs)).mono ?_
  rintro e w' ⟨q, c, rfl, s⟩
  refine ⟨q, c, rfl, ?_⟩
  have s1 : Sat W0 w' (stM256 b msg (row q c 1 104 (u8s (form256 msg)) :: L)) := s.pick [1, 2, 3, 4]
  exact (dstShut0 s1).pick [1]
 ·refine (formOf512 msg hb (dstOpen1 hs)).mono ?_
  rintro e w' ⟨q, c, rfl, s⟩
  refine ⟨q, c, rfl, ?_⟩
  have s1 : Sat W0 w' (stM512 b msg (row q c 1 200 (u8s (form512 msg)) :: L)) := s.pick [1, 2, 3, 4]
  exact (dstShut1 s1).pick [1]
theorem dWhole {W0 w : World} {L : List Assn} {cap : Nat} {m : Bool} {sp : Option Addr} (wide : Bool) (p : Option Nat) (rs : List Run3) (bs : List Byte) (hcap : bs.length ≤ cap) (hcm : cap ≤ maxLen) (hb : tot rs + 2 * bs.length + 400 ≤ 2305843009213693952) (hl : rs.length + 1 ≤ 1048576)
  (hs : Sat W0 w (ledO p rs :: bytes m sp bs :: L)) :
  Calls Tryz.prog (fWhole wide) #[ptrO p, .slice sp bs.length cap] w fun e w' => ∃ q c, e = .returned (.slice q (hsz wide) c) ∧ Sat W0 w' (row q c 1 (hsz wide) (u8s (hash wide bs)) :: ledO p (noteN rs (evK wide) (evS wide) (padN wide bs.length)) :: bytes m sp bs :: L) := by
 cases wide
 ·refine (whole256 p rs bs hcap hcm (by omega) hl hs).mono ?_
  rintro e w' ⟨q, c, rfl, s⟩
  rw [pad256N] at s
  exact ⟨q, c, rfl, s⟩
 ·refine (whole512 p rs bs hcap hcm (by omega) hl hs).mono ?_
  rintro e w' ⟨q, c, rfl, s⟩
  rw [pad512N] at s
  exact ⟨q, c, rfl, s⟩
theorem dNew {W0 w : World} {L : List Assn} (wide : Bool) (hs : Sat W0 w L) : Calls Tryz.prog (fNew wide) #[] w fun e w' => ∃ b, e = .returned (ifv wide b) ∧ Sat W0 w' (dst wide b [] :: L) := by
 cases wide
 ·show Calls Tryz.prog 149 #[] w _
  go_enter Tryz.func149, Tryz.ntmps149
  go_wp2_with fail
  refine (new256 hs).mono ?_
  rintro e w1 ⟨b, rfl, s1⟩
  go_wp2
  go_ret
  exact ⟨b, rfl, dstShut0 s1⟩
 ·show Calls Tryz.prog 152 #[] w _
  go_enter Tryz.func152, Tryz.ntmps152
  go_wp2_with fail
  refine (new512 hs).mono ?_
  rintro e w1 ⟨b, rfl, s1⟩
  go_wp2
  go_ret
  exact ⟨b, rfl, dstShut1 s1⟩
theorem dCopy {W0 w : World} {L : List Assn} {b : Nat} (wide : Bool) (msg : List Byte) (hs : Sat W0 w (dst wide b msg :: L)) : Calls Tryz.prog (fCopy wide) #[.agg #[.pointer (some ⟨b, 0, none⟩)]] w fun e w' => ∃ c, e = .returned (ifv wide c) ∧ Sat W0 w' (dst wide c msg :: dst wide b msg :: L) := by
 cases wide
 ·show Calls Tryz.prog 243 _ w _
  have h1 := dstOpen0 hs
  go_enter Tryz.func243, Tryz.ntmps243
  go_wp2_with fail
  refine (clone256 msg (h1.alloc' _)).mono ?_
  rintro e w1 ⟨c, rfl, s1⟩
  go_wp2
  go_ret
  have s2 := dstShut0 s1
  have s3 : Sat W0 w1 (stM256 b msg (dst false c msg :: L)) := s2.pick [1, 2, 3, 4]
  exact ⟨c, rfl, (dstShut0 s3).pick [1]⟩
 ·show Calls Tryz.prog 248 _ w _
  have h1 := dstOpen1 hs
  go_enter Tryz.func248, Tryz.ntmps248
  go_wp2_with fail
  refine (clone512 msg (h1.alloc' _)).mono ?_
  rintro e w1 ⟨c, rfl, s1⟩
  go_wp2
  go_ret
  have s2 := dstShut1 s1
  have s3 : Sat W0 w1 (stM512 b msg (dst true c msg :: L)) := s2.pick [1, 2, 3, 4]
  exact ⟨c, rfl, (dstShut1 s3).pick [1]⟩
def hcells : Bool → List Value
 | false => [.int .u8 1, .int .i64 32, .int .i64 64, .int .u8 1, .int .i64 64, .func (.func 149) #[] #[], .func (.func 151) #[] #[]]
 | true => [.int .u8 2, .int .i64 64, .int .i64 128, .int .u8 2, .int .i64 128, .func (.func 152) #[] #[], .func (.func 154) #[] #[]]
theorem dOf {W0 w : World} {L : List Assn} (wide : Bool) (hs : Sat W0 w L) : Calls Tryz.prog 115 #[.int .u8 (algN wide)] w fun e w' => e = .returned (.tuple #[.agg (hcells wide).toArray, .int .i64 0]) ∧ Sat W0 w' L := by
 cases wide
 ·show Calls Tryz.prog 115 #[.int .u8 1] w _
  go_enter Tryz.func115, Tryz.ntmps115
  go_wp2
  refine bodyPost_ret (v := .tuple #[.agg (hcells false).toArray, .int .i64 0]) (by simp [results, Tryz.results115, go_sem, hcells]) rfl ⟨rfl, ?_⟩
  exact (hs.alloc _ _).tail
 ·show Calls Tryz.prog 115 #[.int .u8 2] w _
  go_enter Tryz.func115, Tryz.ntmps115
  go_wp2
  refine bodyPost_ret (v := .tuple #[.agg (hcells true).toArray, .int .i64 0]) (by simp [results, Tryz.results115, go_sem, hcells]) rfl ⟨rfl, ?_⟩
  exact (hs.alloc _ _).tail
end Go.Proofs.YtbefjaodpbgpcaaGreat

/- More rules for the walk: make; bytes that a slice holds; each under the conditions that it names. -/
namespace Go.Sep
open Go.RowKit
theorem wpl_make {P : Program} {W0 w : World} {L : List Assn} {ops : Array Oper} {Q : Exit → Act → World → Prop} {o : Oper} {rest : List Oper} {a : Act} (hgd : o.guard = none) (t e : TypeId) (n c : Operand) (ho : o.op = .makeSlice t n c) {i : TypeInfo} {z : Value} {bytes : Nat}
  (hu : P.underlying t = some (.slice e)) (hi : P.info? e = some i) (hz : i.zero = some z) (hs1 : i.size = 1) (hb : i.bytes = bytes) (hz1 : z.cells = #[z]) (k : Nat) (hn : a.eval n = .int .i64 k) (hc : a.eval c = .int .i64 k) (hk : bytes * k ≤ 281474976710656) (hk2 : k ≤ 9223372036854775807) (hs : Sat W0 w L)
  (h : ∀ w' g, Sat W0 w' (seg true g 0 (List.replicate k z) :: L) → g < w'.heap.size → wpList P ops Q rest (a.put o.dst (.slice (some ⟨g, 0, none⟩) k k)) w') : wpList P ops Q (o :: rest) a w := by
 refine wpList_plain hgd fun _ hK => ?_
 have hr := run_make (P := P) w t e i z hu hi hz .i64 .i64 (k : Int) (k : Int) (by omega) (by omega) (by rw [hb]; omega) (by omega)
 rw [hs1, Int.toNat_natCast, Nat.mul_one, hz1] at hr
 unfold Oper.wp execOp
 simp only [ho, hn, hc, Sem.run_bind, Sem.run_pure, Result.andThen_ok, hr]
 exact hK _ _ (h _ _ (hs.make z k e) (by simp))
end Go.Sep
namespace Go.Proofs.YtbefjaodpbgpcaaGreat
open Go.RowKit Go.Sep Go.Bv Go.Sha
@[go_sem] theorem inv0_write (b : Nat) (p s : Value) (w : World) : (callMethod (.iface 228 (.agg #[.pointer (some ⟨b, 0, none⟩)])) "Write" #[p, s]).run Tryz.prog w = .ok (.enter 242 #[.pointer (some ⟨b, 0, none⟩), p, s]) w := by kernel_rfl
@[go_sem] theorem inv1_write (b : Nat) (p s : Value) (w : World) : (callMethod (.iface 232 (.agg #[.pointer (some ⟨b, 0, none⟩)])) "Write" #[p, s]).run Tryz.prog w = .ok (.enter 185 #[.pointer (some ⟨b, 0, none⟩), p, s]) w := by kernel_rfl
@[go_sem] theorem inv0_sum (b : Nat) (p : Value) (w : World) : (callMethod (.iface 228 (.agg #[.pointer (some ⟨b, 0, none⟩)])) "Sum" #[p]).run Tryz.prog w = .ok (.enter 183 #[.pointer (some ⟨b, 0, none⟩), p]) w := by kernel_rfl
@[go_sem] theorem inv1_sum (b : Nat) (p : Value) (w : World) : (callMethod (.iface 232 (.agg #[.pointer (some ⟨b, 0, none⟩)])) "Sum" #[p]).run Tryz.prog w = .ok (.enter 186 #[.pointer (some ⟨b, 0, none⟩), p]) w := by kernel_rfl
@[go_sem] theorem inv0_wipe (b : Nat) (p : Value) (w : World) : (callMethod (.iface 228 (.agg #[.pointer (some ⟨b, 0, none⟩)])) "Wipe" #[p]).run Tryz.prog w = .ok (.enter 241 #[.pointer (some ⟨b, 0, none⟩), p]) w := by kernel_rfl
@[go_sem] theorem inv1_wipe (b : Nat) (p : Value) (w : World) : (callMethod (.iface 232 (.agg #[.pointer (some ⟨b, 0, none⟩)])) "Wipe" #[p]).run Tryz.prog w = .ok (.enter 247 #[.pointer (some ⟨b, 0, none⟩), p]) w := by kernel_rfl
@[go_sem] theorem inv0_form (b : Nat) (w : World) : (callMethod (.iface 228 (.agg #[.pointer (some ⟨b, 0, none⟩)])) "Form" #[]).run Tryz.prog w = .ok (.enter 239 #[.pointer (some ⟨b, 0, none⟩)]) w := by kernel_rfl
@[go_sem] theorem inv1_form (b : Nat) (w : World) : (callMethod (.iface 232 (.agg #[.pointer (some ⟨b, 0, none⟩)])) "Form" #[]).run Tryz.prog w = .ok (.enter 245 #[.pointer (some ⟨b, 0, none⟩)]) w := by kernel_rfl
@[go_sem] theorem inv0_copy (b : Nat) (w : World) : (callMethod (.iface 228 (.agg #[.pointer (some ⟨b, 0, none⟩)])) "Copy" #[]).run Tryz.prog w = .ok (.enter 243 #[.agg #[.pointer (some ⟨b, 0, none⟩)]]) w := by kernel_rfl
@[go_sem] theorem inv1_copy (b : Nat) (w : World) : (callMethod (.iface 232 (.agg #[.pointer (some ⟨b, 0, none⟩)])) "Copy" #[]).run Tryz.prog w = .ok (.enter 248 #[.agg #[.pointer (some ⟨b, 0, none⟩)]]) w := by kernel_rfl
theorem bytesNews {W0 w : World} {L : List Assn} {m : Bool} {sp : Option Addr} {bs : List Byte} (h : Sat W0 w (bytes m sp bs :: L)) : ∀ j v, (u8s bs)[j]? = some v → ∃ ad, sp = some ad ∧ w.cell? (ad.add j) = some v := by
 intro j v hv
 have hne : bs ≠ [] := by rintro rfl; cases hv
 obtain ⟨b, o, rfl, h1⟩ := bytesCell h hne
 exact h1.news j v hv
theorem bytesNil {W0 w : World} {L : List Assn} (m : Bool) (sp : Option Addr) (h : Sat W0 w L) : Sat W0 w (bytes m sp [] :: L) := by
 obtain ⟨hb, hs, hf⟩ := h
 exact ⟨hb, Hp.zero :: hs, .cons (.inl rfl) (Hp.zero_ok _ _) (fun _ _ => Hp.zero_dis _) hf⟩
theorem rowBytes {W0 w : World} {L : List Assn} {p : Option Addr} {c n : Nat} {bs : List Byte} (h : Sat W0 w (row p c 1 n (u8s bs) :: L)) : bs.length = n ∧ n ≤ c ∧ c ≤ maxLen ∧ Sat W0 w (bytes true p bs :: L) := by
 obtain ⟨hl, ⟨rfl, rfl, rfl, hx, h1⟩ | ⟨g, rest, rfl, h1, h2, h3, h4⟩⟩ := h.rowOpen
 ·have hb : bs = [] := List.eq_nil_of_length_eq_zero (by rw [u8s_len] at hl; simpa using hl)
  subst hb
  exact ⟨rfl, Nat.le_refl _, by unfold maxLen; omega, bytesNil true none h1⟩
 ·rw [u8s_len, Nat.mul_one] at hl
  exact ⟨hl, h1, h2, (bytesOf (Sat.part h4 (q := (u8s bs).length) (by omega))).drop 1⟩
end Go.Proofs.YtbefjaodpbgpcaaGreat
