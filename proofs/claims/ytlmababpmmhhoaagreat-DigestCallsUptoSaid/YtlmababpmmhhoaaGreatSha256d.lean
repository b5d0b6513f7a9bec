
/- Layer 5's program goes on with a message: put; under the conditions that it names. -/
import Derived.Test.YtlmababpmmhhoaaGreatSha256c
namespace Go.Proofs.YtlmababpmmhhoaaGreat
open Go.RowKit Go.Sep Go.Bv Go.Sha
set_option linter.unusedVariables false
set_option linter.unusedSimpArgs false
set_option maxRecDepth 100000 in
set_option maxHeartbeats 4000000 in
theorem put256c {W0 w : World} {L : List Assn} {b pb po cap : Nat} {m : Bool} (p : Option Nat) (rs : List Run3) (msg bs : List Byte) (hcap : bs.length ≤ cap) (hcm : cap ≤ maxLen) (hb : tot rs + msg.length + bs.length ≤ 2305843009213693952) (hl : rs.length ≤ 1048576)
    (hs : Sat W0 w (ledO p rs :: seg m pb po (u8s bs) :: stM256 b msg L)) :
    Calls Tryz.prog 51 #[.pointer (some ⟨b, 0, none⟩), ptrO p, .slice (some ⟨pb, po, none⟩) bs.length cap] w fun e w' => e = .returned (.tuple #[]) ∧ Sat W0 w' (ledO p (noteN rs 1 64 ((msg.length + bs.length) / 64 - msg.length / 64)) :: seg m pb po (u8s bs) :: stM256 b (msg ++ bs) L) := by
  obtain ⟨len, hlen⟩ : ∃ len, len = bs.length := ⟨_, rfl⟩
  rw [← hlen] at hcap ⊢
  unfold maxLen at hcm
  have Hb := Lib.hid hb; have Hlen := Lib.hid hlen; clear hb hlen
  go_enter Tryz.func51, Tryz.ntmps51
  go_wp2_with fail
  go_loopw [2] (fun t2 wr => ∃ (j : Nat) (q : Option Addr) (c' : Nat), j ≤ len ∧ t2 = .slice q (len - j) c' ∧ (j < len → q = some ⟨pb, po + j, none⟩) ∧ len - j ≤ c' ∧ c' ≤ 9223372036854775807 ∧ Sat W0 wr (ledO p (noteN rs 1 64 ((msg.length + j) / 64 - msg.length / 64)) :: seg m pb po (u8s bs) :: stM256 b (msg ++ bs.take j) L)) (fun t2 _ => match t2 with | .slice _ n _ => n | _ => 0)
  case atStart => exact ⟨0, _, cap, Nat.zero_le _, rfl, fun _ => rfl, hcap, hcm, by simpa [noteN] using hs⟩
  case round =>
    obtain ⟨j, q, c', hj, rfl, hq, hc1, hc2, s⟩ := hrel
    by_cases hlt : j < len
    · obtain rfl := hq hlt
      obtain ⟨M, hM⟩ : ∃ M, M = msg ++ bs.take j := ⟨_, rfl⟩
      rw [← hM] at s
      have hMl : M.length = msg.length + j := by rw [hM, List.length_append, List.length_take, ← Hlen.out]; omega
      obtain ⟨r, hr⟩ : ∃ r, r = M.length % 64 := ⟨_, rfl⟩
      have hr64 : r < 64 := by omega
      have sn : Sat W0 wr (seg true b 8 [.int .i64 (M.length : Int)] :: _) := s.pull 3
      have sw : Sat W0 wr (seg true b 9 (u8s (waitOf 64 M)) :: _) := s.pull 4
      have cn : wr.cell? ⟨b, 8, none⟩ = some (.int .i64 (M.length : Int)) := sn.cell (i := 0) rfl
      have fn : wr.frozen? ⟨b, 8, none⟩ = false := (sn.free (i := 0) (by simp)).1
      have e1 : ((M.length : Int)) % 64 = (r : Int) := by omega
      have e2 : (M.length : Int).tmod 64 = (r : Int) := by rw [Int.tmod_eq_emod_of_nonneg (by omega)]; exact e1
      have hbig : (M.length : Int) ≤ 2305843009213693952 := by have := Hb.out; have := Hlen.out; omega
      obtain ⟨x, hx⟩ : ∃ x, x = (bs.drop j).take (64 - r) := ⟨_, rfl⟩
      have hxl : x.length = Nat.min (len - j) (64 - r) := by rw [hx, List.length_take, List.length_drop, ← Hlen.out, Nat.min_comm]
      obtain ⟨k, hk⟩ : ∃ k, k = x.length := ⟨_, rfl⟩
      have hk1 : k ≤ len - j := by rw [hk, hxl]; exact Nat.min_le_left _ _
      have hk2 : k ≤ 64 - r := by rw [hk, hxl]; exact Nat.min_le_right _ _
      have hk0 : 0 < k := by rw [hk, hxl]; exact Nat.lt_min.2 ⟨by omega, by omega⟩
      have hwl : r + (u8s x).length ≤ (u8s (waitOf 64 M)).length := by rw [u8s_len, u8s_len, waitOf_len _ _ (by omega)]; omega
      have hsrc : ∀ i v, (u8s x)[i]? = some v → ∃ ad, (some ⟨pb, po + j, none⟩ : Option Addr) = some ad ∧ wr.drew.cell? (ad.add i) = some v := by
        intro i v hv
        refine ⟨_, rfl, ?_⟩
        rw [add_lit', Nat.add_assoc]
        have sp : Sat W0 wr (seg m pb po (u8s bs) :: _) := s.pull 1
        refine sp.cell ?_
        simp only [u8s, List.getElem?_map, Option.map_eq_some_iff] at hv ⊢
        obtain ⟨y, hy, hv⟩ := hv
        refine ⟨y, ?_, hv⟩
        rw [hx, List.getElem?_take] at hy
        split at hy
        · rw [List.getElem?_drop] at hy; exact hy
        · cases hy
      have hxl2 : (u8s x).length = Nat.min (len - j) (64 - r) := by rw [u8s_len]; exact hxl
      have hxk : ((u8s x).length : Int) = (k : Int) := by rw [u8s_len, hk]
      have HM := Lib.hid (And.intro hM (And.intro hMl (And.intro hr (And.intro hx hk)))); clear hM hMl hr hx hk hxl
      have Hxl := Lib.hid hxl2; clear hxl2
      have ew : IntKind.i64.wrap (r : Int) = (r : Int) := by rw [IntKind.wrap_i64]; omega
      have hr64' : (r : Int) ≤ 64 := by omega
      have h64 : ¬ 64 = r := by omega
      go_wp2_with fail
      go_region_law (refine step_copy (by rfl) (.tmp 18) (.tmp 19) 41 41 (by rfl) Tryz.underlying41 (by kernel_rfl) sw.drew r (9 + r) (64 - r) (64 - r) (len - j) c' (some ⟨pb, po + j, none⟩) (u8s x) (by rfl) (by rfl) rfl Hxl.out hwl hsrc (u8s_one _) ?_; intro w2 s2)
      have sn2 : Sat W0 w2 (seg true b 8 [.int .i64 (M.length : Int)] :: _) := s2.pull 4
      have cn : w2.cell? ⟨b, 8, none⟩ = some (.int .i64 (M.length : Int)) := sn2.cell (i := 0) rfl
      have fn : w2.frozen? ⟨b, 8, none⟩ = false := (sn2.free (i := 0) (by simp)).1
      obtain ⟨hM, hMl, hr, hx, hk⟩ := HM.out
      have hM' : msg ++ bs.take (j + k) = M ++ x := by
        rw [hM, List.append_assoc, List.take_add, hk, hx, List.length_take, ← List.take_eq_take_min]
      have hjk : msg.length + (j + k) = M.length + k := by omega
      have hpw := put_wait 64 M x (by omega)
      rw [← hr, ← hk] at hpw
      rw [hpw] at s2
      have s3 : Sat W0 w2 (seg true b 8 [.int .i64 (M.length : Int)] :: _) := s2.pull 4
      have s4 := s3.store (i := 0) (by simp) (.int .i64 ((M.length : Int) + (k : Int))) (q := 8) (by simp)
      by_cases hfull : r + k = 64
      · have hdiv := div_next M.length 64 k (by omega) (by omega)
        have e3 : ((M.length : Int) + (k : Int)) % 64 = 0 := by have := hdiv.2; omega
        have hbk := blk_full comp256 64 H256 M x (by omega) (by omega)
        have hwf := wait_full 64 M x (by omega) (by omega)
        have hbig2 : tot (noteN rs 1 64 ((msg.length + j) / 64 - msg.length / 64)) + 1 ≤ 4611686018427387904 := by rw [tot_noteN]; have := Hb.out; have := Hlen.out; omega
        have hln := noteN_len rs 1 64 ((msg.length + j) / 64 - msg.length / 64)
        have s5 : Sat W0 (w2.setCell ⟨b, 8, none⟩ (.int .i64 ((M.length : Int) + (k : Int)))) (ledO p (noteN rs 1 64 ((msg.length + j) / 64 - msg.length / 64)) :: st256 b (blocks256 H256 M (M.length / 64)) (M.length + k) (restOf 64 M ++ x) (seg m pb po (u8s bs) :: L)) := (s4.pick [2, 4, 0, 1, 5, 3]).to (by simp [pick, show 64 - r - k = 0 by omega])
        have hc := compress256 p _ _ _ _ (blocks256_len H256 M (M.length / 64) rfl) (by rw [List.length_append, restOf_len]; omega) hbig2 (by omega) s5
        have hfin : ∀ w', Sat W0 w' (ledO p (note (noteN rs 1 64 ((msg.length + j) / 64 - msg.length / 64)) 1 64 1) :: st256 b (comp256 (blocks256 H256 M (M.length / 64)) (restOf 64 M ++ x)) (M.length + k) (List.replicate 64 0) (seg m pb po (u8s bs) :: L)) → Sat W0 w' (ledO p (noteN rs 1 64 ((msg.length + (j + k)) / 64 - msg.length / 64)) :: seg m pb po (u8s bs) :: stM256 b (msg ++ bs.take (j + k)) L) := by
          intro w' hs'
          have e5 : (msg.length + (j + k)) / 64 - msg.length / 64 = (msg.length + j) / 64 - msg.length / 64 + 1 := by
            rw [hjk, hdiv.1, hMl]
            have : msg.length / 64 ≤ (msg.length + j) / 64 := Nat.div_le_div_right (by omega)
            omega
          rw [e5, ← noteN_note, hM']
          refine (hs'.pick [0, 5]).to ?_
          have hbk' : blocks256 H256 (M ++ x) ((M ++ x).length / 64) = comp256 (blocks256 H256 M (M.length / 64)) (restOf 64 M ++ x) := hbk
          rw [stM256, hbk', hwf, List.length_append, ← hk]
          rfl
        have HF := Lib.hid hfin
        have HX := Lib.hid (And.intro hM' (And.intro hjk (And.intro hr hk)))
        clear hfin hbk hwf hM' hjk hM hMl hr hx hk hpw hdiv hbig2 hln s5 s4 s3
        go_wp2_with fail
        all_goals
          refine hc.mono ?_
          rintro e w3 ⟨rfl, s6⟩
          go_wp2
          go_roundw
          case rel => first | exact ⟨j + k, _, c' - k, by omega, by rw [Nat.sub_sub], by intro h; rw [Nat.add_assoc], by omega, by omega, HF.out _ s6⟩ | exact ⟨j + k, _, 0, by omega, by rw [Nat.sub_sub], by intro h; exfalso; omega, by omega, by omega, HF.out _ s6⟩
          case measure => simp; omega
      · have hlt2 : r + k < 64 := by omega
        have e3 : ((M.length : Int) + (k : Int)) % 64 = ((r + k : Nat) : Int) := by omega
        have e4 : (((r + k : Nat) : Int) == 0) = false := by simp; omega
        have hbk := blk_part comp256 64 H256 M x (by omega) (by omega)
        have hwp := wait_part 64 M x (by omega) (by omega)
        have hdiv := div_same M.length 64 k (by omega) (by omega)
        have hfin : Sat W0 (w2.setCell ⟨b, 8, none⟩ (.int .i64 ((M.length : Int) + (k : Int)))) (ledO p (noteN rs 1 64 ((msg.length + (j + k)) / 64 - msg.length / 64)) :: seg m pb po (u8s bs) :: stM256 b (msg ++ bs.take (j + k)) L) := by
          have e5 : (msg.length + (j + k)) / 64 - msg.length / 64 = (msg.length + j) / 64 - msg.length / 64 := by rw [hjk, hdiv, hMl]
          rw [e5, hM']
          refine (s4.pick [2, 3, 4, 0, 1, 5]).to ?_
          have hbk' : blocks256 H256 (M ++ x) ((M ++ x).length / 64) = blocks256 H256 M (M.length / 64) := hbk
          show _ = ledO p _ :: seg m pb po (u8s bs) :: st256 b (blocks256 H256 (M ++ x) ((M ++ x).length / 64)) (M ++ x).length (waitOf 64 (M ++ x)) L
          rw [hbk', hwp, List.length_append, ← hk, ← hr]
          rfl
        have HF := Lib.hid hfin
        clear hfin hbk hwp hM' hjk hM hMl hr hx hk hpw hdiv s4 s3
        have e6 : ((r : Int) + (k : Int) == 0) = false := by simp; omega
        go_wp2_with fail
        all_goals
          go_roundw
          case rel => first | exact ⟨j + k, _, c' - k, by omega, by rw [Nat.sub_sub], by intro h; first | rw [if_neg (by omega), Nat.add_assoc] | rw [Nat.add_assoc], by omega, by omega, HF.out⟩ | exact ⟨j + k, _, 0, by omega, by rw [Nat.sub_sub], by intro h; exfalso; omega, by omega, by omega, HF.out⟩
          case measure => simp; omega
    · have hj' : j = len := by omega
      subst hj'
      go_wp2
      refine bodyPost_end (results_none rfl _ _ _) rfl ⟨rfl, ?_⟩
      rw [List.take_of_length_le (by rw [← Hlen.out]; exact Nat.le_refl _)] at s
      exact s
end Go.Proofs.YtlmababpmmhhoaaGreat
