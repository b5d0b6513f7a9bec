/- Sha256c, Sha256d, Sha256e, Sha256f, Sha256g, Sha256h, Sha256i, Sha256j: texts that lie apart elsewhere, as one; each under the conditions that it names. -/
import Derived.Test.YtbefjaodpbgpcaaGreatGB
import Derived.Deep.RegionHeld3
set_option linter.unusedVariables false
set_option linter.unusedSimpArgs false
set_option maxRecDepth 100000
set_option maxHeartbeats 16000000

/- Layer 5's program takes bytes: what waits, and the words; under the conditions that it names. -/
namespace Go.Proofs.YtbefjaodpbgpcaaGreat
open Go.RowKit Go.Sep Go.Bv Go.Sha
def noteN (rs : List Run3) (k s : Int) (n : Nat) : List Run3 := if n = 0 then rs else note rs k s n
theorem note_note (rs : List Run3) (k s : Int) (a b : Nat) : note (note rs k s a) k s b = note rs k s (a + b) := by
 unfold note
 rcases List.eq_nil_or_concat rs with rfl | ⟨l, ⟨r0, r1, r2⟩, hl⟩
 ·simp
 ·rw [List.concat_eq_append] at hl
  subst hl
  by_cases h : r0 = k ∧ r1 = s
  ·simp [h, Nat.add_assoc]
  ·simp [h]
theorem noteN_note (rs : List Run3) (k s : Int) (n : Nat) : note (noteN rs k s n) k s 1 = noteN rs k s (n + 1) := by
 unfold noteN
 by_cases h : n = 0
 ·subst h; simp
 ·rw [if_neg h, if_neg (by omega), note_note]
theorem noteN_add (rs : List Run3) (k s : Int) (a b : Nat) : noteN (noteN rs k s a) k s b = noteN rs k s (a + b) := by
 unfold noteN
 by_cases ha : a = 0
 ·subst ha; simp
 ·by_cases hb : b = 0
  ·subst hb; simp
  ·rw [if_neg ha, if_neg hb, if_neg (by omega), note_note]
theorem tot_noteN (rs : List Run3) (k s : Int) (n : Nat) : tot (noteN rs k s n) = tot rs + n := by
 unfold noteN; split
 ·omega
 ·exact tot_note _ _ _ _
theorem noteN_len (rs : List Run3) (k s : Int) (n : Nat) : (noteN rs k s n).length ≤ rs.length + 1 := by
 unfold noteN; split
 ·omega
 ·exact note_len _ _ _ _
def bytes (m : Bool) (p : Option Addr) (bs : List Byte) : Assn := fun h => bs = [] ∨ ∃ b o, p = some ⟨b, o, none⟩ ∧ seg m b o (u8s bs) h
theorem bytesCell {W0 w : World} {L : List Assn} {m : Bool} {p : Option Addr} {bs : List Byte} (h : Sat W0 w (bytes m p bs :: L)) (hne : bs ≠ []) : ∃ b o, p = some ⟨b, o, none⟩ ∧ Sat W0 w (seg m b o (u8s bs) :: L) := by
 obtain ⟨h0, hs, hf⟩ := h
 obtain ⟨x, t, rfl, hA, ok, hd, hf'⟩ := hf.head
 rcases hA with hA | ⟨b, o, rfl, hx⟩
 ·exact absurd hA hne
 ·exact ⟨b, o, rfl, h0, x :: t, .cons hx ok hd hf'⟩
abbrev stM256 (b : Nat) (msg : List Byte) (L : List Assn) : List Assn := st256 b (blocks256 H256 msg (msg.length / 64)) msg.length (waitOf 64 msg) L
theorem comp256_len (h : List (BitVec 32)) (b : List Byte) (hh : h.length = 8) : (comp256 h b).length = 8 := comp_len _ _ _ _ _ _ hh
theorem blocks256_len (h : List (BitVec 32)) (p : List Byte) (n : Nat) (hh : h.length = 8) : (blocks256 h p n).length = 8 := blk_len comp256_len 64 h p n hh
theorem put_wait (B : Nat) (M x : List Byte) (h : M.length % B + x.length ≤ B) : setL (u8s (waitOf B M)) (M.length % B) (u8s x) = u8s (restOf B M ++ x ++ List.replicate (B - M.length % B - x.length) 0) := by
 have e : waitOf B M = restOf B M ++ List.replicate x.length 0 ++ List.replicate (B - M.length % B - x.length) 0 := by
  unfold waitOf
  rw [List.append_assoc, List.replicate_append_replicate]
  congr 2; omega
 rw [e, u8s_append, u8s_append]
 have := setL_mid (u8s (restOf B M)) (u8s (List.replicate x.length 0)) (u8s (List.replicate (B - M.length % B - x.length) 0)) (u8s x) (by rw [u8s_len, u8s_len]; simp)
 rw [u8s_len, restOf_len] at this
 rw [this, u8s_append, u8s_append]
theorem none256 {W0 w : World} {L : List Assn} {b : Nat} (hs : Sat W0 w (seg true b 73 [.bool true] :: L)) : Calls Tryz.prog 197 #[.pointer (some ⟨b, 0, none⟩)] w fun e w' => e = .returned (.bool false) ∧ w = w' := by
 have c := hs.cell (i := 0) rfl
 go_enter Tryz.func197, Tryz.ntmps197
 go_wp2
 go_ret
 exact ⟨rfl, rfl⟩
end Go.Proofs.YtbefjaodpbgpcaaGreat

/- Layer 5's program goes on with a message: put; under the conditions that it names. -/
namespace Go.Proofs.YtbefjaodpbgpcaaGreat
open Go.RowKit Go.Sep Go.Bv Go.Sha
theorem put256c {W0 w : World} {L : List Assn} {b pb po cap : Nat} {m : Bool} (p : Option Nat) (rs : List Run3) (msg bs : List Byte) (hcap : bs.length ≤ cap) (hcm : cap ≤ maxLen) (hb : tot rs + msg.length + bs.length ≤ 2305843009213693952) (hl : rs.length ≤ 1048576)
  (hs : Sat W0 w (ledO p rs :: seg m pb po (u8s bs) :: stM256 b msg L)) :
  Calls Tryz.prog 182 #[.pointer (some ⟨b, 0, none⟩), ptrO p, .slice (some ⟨pb, po, none⟩) bs.length cap] w fun e w' => e = .returned (.tuple #[]) ∧ Sat W0 w' (ledO p (noteN rs 1 64 ((msg.length + bs.length) / 64 - msg.length / 64)) :: seg m pb po (u8s bs) :: stM256 b (msg ++ bs) L) := by
 obtain ⟨len, hlen⟩ : ∃ len, len = bs.length := ⟨_, rfl⟩
 rw [← hlen] at hcap ⊢
 unfold maxLen at hcm
 have Hb := Lib.hid hb; have Hlen := Lib.hid hlen; clear hb hlen
 go_enter Tryz.func182, Tryz.ntmps182
 go_wp2_with fail
 go_loopw [2] (fun t2 wr => ∃ (j : Nat) (q : Option Addr) (c' : Nat), j ≤ len ∧ t2 = .slice q (len - j) c' ∧ (j < len → q = some ⟨pb, po + j, none⟩) ∧ len - j ≤ c' ∧ c' ≤ 9223372036854775807 ∧ Sat W0 wr (ledO p (noteN rs 1 64 ((msg.length + j) / 64 - msg.length / 64)) :: seg m pb po (u8s bs) :: stM256 b (msg ++ bs.take j) L)) (fun t2 _ => match t2 with | .slice _ n _ => n | _ => 0)
 case atStart => exact ⟨0, _, cap, Nat.zero_le _, rfl, fun _ => rfl, hcap, hcm, by simpa [noteN] using hs⟩
 case round =>
  obtain ⟨j, q, c', hj, rfl, hq, hc1, hc2, s⟩ := hrel
  by_cases hlt : j < len
  ·obtain rfl := hq hlt
   obtain ⟨M, hM⟩ : ∃ M, M = msg ++ bs.take j := ⟨_, rfl⟩
   rw [← hM] at s
   have hMl : M.length = msg.length + j := by rw [hM, List.length_append, List.length_take, ← Hlen.out]; omega
   obtain ⟨r, hr⟩ : ∃ r, r = M.length % 64 := ⟨_, rfl⟩
   have hr64 : r < 64 := by omega
   have sn : Sat W0 wr (seg true b 8 [.int .i64 (M.length : Int)] :: _) := s.pull 3
   have sw : Sat W0 wr (seg true b 9 (u8s (waitOf 64 M)) :: _) := s.pull 4
   have cn : wr.cell? ⟨b, 8, none⟩ = some (.int .i64 (M.length : Int)) := sn.cell (i := 0) rfl
   have fn : wr.frozen? ⟨b, 8, none⟩ = false := (sn.free (i := 0) (by simp)).1
   have e1 : ((M.length : Int)) % 64 = (r : Int) := by omega
   have e2 : (M.length : Int).tmod 64 = (r : Int) := by rw [Int.tmod_eq_emod_of_nonneg (by omega)]; exact e1
   have hbig : (M.length : Int) ≤ 2305843009213693952 := by have := Hb.out; have := Hlen.out; omega
   obtain ⟨x, hx⟩ : ∃ x, x = (bs.drop j).take (64 - r) := ⟨_, rfl⟩
   have hxl : x.length = Nat.min (len - j) (64 - r) := by rw [hx, List.length_take, List.length_drop, ← Hlen.out, Nat.min_comm]
   obtain ⟨k, hk⟩ : ∃ k, k = x.length := ⟨_, rfl⟩
   have hk1 : k ≤ len - j := by rw [hk, hxl]; exact Nat.min_le_left _ _
   have hk2 : k ≤ 64 - r := by rw [hk, hxl]; exact Nat.min_le_right _ _
   have hk0 : 0 < k := by rw [hk, hxl]; exact Nat.lt_min.2 ⟨by omega, by omega⟩
   have hwl : r + (u8s x).length ≤ (u8s (waitOf 64 M)).length := by rw [u8s_len, u8s_len, waitOf_len _ _ (by omega)]; omega
   have hsrc : ∀ i v, (u8s x)[i]? = some v → ∃ ad, (some ⟨pb, po + j, none⟩ : Option Addr) = some ad ∧ wr.drew.cell? (ad.add i) = some v := by
    intro i v hv
    refine ⟨_, rfl, ?_⟩
    rw [add_lit', Nat.add_assoc]
    have sp : Sat W0 wr (seg m pb po (u8s bs) :: _) := s.pull 1
    refine sp.cell ?_
    simp only [u8s, List.getElem?_map, Option.map_eq_some_iff] at hv ⊢
    obtain ⟨y, hy, hv⟩ := hv
    refine ⟨y, ?_, hv⟩
    rw [hx, List.getElem?_take] at hy
    split at hy
    ·rw [List.getElem?_drop] at hy; exact hy
    ·cases hy
   have hxl2 : (u8s x).length = Nat.min (len - j) (64 - r) := by rw [u8s_len]; exact hxl
   have hxk : ((u8s x).length : Int) = (k : Int) := by rw [u8s_len, hk]
   have HM := Lib.hid (And.intro hM (And.intro hMl (And.intro hr (And.intro hx hk)))); clear hM hMl hr hx hk hxl
   have Hxl := Lib.hid hxl2; clear hxl2
   have ew : IntKind.i64.wrap (r : Int) = (r : Int) := by rw [IntKind.wrap_i64]; omega
   have hr64' : (r : Int) ≤ 64 := by omega
   have h64 : ¬ 64 = r := by omega
   go_wp2_with fail
   go_region_law (refine step_copy (by rfl) (.tmp 18) (.tmp 19) 25 25 (by rfl) Tryz.underlying25 (by kernel_rfl) sw.drew r (9 + r) (64 - r) (64 - r) (len - j) c' (some ⟨pb, po + j, none⟩) (u8s x) (by rfl) (by rfl) rfl Hxl.out hwl hsrc (u8s_one _) ?_; intro w2 s2)
   have sn2 : Sat W0 w2 (seg true b 8 [.int .i64 (M.length : Int)] :: _) := s2.pull 4
   have cn : w2.cell? ⟨b, 8, none⟩ = some (.int .i64 (M.length : Int)) := sn2.cell (i := 0) rfl
   have fn : w2.frozen? ⟨b, 8, none⟩ = false := (sn2.free (i := 0) (by simp)).1
   obtain ⟨hM, hMl, hr, hx, hk⟩ := HM.out
   have hM' : msg ++ bs.take (j + k) = M ++ x := by
    rw [hM, List.append_assoc, List.take_add, hk, hx, List.length_take, ← List.take_eq_take_min]
   have hjk : msg.length + (j + k) = M.length + k := by omega
   have hpw := put_wait 64 M x (by omega)
   rw [← hr, ← hk] at hpw
   rw [hpw] at s2
   have s3 : Sat W0 w2 (seg true b 8 [.int .i64 (M.length : Int)] :: _) := s2.pull 4
   have s4 := s3.store (i := 0) (by simp) (.int .i64 ((M.length : Int) + (k : Int))) (q := 8) (by simp)
   by_cases hfull : r + k = 64
   ·have hdiv := div_next M.length 64 k (by omega) (by omega)
    have e3 : ((M.length : Int) + (k : Int)) % 64 = 0 := by have := hdiv.2; omega
    have hbk := blk_full comp256 64 H256 M x (by omega) (by omega)
    have hwf := wait_full 64 M x (by omega) (by omega)
    have hbig2 : tot (noteN rs 1 64 ((msg.length + j) / 64 - msg.length / 64)) + 1 ≤ 4611686018427387904 := by rw [tot_noteN]; have := Hb.out; have := Hlen.out; omega
    have hln := noteN_len rs 1 64 ((msg.length + j) / 64 - msg.length / 64)
    have s5 : Sat W0 (w2.setCell ⟨b, 8, none⟩ (.int .i64 ((M.length : Int) + (k : Int)))) (ledO p (noteN rs 1 64 ((msg.length + j) / 64 - msg.length / 64)) :: st256 b (blocks256 H256 M (M.length / 64)) (M.length + k) (restOf 64 M ++ x) (seg m pb po (u8s bs) :: L)) := (s4.pick [2, 4, 0, 1, 5, 3]).to (by simp [pick, show 64 - r - k = 0 by omega])
    have hc := compress256 p _ _ _ _ (blocks256_len H256 M (M.length / 64) rfl) (by rw [List.length_append, restOf_len]; omega) hbig2 (by omega) s5
    have hfin : ∀ w', Sat W0 w' (ledO p (note (noteN rs 1 64 ((msg.length + j) / 64 - msg.length / 64)) 1 64 1) :: st256 b (comp256 (blocks256 H256 M (M.length / 64)) (restOf 64 M ++ x)) (M.length + k) (List.replicate 64 0) (seg m pb po (u8s bs) :: L)) → Sat W0 w' (ledO p (noteN rs 1 64 ((msg.length + (j + k)) / 64 - msg.length / 64)) :: seg m pb po (u8s bs) :: stM256 b (msg ++ bs.take (j + k)) L) := by
     intro w' hs'
     have e5 : (msg.length + (j + k)) / 64 - msg.length / 64 = (msg.length + j) / 64 - msg.length / 64 + 1 := by
      rw [hjk, hdiv.1, hMl]
      have : msg.length / 64 ≤ (msg.length + j) / 64 := Nat.div_le_div_right (by omega)
      omega
     rw [e5, ← noteN_note, hM']
     refine (hs'.pick [0, 5]).to ?_
     have hbk' : blocks256 H256 (M ++ x) ((M ++ x).length / 64) = comp256 (blocks256 H256 M (M.length / 64)) (restOf 64 M ++ x) := hbk
     rw [stM256, hbk', hwf, List.length_append, ← hk]
     rfl
    have HF := Lib.hid hfin
    have HX := Lib.hid (And.intro hM' (And.intro hjk (And.intro hr hk)))
    clear hfin hbk hwf hM' hjk hM hMl hr hx hk hpw hdiv hbig2 hln s5 s4 s3
    go_wp2_with fail
    all_goals
     refine hc.mono ?_
     rintro e w3 ⟨rfl, s6⟩
     go_wp2
     go_roundw
     case rel => first | exact ⟨j + k, _, c' - k, by omega, by rw [Nat.sub_sub], by intro h; rw [Nat.add_assoc], by omega, by omega, HF.out _ s6⟩ | exact ⟨j + k, _, 0, by omega, by rw [Nat.sub_sub], by intro h; exfalso; omega, by omega, by omega, HF.out _ s6⟩
     case measure => simp; omega
   ·have hlt2 : r + k < 64 := by omega
    have e3 : ((M.length : Int) + (k : Int)) % 64 = ((r + k : Nat) : Int) := by omega
    have e4 : (((r + k : Nat) : Int) == 0) = false := by simp; omega
    have hbk := blk_part comp256 64 H256 M x (by omega) (by omega)
    have hwp := wait_part 64 M x (by omega) (by omega)
    have hdiv := div_same M.length 64 k (by omega) (by omega)
    have hfin : Sat W0 (w2.setCell ⟨b, 8, none⟩ (.int .i64 ((M.length : Int) + (k : Int)))) (ledO p (noteN rs 1 64 ((msg.length + (j + k)) / 64 - msg.length / 64)) :: seg m pb po (u8s bs) :: stM256 b (msg ++ bs.take (j + k)) L) := by
     have e5 : (msg.length + (j + k)) / 64 - msg.length / 64 = (msg.length + j) / 64 - msg.length / 64 := by rw [hjk, hdiv, hMl]
     rw [e5, hM']
     refine (s4.pick [2, 3, 4, 0, 1, 5]).to ?_
     have hbk' : blocks256 H256 (M ++ x) ((M ++ x).length / 64) = blocks256 H256 M (M.length / 64) := hbk
     show _ = ledO p _ :: seg m pb po (u8s bs) :: st256 b (blocks256 H256 (M ++ x) ((M ++ x).length / 64)) (M ++ x).length (waitOf 64 (M ++ x)) L
     rw [hbk', hwp, List.length_append, ← hk, ← hr]
     rfl
    have HF := Lib.hid hfin
    clear hfin hbk hwp hM' hjk hM hMl hr hx hk hpw hdiv s4 s3
    have e6 : ((r : Int) + (k : Int) == 0) = false := by simp; omega
    go_wp2_with fail
    all_goals
     go_roundw
     case rel => first | exact ⟨j + k, _, c' - k, by omega, by rw [Nat.sub_sub], by intro h; first | rw [if_neg (by omega), Nat.add_assoc] | rw [Nat.add_assoc], by omega, by omega, HF.out⟩ | exact ⟨j + k, _, 0, by omega, by rw [Nat.sub_sub], by intro h; exfalso; omega, by omega, by omega, HF.out⟩
     case measure => simp; omega
  ·have hj' : j = len := by omega
   subst hj'
   go_wp2
   refine bodyPost_end (results_none rfl _ _ _) rfl ⟨rfl, ?_⟩
   rw [List.take_of_length_le (by rw [← Hlen.out]; exact Nat.le_refl _)] at s
   exact s
end Go.Proofs.YtbefjaodpbgpcaaGreat

/- Layer 5's program: New, Write, words; under the conditions that each names. -/
namespace Go.Proofs.YtbefjaodpbgpcaaGreat
open Go.RowKit Go.Sep Go.Bv Go.Sha
theorem bytesOf {W0 w : World} {L : List Assn} {m : Bool} {b o : Nat} {bs : List Byte} (h : Sat W0 w (seg m b o (u8s bs) :: L)) : Sat W0 w (bytes m (some ⟨b, o, none⟩) bs :: L) :=
 h.imp fun _ hx => .inr ⟨b, o, rfl, hx⟩
theorem put256 {W0 w : World} {L : List Assn} {b cap : Nat} {m : Bool} {sp : Option Addr} (p : Option Nat) (rs : List Run3) (msg bs : List Byte) (hcap : bs.length ≤ cap) (hcm : cap ≤ maxLen) (hb : tot rs + msg.length + bs.length ≤ 2305843009213693952) (hl : rs.length ≤ 1048576)
  (hs : Sat W0 w (ledO p rs :: bytes m sp bs :: stM256 b msg L)) :
  Calls Tryz.prog 182 #[.pointer (some ⟨b, 0, none⟩), ptrO p, .slice sp bs.length cap] w fun e w' => e = .returned (.tuple #[]) ∧ Sat W0 w' (ledO p (noteN rs 1 64 ((msg.length + bs.length) / 64 - msg.length / 64)) :: bytes m sp bs :: stM256 b (msg ++ bs) L) := by
 by_cases hne : bs = []
 ·subst hne
  clear hb hl
  go_enter Tryz.func182, Tryz.ntmps182
  go_wp2_with fail
  go_loopw [2] (fun t2 wr => t2 = .slice sp 0 cap ∧ wr = w) (fun _ _ => 0)
  case atStart => exact ⟨rfl, rfl⟩
  case round =>
   obtain ⟨rfl, rfl⟩ := hrel
   go_wp2
   refine bodyPost_end (results_none rfl _ _ _) rfl ⟨rfl, ?_⟩
   simpa [noteN] using hs
 ·have h1 : Sat W0 w (bytes m sp bs :: ledO p rs :: stM256 b msg L) := hs.pull 1
  obtain ⟨pb, po, rfl, h2⟩ := bytesCell h1 hne
  have h3 : Sat W0 w (ledO p rs :: seg m pb po (u8s bs) :: stM256 b msg L) := h2.pull 1
  refine (put256c p rs msg bs hcap hcm hb hl h3).mono ?_
  rintro e w' ⟨rfl, s⟩
  have s2 : Sat W0 w' (seg m pb po (u8s bs) :: ledO p _ :: stM256 b (msg ++ bs) L) := s.pull 1
  exact ⟨rfl, (bytesOf s2).pull 1⟩
theorem new256 {W0 w : World} {L : List Assn} (hs : Sat W0 w L) : Calls Tryz.prog 150 #[] w fun e w' => ∃ b, e = .returned (.pointer (some ⟨b, 0, none⟩)) ∧ Sat W0 w' (stM256 b [] L) := by
 go_enter Tryz.func150, Tryz.ntmps150
 go_wp2
 go_ret
 refine ⟨_, rfl, ?_⟩
 have s1 := hs.alloc (u32s H256 ++ ([Value.int .i64 0] ++ (u8s (List.replicate 64 0) ++ [Value.bool true]))).toArray 260
 have s2 := s1.part (q := 8) rfl
 have s3 : Sat W0 _ (seg true w.heap.size 8 ([Value.int .i64 0] ++ (u8s (List.replicate 64 0) ++ [Value.bool true])) :: _) := s2.pull 1
 have s4 := s3.part (q := 9) rfl
 have s5 : Sat W0 _ (seg true w.heap.size 9 (u8s (List.replicate 64 0) ++ [Value.bool true]) :: _) := s4.pull 1
 have s6 := s5.part (q := 73) rfl
 have s7 := s6.pick [3, 2, 0, 1]
 exact s7
end Go.Proofs.YtbefjaodpbgpcaaGreat

/- Layer 5's program: Write, words; under the conditions that each names. -/
namespace Go.Proofs.YtbefjaodpbgpcaaGreat
open Go.RowKit Go.Sep Go.Bv Go.Sha
theorem write256 {W0 w : World} {L : List Assn} {b cap : Nat} {m : Bool} {sp : Option Addr} (p : Option Nat) (rs : List Run3) (msg bs : List Byte) (hcap : bs.length ≤ cap) (hcm : cap ≤ maxLen) (hb : tot rs + msg.length + bs.length ≤ 2305843009213693952) (hl : rs.length ≤ 1048576)
  (hs : Sat W0 w (ledO p rs :: bytes m sp bs :: stM256 b msg L)) :
  Calls Tryz.prog 242 #[.pointer (some ⟨b, 0, none⟩), ptrO p, .slice sp bs.length cap] w fun e w' => e = .returned (.int .i64 0) ∧ Sat W0 w' (ledO p (noteN rs 1 64 ((msg.length + bs.length) / 64 - msg.length / 64)) :: bytes m sp bs :: stM256 b (msg ++ bs) L) := by
 have hn : Sat W0 w (seg true b 73 [.bool true] :: _) := hs.pull 5
 have hc := put256 p rs msg bs hcap hcm hb hl hs
 clear hcap hcm hb hl
 go_enter Tryz.func242, Tryz.ntmps242
 go_wp2_with fail
 refine (none256 hn).mono ?_
 rintro e w' ⟨rfl, rfl⟩
 go_wp2_with fail
 refine hc.mono ?_
 rintro e w1 ⟨rfl, s1⟩
 go_wp2
 go_ret
 exact ⟨rfl, s1⟩
theorem laid_snoc {w : Nat} (n : Nat) (h : List (BitVec w)) (x : BitVec w) : laid n (h ++ [x]) = laid n h ++ layBE n x := by simp [laid]
theorem words256 {W0 w : World} {L : List Assn} {b : Nat} (h : List (BitVec 32)) (hh : h.length = 8) (hs : Sat W0 w (seg true b 0 (u32s h) :: L)) :
  Calls Tryz.prog 199 #[.pointer (some ⟨b, 0, none⟩)] w fun e w' => ∃ p c, e = .returned (.slice p 32 c) ∧ Sat W0 w' (row p c 1 32 (u8s (laid 4 h)) :: seg true b 0 (u32s h) :: L) := by
 obtain ⟨i3, hi3, hz3, hs3, hb3⟩ := info_parts Tryz.info_u8
 have hix := fun (j : Nat) (hj : j < 8) (w : World) => run_index_list (P := Tryz.prog) (t := 257) (e := 176) Tryz.underlying257 (by kernel_rfl) (fun w => by simp [go_sem]) (u32s h) (by rw [u32s_len, hh]) j hj w
 have ht8 : (u32s h).take 8 = u32s h := List.take_of_length_le (by rw [u32s_len, hh]; decide)
 have Hh := Lib.hid hh; clear hh
 go_enter Tryz.func199, Tryz.ntmps199
 go_wp2_with (refine wpl_load_agg rfl 257 (.tmp 8) rfl Tryz.underlying257 rfl (n := 8) (by kernel_rfl) hs 0 0 rfl rfl (by rw [u32s_len, Hh.out]; decide) ?_)
 go_loopw [3, 10] (fun t3 t10 wr => ∃ (i : Nat) (p : Option Addr) (c : Nat), i ≤ 8 ∧ t10 = .int .i64 (i : Int) ∧ t3 = .slice p (i * 4) c ∧ Sat W0 wr (row p c 1 (i * 4) (u8s (laid 4 (h.take i))) :: seg true b 0 (u32s h) :: L)) (fun _ t10 _ => 8 - (intOf t10).toNat)
 case atStart => exact ⟨0, none, 0, by omega, rfl, rfl, hs.rowNil 1⟩
 case round =>
  obtain ⟨i, p, c, hi, rfl, rfl, s⟩ := hrel
  by_cases hlt : i < 8
  ·have hi1 := fun w => hix i hlt w
   have hgd : (u32s h).getD i undef = .int .u32 (v32 (h.getD i 0)) := by
    rw [List.getD_eq_getElem?_getD, u32s_get h i (by rw [Hh.out]; exact hlt)]; rfl
   rw [hgd] at hi1
   obtain ⟨x, hx⟩ : ∃ x, x = h.getD i 0 := ⟨_, rfl⟩
   rw [← hx] at hi1
   have hl := lay32 x s
   have Hx := Lib.hid hx; clear hx hgd hix
   go_wp2_with fail
   refine hl.mono ?_
   rintro e w1 ⟨g, rfl, s1⟩
   have s2 : Sat W0 w1 (row p c 1 (i * 4) (u8s (laid 4 (h.take i))) :: seg true g 0 (u8s (layBE 4 x)) :: seg true b 0 (u32s h) :: L) := s1.pull 1
   go_wp2_with (refine wpl_append rfl (.tmp 13) (.tmp 15) 25 rfl Tryz.underlying25 hi3 hz3 hs3 hb3 rfl (by decide) s2 rfl (some ⟨g, 0, none⟩) 4 4 rfl (u8s (layBE 4 x)) (by rw [u8s_len, layBE_len]) s1.news (fun h => by cases h) (u8s_one _) (by unfold maxLen; omega) (by omega) ?_; intro p' c' w2 s3 _ _)
   go_roundw
   case rel =>
    refine ⟨i + 1, p', c', by omega, by go_num, by rw [Nat.succ_mul], ?_⟩
    have e : h.take (i + 1) = h.take i ++ [x] := by
     rw [List.take_succ_eq_append_getElem (by rw [Hh.out]; exact hlt), Hx.out]
     simp [Hh.out, hlt]
    rw [e, laid_snoc, u8s_append, Nat.succ_mul]
    exact s3.drop 1
   case measure => simp [intOf]; omega
  ·obtain rfl : i = 8 := by omega
   go_wp2
   go_ret
   exact ⟨p, c, rfl, by rw [List.take_of_length_le (by rw [Hh.out]; exact Nat.le_refl _)] at s; exact s⟩
end Go.Proofs.YtbefjaodpbgpcaaGreat

/- Layer 5's program: Sum and Clone; under the conditions that each names. -/
namespace Go.Proofs.YtbefjaodpbgpcaaGreat
open Go.RowKit Go.Sep Go.Bv Go.Sha
def cells256 (h : List (BitVec 32)) (n : Nat) (wait : List Byte) (made : Bool) : List Value := u32s h ++ ([Value.int .i64 (n : Int)] ++ (u8s wait ++ [Value.bool made]))
theorem cells256_len (h : List (BitVec 32)) (n : Nat) (wait : List Byte) (made : Bool) (hh : h.length = 8) (hw : wait.length = 64) : (cells256 h n wait made).length = 74 := by
 simp [cells256, u32s_len, u8s_len, hh, hw]
theorem st256Join {W0 w : World} {L : List Assn} {b : Nat} {h : List (BitVec 32)} {n : Nat} {wait : List Byte} (hh : h.length = 8) (hw : wait.length = 64) (s : Sat W0 w (st256 b h n wait L)) : Sat W0 w (seg true b 0 (cells256 h n wait true) :: L) := by
 have s1 : Sat W0 w (seg true b 9 (u8s wait) :: seg true b 73 [.bool true] :: seg true b 0 (u32s h) :: seg true b 8 [.int .i64 (n : Int)] :: L) := s.pick [2, 3]
 have s2 := s1.join (by rw [u8s_len, hw])
 have s3 : Sat W0 w (seg true b 8 [.int .i64 (n : Int)] :: seg true b 9 (u8s wait ++ [.bool true]) :: seg true b 0 (u32s h) :: L) := s2.pick [2, 0]
 have s4 := s3.join rfl
 have s5 : Sat W0 w (seg true b 0 (u32s h) :: seg true b 8 ([.int .i64 (n : Int)] ++ (u8s wait ++ [.bool true])) :: L) := s4.pick [1, 0]
 exact s5.join (by rw [u32s_len, hh])
theorem st256Part {W0 w : World} {L : List Assn} {b : Nat} {h : List (BitVec 32)} {n : Nat} {wait : List Byte} (hh : h.length = 8) (hw : wait.length = 64) (s : Sat W0 w (seg true b 0 (cells256 h n wait true) :: L)) : Sat W0 w (st256 b h n wait L) := by
 have s2 := Sat.part (xs := u32s h) (ys := [Value.int .i64 (n : Int)] ++ (u8s wait ++ [Value.bool true])) s (q := 8) (by rw [u32s_len, hh])
 have s3 : Sat W0 w (seg true b 8 ([Value.int .i64 (n : Int)] ++ (u8s wait ++ [Value.bool true])) :: seg true b 0 (u32s h) :: L) := s2.pull 1
 have s4 := s3.part (q := 9) rfl
 have s5 : Sat W0 w (seg true b 9 (u8s wait ++ [Value.bool true]) :: seg true b 8 [Value.int .i64 (n : Int)] :: seg true b 0 (u32s h) :: L) := s4.pull 1
 have s6 := s5.part (q := 73) (by rw [u8s_len, hw])
 exact s6.pick [3, 2, 0, 1]
theorem zero_st256 (w : World) : (zeroValue 260).run Tryz.prog w = .ok (.agg (cells256 (List.replicate 8 0) 0 (List.replicate 64 0) false).toArray) w := by kernel_rfl
theorem cells256_one (h : List (BitVec 32)) (n : Nat) (wait : List Byte) (made : Bool) : ∀ v ∈ cells256 h n wait made, v.oneCell' = true := by
 intro v hv
 simp only [cells256, List.mem_append, List.mem_singleton] at hv
 rcases hv with hv | rfl | hv | rfl
 ·exact u32s_one _ v hv
 ·rfl
 ·exact u8s_one _ v hv
 ·rfl
theorem size_st256 : (Tryz.prog.info? 260).map (·.size) = some 74 := by kernel_rfl
theorem clone256 {W0 w : World} {L : List Assn} {b : Nat} (msg : List Byte) (hs : Sat W0 w (stM256 b msg L)) :
  Calls Tryz.prog 244 #[.pointer (some ⟨b, 0, none⟩)] w fun e w' => ∃ c, e = .returned (.tuple #[.pointer (some ⟨c, 0, none⟩), .int .i64 0]) ∧ Sat W0 w' (stM256 c msg (stM256 b msg L)) := by
 have hl1 := blocks256_len H256 msg (msg.length / 64) rfl
 have hl2 := waitOf_len 64 msg (by omega)
 have hn : Sat W0 w (seg true b 73 [.bool true] :: _) := hs.pull 3
 have sj := st256Join hl1 hl2 hs
 obtain ⟨C, hC⟩ : ∃ C, C = cells256 (blocks256 H256 msg (msg.length / 64)) msg.length (waitOf 64 msg) true := ⟨_, rfl⟩
 have hCl : C.length = 74 := by rw [hC, cells256_len _ _ _ _ hl1 hl2]
 have h1 : ∀ v ∈ C, v.oneCell' = true := by rw [hC]; exact cells256_one _ _ _ _
 have ht : C.take 74 = C := List.take_of_length_le (by omega)
 rw [← hC] at sj
 have hsz : (Tryz.prog.info? 260).map (·.size) = some C.length := by rw [hCl]; exact size_st256
 have hzl : 0 + C.length ≤ (cells256 (List.replicate 8 0) 0 (List.replicate 64 0) false).length := by rw [hCl, cells256_len _ _ _ _ (by simp) (by simp)]; decide
 have Hsz := Lib.hid hsz; have Hzl := Lib.hid hzl; have H1 := Lib.hid h1; have Ht := Lib.hid ht
 clear hsz hzl h1 ht
 have HC := Lib.hid (And.intro hC (And.intro hl1 (And.intro hl2 hCl))); clear hC hl1 hl2 hCl
 go_enter Tryz.func244, Tryz.ntmps244
 go_wp2_with fail
 refine (none256 hn).mono ?_
 rintro e w' ⟨rfl, rfl⟩
 go_wp2_with (first | (refine wpl_load_agg rfl 260 (.tmp 8) rfl Tryz.underlying260 rfl (n := 74) (by kernel_rfl) sj 0 0 rfl rfl (by have := HC.out; omega) ?_) | (refine wpl_alloc_agg rfl 260 rfl sj _ (zero_st256 _) ?_; intro w1 g s1 _; clear sj) | (refine wpl_store_agg rfl rfl 260 (.tmp 4) (.tmp 9) rfl (cs := C) s1 0 0 Hsz.out rfl (show Value.agg (List.take 74 C).toArray = Value.agg C.toArray by rw [Ht.out]) rfl Hzl.out H1.out ?_; intro w2 s2))
 have HC' := HC.out
 have s3 : Sat W0 w2 (seg true g 0 C :: seg true b 0 C :: L) := by
  rw [setL_all C _ (by rw [HC'.2.2.2, cells256_len _ _ _ _ (by simp) (by simp)])] at s2; exact s2
 refine bodyPost_ret (v := .tuple #[.pointer (some ⟨g, 0, none⟩), .int .i64 0]) (by simp [results, Tryz.results244, go_sem]) rfl ⟨g, rfl, ?_⟩
 rw [HC'.1] at s3
 have s4 := st256Part HC'.2.1 HC'.2.2.1 (s3.pull 1)
 have s5 := st256Part HC'.2.1 HC'.2.2.1 (Sat.pull s4 4)
 exact s5
end Go.Proofs.YtbefjaodpbgpcaaGreat

/- Layer 5's program: Sum; under the conditions that each names. -/
namespace Go.Proofs.YtbefjaodpbgpcaaGreat
open Go.RowKit Go.Sep Go.Bv Go.Sha
theorem bits64 (n : Nat) : IntKind.u64.wrap (8 * IntKind.u64.wrap (n : Int)) = v64 (BitVec.ofNat 64 (8 * n)) := by
 rw [IntKind.wrap_u64, IntKind.wrap_u64]
 simp only [v64, BitVec.toNat_ofNat]
 omega
theorem padTmod (n : Nat) : ((n : Int).tmod 64) = ((n % 64 : Nat) : Int) := by
 rw [Int.tmod_eq_emod_of_nonneg (by omega)]; omega
theorem sum256 {W0 w : World} {L : List Assn} {b : Nat} (p : Option Nat) (rs : List Run3) (msg : List Byte) (hb : tot rs + msg.length + 72 ≤ 2305843009213693952) (hl : rs.length ≤ 1048576) (hs : Sat W0 w (ledO p rs :: stM256 b msg L)) :
  Calls Tryz.prog 183 #[.pointer (some ⟨b, 0, none⟩), ptrO p] w fun e w' => ∃ q c, e = .returned (.tuple #[.slice q 32 c, .int .i64 0]) ∧ Sat W0 w' (row q c 1 32 (u8s (sha256 msg)) :: ledO p (noteN rs 1 64 ((pad256 msg).length / 64 - msg.length / 64)) :: stM256 b msg L) := by
 have hl1 := blocks256_len H256 msg (msg.length / 64) rfl
 have hl2 := waitOf_len 64 msg (by omega)
 have hs' : Sat W0 w (stM256 b msg (ledO p rs :: L)) := hs.pick [1, 2, 3, 4, 0]
 have hn : Sat W0 w (seg true b 73 [.bool true] :: _) := hs'.pull 3
 have sj := st256Join hl1 hl2 hs'
 obtain ⟨C, hC⟩ : ∃ C, C = cells256 (blocks256 H256 msg (msg.length / 64)) msg.length (waitOf 64 msg) true := ⟨_, rfl⟩
 have hCl : C.length = 74 := by rw [hC, cells256_len _ _ _ _ hl1 hl2]
 have h1 : ∀ v ∈ C, v.oneCell' = true := by rw [hC]; exact cells256_one _ _ _ _
 have ht : C.take 74 = C := List.take_of_length_le (by omega)
 rw [← hC] at sj
 have hsz : (Tryz.prog.info? 260).map (·.size) = some C.length := by rw [hCl]; exact size_st256
 have hzl : 0 + C.length ≤ (cells256 (List.replicate 8 0) 0 (List.replicate 64 0) false).length := by rw [hCl, cells256_len _ _ _ _ (by simp) (by simp)]; decide
 have hfin : ∀ w2 g, Sat W0 w2 (seg true g 0 (setL (cells256 (List.replicate 8 0) 0 (List.replicate 64 0) false) 0 C) :: seg true b 0 C :: ledO p rs :: L) → Sat W0 w2 (stM256 g msg (stM256 b msg (ledO p rs :: L))) := by
  intro w2 g s2
  rw [setL_all C _ (by rw [hCl, cells256_len _ _ _ _ (by simp) (by simp)]), hC] at s2
  have s4 := st256Part hl1 hl2 (s2.pull 1)
  exact st256Part hl1 hl2 (s4.pull 4)
 have Hsz := Lib.hid hsz; have Hzl := Lib.hid hzl; have H1 := Lib.hid h1; have Ht := Lib.hid ht; have HF := Lib.hid hfin
 clear hsz hzl h1 ht hfin
 have HC := Lib.hid (And.intro hC (And.intro hl1 (And.intro hl2 (And.intro hCl (And.intro hb hl))))); clear hC hl1 hl2 hCl hb hl
 go_enter Tryz.func183, Tryz.ntmps183
 go_wp2_with fail
 refine (none256 hn).mono ?_
 rintro e w' ⟨rfl, rfl⟩
 go_wp2_with (first | (refine wpl_load_agg rfl 260 (.tmp 12) rfl Tryz.underlying260 rfl (n := 74) (by kernel_rfl) sj 0 0 rfl rfl (by have := HC.out; omega) ?_) | (refine wpl_alloc_agg rfl 260 rfl sj _ (zero_st256 _) ?_; intro w1 g s1 _; clear sj) | (refine wpl_store_agg rfl rfl 260 (.tmp 6) (.tmp 13) rfl (cs := C) s1 0 0 Hsz.out rfl (show Value.agg (List.take 74 C).toArray = Value.agg C.toArray by rw [Ht.out]) rfl Hzl.out H1.out ?_; intro w2 s2'; have s2 := HF.out w2 g s2'; clear s2' s1; have c1 := Sat.cell (Sat.pull s2 5) (i := 0) rfl))
 rw [bits64]
 refine (lay64 _ s2).mono ?_
 rintro e w3 ⟨x, rfl, s3⟩
 clear c1
 have c2 := Sat.cell (Sat.pull s3 6) (i := 0) rfl
 have e1 := padTmod msg.length
 obtain ⟨i3, hi3, hz3, hs3, hb3⟩ := info_parts Tryz.info_u8
 obtain ⟨k, hk⟩ : ∃ k, k = (119 - msg.length % 64) % 64 := ⟨_, rfl⟩
 have hk2 : k < 64 := by omega
 have ek : ((k + 1 : Nat) : Int) = 1 + (119 - (msg.length : Int)) % 64 := by omega
 have hm1 : ∀ w, (Instr.makeSlice 25 (.int .i64 (1 + (119 - (msg.length : Int)) % 64)) (.int .i64 (1 + (119 - (msg.length : Int)) % 64))).run Tryz.prog w = .ok (.slice (some ⟨w.heap.size, 0, none⟩) (k + 1) (k + 1)) (w.alloc (.cells (madeCells #[.int .u8 0] (k + 1)) 5)) := by
  intro w
  have := run_make (P := Tryz.prog) w 25 5 i3 _ Tryz.underlying25 hi3 hz3 .i64 .i64 ((k + 1 : Nat) : Int) ((k + 1 : Nat) : Int) (by omega) (by omega) (by rw [hb3]; omega) (by omega)
  rw [hs3, Int.toNat_natCast, Nat.mul_one, ek] at this
  exact this
 have s4 := s3.make (.int .u8 0) (k + 1) 5
 rw [u8s_zero] at s4
 have c4 := s4.at 0 (u8s_get _ 0 (by simp))
 have f4 := s4.fr 0 (by simp [u8s_len])
 have hst : ((madeCells #[Value.int .u8 0] (k + 1)).setIfInBounds 0 (.int .u8 128)).toList = u8s (128 :: List.replicate k 0) := by
  rw [Array.toList_setIfInBounds, toList_made1, List.replicate_succ]; simp [u8s, v8]
 have s5 := Sat.allocAt s3 ((madeCells #[Value.int .u8 0] (k + 1)).setIfInBounds 0 (.int .u8 128)) 5 rfl
 rw [hst] at s5
 have s6 := s5.rowFull (n := k + 1) (by simp [u8s_len]) (by unfold maxLen; omega)
 have s6x := s5.pull 1
 have Hek := Lib.hid (And.intro ek (And.intro hk hk2))
 clear ek hst hk hk2
 go_wp2_with (refine wpl_append rfl (.tmp 33) (.tmp 34) 25 rfl Tryz.underlying25 hi3 hz3 hs3 hb3 rfl (by decide) s6 rfl (some ⟨x, 0, none⟩) 8 8 rfl (u8s (layBE 8 (BitVec.ofNat 64 (8 * msg.length)))) (by rw [u8s_len, layBE_len]) s6x.news (fun h => by cases h) (u8s_one _) (by have := Hek.out.2.2; unfold maxLen; omega) (by have := Hek.out.2.2; omega) ?_; intro p' c' w4 s7 _ _)
 have hk := Hek.out.2.1
 have hk2 := Hek.out.2.2
 obtain ⟨_, ⟨_, _, h0, _⟩ | ⟨pg, rest, rfl, hc1, hc2, _, s8⟩⟩ := s7.rowOpen
 ·omega
 rw [← u8s_append] at s8
 have hpl : ((128 :: List.replicate k (0 : Byte)) ++ layBE 8 (BitVec.ofNat 64 (8 * msg.length))).length = k + 1 + 8 := by simp [layBE_len]
 have hpad : msg ++ ((128 :: List.replicate k (0 : Byte)) ++ layBE 8 (BitVec.ofNat 64 (8 * msg.length))) = pad256 msg := by simp [pad256, hk]
 obtain ⟨P, hP⟩ : ∃ P, P = ((128 :: List.replicate k (0 : Byte)) ++ layBE 8 (BitVec.ofNat 64 (8 * msg.length))) := ⟨_, rfl⟩
 rw [← hP] at s8 hpl hpad
 have s9 := bytesOf (Sat.part s8 (q := (u8s P).length) (by omega))
 have s10 : Sat W0 w4 (ledO p rs :: bytes true (some ⟨pg, 0, none⟩) P :: stM256 g msg (stM256 b msg L)) := ((s9.drop 1).drop 1).pick [9]
 have hput := put256 p rs msg P (cap := c') (by omega) hc2 (by have := HC.out.2.2.2.2.1; omega) HC.out.2.2.2.2.2 s10
 rw [hpl, hpad] at hput
 have hpl2 : msg.length + (k + 1 + 8) = (pad256 msg).length := by rw [← hpad, List.length_append, hpl]
 rw [hpl2] at hput
 clear hk hk2 hpl hpad hpl2 hP s9 s10 s8 s7
 refine hput.mono ?_
 rintro e w5 ⟨rfl, s11⟩
 have s12 : Sat W0 w5 (seg true g 0 (u32s (blocks256 H256 (pad256 msg) ((pad256 msg).length / 64))) :: _) := s11.pull 2
 go_wp2_with fail
 refine (words256 _ (blocks256_len H256 _ _ rfl) s12).mono ?_
 rintro e w6 ⟨q, c, rfl, s13⟩
 go_wp2
 refine bodyPost_ret (v := .tuple #[.slice q 32 c, .int .i64 0]) (by simp [results, Tryz.results183, go_sem]) rfl ⟨q, c, rfl, ?_⟩
 exact (((((s13.drop 1).drop 2).drop 2).drop 2).drop 2)
end Go.Proofs.YtbefjaodpbgpcaaGreat

/- Layer 5's program: the package's Sum, and Wipe; under the conditions that each names. -/
namespace Go.Proofs.YtbefjaodpbgpcaaGreat
open Go.RowKit Go.Sep Go.Bv Go.Sha
theorem pad256_len (bs : List Byte) : (pad256 bs).length = bs.length + (119 - bs.length % 64) % 64 + 9 := by simp [pad256, layBE_len]; omega
theorem whole256 {W0 w : World} {L : List Assn} {cap : Nat} {m : Bool} {sp : Option Addr} (p : Option Nat) (rs : List Run3) (bs : List Byte) (hcap : bs.length ≤ cap) (hcm : cap ≤ maxLen) (hb : tot rs + 2 * bs.length + 200 ≤ 2305843009213693952) (hl : rs.length + 1 ≤ 1048576)
  (hs : Sat W0 w (ledO p rs :: bytes m sp bs :: L)) :
  Calls Tryz.prog 151 #[ptrO p, .slice sp bs.length cap] w fun e w' => ∃ q c, e = .returned (.slice q 32 c) ∧ Sat W0 w' (row q c 1 32 (u8s (sha256 bs)) :: ledO p (noteN rs 1 64 ((pad256 bs).length / 64)) :: bytes m sp bs :: L) := by
 have hn := new256 hs
 have HB := Lib.hid (And.intro hb (And.intro hl (And.intro hcap hcm))); clear hb hl hcap hcm
 go_enter Tryz.func151, Tryz.ntmps151
 go_wp2_with fail
 refine hn.mono ?_
 rintro e w1 ⟨b, rfl, s1⟩
 have s2 : Sat W0 w1 (ledO p rs :: bytes m sp bs :: stM256 b [] L) := s1.pick [4, 5]
 have hp := put256 p rs [] bs HB.out.2.2.1 HB.out.2.2.2 (by have := HB.out.1; simp; omega) (by have := HB.out.2.1; omega) s2
 go_wp2_with fail
 refine hp.mono ?_
 rintro e w2 ⟨rfl, s3⟩
 simp only [List.nil_append, List.length_nil, Nat.zero_add, Nat.zero_div, Nat.sub_zero] at s3
 have s4 : Sat W0 w2 (ledO p (noteN rs 1 64 (bs.length / 64)) :: stM256 b bs (bytes m sp bs :: L)) := s3.pick [0, 2, 3, 4, 5]
 have hq := sum256 p _ bs (by rw [tot_noteN]; have := HB.out.1; omega) (by have := HB.out.2.1; have := noteN_len rs 1 64 (bs.length / 64); omega) s4
 go_wp2_with fail
 refine hq.mono ?_
 rintro e w3 ⟨q, c, rfl, s5⟩
 go_wp2
 go_ret
 refine ⟨q, c, rfl, ?_⟩
 rw [noteN_add, show bs.length / 64 + ((pad256 bs).length / 64 - bs.length / 64) = (pad256 bs).length / 64 by rw [pad256_len]; omega] at s5
 exact ((((s5.drop 2).drop 2).drop 2).drop 2)
theorem zeroCells256 : Tryz.zeroCells260 = (cells256 (List.replicate 8 0) 0 (List.replicate 64 0) false).toArray := by kernel_rfl
theorem wipe256 {W0 w : World} {L : List Assn} {b : Nat} (p : Option Nat) (rs : List Run3) (msg : List Byte) (hb : tot rs + 1 ≤ 4611686018427387904) (hl : rs.length ≤ 4294967296) (hs : Sat W0 w (ledO p rs :: stM256 b msg L)) :
  Calls Tryz.prog 241 #[.pointer (some ⟨b, 0, none⟩), ptrO p] w fun e w' => e = .returned (.int .i64 0) ∧ Sat W0 w' (seg true b 0 (cells256 (List.replicate 8 0) 0 (List.replicate 64 0) false) :: ledO p (note rs 8 104 1) :: L) := by
 have hl1 := blocks256_len H256 msg (msg.length / 64) rfl
 have hl2 := waitOf_len 64 msg (by omega)
 have hn : Sat W0 w (seg true b 73 [.bool true] :: _) := hs.pull 4
 have hc := noteOne p rs 8 104 hs hb hl
 obtain ⟨Z, hZ⟩ : ∃ Z, Z = cells256 (List.replicate 8 0) 0 (List.replicate 64 0) false := ⟨_, rfl⟩
 have hZl : Z.length = 74 := by rw [hZ, cells256_len _ _ _ _ (by simp) (by simp)]
 have hsz : (Tryz.prog.info? 260).map (·.size) = some Z.length := by rw [hZl]; exact size_st256
 have h1 : ∀ v ∈ Z, v.oneCell' = true := by rw [hZ]; exact cells256_one _ _ _ _
 have H := Lib.hid (And.intro hZ (And.intro hZl (And.intro hsz (And.intro h1 (And.intro hl1 hl2))))); clear hZl hsz h1 hl1 hl2 hb hl
 go_enter Tryz.func241, Tryz.ntmps241
 go_wp2_with fail
 refine (none256 hn).mono ?_
 rintro e w' ⟨rfl, rfl⟩
 go_wp2_with fail
 refine hc.mono ?_
 rintro e w1 ⟨rfl, s1⟩
 have s2 : Sat W0 w1 (stM256 b msg (ledO p (note rs 8 104 1) :: L)) := s1.pick [1, 2, 3, 4]
 have s3 := st256Join H.out.2.2.2.2.1 H.out.2.2.2.2.2 s2
 have hZc : Value.agg Tryz.zeroCells260 = Value.agg Z.toArray := by rw [hZ]; exact congrArg Value.agg zeroCells256
 have hzl : 0 + Z.length ≤ (cells256 (blocks256 H256 msg (msg.length / 64)) msg.length (waitOf 64 msg) true).length := by rw [cells256_len _ _ _ _ H.out.2.2.2.2.1 H.out.2.2.2.2.2, H.out.2.1]; decide
 have HZ := Lib.hid hZc; have Hzl := Lib.hid hzl; clear hZc hzl hZ
 go_wp2_with (refine wpl_store_agg rfl rfl 260 (.tmp 12) (.tmp 11) rfl (cs := Z) s3 0 0 H.out.2.2.1 rfl HZ.out rfl Hzl.out H.out.2.2.2.1 ?_; intro w2 s4)
 go_ret
 refine ⟨rfl, ?_⟩
 rw [setL_all Z _ (by rw [cells256_len _ _ _ _ H.out.2.2.2.2.1 H.out.2.2.2.2.2, H.out.2.1]), H.out.1] at s4
 exact s4
end Go.Proofs.YtbefjaodpbgpcaaGreat

/- Layer 5's program: Form; under the conditions that each names. -/
namespace Go.Proofs.YtbefjaodpbgpcaaGreat
open Go.RowKit Go.Sep Go.Bv Go.Sha
def form256 (msg : List Byte) : List Byte := laid 4 (blocks256 H256 msg (msg.length / 64)) ++ layBE 8 (BitVec.ofNat 64 msg.length) ++ waitOf 64 msg
theorem wide64n (n : Nat) : IntKind.u64.wrap (n : Int) = v64 (BitVec.ofNat 64 n) := by
 rw [IntKind.wrap_u64]
 simp only [v64, BitVec.toNat_ofNat]
 omega
theorem formOf256 {W0 w : World} {L : List Assn} {b : Nat} (msg : List Byte) (hs : Sat W0 w (stM256 b msg L)) :
  Calls Tryz.prog 239 #[.pointer (some ⟨b, 0, none⟩)] w fun e w' => ∃ q c, e = .returned (.slice q 104 c) ∧ Sat W0 w' (row q c 1 104 (u8s (form256 msg)) :: stM256 b msg L) := by
 obtain ⟨i3, hi3, hz3, hs3, hb3⟩ := info_parts Tryz.info_u8
 have hl1 := blocks256_len H256 msg (msg.length / 64) rfl
 have hn : Sat W0 w (seg true b 73 [.bool true] :: _) := hs.pull 3
 have c0 : w.cell? ⟨b, 8, none⟩ = some (.int .i64 (msg.length : Int)) := (hs.pull 1).cell (i := 0) rfl
 go_enter Tryz.func239, Tryz.ntmps239
 go_wp2_with fail
 refine (none256 hn).mono ?_
 rintro e w' ⟨rfl, rfl⟩
 go_wp2_with fail
 go_region_held3 (fun w' => w'.cell? ⟨b, 8, none⟩ = some (.int .i64 (msg.length : Int))) (first | exact c0 | exact (s1.pull 2).cell (i := 0) rfl | exact (s2.pull 3).cell (i := 0) rfl | exact (s3.pull 3).cell (i := 0) rfl) (first | (go_at_call 199; refine (words256 _ hl1 (by first | exact hs | exact hs.drew | exact hs.drew.drew | exact hs.drewN _)).mono ?_; rintro e w1 ⟨q, c, rfl, s1⟩) | (go_at_call 198; rw [wide64n]; refine (lay64 _ (by first | exact s1 | exact s1.drew | exact s1.drewN _)).mono ?_; rintro e w2 ⟨x, rfl, s2⟩) | (refine step_append (by rfl) (.tmp 7) (.tmp 13) 25 (by rfl) Tryz.underlying25 hi3 hz3 hs3 hb3 rfl (by decide) (s2.pull 1) (by rfl) (some ⟨x, 0, none⟩) 8 8 (by rfl) (u8s (layBE 8 (BitVec.ofNat 64 msg.length))) (by rw [u8s_len, layBE_len]) s2.news (fun h => by cases h) (u8s_one _) (by unfold maxLen; omega) (by omega) ?_; intro p' c' w3 s3 _ _))
 have s3x := s3.pull 4
 have hl2 := waitOf_len 64 msg (by omega)
 have HW := Lib.hid hl2; clear hl2
 go_wp2_with (refine wpl_append rfl (.tmp 15) (.tmp 19) 25 rfl Tryz.underlying25 hi3 hz3 hs3 hb3 rfl (by decide) s3 rfl (some ⟨b, 9, none⟩) 64 64 rfl (u8s (waitOf 64 msg)) (by rw [u8s_len, HW.out]) s3x.news (fun h => by cases h) (u8s_one _) (by unfold maxLen; omega) (by omega) ?_; intro p2 c2 w4 s4 _ _)
 go_ret
 refine ⟨p2, c2, rfl, ?_⟩
 rw [← u8s_append, ← u8s_append] at s4
 exact s4.drop 1
end Go.Proofs.YtbefjaodpbgpcaaGreat
