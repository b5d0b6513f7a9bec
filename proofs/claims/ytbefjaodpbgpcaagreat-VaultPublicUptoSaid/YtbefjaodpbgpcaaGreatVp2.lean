
import Derived.Test.YtbefjaodpbgpcaaGreatVd2
import Derived.Test.YtbefjaodpbgpcaaGreatVnew
import Derived.Test.YtbefjaodpbgpcaaGreatGG
set_option linter.unusedVariables false
set_option linter.unusedSimpArgs false
set_option maxRecDepth 100000
set_option maxHeartbeats 16000000
namespace Go.Proofs.YtbefjaodpbgpcaaGreat
open Go.RowKit Go.Sep Go.Bv Go.Kec Go.Aes Go.Sha
theorem unhex24 {W0 w : World} {L : List Assn} (s : ByteArray) (hs1 : s.size ≤ 1000000) (hs : Sat W0 w L) :
  Calls Tryz.prog 45 #[.string s] w fun e w' => ∃ p c, e = .returned (.slice p (s.size / 2) c) ∧ Sat W0 w' (row p c 1 (s.size / 2) (u8s (unhexL s.data.toList)) :: L) := by
 obtain ⟨i3, hi3, hz3, hs3, hb3⟩ := info_parts Tryz.info_u8
 go_enter Tryz.func45, Tryz.ntmps45
 go_wp2
 go_loopw [3, 4] (fun t3 t4 wr => ∃ (j : Nat) (p : Option Addr) (c : Nat), 2 * j ≤ s.size ∧ t4 = .int .i64 (2 * (j : Int)) ∧ t3 = .slice p j c ∧ Sat W0 wr (row p c 1 j (u8s (unhexL (s.data.toList.take (2 * j)))) :: L)) (fun _ t4 _ => s.size - (intOf t4).toNat)
 case atStart => exact ⟨0, none, 0, by omega, rfl, rfl, by simpa [unhexL, u8s] using hs.rowNil 1⟩
 case round =>
  obtain ⟨j, p, c, hj, rfl, rfl, sr⟩ := hrel
  by_cases hlt : 2 * j + 1 < s.size
  ·obtain ⟨x, hx⟩ : ∃ x, x = s[2 * j]'(by omega) := ⟨_, rfl⟩
   obtain ⟨y, hy⟩ : ∃ y, y = s[2 * j + 1] := ⟨_, rfl⟩
   obtain ⟨hb1, hb1'⟩ := hexd_bd x
   obtain ⟨hb2, hb2'⟩ := hexd_bd y
   have HG := Lib.hid (And.intro hx hy); clear hx hy
   have hd0 : decide (2 * (j : Int) + 1 < (s.size : Int)) = true := by simp; omega
   have hd1 : 2 * (j : Int) + 1 < (s.size : Int) := by omega
   obtain ⟨wo, rfl⟩ : ∃ wo : World, wo = wr := ⟨_, rfl⟩
   go_wp2
   go_loopw [5, 6] (fun t5 t6 wr => ∃ q : Nat, q ≤ 2 ∧ t6 = .int .i64 (2 * (j : Int) + (q : Int)) ∧ t5 = .int .i64 (hexn x y q) ∧ wr = wo) (fun _ t6 _ => 2 * j + 2 - (intOf t6).toNat)
   case atStart => exact ⟨0, by omega, rfl, rfl, rfl⟩
   case round =>
    obtain ⟨q, hq, rfl, rfl, rfl⟩ := hrel
    have hcases : q = 0 ∨ q = 1 ∨ q = 2 := by omega
    rcases hcases with rfl | rfl | rfl
    ·have e0 : hexn x y 0 = 0 := rfl
     have ex : s[2 * j]'(by omega) = x := HG.out.1.symm
     have hxb := x.toNat_lt
     rw [e0]
     clear e0
     by_cases hd : 97 ≤ (x.toNat : Int)
     ·go_wp2
      go_roundw
      case rel => exact ⟨1, by omega, by go_num, by rw [show hexn x y 1 = hexd x from rfl, show hexd x = (x.toNat : Int) - 97 + 10 from if_pos (by omega)], by trivial⟩
      case measure => simp [intOf]; omega
     ·go_wp2
      go_roundw
      case rel => exact ⟨1, by omega, by go_num, by rw [show hexn x y 1 = hexd x from rfl, show hexd x = (x.toNat : Int) - 48 from if_neg (by omega)], by trivial⟩
      case measure => simp [intOf]; omega
    ·have e0 : hexn x y 1 = hexd x := rfl
     have ex : s[2 * j + 1] = y := HG.out.2.symm
     have hxb := y.toNat_lt
     rw [e0]
     clear e0
     by_cases hd : 97 ≤ (y.toNat : Int)
     ·go_wp2
      go_roundw
      case rel => exact ⟨2, by omega, by go_num, by rw [show hexn x y 2 = 16 * hexd x + hexd y from rfl, show hexd y = (y.toNat : Int) - 97 + 10 from if_pos (by omega)], by trivial⟩
      case measure => simp [intOf]; omega
     ·go_wp2
      go_roundw
      case rel => exact ⟨2, by omega, by go_num, by rw [show hexn x y 2 = 16 * hexd x + hexd y from rfl, show hexd y = (y.toNat : Int) - 48 from if_neg (by omega)], by trivial⟩
      case measure => simp [intOf]; omega
    ·have e0 : hexn x y 2 = 16 * hexd x + hexd y := rfl
     rw [e0]
     clear e0
     go_wp2_with (refine wpl_append rfl (.tmp 41) (.tmp 44) 25 rfl Tryz.underlying25 hi3 hz3 hs3 hb3 rfl (by decide) (sr.alloc' _) rfl (some _) 1 1 rfl [.int .u8 ((16 * hexd x + hexd y) % 256)] rfl ((sr.alloc #[.int .u8 ((16 * hexd x + hexd y) % 256)] 5).news) (fun h => by cases h) (by simp [Value.oneCell']) (by unfold maxLen; omega) (by omega) ?_; intro p2 c2 w2 s2 _ _)
     go_roundw
     case rel =>
      refine ⟨j + 1, p2, c2, by omega, by go_num, rfl, ?_⟩
      rw [unhexL_snoc s.data.toList j (by simpa using hlt)]
      have ex : s.data.toList[2 * j]'(by simp; omega) = x := HG.out.1.symm
      have ey : s.data.toList[2 * j + 1]'(by simpa using hlt) = y := HG.out.2.symm
      rw [ex, ey, u8s_append]
      rw [mod_u8_v8] at s2
      exact s2
     case measure => simp [intOf]; omega
  ·have hj2 : j = s.size / 2 := by omega
   have hl : s.data.toList.length = s.size := by simp
   have hu := unhexL_take s.data.toList
   rw [hl, ← hj2] at hu
   rw [hu] at sr
   have HU := Lib.hid hj2; clear hl hu hj2
   go_wp2
   go_ret
   refine ⟨p, c, by rw [← HU.out]; rfl, ?_⟩
   rw [← HU.out]
   exact sr
theorem fox24 {W0 w : World} {L : List Assn} (hs : Sat W0 w L) : Calls Tryz.prog 31 #[] w fun e w' => ∃ g p c, e = .returned (.tuple #[.slice (some ⟨g, 0, none⟩) 43 43, .slice p 32 c]) ∧ Sat W0 w' (row p c 1 32 (u8s foxTag) :: seg true g 0 (u8s foxMsg) :: L) := by
 have s1 := hs.allocMark (u8s foxMsg).toArray 5
 have kc := fun (w : World) (C : Array Value) (n c g : Nat) (hg : g = w.heap.size) => Joins.run_convert_bytes_const_at (P := Tryz.prog) w 25 5 C n c g hg Tryz.underlying25 Tryz.underlying5
 go_enter Tryz.func31, Tryz.ntmps31
 go_wp2_with fail
 refine (unhex24 ⟨foxHex.toArray⟩ (by decide) s1).mono ?_
 rintro e w1 ⟨p, c, rfl, s2⟩
 rw [show (⟨foxHex.toArray⟩ : ByteArray).data.toList = foxHex from rfl, foxTag_eq] at s2
 go_wp2
 go_ret2
 exact ⟨_, p, c, rfl, s2⟩
theorem doVX {W0 w : World} {L : List Assn} {v : Nat} {md mm : Bool} {B : Nat} {S S' : Sts SesD} {a : Ans} {rs rs' : List Run3} {x : OpM} {n : Nat} (e : doV S x.c rs = (S', a, rs')) (hn : a.bytes.length = n) (hV : okV B S) (hB : B + 65536 ≤ 1000000000) (hR : tot rs + 1 ≤ 1000000000000000 ∧ rs.length + 1 ≤ 1000000) (hf : x.fine)
  (hs : Sat W0 w (vlt sesI v none S :: bytes md x.dp x.data :: bytes mm x.ep x.more :: L)) :
  Calls Tryz.prog 15 #[.pointer (some ⟨v, 0, none⟩), x.v] w fun e w' => ∃ q c, e = .returned (.agg #[.int .i64 a.code, .int .i64 (a.handle : Int), .bool a.same, .slice q n c]) ∧ Sat W0 w' (vlt sesI v none S' :: bytes true q a.bytes :: bytes md x.dp x.data :: bytes mm x.ep x.more :: L) := by
 have s1 : Sat W0 w (ledO none rs :: vlt sesI v none S :: bytes md x.dp x.data :: bytes mm x.ep x.more :: L) := hs.emp
 refine (doVW hV hB hR hf s1).mono ?_
 rintro e1 w' h
 rw [e] at h
 obtain ⟨q, c, rfl, -, -, h4⟩ := h
 exact ⟨q, c, by rw [hn], h4.tail⟩
abbrev kx : List Byte := [107, 101, 121]
def B1 : Sts SesD := some (.key kx) :: List.replicate 63 none
def B2 : Sts SesD := some (.key kx) :: some (.ses ⟨.hm false, 32, kx, [], []⟩) :: List.replicate 62 none
def B3 : Sts SesD := some (.key kx) :: some (.ses ⟨.hm false, 32, kx, [], foxMsg⟩) :: List.replicate 62 none
abbrev B0 : Sts SesD := List.replicate 64 none
abbrev R1 : List Run3 := [(11, 1, 1), (12, 0, 1)]
abbrev R2 : List Run3 := [(11, 1, 1), (12, 0, 1), (11, 2, 1), (1, 64, 2), (12, 0, 1)]
abbrev R3 : List Run3 := [(11, 1, 1), (12, 0, 1), (11, 2, 1), (1, 64, 2), (12, 0, 1), (11, 3, 1), (12, 0, 1)]
abbrev R4 : List Run3 := [(11, 1, 1), (12, 0, 1), (11, 2, 1), (1, 64, 2), (12, 0, 1), (11, 3, 1), (12, 0, 1), (11, 4, 1), (1, 64, 2), (8, 1024, 1), (12, 0, 1)]
def put24 (g : Nat) : OpM := ⟨1, 0, 0, 0, 0, some ⟨g, 0, none⟩, 3, 3, none, 0, 0, kx, []⟩
def beg24 : OpM := ⟨2, 0, 1, 0, 32, none, 0, 0, none, 0, 0, [], []⟩
def upd24 (g : Nat) : OpM := ⟨3, 1, 0, 0, 0, some ⟨g, 0, none⟩, 43, 43, none, 0, 0, foxMsg, []⟩
def fin24 : OpM := ⟨4, 1, 0, 0, 0, none, 0, 0, none, 0, 0, [], []⟩
theorem aw1 (g : Nat) : doV B0 (put24 g).c [] = (B1, ⟨0, 0, false, []⟩, R1) := by kernel_rfl
theorem aw2 : doV B1 beg24.c R1 = (B2, ⟨0, 1, false, []⟩, R2) := by kernel_rfl
theorem aw3 (g : Nat) : doV B2 (upd24 g).c R2 = (B3, ⟨0, 0, false, []⟩, R3) := by kernel_rfl
theorem foxT : (MKind.hm false).tag kx [] 32 foxMsg = foxTag := by
 show (hmac false kx foxMsg).take 32 = foxTag
 rw [show hmac false kx foxMsg = foxTag from foxHmac]; rfl
theorem aw4 : doV B3 fin24.c R3 = (B1, ⟨0, 0, false, foxTag⟩, R4) := by
 rw [← foxT]
 kernel_rfl
theorem B1_ok : okV 3 B1 := by have h := (doV_next (B := 0) (D := 3) (o := (put24 0).c) (rs := []) okV0 (by decide) (.inl (Nat.le_refl 3))).2.1; rw [aw1] at h; exact h
theorem B2_ok : okV 3 B2 := by have h := (doV_next (D := 0) (o := beg24.c) (rs := R1) B1_ok (by decide) (.inl (by decide))).2.1; rw [aw2] at h; exact h
theorem B3_ok : okV 46 B3 := by have h := (doV_next (D := 43) (o := (upd24 0).c) (rs := R2) B2_ok (by decide) (.inl (by decide))).2.1; rw [aw3] at h; exact h
theorem put24_fine (g : Nat) : (put24 g).fine := ⟨⟨by show 1 < 256; decide, by show 0 < 256; decide⟩, ⟨rfl, by show 3 ≤ 3; decide, by show 3 ≤ maxLen; decide⟩, ⟨rfl, Nat.le_refl _, Nat.zero_le _⟩, by show 3 ≤ 1048576; decide, Nat.zero_le _⟩
theorem beg24_fine : beg24.fine := ⟨⟨by show 2 < 256; decide, by show 1 < 256; decide⟩, ⟨rfl, Nat.le_refl _, Nat.zero_le _⟩, ⟨rfl, Nat.le_refl _, Nat.zero_le _⟩, Nat.zero_le _, Nat.zero_le _⟩
theorem upd24_fine (g : Nat) : (upd24 g).fine := ⟨⟨by show 3 < 256; decide, by show 0 < 256; decide⟩, ⟨rfl, by show 43 ≤ 43; decide, by show 43 ≤ maxLen; decide⟩, ⟨rfl, Nat.le_refl _, Nat.zero_le _⟩, by show 43 ≤ 1048576; decide, Nat.zero_le _⟩
theorem fin24_fine : fin24.fine := ⟨⟨by show 4 < 256; decide, by show 0 < 256; decide⟩, ⟨rfl, Nat.le_refl _, Nat.zero_le _⟩, ⟨rfl, Nat.le_refl _, Nat.zero_le _⟩, Nat.zero_le _, Nat.zero_le _⟩
theorem bd_put (q : Option Addr) (n c : Nat) (w : World) : (Instr.build 27 #[(0, .int .u8 1), (5, .slice q n c)]).run Tryz.prog w = .ok (.agg #[.int .u8 1, .int .i64 0, .int .u8 0, .int .i64 0, .int .i64 0, .slice q n c, .slice none 0 0]) w := by
 refine run_build_struct Tryz.underlying27 (zero_op w) (places := #[(0, 1), (1, 1), (2, 1), (3, 1), (4, 1), (5, 1), (6, 1)]) (by kernel_rfl) ?_
 refine Eq.trans (fill_one (off := 0) (size := 1) (v := .int .u8 1) rfl rfl (by decide)) ?_
 refine Eq.trans (fill_one (off := 5) (size := 1) (v := .slice q n c) rfl rfl (by simp [length_setL])) ?_
 rfl
theorem bd_beg (h : Int) (w : World) : (Instr.build 27 #[(0, .int .u8 2), (1, .int .i64 h), (2, .int .u8 1), (4, .int .i64 32)]).run Tryz.prog w = .ok (.agg #[.int .u8 2, .int .i64 h, .int .u8 1, .int .i64 0, .int .i64 32, .slice none 0 0, .slice none 0 0]) w := by
 refine run_build_struct Tryz.underlying27 (zero_op w) (places := #[(0, 1), (1, 1), (2, 1), (3, 1), (4, 1), (5, 1), (6, 1)]) (by kernel_rfl) ?_
 refine Eq.trans (fill_one (off := 0) (size := 1) (v := .int .u8 2) rfl rfl (by decide)) ?_
 refine Eq.trans (fill_one (off := 1) (size := 1) (v := .int .i64 h) rfl rfl (by simp [length_setL])) ?_
 refine Eq.trans (fill_one (off := 2) (size := 1) (v := .int .u8 1) rfl rfl (by simp [length_setL])) ?_
 refine Eq.trans (fill_one (off := 4) (size := 1) (v := .int .i64 32) rfl rfl (by simp [length_setL])) ?_
 rfl
theorem bd_upd (h : Int) (q : Option Addr) (n c : Nat) (w : World) : (Instr.build 27 #[(0, .int .u8 3), (1, .int .i64 h), (5, .slice q n c)]).run Tryz.prog w = .ok (.agg #[.int .u8 3, .int .i64 h, .int .u8 0, .int .i64 0, .int .i64 0, .slice q n c, .slice none 0 0]) w := by
 refine run_build_struct Tryz.underlying27 (zero_op w) (places := #[(0, 1), (1, 1), (2, 1), (3, 1), (4, 1), (5, 1), (6, 1)]) (by kernel_rfl) ?_
 refine Eq.trans (fill_one (off := 0) (size := 1) (v := .int .u8 3) rfl rfl (by decide)) ?_
 refine Eq.trans (fill_one (off := 1) (size := 1) (v := .int .i64 h) rfl rfl (by simp [length_setL])) ?_
 refine Eq.trans (fill_one (off := 5) (size := 1) (v := .slice q n c) rfl rfl (by simp [length_setL])) ?_
 rfl
theorem bd_fin (h : Int) (w : World) : (Instr.build 27 #[(0, .int .u8 4), (1, .int .i64 h)]).run Tryz.prog w = .ok (.agg #[.int .u8 4, .int .i64 h, .int .u8 0, .int .i64 0, .int .i64 0, .slice none 0 0, .slice none 0 0]) w := by
 refine run_build_struct Tryz.underlying27 (zero_op w) (places := #[(0, 1), (1, 1), (2, 1), (3, 1), (4, 1), (5, 1), (6, 1)]) (by kernel_rfl) ?_
 refine Eq.trans (fill_one (off := 0) (size := 1) (v := .int .u8 4) rfl rfl (by decide)) ?_
 refine Eq.trans (fill_one (off := 1) (size := 1) (v := .int .i64 h) rfl rfl (by simp [length_setL])) ?_
 rfl
section
variable {σ : Type}
theorem freeVW {W0 w : World} {L : List Assn} {I : SesI σ} {v : Nat} {l : Option Nat} {S : Sts σ} (hs : Sat W0 w (vlt I v l S :: L)) :
  Calls Tryz.prog 33 #[.pointer (some ⟨v, 0, none⟩)] w fun e w' => e = .returned (.int .i64 (64 - ((S.countP (·.isSome) : Nat) : Int))) ∧ Sat W0 w' (vlt I v l S :: L) := by
 obtain ⟨t, hb, vb, T, rfl, hS, hT, s1⟩ := vltOpen hs
 clear hs
 have hc : (heldC T).count true = (T.map Slt.th).countP (·.isSome) := by
  unfold heldC
  rw [List.count_eq_countP, List.countP_map, List.countP_map]
  congr 1
  funext s
  simp [Slt.th]
 have hle : (heldC T).count true ≤ 64 := by have := List.count_le_length (a := true) (l := heldC T); rw [heldC_len hT] at this; exact this
 obtain ⟨k, hk⟩ : ∃ k, k = (heldC T).count true := ⟨_, rfl⟩
 rw [← hk] at hc hle
 rw [← hc]
 have hvi := fun (w : World) (X : List Assn) (s : Sat W0 w (seg true v 0 (vlC t l T) :: X)) => vIs s
 have hln := fun (w : World) (X : List Assn) (s : Sat W0 w (tabC t hb vb (heldC T) (valsC T) X)) => len_th (heldC_len hT) (valsC_len hT) (by decide) (by decide) s
 rw [← hk] at hln
 have HN := Lib.hid (And.intro hvi (And.intro hln (And.intro hS hT))); clear hvi hln hS hT hk hc
 go_enter Tryz.func33, Tryz.ntmps33
 go_wp2_with fail
 refine (HN.out.1 _ _ s1).mono ?_
 rintro e w2 ⟨rfl, rfl⟩
 have c0 := s1.at 0 rfl
 have z0 := s1.lt (by simp [vlC])
 go_wp2_with fail
 have s2 : Sat W0 w (tabC t hb vb (heldC T) (valsC T) (seg true v 0 (vlC t l T) :: stars (T.map (Slt.A I)) :: L)) := s1.f
 refine (HN.out.2.1 _ _ s2).mono ?_
 rintro e w3 ⟨rfl, rfl⟩
 have HS := Lib.hid (vltShut rfl HN.out.2.2.1 s1); clear s1 s2 c0 z0
 go_wp2
 go_ret
 exact ⟨rfl, HS.out⟩
end
theorem awake24 {W0 w : World} {L : List Assn} (hs : Sat W0 w L) : Calls Tryz.prog 10 #[] w fun e w' => e = .returned (.bool true) ∧ Sat W0 w' L := by
 have kc := fun (w : World) (C : Array Value) (n c g : Nat) (hg : g = w.heap.size) => Joins.run_convert_bytes_const_at (P := Tryz.prog) w 25 5 C n c g hg Tryz.underlying25 Tryz.underlying5
 go_enter Tryz.func10, Tryz.ntmps10
 go_wp2_with fail
 refine (fox24 hs).mono ?_
 rintro e w1 ⟨gm, pt, ct, rfl, s1'⟩
 clear hs
 obtain ⟨hl1, hl2, hl3, s1x⟩ := rowBytes s1'
 have s1 := bytesOf (s1x.f : Sat W0 w1 (seg true gm 0 (u8s foxMsg) :: bytes true pt foxTag :: L))
 have HT := Lib.hid (And.intro hl2 hl3); clear s1' s1x hl1 hl2 hl3
 go_wp2_with fail
 refine (vNewW sesI none s1).mono ?_
 rintro e w2 ⟨v, rfl, s2'⟩
 clear s1
 have s2 : Sat W0 w2 (vlt sesI v none B0 :: bytes true (some ⟨gm, 0, none⟩) foxMsg :: bytes true pt foxTag :: L) := s2'.f
 clear s2'
 have s3 := bytesNil true none (bytesOf (bs := kx) (s2.allocMark (u8s kx).toArray 5))
 have s4 : Sat W0 _ (vlt sesI v none B0 :: bytes true (some ⟨w2.heap.size, 0, none⟩) kx :: bytes true none [] :: bytes true (some ⟨gm, 0, none⟩) foxMsg :: bytes true pt foxTag :: L) := s3.f
 clear s2 s3
 go_wp2_with (refine wpl_build rfl 27 rfl (put24 w2.heap.size).v (by simp only [List.map_toArray, List.map_cons, List.map_nil]; exact bd_put _ _ _ _) ?_)
 refine (doVX (x := put24 w2.heap.size) (n := 0) (aw1 _) rfl (B := 0) okV0 (by decide) (by decide) (put24_fine _) s4).mono ?_
 rintro e w3 ⟨qa, ca, rfl, s5'⟩
 have s5 : Sat W0 w3 (vlt sesI v none B1 :: bytes true (some ⟨gm, 0, none⟩) foxMsg :: bytes true pt foxTag :: L) := s5'.f
 clear s4 s5'
 go_wp2_with (first | (refine wpl_alloc_agg rfl 44 rfl s5 _ (zero_ans _) ?_; intro w4a ga s5a _; clear s5) | (refine wpl_stAns rfl rfl (.tmp 4) (.tmp 16) rfl s5a rfl rfl ?_; intro w4 s6; clear s5a; have a1 : w4.cell? ⟨ga, 1, none⟩ = some (.int .i64 0) := Sat.at s6 1 rfl; have za : ga < w4.heap.size := Sat.lt s6 (by simp)) | (refine wpl_build rfl 27 rfl beg24.v (by simp only [List.map_toArray, List.map_cons, List.map_nil]; exact bd_beg _ _) ?_))
 have s7 : Sat W0 w4 (seg true ga 0 [.int .i64 0, .int .i64 0, .bool false, .slice qa 0 ca] :: vlt sesI v none B1 :: bytes true (some ⟨gm, 0, none⟩) foxMsg :: bytes true pt foxTag :: L) := s6
 clear s6
 have s8 := bytesNil true none (bytesNil true none s7)
 have s9 : Sat W0 w4 (vlt sesI v none B1 :: bytes true none [] :: bytes true none [] :: seg true ga 0 [.int .i64 0, .int .i64 0, .bool false, .slice qa 0 ca] :: bytes true (some ⟨gm, 0, none⟩) foxMsg :: bytes true pt foxTag :: L) := s8.f
 clear s7 s8
 clear a1 za
 refine (doVX (x := beg24) (n := 0) aw2 rfl B1_ok (by decide) (by decide) beg24_fine s9).mono ?_
 rintro e w5 ⟨qb, cb, rfl, t1'⟩
 have t1 : Sat W0 w5 (vlt sesI v none B2 :: seg true ga 0 [.int .i64 0, .int .i64 0, .bool false, .slice qa 0 ca] :: bytes true (some ⟨gm, 0, none⟩) foxMsg :: bytes true pt foxTag :: L) := t1'.f
 clear s9 t1'
 go_wp2_with (first | (refine wpl_alloc_agg rfl 44 rfl t1 _ (zero_ans _) ?_; intro w6a gb t1a _; clear t1) | (refine wpl_stAns rfl rfl (.tmp 5) (.tmp 21) rfl t1a rfl rfl ?_; intro w6 t2; clear t1a; have b1 : w6.cell? ⟨gb, 1, none⟩ = some (.int .i64 1) := Sat.at t2 1 rfl; have zb : gb < w6.heap.size := Sat.lt t2 (by simp)) | (refine wpl_build rfl 27 rfl (upd24 gm).v (by simp only [List.map_toArray, List.map_cons, List.map_nil]; exact bd_upd _ _ _ _ _) ?_))
 have t3 : Sat W0 w6 (seg true gb 0 [.int .i64 0, .int .i64 1, .bool false, .slice qb 0 cb] :: vlt sesI v none B2 :: seg true ga 0 [.int .i64 0, .int .i64 0, .bool false, .slice qa 0 ca] :: bytes true (some ⟨gm, 0, none⟩) foxMsg :: bytes true pt foxTag :: L) := t2
 clear t2
 have t4 := bytesNil true none t3
 have t5 : Sat W0 w6 (vlt sesI v none B2 :: bytes true (some ⟨gm, 0, none⟩) foxMsg :: bytes true none [] :: seg true gb 0 [.int .i64 0, .int .i64 1, .bool false, .slice qb 0 cb] :: seg true ga 0 [.int .i64 0, .int .i64 0, .bool false, .slice qa 0 ca] :: bytes true pt foxTag :: L) := t4.f
 clear t3 t4
 clear b1 zb
 refine (doVX (x := upd24 gm) (n := 0) (aw3 _) rfl B2_ok (by decide) (by decide) (upd24_fine _) t5).mono ?_
 rintro e w7 ⟨qc, cc, rfl, t6'⟩
 have t6 : Sat W0 w7 (seg true gb 0 [.int .i64 0, .int .i64 1, .bool false, .slice qb 0 cb] :: vlt sesI v none B3 :: seg true ga 0 [.int .i64 0, .int .i64 0, .bool false, .slice qa 0 ca] :: bytes true pt foxTag :: L) := t6'.f
 clear t5 t6'
 have b1 := t6.at 1 rfl
 have zb := t6.lt (by simp)
 have t7 := bytesNil true none (bytesNil true none t6)
 have t8 : Sat W0 w7 (vlt sesI v none B3 :: bytes true none [] :: bytes true none [] :: seg true gb 0 [.int .i64 0, .int .i64 1, .bool false, .slice qb 0 cb] :: seg true ga 0 [.int .i64 0, .int .i64 0, .bool false, .slice qa 0 ca] :: bytes true pt foxTag :: L) := t7.f
 clear t6 t7
 go_wp2_with (refine wpl_build rfl 27 rfl fin24.v (by simp only [List.map_toArray, List.map_cons, List.map_nil]; exact bd_fin _ _) ?_)
 clear b1 zb
 refine (doVX (x := fin24) (n := 32) aw4 rfl B3_ok (by decide) (by decide) fin24_fine t8).mono ?_
 rintro e w8 ⟨qd, cd, rfl, u1'⟩
 have u1 : Sat W0 w8 (vlt sesI v none B1 :: bytes true qd foxTag :: seg true gb 0 [.int .i64 0, .int .i64 1, .bool false, .slice qb 0 cb] :: seg true ga 0 [.int .i64 0, .int .i64 0, .bool false, .slice qa 0 ca] :: bytes true pt foxTag :: L) := u1'.f
 clear t8 u1'
 go_wp2_with (first | (refine wpl_alloc_agg rfl 44 rfl u1 _ (zero_ans _) ?_; intro w9a gc u1a _; clear u1) | (refine wpl_stAns rfl rfl (.tmp 6) (.tmp 32) rfl u1a rfl rfl ?_; intro w9 u2; clear u1a; have d0 : w9.cell? ⟨gc, 0, none⟩ = some (.int .i64 0) := Sat.at u2 0 rfl; have d3 : w9.cell? ⟨gc, 3, none⟩ = some (.slice qd 32 cd) := Sat.at u2 3 rfl; have zc : gc < w9.heap.size := Sat.lt u2 (by simp); have hb := Sat.pull u2 3; have b0 : w9.cell? ⟨gb, 0, none⟩ = some (.int .i64 0) := Sat.at hb 0 rfl; have b1 : w9.cell? ⟨gb, 1, none⟩ = some (.int .i64 1) := Sat.at hb 1 rfl; have zb : gb < w9.heap.size := Sat.lt hb (by simp); have ha := Sat.pull u2 4; have a0 : w9.cell? ⟨ga, 0, none⟩ = some (.int .i64 0) := Sat.at ha 0 rfl; have za : ga < w9.heap.size := Sat.lt ha (by simp); clear ha hb))
 have u3 : Sat W0 w9 (seg true gc 0 [.int .i64 0, .int .i64 0, .bool false, .slice qd 32 cd] :: vlt sesI v none B1 :: bytes true qd foxTag :: seg true gb 0 [.int .i64 0, .int .i64 1, .bool false, .slice qb 0 cb] :: seg true ga 0 [.int .i64 0, .int .i64 0, .bool false, .slice qa 0 ca] :: bytes true pt foxTag :: L) := u2
 clear u2
 have uz : Sat W0 w9 (bytes true qd foxTag :: bytes true pt foxTag :: vlt sesI v none B1 :: L) := u3.f
 clear u3
 refine (sameT (ca := cd) (cb := ct) foxTag foxTag rfl (by decide) (by decide) rfl uz).mono ?_
 rintro e wa ⟨rfl, uy⟩
 clear a0 za b0 b1 zb d0 d3 zc uz
 have ux : Sat W0 wa (vlt sesI v none B1 :: L) := uy.f
 clear uy
 go_wp2_with fail
 refine (freeVW ux).mono ?_
 rintro e wb ⟨rfl, uv⟩
 rw [show (B1.countP (·.isSome)) = 1 from by rfl]
 have HS := Lib.hid uv.tail; clear ux uv
 go_wp2
 go_ret
 exact ⟨rfl, HS.out⟩
end Go.Proofs.YtbefjaodpbgpcaaGreat
