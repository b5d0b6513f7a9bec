/- HmacNames: a closed statement of layer 12; no condition. -/
import Derived.Test.YtmohabidfalhoaaL12p
namespace Go.Proofs.Ytmohabidfalhoaa
open Go.RowKit Go.Sep Go.Bv Go.Sha
set_option linter.unusedVariables false
set_option linter.unusedSimpArgs false
/-- Bytes of a constant, in a block of their own. -/
theorem constsB {W0 w : World} {L : List Assn} (h : Sat W0 w L) (bs : List Byte) (n : Nat) (hn : (u8s bs).toArray.size = n) (T : TypeId) : Sat W0 (w.alloc (.cells (u8s bs).toArray T (n, n + 1))) (bytes true (some ⟨w.heap.size, 0, none⟩) bs :: L) := by
  subst hn
  exact bytesOf (h.allocMark (u8s bs).toArray T)
theorem constsB2 {W0 w : World} {L : List Assn} (h : Sat W0 w L) (bs cs : List Byte) (n k : Nat) (hn : (u8s bs).toArray.size = n) (hk : (u8s cs).toArray.size = k) (T : TypeId) : Sat W0 ((w.alloc (.cells (u8s bs).toArray T (n, n + 1))).alloc (.cells (u8s cs).toArray T (k, k + 1))) (bytes true (some ⟨w.heap.size + 1, 0, none⟩) cs :: bytes true (some ⟨w.heap.size, 0, none⟩) bs :: L) := by
  have s := constsB (constsB h bs n hn T) cs k hk T
  rw [World.size_alloc] at s
  exact s
/-- Plain bytes in a block of their own. -/
theorem litsB {W0 w : World} {L : List Assn} (h : Sat W0 w L) (bs : List Byte) (T : TypeId) : Sat W0 (w.alloc (.cells (u8s bs).toArray T)) (bytes true (some ⟨w.heap.size, 0, none⟩) bs :: L) := bytesOf (h.alloc (u8s bs).toArray T)
/-- A part of bytes. -/
theorem bytesMid {W0 w : World} {L : List Assn} {m : Bool} {b o : Nat} {bs : List Byte} (i n : Nat) (hi : i < bs.length) (h : Sat W0 w (bytes m (some ⟨b, o, none⟩) bs :: L)) : Sat W0 w (bytes m (some ⟨b, o + i, none⟩) ((bs.drop i).take n) :: L) :=
  bytesTake n (bytesDropAny i _ (fun _ => rfl) h)
def emptyHex : List UInt8 := [98, 54, 49, 51, 54, 55, 57, 97, 48, 56, 49, 52, 100, 57, 101, 99, 55, 55, 50, 102, 57, 53, 100, 55, 55, 56, 99, 51, 53, 102, 99, 53, 102, 102, 49, 54, 57, 55, 99, 52, 57, 51, 55, 49, 53, 54, 53, 51, 99, 54, 99, 55, 49, 50, 49, 52, 52, 50, 57, 50, 99, 53, 97, 100]
theorem emptyTag : hmac false [] [] = unhexL emptyHex := by decide +kernel
theorem keyForm : ((macForm false (blockKey false [107, 101, 121]) []).drop 32).take 8 = [0, 0, 0, 0, 0, 0, 0, 64] ∧ ((macForm false (blockKey false [107, 101, 121]) []).drop 136).take 8 = [0, 0, 0, 0, 0, 0, 0, 64] := by decide +kernel
theorem unhexS {W0 w : World} {L : List Assn} (hex : List UInt8) (bs : List Byte) (n : Nat) (h1 : hex.length = 2 * n) (h2 : n ≤ 500000) (he : unhexL hex = bs) (hs : Sat W0 w L) :
    Calls Try.prog 41 #[.string ⟨hex.toArray⟩] w fun e w' => ∃ p c, e = .returned (.slice p n c) ∧ n ≤ c ∧ Sat W0 w' (bytes true p bs :: L) := by
  have hz : (⟨hex.toArray⟩ : ByteArray).size = 2 * n := h1
  refine (unhex12 ⟨hex.toArray⟩ (by rw [hz]; omega) hs).mono ?_
  rintro e w' ⟨p, c, rfl, s⟩
  have hn : (⟨hex.toArray⟩ : ByteArray).size / 2 = n := by rw [hz]; omega
  rw [hn] at s ⊢
  have e1 : (⟨hex.toArray⟩ : ByteArray).data.toList = hex := rfl
  rw [e1, he] at s
  obtain ⟨_, h3, _, s1⟩ := rowBytes s
  exact ⟨p, c, rfl, h3, s1⟩
set_option maxRecDepth 100000 in
set_option maxHeartbeats 2000000 in
theorem hnames_any (W : World) : Calls Try.prog 9 #[] W fun e W' => e = .returned (.bool true) ∧ Below W.heap.size W W' := by
  have kc := fun (w : World) (C : Array Value) (n c g : Nat) (hg : g = w.heap.size) => Joins.run_convert_bytes_const_at (P := Try.prog) w 39 5 C n c g hg Try.underlying39 Try.underlying5
  obtain ⟨i3, hi3, hz3, hs3, hb3⟩ := info_parts Try.info_u8
  go_enter Try.func9, Try.ntmps9
  go_wp2_with fail
  refine (ledNewF (Sat.nil W)).mono ?_
  rintro e w1 ⟨l, rfl, s1⟩
  go_wp2_with fail
  refine (hmacTagF (n := 0) (n2 := 0) (cap := 0) (cap2 := 0) (sp := none) (sp2 := none) (m := false) (m2 := false) false (some l) [] [] [] rfl rfl rfl rfl (by decide) (by decide) (by decide) (by decide) (by decide) (by decide) (by (repeat (first | with_reducible apply Sat.sub (bytesNil false none (bytesNil false none s1)) | with_reducible apply Sat.alloc' | with_reducible apply Sat.drew | with_reducible apply Sat.drewN)); (repeat (first | with_reducible exact Fr.done | with_reducible exact Fr.nil | (with_reducible apply Fr.cons; (focus ((repeat (first | with_reducible exact Take.here | with_reducible apply Take.there)); done))) | with_reducible apply Fr.skip)); done)).mono ?_
  rintro e w2 ⟨q1, d1, rfl, -, -, s2⟩
  clear s1
  rw [show noteN [] (evK false) (evS false) (keyN false 0 + 0 / bsz false + endN false 0) = [(evK false, evS false, 4)] by decide, emptyTag] at s2
  obtain ⟨T, hT⟩ : ∃ T, T = unhexL emptyHex := ⟨_, rfl⟩
  rw [← hT] at s2
  have hTl : T.length = 32 := by rw [hT]; decide +kernel
  have HT := Lib.hid (And.intro hT hTl); clear hT hTl
  simp only [hsz]
  go_wp2_with fail
  refine (unhexS emptyHex T 32 (by decide) (by decide) HT.out.1.symm s2).mono ?_
  rintro e w3 ⟨q2, d2, rfl, -, s3⟩
  clear s2
  go_wp2_with fail
  refine (sameT T T HT.out.2 HT.out.2 (by decide) rfl (by (repeat (first | with_reducible apply Sat.sub (s3) | with_reducible apply Sat.alloc' | with_reducible apply Sat.drew | with_reducible apply Sat.drewN)); (repeat (first | with_reducible exact Fr.done | with_reducible exact Fr.nil | (with_reducible apply Fr.cons; (focus ((repeat (first | with_reducible exact Take.here | with_reducible apply Take.there)); done))) | with_reducible apply Fr.skip)); done)).mono ?_
  rintro e w4 ⟨rfl, s4⟩
  clear s3
  go_wp2_with fail
  refine (ledRunsF (l := l) (rs := [(evK false, evS false, 4)]) (by decide) (by (repeat (first | with_reducible apply Sat.sub (s4) | with_reducible apply Sat.alloc' | with_reducible apply Sat.drew | with_reducible apply Sat.drewN)); (repeat (first | with_reducible exact Fr.done | with_reducible exact Fr.nil | (with_reducible apply Fr.cons; (focus ((repeat (first | with_reducible exact Take.here | with_reducible apply Take.there)); done))) | with_reducible apply Fr.skip)); done)).mono ?_
  rintro e w5 ⟨q3, d3, rfl, s5⟩
  clear s4
  go_wp2_with fail
  refine (events12 false 4 s5).mono ?_
  rintro e w6 ⟨g4, rfl, s6⟩
  clear s5
  go_wp2_with fail
  refine (sameRuns [(evK false, evS false, 4)] (by rfl) (by rfl) (by decide) (by (repeat (first | with_reducible apply Sat.sub (s6) | with_reducible apply Sat.alloc' | with_reducible apply Sat.drew | with_reducible apply Sat.drewN)); (repeat (first | with_reducible exact Fr.done | with_reducible exact Fr.nil | (with_reducible apply Fr.cons; (focus ((repeat (first | with_reducible exact Take.here | with_reducible apply Take.there)); done))) | with_reducible apply Fr.skip)); done)).mono ?_
  rintro e w7 ⟨rfl, s7⟩
  clear s6
  go_wp2_with fail
  refine (ledResetF (l := l) (rs := [(evK false, evS false, 4)]) (by (repeat (first | with_reducible apply Sat.sub (s7) | with_reducible apply Sat.alloc' | with_reducible apply Sat.drew | with_reducible apply Sat.drewN)); (repeat (first | with_reducible exact Fr.done | with_reducible exact Fr.nil | (with_reducible apply Fr.cons; (focus ((repeat (first | with_reducible exact Take.here | with_reducible apply Take.there)); done))) | with_reducible apply Fr.skip)); done)).mono ?_
  rintro e w8 ⟨rfl, s8'⟩
  have s8 : Sat W w8 (ledO (some l) [] :: []) := (Sat.sub (s8') (by (repeat (first | with_reducible exact Fr.done | with_reducible exact Fr.nil | (with_reducible apply Fr.cons; (focus ((repeat (first | with_reducible exact Take.here | with_reducible apply Take.there)); done))) | with_reducible apply Fr.skip))))
  clear s7 s8'
  go_wp2_with fail
  have sx := constsB2 s8 [107, 101, 121] [97, 98, 99] 3 3 rfl rfl 5
  refine (hmacTagF (n := 3) (n2 := 3) (cap := 3) (cap2 := 3) true (some l) [] [107, 101, 121] [97, 98, 99] rfl rfl rfl rfl (by decide) (by decide) (by decide) (by decide) (by decide) (by decide) (Sat.sub (sx) (by (repeat (first | with_reducible exact Fr.done | with_reducible exact Fr.nil | (with_reducible apply Fr.cons; (focus ((repeat (first | with_reducible exact Take.here | with_reducible apply Take.there)); done))) | with_reducible apply Fr.skip))))).mono ?_
  rintro e w9 ⟨q5, d5, rfl, -, -, s9'⟩
  rw [show noteN [] (evK true) (evS true) (keyN true 3 + 3 / bsz true + endN true 3) = [(evK true, evS true, 4)] by decide] at s9'
  have s9 : Sat W w9 (ledO (some l) [(evK true, evS true, 4)] :: []) := (Sat.sub (s9') (by (repeat (first | with_reducible exact Fr.done | with_reducible exact Fr.nil | (with_reducible apply Fr.cons; (focus ((repeat (first | with_reducible exact Take.here | with_reducible apply Take.there)); done))) | with_reducible apply Fr.skip))))
  clear s8 s9' sx
  go_wp2_with fail
  refine (ledRunsF (l := l) (rs := [(evK true, evS true, 4)]) (by decide) (by (repeat (first | with_reducible apply Sat.sub (s9) | with_reducible apply Sat.alloc' | with_reducible apply Sat.drew | with_reducible apply Sat.drewN)); (repeat (first | with_reducible exact Fr.done | with_reducible exact Fr.nil | (with_reducible apply Fr.cons; (focus ((repeat (first | with_reducible exact Take.here | with_reducible apply Take.there)); done))) | with_reducible apply Fr.skip)); done)).mono ?_
  rintro e w10 ⟨q6, d6, rfl, s10⟩
  clear s9
  go_wp2_with fail
  refine (events12 true 4 s10).mono ?_
  rintro e w11 ⟨g7, rfl, s11⟩
  clear s10
  go_wp2_with fail
  refine (sameRuns [(evK true, evS true, 4)] (by rfl) (by rfl) (by decide) (by (repeat (first | with_reducible apply Sat.sub (s11) | with_reducible apply Sat.alloc' | with_reducible apply Sat.drew | with_reducible apply Sat.drewN)); (repeat (first | with_reducible exact Fr.done | with_reducible exact Fr.nil | (with_reducible apply Fr.cons; (focus ((repeat (first | with_reducible exact Take.here | with_reducible apply Take.there)); done))) | with_reducible apply Fr.skip)); done)).mono ?_
  rintro e w12 ⟨rfl, s12'⟩
  have s12 : Sat W w12 (ledO (some l) [(evK true, evS true, 4)] :: []) := (Sat.sub (s12') (by (repeat (first | with_reducible exact Fr.done | with_reducible exact Fr.nil | (with_reducible apply Fr.cons; (focus ((repeat (first | with_reducible exact Take.here | with_reducible apply Take.there)); done))) | with_reducible apply Fr.skip))))
  clear s11 s12'
  obtain ⟨g5, hg5⟩ : ∃ g5, g5 = w12.heap.size := ⟨_, rfl⟩
  obtain ⟨g6, hg6⟩ : ∃ g6, g6 = w12.heap.size + 1 := ⟨_, rfl⟩
  have s13 := (s12.allocAt #[.int .i64 65, .int .i64 64] 3 (q := g5) hg5).allocAt #[.int .i64 4, .int .i64 2] 3 (q := g6) (by rw [hg6]; simp)
  go_wp2
  rw [← hg6, ← hg5]
  clear s12 hg5 hg6
  go_loopw [7] (fun t7 wr => ∃ (i : Nat) (rs : List Run3), i ≤ 2 ∧ t7 = .int .i64 (i : Int) ∧ tot rs ≤ 100 ∧ rs.length ≤ 10 ∧ Sat W wr (ledO (some l) rs :: seg true g5 0 [.int .i64 65, .int .i64 64] :: seg true g6 0 [.int .i64 4, .int .i64 2] :: [])) (fun t7 _ => 2 - (intOf t7).toNat)
  case atStart => exact ⟨0, [(evK true, evS true, 4)], by omega, rfl, by decide, by decide, (by (repeat (first | with_reducible apply Sat.sub (s13) | with_reducible apply Sat.alloc' | with_reducible apply Sat.drew | with_reducible apply Sat.drewN)); (repeat (first | with_reducible exact Fr.done | with_reducible exact Fr.nil | (with_reducible apply Fr.cons; (focus ((repeat (first | with_reducible exact Take.here | with_reducible apply Take.there)); done))) | with_reducible apply Fr.skip)); done)⟩
  case round =>
    clear s13
    obtain ⟨i, rs, hi, rfl, hr1, hr2, s⟩ := hrel
    have hc : i = 0 ∨ i = 1 ∨ i = 2 := by omega
    rcases hc with rfl | rfl | rfl
    · go_wp2_with fail
      refine (ledResetF (l := l) (rs := rs) (by (repeat (first | with_reducible apply Sat.sub (s) | with_reducible apply Sat.alloc' | with_reducible apply Sat.drew | with_reducible apply Sat.drewN)); (repeat (first | with_reducible exact Fr.done | with_reducible exact Fr.nil | (with_reducible apply Fr.cons; (focus ((repeat (first | with_reducible exact Take.here | with_reducible apply Take.there)); done))) | with_reducible apply Fr.skip)); done)).mono ?_
      rintro e w13 ⟨rfl, s14⟩
      clear s
      have x5 : Sat W w13 (seg true g5 0 [.int .i64 65, .int .i64 64] :: []) := (Sat.sub (s14) (by (repeat (first | with_reducible exact Fr.done | with_reducible exact Fr.nil | (with_reducible apply Fr.cons; (focus ((repeat (first | with_reducible exact Take.here | with_reducible apply Take.there)); done))) | with_reducible apply Fr.skip))))
      have y5 := x5.at 0 rfl
      have z5 := x5.lt (by simp)
      go_wp2_with (refine wpl_make rfl 39 5 (.tmp 73) (.tmp 73) rfl Try.underlying39 hi3 hz3 hs3 hb3 rfl 65 rfl rfl (by decide) (by decide) s14 ?_; intro w14 g s15 _; rw [u8s_zero] at s15; clear x5 y5 z5)
      refine (hmacNewF (cap := 65) false (some l) [] (List.replicate 65 0) (by simp) rfl rfl (by decide) (by decide) (by decide) (by decide) (by (repeat (first | with_reducible apply Sat.sub (bytesOf s15) | with_reducible apply Sat.alloc' | with_reducible apply Sat.drew | with_reducible apply Sat.drewN)); (repeat (first | with_reducible exact Fr.done | with_reducible exact Fr.nil | (with_reducible apply Fr.cons; (focus ((repeat (first | with_reducible exact Take.here | with_reducible apply Take.there)); done))) | with_reducible apply Fr.skip)); done)).mono ?_
      rintro e w15 ⟨c, rfl, s16⟩
      rw [show noteN [] (evK false) (evS false) (keyN false 65) = [(evK false, evS false, 4)] by decide] at s16
      have s0 : Sat W w15 (ledO (some l) [(evK false, evS false, 4)] :: seg true g5 0 [.int .i64 65, .int .i64 64] :: seg true g6 0 [.int .i64 4, .int .i64 2] :: []) := (Sat.sub (s16) (by (repeat (first | with_reducible exact Fr.done | with_reducible exact Fr.nil | (with_reducible apply Fr.cons; (focus ((repeat (first | with_reducible exact Take.here | with_reducible apply Take.there)); done))) | with_reducible apply Fr.skip))))
      clear s14 s15 s16
      have hk : ∀ wx, Sat W wx (seg true g6 0 [.int .i64 4, .int .i64 2] :: []) → wx.cell? ⟨g6, 0, none⟩ = some (.int .i64 4) := fun wx h => h.at 0 rfl
      have HK := Lib.hid hk; clear hk
      go_wp2_with fail
      go_region_held3 (fun w' => w'.cell? ⟨g6, 0, none⟩ = some (.int .i64 4)) (first | exact HK.out _ (Sat.sub (s0) (by (repeat (first | with_reducible exact Fr.done | with_reducible exact Fr.nil | (with_reducible apply Fr.cons; (focus ((repeat (first | with_reducible exact Take.here | with_reducible apply Take.there)); done))) | with_reducible apply Fr.skip)))) | exact HK.out _ (Sat.sub (s0.drew) (by (repeat (first | with_reducible exact Fr.done | with_reducible exact Fr.nil | (with_reducible apply Fr.cons; (focus ((repeat (first | with_reducible exact Take.here | with_reducible apply Take.there)); done))) | with_reducible apply Fr.skip))))) (first | (go_at_call 30; refine (ledRunsF (l := l) (rs := [(evK false, evS false, 4)]) (by decide) (by first | exact (Sat.sub (s0) (by (repeat (first | with_reducible exact Fr.done | with_reducible exact Fr.nil | (with_reducible apply Fr.cons; (focus ((repeat (first | with_reducible exact Take.here | with_reducible apply Take.there)); done))) | with_reducible apply Fr.skip)))) | exact (Sat.sub (s0.drew) (by (repeat (first | with_reducible exact Fr.done | with_reducible exact Fr.nil | (with_reducible apply Fr.cons; (focus ((repeat (first | with_reducible exact Take.here | with_reducible apply Take.there)); done))) | with_reducible apply Fr.skip)))))).mono ?_; rintro e w16 ⟨q6, d6, rfl, s0⟩) | (go_at_call 42; refine (events12 false 4 (by first | exact s0 | exact s0.drew)).mono ?_; rintro e w17 ⟨g7, rfl, s0⟩) | (go_at_call 29; refine (sameRuns [(evK false, evS false, 4)] (by rfl) (by rfl) (by decide) (by first | exact (Sat.sub (s0) (by (repeat (first | with_reducible exact Fr.done | with_reducible exact Fr.nil | (with_reducible apply Fr.cons; (focus ((repeat (first | with_reducible exact Take.here | with_reducible apply Take.there)); done))) | with_reducible apply Fr.skip)))) | exact (Sat.sub (s0.drew) (by (repeat (first | with_reducible exact Fr.done | with_reducible exact Fr.nil | (with_reducible apply Fr.cons; (focus ((repeat (first | with_reducible exact Take.here | with_reducible apply Take.there)); done))) | with_reducible apply Fr.skip)))))).mono ?_; rintro e w18 ⟨rfl, s0⟩))
      all_goals
        go_wp2
        go_roundw
        case rel => exact ⟨1, [(evK false, evS false, 4)], by omega, by go_num, by decide, by decide, (Sat.sub (s0) (by (repeat (first | with_reducible exact Fr.done | with_reducible exact Fr.nil | (with_reducible apply Fr.cons; (focus ((repeat (first | with_reducible exact Take.here | with_reducible apply Take.there)); done))) | with_reducible apply Fr.skip))))⟩
        case measure => simp [intOf]
    · go_wp2_with fail
      refine (ledResetF (l := l) (rs := rs) (by (repeat (first | with_reducible apply Sat.sub (s) | with_reducible apply Sat.alloc' | with_reducible apply Sat.drew | with_reducible apply Sat.drewN)); (repeat (first | with_reducible exact Fr.done | with_reducible exact Fr.nil | (with_reducible apply Fr.cons; (focus ((repeat (first | with_reducible exact Take.here | with_reducible apply Take.there)); done))) | with_reducible apply Fr.skip)); done)).mono ?_
      rintro e w13 ⟨rfl, s14⟩
      clear s
      have x5 : Sat W w13 (seg true g5 0 [.int .i64 65, .int .i64 64] :: []) := (Sat.sub (s14) (by (repeat (first | with_reducible exact Fr.done | with_reducible exact Fr.nil | (with_reducible apply Fr.cons; (focus ((repeat (first | with_reducible exact Take.here | with_reducible apply Take.there)); done))) | with_reducible apply Fr.skip))))
      have y5 := x5.at 1 rfl
      have z5 := x5.lt (by simp)
      go_wp2_with (refine wpl_make rfl 39 5 (.tmp 73) (.tmp 73) rfl Try.underlying39 hi3 hz3 hs3 hb3 rfl 64 rfl rfl (by decide) (by decide) s14 ?_; intro w14 g s15 _; rw [u8s_zero] at s15; clear x5 y5 z5)
      refine (hmacNewF (cap := 64) false (some l) [] (List.replicate 64 0) (by simp) rfl rfl (by decide) (by decide) (by decide) (by decide) (by (repeat (first | with_reducible apply Sat.sub (bytesOf s15) | with_reducible apply Sat.alloc' | with_reducible apply Sat.drew | with_reducible apply Sat.drewN)); (repeat (first | with_reducible exact Fr.done | with_reducible exact Fr.nil | (with_reducible apply Fr.cons; (focus ((repeat (first | with_reducible exact Take.here | with_reducible apply Take.there)); done))) | with_reducible apply Fr.skip)); done)).mono ?_
      rintro e w15 ⟨c, rfl, s16⟩
      rw [show noteN [] (evK false) (evS false) (keyN false 64) = [(evK false, evS false, 2)] by decide] at s16
      have s0 : Sat W w15 (ledO (some l) [(evK false, evS false, 2)] :: seg true g5 0 [.int .i64 65, .int .i64 64] :: seg true g6 0 [.int .i64 4, .int .i64 2] :: []) := (Sat.sub (s16) (by (repeat (first | with_reducible exact Fr.done | with_reducible exact Fr.nil | (with_reducible apply Fr.cons; (focus ((repeat (first | with_reducible exact Take.here | with_reducible apply Take.there)); done))) | with_reducible apply Fr.skip))))
      clear s14 s15 s16
      have hk : ∀ wx, Sat W wx (seg true g6 0 [.int .i64 4, .int .i64 2] :: []) → wx.cell? ⟨g6, 1, none⟩ = some (.int .i64 2) := fun wx h => h.at 1 rfl
      have HK := Lib.hid hk; clear hk
      go_wp2_with fail
      go_region_held3 (fun w' => w'.cell? ⟨g6, 1, none⟩ = some (.int .i64 2)) (first | exact HK.out _ (Sat.sub (s0) (by (repeat (first | with_reducible exact Fr.done | with_reducible exact Fr.nil | (with_reducible apply Fr.cons; (focus ((repeat (first | with_reducible exact Take.here | with_reducible apply Take.there)); done))) | with_reducible apply Fr.skip)))) | exact HK.out _ (Sat.sub (s0.drew) (by (repeat (first | with_reducible exact Fr.done | with_reducible exact Fr.nil | (with_reducible apply Fr.cons; (focus ((repeat (first | with_reducible exact Take.here | with_reducible apply Take.there)); done))) | with_reducible apply Fr.skip))))) (first | (go_at_call 30; refine (ledRunsF (l := l) (rs := [(evK false, evS false, 2)]) (by decide) (by first | exact (Sat.sub (s0) (by (repeat (first | with_reducible exact Fr.done | with_reducible exact Fr.nil | (with_reducible apply Fr.cons; (focus ((repeat (first | with_reducible exact Take.here | with_reducible apply Take.there)); done))) | with_reducible apply Fr.skip)))) | exact (Sat.sub (s0.drew) (by (repeat (first | with_reducible exact Fr.done | with_reducible exact Fr.nil | (with_reducible apply Fr.cons; (focus ((repeat (first | with_reducible exact Take.here | with_reducible apply Take.there)); done))) | with_reducible apply Fr.skip)))))).mono ?_; rintro e w16 ⟨q6, d6, rfl, s0⟩) | (go_at_call 42; refine (events12 false 2 (by first | exact s0 | exact s0.drew)).mono ?_; rintro e w17 ⟨g7, rfl, s0⟩) | (go_at_call 29; refine (sameRuns [(evK false, evS false, 2)] (by rfl) (by rfl) (by decide) (by first | exact (Sat.sub (s0) (by (repeat (first | with_reducible exact Fr.done | with_reducible exact Fr.nil | (with_reducible apply Fr.cons; (focus ((repeat (first | with_reducible exact Take.here | with_reducible apply Take.there)); done))) | with_reducible apply Fr.skip)))) | exact (Sat.sub (s0.drew) (by (repeat (first | with_reducible exact Fr.done | with_reducible exact Fr.nil | (with_reducible apply Fr.cons; (focus ((repeat (first | with_reducible exact Take.here | with_reducible apply Take.there)); done))) | with_reducible apply Fr.skip)))))).mono ?_; rintro e w18 ⟨rfl, s0⟩))
      all_goals
        go_wp2
        go_roundw
        case rel => exact ⟨2, [(evK false, evS false, 2)], by omega, by go_num, by decide, by decide, (Sat.sub (s0) (by (repeat (first | with_reducible exact Fr.done | with_reducible exact Fr.nil | (with_reducible apply Fr.cons; (focus ((repeat (first | with_reducible exact Take.here | with_reducible apply Take.there)); done))) | with_reducible apply Fr.skip))))⟩
        case measure => simp [intOf]
    · go_wp2_with fail
      refine (hmacNewNone 3 (by decide) (by decide) _ _ s).mono ?_
      rintro e w13 ⟨rfl, s14⟩
      clear s
      go_wp2_with fail
      refine (hmacNewNone 0 (by decide) (by decide) _ _ s14).mono ?_
      rintro e w14 ⟨rfl, s15⟩
      clear s14
      go_wp2_with fail
      have sx := constsB s15 [107, 101, 121] 3 rfl 5
      refine (hmacNewF (n := 3) (cap := 3) false none [] [107, 101, 121] rfl rfl rfl (by decide) (by decide) (by decide) (by decide) (Sat.sub (ledNone sx) (by (repeat (first | with_reducible exact Fr.done | with_reducible exact Fr.nil | (with_reducible apply Fr.cons; (focus ((repeat (first | with_reducible exact Take.here | with_reducible apply Take.there)); done))) | with_reducible apply Fr.skip))))).mono ?_
      rintro e w16 ⟨c, rfl, s17⟩
      clear s15 sx
      obtain ⟨k, hk⟩ : ∃ k, k = blockKey false [107, 101, 121] := ⟨_, rfl⟩
      rw [← hk] at s17
      go_wp2_with fail
      refine (hmacFormG 312 false (c := c) k [] rfl (by decide) (by (repeat (first | with_reducible apply Sat.sub (s17) | with_reducible apply Sat.alloc' | with_reducible apply Sat.drew | with_reducible apply Sat.drewN)); (repeat (first | with_reducible exact Fr.done | with_reducible exact Fr.nil | (with_reducible apply Fr.cons; (focus ((repeat (first | with_reducible exact Take.here | with_reducible apply Take.there)); done))) | with_reducible apply Fr.skip)); done)).mono ?_
      rintro e w17 ⟨q7, d7, rfl, hF0, hd7, s18⟩
      clear s17
      obtain ⟨F0, hF⟩ : ∃ F0, F0 = macForm false k [] := ⟨_, rfl⟩
      rw [← hF] at hF0 s18
      have hF1 : (F0.drop 32).take 8 = [0, 0, 0, 0, 0, 0, 0, 64] ∧ (F0.drop 136).take 8 = [0, 0, 0, 0, 0, 0, 0, 64] := by rw [hF, hk]; exact keyForm
      have HK := Lib.hid (And.intro hk (And.intro hF0 hF1)); clear hk hF0 hF hF1
      go_wp2_with fail
      refine (hmacSize false (c := c) k [] (by (repeat (first | with_reducible apply Sat.sub (s18) | with_reducible apply Sat.alloc' | with_reducible apply Sat.drew | with_reducible apply Sat.drewN)); (repeat (first | with_reducible exact Fr.done | with_reducible exact Fr.nil | (with_reducible apply Fr.cons; (focus ((repeat (first | with_reducible exact Take.here | with_reducible apply Take.there)); done))) | with_reducible apply Fr.skip)); done)).mono ?_
      rintro e w' ⟨rfl, rfl⟩
      simp only [hsz]
      have s19 : Sat W w17 (ledO (some l) rs :: mac false c k [] :: bytes true q7 F0 :: []) := (by (repeat (first | with_reducible apply Sat.sub (s18) | with_reducible apply Sat.alloc' | with_reducible apply Sat.drew | with_reducible apply Sat.drewN)); (repeat (first | with_reducible exact Fr.done | with_reducible exact Fr.nil | (with_reducible apply Fr.cons; (focus ((repeat (first | with_reducible exact Take.here | with_reducible apply Take.there)); done))) | with_reducible apply Fr.skip)); done)
      clear s18
      obtain ⟨g8, hg8⟩ : ∃ g8, g8 = w17.heap.size := ⟨_, rfl⟩
      obtain ⟨g9, hg9⟩ : ∃ g9, g9 = w17.heap.size + 1 := ⟨_, rfl⟩
      have s20 := (s19.allocAt #[.int .i64 55, .int .i64 56, .int .i64 64] 3 (q := g8) hg8).allocAt #[.int .i64 2, .int .i64 3, .int .i64 2] 3 (q := g9) (by rw [hg9]; simp)
      go_wp2
      rw [← hg9, ← hg8]
      clear s19 hg8 hg9
      go_loopw [19] (fun t19 wr => ∃ (i : Nat) (rs : List Run3) (M : List Byte), i ≤ 3 ∧ t19 = .int .i64 (i : Int) ∧ tot rs ≤ 100 ∧ rs.length ≤ 10 ∧ Sat W wr (ledO (some l) rs :: mac false c k M :: seg true g8 0 [.int .i64 55, .int .i64 56, .int .i64 64] :: seg true g9 0 [.int .i64 2, .int .i64 3, .int .i64 2] :: bytes true q7 F0 :: [])) (fun t19 _ => 3 - (intOf t19).toNat)
      case atStart => exact ⟨0, rs, [], by omega, rfl, hr1, hr2, (by (repeat (first | with_reducible apply Sat.sub (s20) | with_reducible apply Sat.alloc' | with_reducible apply Sat.drew | with_reducible apply Sat.drewN)); (repeat (first | with_reducible exact Fr.done | with_reducible exact Fr.nil | (with_reducible apply Fr.cons; (focus ((repeat (first | with_reducible exact Take.here | with_reducible apply Take.there)); done))) | with_reducible apply Fr.skip)); done)⟩
      case round =>
        clear s20 hr1 hr2 hi
        obtain ⟨i, rs, M, hi, rfl, hr1, hr2, s⟩ := hrel
        have hc : i = 0 ∨ i = 1 ∨ i = 2 ∨ i = 3 := by omega
        rcases hc with rfl | rfl | rfl | rfl
        · go_wp2_with fail
          refine (hmacReset false (c := c) k M (by (repeat (first | with_reducible apply Sat.sub (s) | with_reducible apply Sat.alloc' | with_reducible apply Sat.drew | with_reducible apply Sat.drewN)); (repeat (first | with_reducible exact Fr.done | with_reducible exact Fr.nil | (with_reducible apply Fr.cons; (focus ((repeat (first | with_reducible exact Take.here | with_reducible apply Take.there)); done))) | with_reducible apply Fr.skip)); done)).mono ?_
          rintro e w23 ⟨rfl, s24⟩
          clear s
          have x5 : Sat W w23 (seg true g8 0 [.int .i64 55, .int .i64 56, .int .i64 64] :: []) := (Sat.sub (s24) (by (repeat (first | with_reducible exact Fr.done | with_reducible exact Fr.nil | (with_reducible apply Fr.cons; (focus ((repeat (first | with_reducible exact Take.here | with_reducible apply Take.there)); done))) | with_reducible apply Fr.skip))))
          have y5 := x5.at 0 rfl
          have z5 := x5.lt (by simp)
          go_wp2_with (refine wpl_make rfl 39 5 (.tmp 147) (.tmp 147) rfl Try.underlying39 hi3 hz3 hs3 hb3 rfl 55 rfl rfl (by decide) (by decide) s24 ?_; intro w24 g s25 _; rw [u8s_zero] at s25; clear x5 y5 z5)
          refine (hmacWriteF (c := c) (cap := 55) false none [] k [] (List.replicate 55 0) (by simp) rfl (by decide) (by decide) (by decide) (by decide) (by (repeat (first | with_reducible apply Sat.sub (ledNone (bytesOf s25)) | with_reducible apply Sat.alloc' | with_reducible apply Sat.drew | with_reducible apply Sat.drewN)); (repeat (first | with_reducible exact Fr.done | with_reducible exact Fr.nil | (with_reducible apply Fr.cons; (focus ((repeat (first | with_reducible exact Take.here | with_reducible apply Take.there)); done))) | with_reducible apply Fr.skip)); done)).mono ?_
          rintro e w25 ⟨rfl, s26⟩
          clear s24 s25
          simp only [List.nil_append] at s26
          go_wp2_with fail
          refine (ledResetF (l := l) (rs := rs) (by (repeat (first | with_reducible apply Sat.sub (s26) | with_reducible apply Sat.alloc' | with_reducible apply Sat.drew | with_reducible apply Sat.drewN)); (repeat (first | with_reducible exact Fr.done | with_reducible exact Fr.nil | (with_reducible apply Fr.cons; (focus ((repeat (first | with_reducible exact Take.here | with_reducible apply Take.there)); done))) | with_reducible apply Fr.skip)); done)).mono ?_
          rintro e w26 ⟨rfl, s27⟩
          clear s26
          go_wp2_with fail
          refine (hmacSumK false (some l) [] [107, 101, 121] (List.replicate 55 0) k HK.out.1 rfl (by decide) (by decide) (by (repeat (first | with_reducible apply Sat.sub (s27) | with_reducible apply Sat.alloc' | with_reducible apply Sat.drew | with_reducible apply Sat.drewN)); (repeat (first | with_reducible exact Fr.done | with_reducible exact Fr.nil | (with_reducible apply Fr.cons; (focus ((repeat (first | with_reducible exact Take.here | with_reducible apply Take.there)); done))) | with_reducible apply Fr.skip)); done)).mono ?_
          rintro e w27 ⟨q9, d9, rfl, s28⟩
          clear s27
          rw [show noteN [] (evK false) (evS false) (endN false (List.replicate 55 (0 : Byte)).length) = [(evK false, evS false, 2)] by decide] at s28
          have s0 : Sat W w27 (ledO (some l) [(evK false, evS false, 2)] :: mac false c k (List.replicate 55 0) :: seg true g8 0 [.int .i64 55, .int .i64 56, .int .i64 64] :: seg true g9 0 [.int .i64 2, .int .i64 3, .int .i64 2] :: bytes true q7 F0 :: []) := (Sat.sub (s28) (by (repeat (first | with_reducible exact Fr.done | with_reducible exact Fr.nil | (with_reducible apply Fr.cons; (focus ((repeat (first | with_reducible exact Take.here | with_reducible apply Take.there)); done))) | with_reducible apply Fr.skip))))
          clear s28
          have hk : ∀ wx, Sat W wx (seg true g9 0 [.int .i64 2, .int .i64 3, .int .i64 2] :: []) → wx.cell? ⟨g9, 0, none⟩ = some (.int .i64 2) := fun wx h => h.at 0 rfl
          have HC := Lib.hid hk; clear hk
          go_wp2_with fail
          go_region_held3 (fun w' => w'.cell? ⟨g9, 0, none⟩ = some (.int .i64 2)) (first | exact HC.out _ (Sat.sub (s0) (by (repeat (first | with_reducible exact Fr.done | with_reducible exact Fr.nil | (with_reducible apply Fr.cons; (focus ((repeat (first | with_reducible exact Take.here | with_reducible apply Take.there)); done))) | with_reducible apply Fr.skip)))) | exact HC.out _ (Sat.sub (s0.drew) (by (repeat (first | with_reducible exact Fr.done | with_reducible exact Fr.nil | (with_reducible apply Fr.cons; (focus ((repeat (first | with_reducible exact Take.here | with_reducible apply Take.there)); done))) | with_reducible apply Fr.skip))))) (first | (go_at_call 30; refine (ledRunsF (l := l) (rs := [(evK false, evS false, 2)]) (by decide) (by first | exact (Sat.sub (s0) (by (repeat (first | with_reducible exact Fr.done | with_reducible exact Fr.nil | (with_reducible apply Fr.cons; (focus ((repeat (first | with_reducible exact Take.here | with_reducible apply Take.there)); done))) | with_reducible apply Fr.skip)))) | exact (Sat.sub (s0.drew) (by (repeat (first | with_reducible exact Fr.done | with_reducible exact Fr.nil | (with_reducible apply Fr.cons; (focus ((repeat (first | with_reducible exact Take.here | with_reducible apply Take.there)); done))) | with_reducible apply Fr.skip)))))).mono ?_; rintro e w28 ⟨q6, d6, rfl, s0⟩) | (go_at_call 42; refine (events12 false 2 (by first | exact s0 | exact s0.drew)).mono ?_; rintro e w29 ⟨g7, rfl, s0⟩) | (go_at_call 29; refine (sameRuns [(evK false, evS false, 2)] (by rfl) (by rfl) (by decide) (by first | exact (Sat.sub (s0) (by (repeat (first | with_reducible exact Fr.done | with_reducible exact Fr.nil | (with_reducible apply Fr.cons; (focus ((repeat (first | with_reducible exact Take.here | with_reducible apply Take.there)); done))) | with_reducible apply Fr.skip)))) | exact (Sat.sub (s0.drew) (by (repeat (first | with_reducible exact Fr.done | with_reducible exact Fr.nil | (with_reducible apply Fr.cons; (focus ((repeat (first | with_reducible exact Take.here | with_reducible apply Take.there)); done))) | with_reducible apply Fr.skip)))))).mono ?_; rintro e w30 ⟨rfl, s0⟩))
          all_goals
            go_wp2
            go_roundw
            case rel => exact ⟨1, [(evK false, evS false, 2)], List.replicate 55 0, by omega, by go_num, by decide, by decide, (Sat.sub (s0) (by (repeat (first | with_reducible exact Fr.done | with_reducible exact Fr.nil | (with_reducible apply Fr.cons; (focus ((repeat (first | with_reducible exact Take.here | with_reducible apply Take.there)); done))) | with_reducible apply Fr.skip))))⟩
            case measure => simp [intOf]
        · go_wp2_with fail
          refine (hmacReset false (c := c) k M (by (repeat (first | with_reducible apply Sat.sub (s) | with_reducible apply Sat.alloc' | with_reducible apply Sat.drew | with_reducible apply Sat.drewN)); (repeat (first | with_reducible exact Fr.done | with_reducible exact Fr.nil | (with_reducible apply Fr.cons; (focus ((repeat (first | with_reducible exact Take.here | with_reducible apply Take.there)); done))) | with_reducible apply Fr.skip)); done)).mono ?_
          rintro e w23 ⟨rfl, s24⟩
          clear s
          have x5 : Sat W w23 (seg true g8 0 [.int .i64 55, .int .i64 56, .int .i64 64] :: []) := (Sat.sub (s24) (by (repeat (first | with_reducible exact Fr.done | with_reducible exact Fr.nil | (with_reducible apply Fr.cons; (focus ((repeat (first | with_reducible exact Take.here | with_reducible apply Take.there)); done))) | with_reducible apply Fr.skip))))
          have y5 := x5.at 1 rfl
          have z5 := x5.lt (by simp)
          go_wp2_with (refine wpl_make rfl 39 5 (.tmp 147) (.tmp 147) rfl Try.underlying39 hi3 hz3 hs3 hb3 rfl 56 rfl rfl (by decide) (by decide) s24 ?_; intro w24 g s25 _; rw [u8s_zero] at s25; clear x5 y5 z5)
          refine (hmacWriteF (c := c) (cap := 56) false none [] k [] (List.replicate 56 0) (by simp) rfl (by decide) (by decide) (by decide) (by decide) (by (repeat (first | with_reducible apply Sat.sub (ledNone (bytesOf s25)) | with_reducible apply Sat.alloc' | with_reducible apply Sat.drew | with_reducible apply Sat.drewN)); (repeat (first | with_reducible exact Fr.done | with_reducible exact Fr.nil | (with_reducible apply Fr.cons; (focus ((repeat (first | with_reducible exact Take.here | with_reducible apply Take.there)); done))) | with_reducible apply Fr.skip)); done)).mono ?_
          rintro e w25 ⟨rfl, s26⟩
          clear s24 s25
          simp only [List.nil_append] at s26
          go_wp2_with fail
          refine (ledResetF (l := l) (rs := rs) (by (repeat (first | with_reducible apply Sat.sub (s26) | with_reducible apply Sat.alloc' | with_reducible apply Sat.drew | with_reducible apply Sat.drewN)); (repeat (first | with_reducible exact Fr.done | with_reducible exact Fr.nil | (with_reducible apply Fr.cons; (focus ((repeat (first | with_reducible exact Take.here | with_reducible apply Take.there)); done))) | with_reducible apply Fr.skip)); done)).mono ?_
          rintro e w26 ⟨rfl, s27⟩
          clear s26
          go_wp2_with fail
          refine (hmacSumK false (some l) [] [107, 101, 121] (List.replicate 56 0) k HK.out.1 rfl (by decide) (by decide) (by (repeat (first | with_reducible apply Sat.sub (s27) | with_reducible apply Sat.alloc' | with_reducible apply Sat.drew | with_reducible apply Sat.drewN)); (repeat (first | with_reducible exact Fr.done | with_reducible exact Fr.nil | (with_reducible apply Fr.cons; (focus ((repeat (first | with_reducible exact Take.here | with_reducible apply Take.there)); done))) | with_reducible apply Fr.skip)); done)).mono ?_
          rintro e w27 ⟨q9, d9, rfl, s28⟩
          clear s27
          rw [show noteN [] (evK false) (evS false) (endN false (List.replicate 56 (0 : Byte)).length) = [(evK false, evS false, 3)] by decide] at s28
          have s0 : Sat W w27 (ledO (some l) [(evK false, evS false, 3)] :: mac false c k (List.replicate 56 0) :: seg true g8 0 [.int .i64 55, .int .i64 56, .int .i64 64] :: seg true g9 0 [.int .i64 2, .int .i64 3, .int .i64 2] :: bytes true q7 F0 :: []) := (Sat.sub (s28) (by (repeat (first | with_reducible exact Fr.done | with_reducible exact Fr.nil | (with_reducible apply Fr.cons; (focus ((repeat (first | with_reducible exact Take.here | with_reducible apply Take.there)); done))) | with_reducible apply Fr.skip))))
          clear s28
          have hk : ∀ wx, Sat W wx (seg true g9 0 [.int .i64 2, .int .i64 3, .int .i64 2] :: []) → wx.cell? ⟨g9, 1, none⟩ = some (.int .i64 3) := fun wx h => h.at 1 rfl
          have HC := Lib.hid hk; clear hk
          go_wp2_with fail
          go_region_held3 (fun w' => w'.cell? ⟨g9, 1, none⟩ = some (.int .i64 3)) (first | exact HC.out _ (Sat.sub (s0) (by (repeat (first | with_reducible exact Fr.done | with_reducible exact Fr.nil | (with_reducible apply Fr.cons; (focus ((repeat (first | with_reducible exact Take.here | with_reducible apply Take.there)); done))) | with_reducible apply Fr.skip)))) | exact HC.out _ (Sat.sub (s0.drew) (by (repeat (first | with_reducible exact Fr.done | with_reducible exact Fr.nil | (with_reducible apply Fr.cons; (focus ((repeat (first | with_reducible exact Take.here | with_reducible apply Take.there)); done))) | with_reducible apply Fr.skip))))) (first | (go_at_call 30; refine (ledRunsF (l := l) (rs := [(evK false, evS false, 3)]) (by decide) (by first | exact (Sat.sub (s0) (by (repeat (first | with_reducible exact Fr.done | with_reducible exact Fr.nil | (with_reducible apply Fr.cons; (focus ((repeat (first | with_reducible exact Take.here | with_reducible apply Take.there)); done))) | with_reducible apply Fr.skip)))) | exact (Sat.sub (s0.drew) (by (repeat (first | with_reducible exact Fr.done | with_reducible exact Fr.nil | (with_reducible apply Fr.cons; (focus ((repeat (first | with_reducible exact Take.here | with_reducible apply Take.there)); done))) | with_reducible apply Fr.skip)))))).mono ?_; rintro e w28 ⟨q6, d6, rfl, s0⟩) | (go_at_call 42; refine (events12 false 3 (by first | exact s0 | exact s0.drew)).mono ?_; rintro e w29 ⟨g7, rfl, s0⟩) | (go_at_call 29; refine (sameRuns [(evK false, evS false, 3)] (by rfl) (by rfl) (by decide) (by first | exact (Sat.sub (s0) (by (repeat (first | with_reducible exact Fr.done | with_reducible exact Fr.nil | (with_reducible apply Fr.cons; (focus ((repeat (first | with_reducible exact Take.here | with_reducible apply Take.there)); done))) | with_reducible apply Fr.skip)))) | exact (Sat.sub (s0.drew) (by (repeat (first | with_reducible exact Fr.done | with_reducible exact Fr.nil | (with_reducible apply Fr.cons; (focus ((repeat (first | with_reducible exact Take.here | with_reducible apply Take.there)); done))) | with_reducible apply Fr.skip)))))).mono ?_; rintro e w30 ⟨rfl, s0⟩))
          all_goals
            go_wp2
            go_roundw
            case rel => exact ⟨2, [(evK false, evS false, 3)], List.replicate 56 0, by omega, by go_num, by decide, by decide, (Sat.sub (s0) (by (repeat (first | with_reducible exact Fr.done | with_reducible exact Fr.nil | (with_reducible apply Fr.cons; (focus ((repeat (first | with_reducible exact Take.here | with_reducible apply Take.there)); done))) | with_reducible apply Fr.skip))))⟩
            case measure => simp [intOf]
        · go_wp2_with fail
          refine (hmacReset false (c := c) k M (by (repeat (first | with_reducible apply Sat.sub (s) | with_reducible apply Sat.alloc' | with_reducible apply Sat.drew | with_reducible apply Sat.drewN)); (repeat (first | with_reducible exact Fr.done | with_reducible exact Fr.nil | (with_reducible apply Fr.cons; (focus ((repeat (first | with_reducible exact Take.here | with_reducible apply Take.there)); done))) | with_reducible apply Fr.skip)); done)).mono ?_
          rintro e w23 ⟨rfl, s24⟩
          clear s
          have x5 : Sat W w23 (seg true g8 0 [.int .i64 55, .int .i64 56, .int .i64 64] :: []) := (Sat.sub (s24) (by (repeat (first | with_reducible exact Fr.done | with_reducible exact Fr.nil | (with_reducible apply Fr.cons; (focus ((repeat (first | with_reducible exact Take.here | with_reducible apply Take.there)); done))) | with_reducible apply Fr.skip))))
          have y5 := x5.at 2 rfl
          have z5 := x5.lt (by simp)
          go_wp2_with (refine wpl_make rfl 39 5 (.tmp 147) (.tmp 147) rfl Try.underlying39 hi3 hz3 hs3 hb3 rfl 64 rfl rfl (by decide) (by decide) s24 ?_; intro w24 g s25 _; rw [u8s_zero] at s25; clear x5 y5 z5)
          refine (hmacWriteF (c := c) (cap := 64) false none [] k [] (List.replicate 64 0) (by simp) rfl (by decide) (by decide) (by decide) (by decide) (by (repeat (first | with_reducible apply Sat.sub (ledNone (bytesOf s25)) | with_reducible apply Sat.alloc' | with_reducible apply Sat.drew | with_reducible apply Sat.drewN)); (repeat (first | with_reducible exact Fr.done | with_reducible exact Fr.nil | (with_reducible apply Fr.cons; (focus ((repeat (first | with_reducible exact Take.here | with_reducible apply Take.there)); done))) | with_reducible apply Fr.skip)); done)).mono ?_
          rintro e w25 ⟨rfl, s26⟩
          clear s24 s25
          simp only [List.nil_append] at s26
          go_wp2_with fail
          refine (ledResetF (l := l) (rs := rs) (by (repeat (first | with_reducible apply Sat.sub (s26) | with_reducible apply Sat.alloc' | with_reducible apply Sat.drew | with_reducible apply Sat.drewN)); (repeat (first | with_reducible exact Fr.done | with_reducible exact Fr.nil | (with_reducible apply Fr.cons; (focus ((repeat (first | with_reducible exact Take.here | with_reducible apply Take.there)); done))) | with_reducible apply Fr.skip)); done)).mono ?_
          rintro e w26 ⟨rfl, s27⟩
          clear s26
          go_wp2_with fail
          refine (hmacSumK false (some l) [] [107, 101, 121] (List.replicate 64 0) k HK.out.1 rfl (by decide) (by decide) (by (repeat (first | with_reducible apply Sat.sub (s27) | with_reducible apply Sat.alloc' | with_reducible apply Sat.drew | with_reducible apply Sat.drewN)); (repeat (first | with_reducible exact Fr.done | with_reducible exact Fr.nil | (with_reducible apply Fr.cons; (focus ((repeat (first | with_reducible exact Take.here | with_reducible apply Take.there)); done))) | with_reducible apply Fr.skip)); done)).mono ?_
          rintro e w27 ⟨q9, d9, rfl, s28⟩
          clear s27
          rw [show noteN [] (evK false) (evS false) (endN false (List.replicate 64 (0 : Byte)).length) = [(evK false, evS false, 2)] by decide] at s28
          have s0 : Sat W w27 (ledO (some l) [(evK false, evS false, 2)] :: mac false c k (List.replicate 64 0) :: seg true g8 0 [.int .i64 55, .int .i64 56, .int .i64 64] :: seg true g9 0 [.int .i64 2, .int .i64 3, .int .i64 2] :: bytes true q7 F0 :: []) := (Sat.sub (s28) (by (repeat (first | with_reducible exact Fr.done | with_reducible exact Fr.nil | (with_reducible apply Fr.cons; (focus ((repeat (first | with_reducible exact Take.here | with_reducible apply Take.there)); done))) | with_reducible apply Fr.skip))))
          clear s28
          have hk : ∀ wx, Sat W wx (seg true g9 0 [.int .i64 2, .int .i64 3, .int .i64 2] :: []) → wx.cell? ⟨g9, 2, none⟩ = some (.int .i64 2) := fun wx h => h.at 2 rfl
          have HC := Lib.hid hk; clear hk
          go_wp2_with fail
          go_region_held3 (fun w' => w'.cell? ⟨g9, 2, none⟩ = some (.int .i64 2)) (first | exact HC.out _ (Sat.sub (s0) (by (repeat (first | with_reducible exact Fr.done | with_reducible exact Fr.nil | (with_reducible apply Fr.cons; (focus ((repeat (first | with_reducible exact Take.here | with_reducible apply Take.there)); done))) | with_reducible apply Fr.skip)))) | exact HC.out _ (Sat.sub (s0.drew) (by (repeat (first | with_reducible exact Fr.done | with_reducible exact Fr.nil | (with_reducible apply Fr.cons; (focus ((repeat (first | with_reducible exact Take.here | with_reducible apply Take.there)); done))) | with_reducible apply Fr.skip))))) (first | (go_at_call 30; refine (ledRunsF (l := l) (rs := [(evK false, evS false, 2)]) (by decide) (by first | exact (Sat.sub (s0) (by (repeat (first | with_reducible exact Fr.done | with_reducible exact Fr.nil | (with_reducible apply Fr.cons; (focus ((repeat (first | with_reducible exact Take.here | with_reducible apply Take.there)); done))) | with_reducible apply Fr.skip)))) | exact (Sat.sub (s0.drew) (by (repeat (first | with_reducible exact Fr.done | with_reducible exact Fr.nil | (with_reducible apply Fr.cons; (focus ((repeat (first | with_reducible exact Take.here | with_reducible apply Take.there)); done))) | with_reducible apply Fr.skip)))))).mono ?_; rintro e w28 ⟨q6, d6, rfl, s0⟩) | (go_at_call 42; refine (events12 false 2 (by first | exact s0 | exact s0.drew)).mono ?_; rintro e w29 ⟨g7, rfl, s0⟩) | (go_at_call 29; refine (sameRuns [(evK false, evS false, 2)] (by rfl) (by rfl) (by decide) (by first | exact (Sat.sub (s0) (by (repeat (first | with_reducible exact Fr.done | with_reducible exact Fr.nil | (with_reducible apply Fr.cons; (focus ((repeat (first | with_reducible exact Take.here | with_reducible apply Take.there)); done))) | with_reducible apply Fr.skip)))) | exact (Sat.sub (s0.drew) (by (repeat (first | with_reducible exact Fr.done | with_reducible exact Fr.nil | (with_reducible apply Fr.cons; (focus ((repeat (first | with_reducible exact Take.here | with_reducible apply Take.there)); done))) | with_reducible apply Fr.skip)))))).mono ?_; rintro e w30 ⟨rfl, s0⟩))
          all_goals
            go_wp2
            go_roundw
            case rel => exact ⟨3, [(evK false, evS false, 2)], List.replicate 64 0, by omega, by go_num, by decide, by decide, (Sat.sub (s0) (by (repeat (first | with_reducible exact Fr.done | with_reducible exact Fr.nil | (with_reducible apply Fr.cons; (focus ((repeat (first | with_reducible exact Take.here | with_reducible apply Take.there)); done))) | with_reducible apply Fr.skip))))⟩
            case measure => simp [intOf]
        · obtain ⟨b7, o7, rfl, s1⟩ := bytesCell ((by (repeat (first | with_reducible apply Sat.sub (s) | with_reducible apply Sat.alloc' | with_reducible apply Sat.drew | with_reducible apply Sat.drewN)); (repeat (first | with_reducible exact Fr.done | with_reducible exact Fr.nil | (with_reducible apply Fr.cons; (focus ((repeat (first | with_reducible exact Take.here | with_reducible apply Take.there)); done))) | with_reducible apply Fr.skip)); done) : Sat W wr (bytes true q7 F0 :: [])) (by intro h; have := HK.out.2.1; rw [h] at this; simp at this)
          have s2 : Sat W wr (bytes false (some ⟨b7, o7, none⟩) F0 :: []) := bytesRo (bytesOf s1)
          have s3 := bytesDup s2
          have s4 := bytesMid 32 8 (by rw [HK.out.2.1]; omega) s3
          have s5 := bytesMid 136 8 (by rw [HK.out.2.1]; omega) (s4.pull 1)
          rw [HK.out.2.2.1, HK.out.2.2.2] at s5
          have s6 : Sat W wr (bytes false (some ⟨b7, o7 + 136, none⟩) [0, 0, 0, 0, 0, 0, 0, 64] :: bytes false (some ⟨b7, o7 + 32, none⟩) [0, 0, 0, 0, 0, 0, 0, 64] :: []) := s5
          clear s s1 s2 s3 s4 s5
          go_wp2_with fail
          have sx := litsB s6 [0, 0, 0, 0, 0, 0, 0, 64] 5
          refine (sameT [0, 0, 0, 0, 0, 0, 0, 64] [0, 0, 0, 0, 0, 0, 0, 64] rfl rfl (by decide) rfl (Sat.sub (sx) (by (repeat (first | with_reducible exact Fr.done | with_reducible exact Fr.nil | (with_reducible apply Fr.cons; (focus ((repeat (first | with_reducible exact Take.here | with_reducible apply Take.there)); done))) | with_reducible apply Fr.skip))))).mono ?_
          rintro e w31 ⟨rfl, s7'⟩
          have s7 : Sat W w31 (bytes false (some ⟨b7, o7 + 136, none⟩) [0, 0, 0, 0, 0, 0, 0, 64] :: []) := (Sat.sub (s7') (by (repeat (first | with_reducible exact Fr.done | with_reducible exact Fr.nil | (with_reducible apply Fr.cons; (focus ((repeat (first | with_reducible exact Take.here | with_reducible apply Take.there)); done))) | with_reducible apply Fr.skip))))
          clear s7' sx s6
          go_wp2_with fail
          have sx := litsB s7 [0, 0, 0, 0, 0, 0, 0, 64] 5
          refine (sameT [0, 0, 0, 0, 0, 0, 0, 64] [0, 0, 0, 0, 0, 0, 0, 64] rfl rfl (by decide) rfl (Sat.sub (sx) (by (repeat (first | with_reducible exact Fr.done | with_reducible exact Fr.nil | (with_reducible apply Fr.cons; (focus ((repeat (first | with_reducible exact Take.here | with_reducible apply Take.there)); done))) | with_reducible apply Fr.skip))))).mono ?_
          rintro e w32 ⟨rfl, s8⟩
          clear s7 sx
          go_wp2_with fail
          refine (awake12 s8).mono ?_
          rintro e w33 ⟨rfl, s9⟩
          go_wp2
          go_ret
          exact ⟨rfl, s9.below⟩
end Go.Proofs.Ytmohabidfalhoaa
