/- HmacPieces: in pieces as in whole; where the arguments read as bytes, of bulk at most 1048576. -/
import Derived.Test.YtmohabidfalhoaaHm4
import Derived.Test.YtmohabidfalhoaaL11p
namespace Go.Proofs.Ytmohabidfalhoaa
open Go.RowKit Go.Sep Go.Bv Go.Sha
set_option linter.unusedVariables false
set_option linter.unusedSimpArgs false
def macO (wide : Bool) (c : Option Nat) (k msg : List Byte) : Assn := match c with | none => emp | some c => mac wide c k msg
theorem hmacFormG {W0 w : World} {L : List Assn} {c : Nat} (N : Nat) (wide : Bool) (k msg : List Byte) (hN : 3 * fsz wide = N) (hb : msg.length ≤ 2000000000000000000) (hs : Sat W0 w (mac wide c k msg :: L)) :
    Calls Try.prog 45 #[.pointer (some ⟨c, 0, none⟩)] w fun e w' => ∃ q cq, e = .returned (.slice q N cq) ∧ (macForm wide k msg).length = N ∧ N ≤ cq ∧ Sat W0 w' (bytes true q (macForm wide k msg) :: mac wide c k msg :: L) := by
  subst hN
  refine (hmacForm wide k msg hb hs).mono ?_
  rintro e w' ⟨q, cq, rfl, s⟩
  obtain ⟨h0, h1, _, s1⟩ := rowBytes s
  exact ⟨q, cq, rfl, h0, h1, s1⟩
theorem hmacSumK {W0 w : World} {L : List Assn} {c : Nat} {pv : Value} (wide : Bool) (p : Option Nat) (rs : List Run3) (key msg k : List Byte) (hk : k = blockKey wide key) (hp : pv = ptrO p) (hb : tot rs + msg.length + 2000 ≤ 2305843009213693952) (hl : rs.length + 4 ≤ 1048576)
    (hs : Sat W0 w (ledO p rs :: mac wide c k msg :: L)) :
    Calls Try.prog 49 #[.pointer (some ⟨c, 0, none⟩), pv] w fun e w' => ∃ q cq, e = .returned (.tuple #[.slice q (hsz wide) cq, .int .i64 0]) ∧ Sat W0 w' (bytes true q (hmac wide key msg) :: ledO p (noteN rs (evK wide) (evS wide) (endN wide msg.length)) :: mac wide c k msg :: L) := by
  subst hk
  exact hmacSumF wide p rs key msg hp hb hl hs
set_option maxRecDepth 100000 in
set_option maxHeartbeats 1000000 in
theorem hpieces_any (W : World) (wide : Bool) (a1 a2 a3 : Option Addr × Nat × Nat × List Byte) (b : Byte) (h1 : IsBytes W a1.1 a1.2.1 a1.2.2.1 a1.2.2.2) (h2 : IsBytes W a2.1 a2.2.1 a2.2.2.1 a2.2.2.2) (h3 : IsBytes W a3.1 a3.2.1 a3.2.2.1 a3.2.2.2) (hb1 : a1.2.2.1 ≤ 1048576) (hb2 : a2.2.2.1 ≤ 1048576) (hb3 : a3.2.2.1 ≤ 1048576) :
    Calls Try.prog 10 #[.bool wide, .slice a1.1 a1.2.1 a1.2.2.1, .slice a2.1 a2.2.1 a2.2.2.1, .slice a3.1 a3.2.1 a3.2.2.1, .int .u8 (v8 b)] W fun e W' => e = .returned (.bool true) ∧ Below W.heap.size W W' := by
  obtain ⟨p1, n1, c1, K⟩ := a1
  obtain ⟨p2, n2, c2, M⟩ := a2
  obtain ⟨p3, n3, c3, C⟩ := a3
  simp only at h1 h2 h3 hb1 hb2 hb3 ⊢
  have s0 : Sat W W (bytes false p1 K :: bytes false p2 M :: bytes false p3 C :: []) := h1.sat (h2.sat (h3.sat (Sat.nil W)))
  obtain ⟨hK, hK1, hK2, -⟩ := h1
  obtain ⟨hM, hM1, hM2, -⟩ := h2
  obtain ⟨hC, hC1, hC2, -⟩ := h3
  have HA := Lib.hid (And.intro hK (And.intro hM (And.intro hC (And.intro hK2 (And.intro hM2 hC2))))); clear hK hM hC hK2 hM2 hC2
  obtain ⟨y, hy⟩ : ∃ y : Nat, (y : Int) = v8 b := ⟨b.toNat, rfl⟩
  rw [← hy]
  have hy2 : y < 256 := by have := (v8_bd b).2; omega
  clear hy
  cases wide
  · skip
    obtain ⟨k, hk⟩ : ∃ k, k = blockKey false K := ⟨_, rfl⟩
    go_enter Try.func10, Try.ntmps10
    go_wp2_with fail
    refine (alg12 _ false).mono ?_
    rintro e w' ⟨rfl, rfl⟩
    simp only [algN, bsz]
    go_wp2_with fail
    refine (ledNewF s0).mono ?_
    rintro e w1 ⟨l, rfl, s1⟩
    clear s0
    go_wp2_with fail
    refine (hmacNewF false none [] K HA.out.1 rfl rfl hK1 HA.out.2.2.2.1 (by simp only [tot]; omega) (by decide) (by (repeat (first | with_reducible apply Sat.sub (ledNone s1) | with_reducible apply Sat.alloc' | with_reducible apply Sat.drew | with_reducible apply Sat.drewN)); (repeat (first | with_reducible exact Fr.done | with_reducible exact Fr.nil | (with_reducible apply Fr.cons; (focus ((repeat (first | with_reducible exact Take.here | with_reducible apply Take.there)); done))) | with_reducible apply Fr.skip)); done)).mono ?_
    rintro e w2 ⟨c, rfl, s2⟩
    clear s1
    rw [← hk] at s2
    go_wp2_with fail
    refine (awake12 s2).mono ?_
    rintro e w3 ⟨rfl, s3⟩
    clear s2
    go_wp2_with fail
    refine (hmacFormG 312 false k [] rfl (by decide) (by (repeat (first | with_reducible apply Sat.sub (s3) | with_reducible apply Sat.alloc' | with_reducible apply Sat.drew | with_reducible apply Sat.drewN)); (repeat (first | with_reducible exact Fr.done | with_reducible exact Fr.nil | (with_reducible apply Fr.cons; (focus ((repeat (first | with_reducible exact Take.here | with_reducible apply Take.there)); done))) | with_reducible apply Fr.skip)); done)).mono ?_
    rintro e w4 ⟨q0, d0, rfl, hF0, hd0, s4⟩
    clear s3
    obtain ⟨F0, hF⟩ : ∃ F0, F0 = macForm false k [] := ⟨_, rfl⟩
    rw [← hF] at hF0 s4
    have HF := Lib.hid (And.intro hF0 hF); clear hF0 hF
    go_wp2_with fail
    refine (cutInto M C HA.out.2.1 HA.out.2.2.1 (by omega) (by omega) hM1 HA.out.2.2.2.2.1 (by (repeat (first | with_reducible apply Sat.sub (s4) | with_reducible apply Sat.alloc' | with_reducible apply Sat.drew | with_reducible apply Sat.drewN)); (repeat (first | with_reducible exact Fr.done | with_reducible exact Fr.nil | (with_reducible apply Fr.cons; (focus ((repeat (first | with_reducible exact Take.here | with_reducible apply Take.there)); done))) | with_reducible apply Fr.skip)); done)).mono ?_
    rintro e w5 ⟨qp, cp, ts, rfl, hts0, hfl, hok, s5⟩
    clear s4
    obtain ⟨gp, rfl, hcp, hcp2, s6⟩ := rowSeg s5 hts0
    have s7 : Sat W w5 (mac false c k [] :: ledO (some l) [] :: seg true gp 0 (ts.map pieceV) :: allRo ts :: bytes true q0 F0 :: bytes false p1 K :: bytes false p2 M :: []) := (by (repeat (first | with_reducible apply Sat.sub (s6) | with_reducible apply Sat.alloc' | with_reducible apply Sat.drew | with_reducible apply Sat.drewN)); (repeat (first | with_reducible exact Fr.done | with_reducible exact Fr.nil | (with_reducible apply Fr.cons; (focus ((repeat (first | with_reducible exact Take.here | with_reducible apply Take.there)); done))) | with_reducible apply Fr.skip)); done)
    obtain ⟨N, hN⟩ : ∃ N, N = ts.length := ⟨_, rfl⟩
    rw [← hN] at hts0 hcp ⊢
    obtain ⟨st, hst⟩ : ∃ st, st = y % N := ⟨_, rfl⟩
    have er : (y : Int) % (N : Int) = (st : Int) := by rw [hst]; exact (Int.natCast_emod y N).symm
    have er2 : (y : Int).tmod (N : Int) = (st : Int) := by rw [Int.tmod_eq_emod_of_nonneg (by omega)]; exact er
    have hstN : st < N := by rw [hst]; exact Nat.mod_lt _ hts0
    have hN0 : (N : Int) ≠ 0 := by omega
    have HT := Lib.hid (And.intro hfl (And.intro hok (And.intro hN hk))); clear hfl hok hN s5 s6 hst hk
    go_wp2
    clear er er2 hN0 hy2
    go_loopw [19, 20] (fun t19 t20 wr => ∃ (i : Nat) (cl : Option Nat), i ≤ N ∧ t20 = .int .i64 (i : Int) ∧ t19 = ptrO cl ∧ (cl = none ↔ i ≤ st) ∧ Sat W wr (mac false c k (flatP (ts.take i)) :: macO false cl k (flatP (ts.take st)) :: ledO (some l) (noteN [] (evK false) (evS false) ((flatP (ts.take i)).length / bsz false)) :: seg true gp 0 (ts.map pieceV) :: allRo ts :: bytes true q0 F0 :: bytes false p1 K :: bytes false p2 M :: [])) (fun _ t20 _ => N - (intOf t20).toNat)
    case atStart => exact ⟨0, none, Nat.zero_le _, rfl, rfl, by simp, ((by simpa [flatP, noteN] using s7 : Sat W w5 (mac false c k (flatP (ts.take 0)) :: ledO (some l) (noteN [] (evK false) (evS false) ((flatP (ts.take 0)).length / bsz false)) :: seg true gp 0 (ts.map pieceV) :: allRo ts :: bytes true q0 F0 :: bytes false p1 K :: bytes false p2 M :: [])).emp).pick [1]⟩
    case round =>
      clear s7
      obtain ⟨i, cl, hi, rfl, rfl, hcl, s⟩ := hrel
      by_cases hlt : i < N
      · have hit : i < ts.length := by rw [← HT.out.2.2.1]; exact hlt
        have hft := flatP_take ts i hit
        have hlen := flatP_take_len ts (i + 1)
        rw [HT.out.1, HA.out.2.1] at hlen
        have hokt := HT.out.2.1 ts[i] (List.getElem_mem hit)
        obtain ⟨⟨tp, tc, tb⟩, htt⟩ : ∃ t, t = ts[i] := ⟨_, rfl⟩
        rw [← htt] at hft hokt
        simp only at hft hokt
        have sp : Sat W wr (allRo ts :: mac false c k (flatP (ts.take i)) :: macO false cl k (flatP (ts.take st)) :: ledO (some l) (noteN [] (evK false) (evS false) ((flatP (ts.take i)).length / bsz false)) :: seg true gp 0 (ts.map pieceV) :: bytes true q0 F0 :: bytes false p1 K :: bytes false p2 M :: []) := (by (repeat (first | with_reducible apply Sat.sub (s) | with_reducible apply Sat.alloc' | with_reducible apply Sat.drew | with_reducible apply Sat.drewN)); (repeat (first | with_reducible exact Fr.done | with_reducible exact Fr.nil | (with_reducible apply Fr.cons; (focus ((repeat (first | with_reducible exact Take.here | with_reducible apply Take.there)); done))) | with_reducible apply Fr.skip)); done)
        have sq := allPeek (t := ((tp, tc, tb) : Piece)) sp (by rw [htt]; exact List.getElem_mem hit)
        simp only at sq
        have hG : ∀ wx, Sat W wx (seg true gp 0 (ts.map pieceV) :: []) → gp < wx.heap.size ∧ wx.cell? ⟨gp, i, none⟩ = some (.slice tp tb.length tc) := fun wx h => ⟨h.lt (by rw [List.length_map]; omega), h.at i (by rw [List.getElem?_map, List.getElem?_eq_getElem hit, ← htt]; rfl)⟩
        have HX := Lib.hid (And.intro hft (And.intro hokt (And.intro hlen hG))); clear hft hokt hlen hG htt sp s hit
        by_cases his : i = st
        · have hcn : cl = none := hcl.2 (by omega)
          subst hcn
          subst his
          clear hcl
          obtain ⟨Mi, hMi⟩ : ∃ Mi, Mi = flatP (ts.take i) := ⟨_, rfl⟩
          have hX := HX.out
          rw [← hMi] at hX sq
          obtain ⟨hx1, hx2, hx3, hx4⟩ := hX
          rw [hx1, List.length_append] at hx3
          have HY := Lib.hid (And.intro hMi (And.intro hx2 (And.intro hx3 hx4))); have HY1 := Lib.hid hx1; clear hx1 hx2 hx3 hx4 hMi HX
          go_wp2_with fail
          refine (hmacSumK false none [] K Mi k HT.out.2.2.2 rfl (by have := HY.out.2.2.1; simp only [tot]; omega) (by decide) (by (repeat (first | with_reducible apply Sat.sub (ledNone sq) | with_reducible apply Sat.alloc' | with_reducible apply Sat.drew | with_reducible apply Sat.drewN)); (repeat (first | with_reducible exact Fr.done | with_reducible exact Fr.nil | (with_reducible apply Fr.cons; (focus ((repeat (first | with_reducible exact Take.here | with_reducible apply Take.there)); done))) | with_reducible apply Fr.skip)); done)).mono ?_
          rintro e w6 ⟨q4, d4, rfl, s8⟩
          clear sq
          go_wp2_with fail
          refine (hmacClone false (c := c) k Mi (by (repeat (first | with_reducible apply Sat.sub (s8) | with_reducible apply Sat.alloc' | with_reducible apply Sat.drew | with_reducible apply Sat.drewN)); (repeat (first | with_reducible exact Fr.done | with_reducible exact Fr.nil | (with_reducible apply Fr.cons; (focus ((repeat (first | with_reducible exact Take.here | with_reducible apply Take.there)); done))) | with_reducible apply Fr.skip)); done)).mono ?_
          rintro e w7 ⟨d, rfl, s9⟩
          clear s8
          obtain ⟨zg, cg⟩ := HY.out.2.2.2 _ (Sat.sub (s9) (by (repeat (first | with_reducible exact Fr.done | with_reducible exact Fr.nil | (with_reducible apply Fr.cons; (focus ((repeat (first | with_reducible exact Take.here | with_reducible apply Take.there)); done))) | with_reducible apply Fr.skip))))
          go_wp2_with fail
          refine (hmacWriteF (cap := tc) false (some l) (noteN [] (evK false) (evS false) (Mi.length / bsz false)) k Mi tb rfl rfl HY.out.2.1.1 HY.out.2.1.2 (by rw [tot_noteN]; have := HY.out.2.2.1; have := Nat.div_le_self Mi.length (bsz false); simp only [tot]; omega) (by have := noteN_len [] (evK false) (evS false) (Mi.length / bsz false); simp only [List.length_nil] at this; omega) (by (repeat (first | with_reducible apply Sat.sub (s9) | with_reducible apply Sat.alloc' | with_reducible apply Sat.drew | with_reducible apply Sat.drewN)); (repeat (first | with_reducible exact Fr.done | with_reducible exact Fr.nil | (with_reducible apply Fr.cons; (focus ((repeat (first | with_reducible exact Take.here | with_reducible apply Take.there)); done))) | with_reducible apply Fr.skip)); done)).mono ?_
          rintro e w8 ⟨rfl, s10⟩
          clear s9 zg cg
          rw [noteN_add] at s10
          have HS := Lib.hid s10; clear s10
          go_wp2
          go_roundw
          case rel =>
            refine ⟨i + 1, some d, by omega, by go_num, rfl, by simp, ?_⟩
            have s11 := HS.out
            rw [HY1.out, ← HY.out.1, List.length_append]
            have hdv : Mi.length / bsz false ≤ (Mi.length + tb.length) / bsz false := Nat.div_le_div_right (by omega)
            rw [Nat.add_sub_cancel' hdv] at s11
            have s12 : Sat W w8 (mac false c k (Mi ++ tb) :: mac false d k Mi :: ledO (some l) (noteN [] (evK false) (evS false) ((Mi.length + tb.length) / bsz false)) :: seg true gp 0 (ts.map pieceV) :: allRo ts :: bytes true q0 F0 :: bytes false p1 K :: bytes false p2 M :: []) := (by (repeat (first | with_reducible apply Sat.sub (s11) | with_reducible apply Sat.alloc' | with_reducible apply Sat.drew | with_reducible apply Sat.drewN)); (repeat (first | with_reducible exact Fr.done | with_reducible exact Fr.nil | (with_reducible apply Fr.cons; (focus ((repeat (first | with_reducible exact Take.here | with_reducible apply Take.there)); done))) | with_reducible apply Fr.skip)); done)
            exact s12
          case measure => simp [intOf]; omega
        · obtain ⟨Mi, hMi⟩ : ∃ Mi, Mi = flatP (ts.take i) := ⟨_, rfl⟩
          have hX := HX.out
          rw [← hMi] at hX sq
          obtain ⟨hx1, hx2, hx3, hx4⟩ := hX
          rw [hx1, List.length_append] at hx3
          have HY := Lib.hid (And.intro hMi (And.intro hx2 (And.intro hx3 hx4))); have HY1 := Lib.hid hx1; clear hx1 hx2 hx3 hx4 hMi HX
          have HC := Lib.hid hcl; clear hcl
          obtain ⟨zg, cg⟩ := HY.out.2.2.2 _ (Sat.sub (sq) (by (repeat (first | with_reducible exact Fr.done | with_reducible exact Fr.nil | (with_reducible apply Fr.cons; (focus ((repeat (first | with_reducible exact Take.here | with_reducible apply Take.there)); done))) | with_reducible apply Fr.skip))))
          go_wp2_with fail
          refine (hmacWriteF (cap := tc) false (some l) (noteN [] (evK false) (evS false) (Mi.length / bsz false)) k Mi tb rfl rfl HY.out.2.1.1 HY.out.2.1.2 (by rw [tot_noteN]; have := HY.out.2.2.1; have := Nat.div_le_self Mi.length (bsz false); simp only [tot]; omega) (by have := noteN_len [] (evK false) (evS false) (Mi.length / bsz false); simp only [List.length_nil] at this; omega) (by (repeat (first | with_reducible apply Sat.sub (sq) | with_reducible apply Sat.alloc' | with_reducible apply Sat.drew | with_reducible apply Sat.drewN)); (repeat (first | with_reducible exact Fr.done | with_reducible exact Fr.nil | (with_reducible apply Fr.cons; (focus ((repeat (first | with_reducible exact Take.here | with_reducible apply Take.there)); done))) | with_reducible apply Fr.skip)); done)).mono ?_
          rintro e w8 ⟨rfl, s10⟩
          clear sq zg cg
          rw [noteN_add] at s10
          have HS := Lib.hid s10; clear s10
          go_wp2
          go_roundw
          case rel =>
            refine ⟨i + 1, cl, by omega, by go_num, rfl, ?_, ?_⟩
            · rw [HC.out]; omega
            have s11 := HS.out
            rw [HY1.out, List.length_append]
            have hdv : Mi.length / bsz false ≤ (Mi.length + tb.length) / bsz false := Nat.div_le_div_right (by omega)
            rw [Nat.add_sub_cancel' hdv] at s11
            exact (by (repeat (first | with_reducible apply Sat.sub (s11) | with_reducible apply Sat.alloc' | with_reducible apply Sat.drew | with_reducible apply Sat.drewN)); (repeat (first | with_reducible exact Fr.done | with_reducible exact Fr.nil | (with_reducible apply Fr.cons; (focus ((repeat (first | with_reducible exact Take.here | with_reducible apply Take.there)); done))) | with_reducible apply Fr.skip)); done)
          case measure => simp [intOf]; omega
      · have hiN : i = N := by omega
        obtain ⟨d, rfl⟩ : ∃ d, cl = some d := by
          cases cl with
          | none => have := hcl.1 rfl; omega
          | some d => exact ⟨d, rfl⟩
        clear hcl
        rw [hiN, HT.out.2.2.1, List.take_of_length_le (Nat.le_refl _), HT.out.1, HA.out.2.1] at s
        have s8 : Sat W wr (mac false d k (flatP (ts.take st)) :: mac false c k M :: ledO (some l) (noteN [] (evK false) (evS false) (n2 / bsz false)) :: seg true gp 0 (ts.map pieceV) :: allRo ts :: bytes true q0 F0 :: bytes false p1 K :: bytes false p2 M :: []) := s.pick [1]
        clear s hiN
        simp only [ptrO, Option.map_some]
        go_wp2
        go_loopw [23] (fun t23 wr => ∃ j : Nat, st ≤ j ∧ j ≤ N ∧ t23 = .int .i64 (j : Int) ∧ Sat W wr (mac false d k (flatP (ts.take j)) :: mac false c k M :: ledO (some l) (noteN [] (evK false) (evS false) (n2 / bsz false)) :: seg true gp 0 (ts.map pieceV) :: allRo ts :: bytes true q0 F0 :: bytes false p1 K :: bytes false p2 M :: [])) (fun t23 _ => N - (intOf t23).toNat)
        case atStart => exact ⟨st, Nat.le_refl _, by omega, rfl, s8⟩
        case round =>
          clear s8
          obtain ⟨j, hj0, hj, rfl, s⟩ := hrel
          by_cases hlt : j < N
          · have hit : j < ts.length := by rw [← HT.out.2.2.1]; exact hlt
            have hft := flatP_take ts j hit
            have hlen := flatP_take_len ts (j + 1)
            rw [HT.out.1, HA.out.2.1] at hlen
            have hokt := HT.out.2.1 ts[j] (List.getElem_mem hit)
            obtain ⟨⟨tp, tc, tb⟩, htt⟩ : ∃ t, t = ts[j] := ⟨_, rfl⟩
            rw [← htt] at hft hokt
            simp only at hft hokt
            obtain ⟨Mi, hMi⟩ : ∃ Mi, Mi = flatP (ts.take j) := ⟨_, rfl⟩
            rw [← hMi] at hft s
            rw [hft, List.length_append] at hlen
            have sp : Sat W wr (allRo ts :: mac false d k Mi :: mac false c k M :: ledO (some l) (noteN [] (evK false) (evS false) (n2 / bsz false)) :: seg true gp 0 (ts.map pieceV) :: bytes true q0 F0 :: bytes false p1 K :: bytes false p2 M :: []) := (by (repeat (first | with_reducible apply Sat.sub (s) | with_reducible apply Sat.alloc' | with_reducible apply Sat.drew | with_reducible apply Sat.drewN)); (repeat (first | with_reducible exact Fr.done | with_reducible exact Fr.nil | (with_reducible apply Fr.cons; (focus ((repeat (first | with_reducible exact Take.here | with_reducible apply Take.there)); done))) | with_reducible apply Fr.skip)); done)
            have sq := allPeek (t := ((tp, tc, tb) : Piece)) sp (by rw [htt]; exact List.getElem_mem hit)
            simp only at sq
            have sg : Sat W wr (seg true gp 0 (ts.map pieceV) :: []) := (by (repeat (first | with_reducible apply Sat.sub (s) | with_reducible apply Sat.alloc' | with_reducible apply Sat.drew | with_reducible apply Sat.drewN)); (repeat (first | with_reducible exact Fr.done | with_reducible exact Fr.nil | (with_reducible apply Fr.cons; (focus ((repeat (first | with_reducible exact Take.here | with_reducible apply Take.there)); done))) | with_reducible apply Fr.skip)); done)
            have zg := sg.lt (by rw [List.length_map]; omega)
            have cg := sg.at j (v := .slice tp tb.length tc) (by rw [List.getElem?_map, List.getElem?_eq_getElem hit, ← htt]; rfl)
            have HX := Lib.hid (And.intro hft (And.intro hokt hlen)); clear hft hokt hlen htt sp s hit hMi sg
            go_wp2_with fail
            refine (hmacWriteF (cap := tc) false none [] k Mi tb rfl rfl HX.out.2.1.1 HX.out.2.1.2 (by have := HX.out.2.2; simp only [tot]; omega) (by decide) (by (repeat (first | with_reducible apply Sat.sub (ledNone sq) | with_reducible apply Sat.alloc' | with_reducible apply Sat.drew | with_reducible apply Sat.drewN)); (repeat (first | with_reducible exact Fr.done | with_reducible exact Fr.nil | (with_reducible apply Fr.cons; (focus ((repeat (first | with_reducible exact Take.here | with_reducible apply Take.there)); done))) | with_reducible apply Fr.skip)); done)).mono ?_
            rintro e w8 ⟨rfl, s10⟩
            clear sq zg cg
            have HS := Lib.hid s10; clear s10
            go_wp2
            go_roundw
            case rel =>
              refine ⟨j + 1, by omega, by omega, by go_num, ?_⟩
              have s11 := HS.out
              rw [HX.out.1]
              exact (by (repeat (first | with_reducible apply Sat.sub (s11) | with_reducible apply Sat.alloc' | with_reducible apply Sat.drew | with_reducible apply Sat.drewN)); (repeat (first | with_reducible exact Fr.done | with_reducible exact Fr.nil | (with_reducible apply Fr.cons; (focus ((repeat (first | with_reducible exact Take.here | with_reducible apply Take.there)); done))) | with_reducible apply Fr.skip)); done)
            case measure => simp [intOf]; omega
          · have hjN : j = N := by omega
            rw [hjN, HT.out.2.2.1, List.take_of_length_le (Nat.le_refl _), HT.out.1] at s
            have s9 : Sat W wr (ledO (some l) (noteN [] (evK false) (evS false) (n2 / bsz false)) :: mac false c k M :: mac false d k M :: bytes true q0 F0 :: bytes false p1 K :: bytes false p2 M :: []) := (by (repeat (first | with_reducible apply Sat.sub (s) | with_reducible apply Sat.alloc' | with_reducible apply Sat.drew | with_reducible apply Sat.drewN)); (repeat (first | with_reducible exact Fr.done | with_reducible exact Fr.nil | (with_reducible apply Fr.cons; (focus ((repeat (first | with_reducible exact Take.here | with_reducible apply Take.there)); done))) | with_reducible apply Fr.skip)); done)
            clear s hjN
            obtain ⟨R, hR⟩ : ∃ R, R = noteN [] (evK false) (evS false) (n2 / bsz false) := ⟨_, rfl⟩
            rw [← hR] at s9
            have hRt : tot R = n2 / bsz false := by rw [hR, tot_noteN]; simp [tot]
            have hRl : R.length ≤ 1 := by rw [hR]; exact noteN_len _ _ _ _
            obtain ⟨blk, hblk⟩ : ∃ blk, blk = n2 / bsz false + endN false n2 := ⟨_, rfl⟩
            have hRe : noteN R (evK false) (evS false) (endN false n2) = [(evK false, evS false, blk)] := by
              rw [hR, noteN_add, ← hblk]
              exact noteN_one _ _ _ (by rw [hblk]; unfold endN; omega)
            simp only [endN, padN, roomN, bsz] at hblk
            have hq : ((n2 : Int) + 8) / 64 + 2 = (blk : Int) := by omega
            have hRt2 : tot R ≤ 1048576 := by rw [hRt]; have := Nat.div_le_self n2 (bsz false); omega
            have hT := hmac_len false K M
            have HR := Lib.hid (And.intro hRe (And.intro hRt2 (And.intro hRl (And.intro hq hT)))); clear hRe hRt2 hRl hRt hblk hR hq hT
            go_wp2_with fail
            refine (hmacSumK false (some l) R K M k HT.out.2.2.2 rfl (by have := HR.out.2.1; rw [HA.out.2.1]; omega) (by have := HR.out.2.2.1; omega) s9).mono ?_
            rintro e w6 ⟨q1, d1, rfl, s10⟩
            clear s9
            rw [HA.out.2.1, HR.out.1] at s10
            simp only [hsz]
            go_wp2_with fail
            refine (hmacSumK false (c := d) none [] K M k HT.out.2.2.2 rfl (by rw [HA.out.2.1]; simp only [tot]; omega) (by decide) (by (repeat (first | with_reducible apply Sat.sub (ledNone s10) | with_reducible apply Sat.alloc' | with_reducible apply Sat.drew | with_reducible apply Sat.drewN)); (repeat (first | with_reducible exact Fr.done | with_reducible exact Fr.nil | (with_reducible apply Fr.cons; (focus ((repeat (first | with_reducible exact Take.here | with_reducible apply Take.there)); done))) | with_reducible apply Fr.skip)); done)).mono ?_
            rintro e w7 ⟨q2, d2, rfl, s11⟩
            clear s10
            simp only [hsz]
            go_wp2_with fail
            refine (hmacTagF false none [] K M HA.out.1 HA.out.2.1 rfl rfl hK1 HA.out.2.2.2.1 hM1 HA.out.2.2.2.2.1 (by simp only [tot]; omega) (by decide) (by (repeat (first | with_reducible apply Sat.sub (ledNone s11) | with_reducible apply Sat.alloc' | with_reducible apply Sat.drew | with_reducible apply Sat.drewN)); (repeat (first | with_reducible exact Fr.done | with_reducible exact Fr.nil | (with_reducible apply Fr.cons; (focus ((repeat (first | with_reducible exact Take.here | with_reducible apply Take.there)); done))) | with_reducible apply Fr.skip)); done)).mono ?_
            rintro e w8 ⟨q3, d3, rfl, -, -, s12'⟩
            clear s11
            simp only [hsz]
            obtain ⟨T, hTe⟩ : ∃ T, T = hmac false K M := ⟨_, rfl⟩
            have hTl : T.length = hsz false := by rw [hTe]; exact HR.out.2.2.2.2
            have s12 : Sat W w8 (bytes true q3 (hmac false K M) :: bytes true q2 (hmac false K M) :: bytes true q1 (hmac false K M) :: mac false c k M :: mac false d k M :: ledO (some l) [(evK false, evS false, blk)] :: bytes true q0 F0 :: bytes false p2 M :: []) := (by (repeat (first | with_reducible apply Sat.sub (s12') | with_reducible apply Sat.alloc' | with_reducible apply Sat.drew | with_reducible apply Sat.drewN)); (repeat (first | with_reducible exact Fr.done | with_reducible exact Fr.nil | (with_reducible apply Fr.cons; (focus ((repeat (first | with_reducible exact Take.here | with_reducible apply Take.there)); done))) | with_reducible apply Fr.skip)); done)
            rw [← hTe] at s12
            clear s12'
            have HTl := Lib.hid (And.intro hTl hTe); clear hTl hTe
            have hq := HR.out.2.2.2.1
            go_wp2_with fail
            refine (hmacSize false (c := c) k M (by (repeat (first | with_reducible apply Sat.sub (s12) | with_reducible apply Sat.alloc' | with_reducible apply Sat.drew | with_reducible apply Sat.drewN)); (repeat (first | with_reducible exact Fr.done | with_reducible exact Fr.nil | (with_reducible apply Fr.cons; (focus ((repeat (first | with_reducible exact Take.here | with_reducible apply Take.there)); done))) | with_reducible apply Fr.skip)); done)).mono ?_
            rintro e w' ⟨rfl, rfl⟩
            simp only [hsz]
            go_wp2_with fail
            refine (sameT T T HTl.out.1 HTl.out.1 (by decide) rfl ((by (repeat (first | with_reducible apply Sat.sub (s12) | with_reducible apply Sat.alloc' | with_reducible apply Sat.drew | with_reducible apply Sat.drewN)); (repeat (first | with_reducible exact Fr.done | with_reducible exact Fr.nil | (with_reducible apply Fr.cons; (focus ((repeat (first | with_reducible exact Take.here | with_reducible apply Take.there)); done))) | with_reducible apply Fr.skip)); done) : Sat W w8 (bytes true q1 T :: bytes true q2 T :: bytes true q3 T :: mac false c k M :: mac false d k M :: ledO (some l) [(evK false, evS false, blk)] :: bytes true q0 F0 :: bytes false p2 M :: []))).mono ?_
            rintro e w9 ⟨rfl, s13⟩
            clear s12
            go_wp2_with fail
            refine (sameT T T HTl.out.1 HTl.out.1 (by decide) rfl ((by (repeat (first | with_reducible apply Sat.sub (s13) | with_reducible apply Sat.alloc' | with_reducible apply Sat.drew | with_reducible apply Sat.drewN)); (repeat (first | with_reducible exact Fr.done | with_reducible exact Fr.nil | (with_reducible apply Fr.cons; (focus ((repeat (first | with_reducible exact Take.here | with_reducible apply Take.there)); done))) | with_reducible apply Fr.skip)); done) : Sat W w9 (bytes true q1 T :: bytes true q3 T :: mac false c k M :: mac false d k M :: ledO (some l) [(evK false, evS false, blk)] :: bytes true q0 F0 :: bytes false p2 M :: []))).mono ?_
            rintro e w10 ⟨rfl, s14⟩
            clear s13
            go_wp2_with fail
            refine (hmacFormG 312 false (c := c) k M rfl (by rw [HA.out.2.1]; omega) (by (repeat (first | with_reducible apply Sat.sub (s14) | with_reducible apply Sat.alloc' | with_reducible apply Sat.drew | with_reducible apply Sat.drewN)); (repeat (first | with_reducible exact Fr.done | with_reducible exact Fr.nil | (with_reducible apply Fr.cons; (focus ((repeat (first | with_reducible exact Take.here | with_reducible apply Take.there)); done))) | with_reducible apply Fr.skip)); done)).mono ?_
            rintro e w11 ⟨q4, d4, rfl, hF1, hd4, s15⟩
            clear s14
            go_wp2_with fail
            refine (hmacFormG 312 false (c := d) k M rfl (by rw [HA.out.2.1]; omega) (by (repeat (first | with_reducible apply Sat.sub (s15) | with_reducible apply Sat.alloc' | with_reducible apply Sat.drew | with_reducible apply Sat.drewN)); (repeat (first | with_reducible exact Fr.done | with_reducible exact Fr.nil | (with_reducible apply Fr.cons; (focus ((repeat (first | with_reducible exact Take.here | with_reducible apply Take.there)); done))) | with_reducible apply Fr.skip)); done)).mono ?_
            rintro e w12 ⟨q5, d5, rfl, -, hd5, s16⟩
            clear s15
            obtain ⟨F1, hF1e⟩ : ∃ F1, F1 = macForm false k M := ⟨_, rfl⟩
            rw [← hF1e] at hF1 s16
            have HF1 := Lib.hid (And.intro hF1 hF1e); clear hF1 hF1e
            go_wp2_with fail
            refine (sameT F1 F1 HF1.out.1 HF1.out.1 (by decide) rfl ((by (repeat (first | with_reducible apply Sat.sub (s16) | with_reducible apply Sat.alloc' | with_reducible apply Sat.drew | with_reducible apply Sat.drewN)); (repeat (first | with_reducible exact Fr.done | with_reducible exact Fr.nil | (with_reducible apply Fr.cons; (focus ((repeat (first | with_reducible exact Take.here | with_reducible apply Take.there)); done))) | with_reducible apply Fr.skip)); done) : Sat W w12 (bytes true q4 F1 :: bytes true q5 F1 :: bytes true q1 T :: mac false c k M :: mac false d k M :: ledO (some l) [(evK false, evS false, blk)] :: bytes true q0 F0 :: bytes false p2 M :: []))).mono ?_
            rintro e w13 ⟨rfl, s17⟩
            clear s16
            go_wp2_with fail
            refine (ledRunsF (l := l) (rs := [(evK false, evS false, blk)]) (by simp) (by (repeat (first | with_reducible apply Sat.sub (s17) | with_reducible apply Sat.alloc' | with_reducible apply Sat.drew | with_reducible apply Sat.drewN)); (repeat (first | with_reducible exact Fr.done | with_reducible exact Fr.nil | (with_reducible apply Fr.cons; (focus ((repeat (first | with_reducible exact Take.here | with_reducible apply Take.there)); done))) | with_reducible apply Fr.skip)); done)).mono ?_
            rintro e w14 ⟨q6, d6, rfl, s18⟩
            clear s17
            go_wp2_with fail
            skip
            refine (events12 false blk s18).mono ?_
            rintro e w15 ⟨g7, rfl, s19⟩
            clear s18
            go_wp2_with fail
            refine (sameRuns [(evK false, evS false, blk)] (by rfl) (by rfl) (by simp) (by (repeat (first | with_reducible apply Sat.sub (s19) | with_reducible apply Sat.alloc' | with_reducible apply Sat.drew | with_reducible apply Sat.drewN)); (repeat (first | with_reducible exact Fr.done | with_reducible exact Fr.nil | (with_reducible apply Fr.cons; (focus ((repeat (first | with_reducible exact Take.here | with_reducible apply Take.there)); done))) | with_reducible apply Fr.skip)); done)).mono ?_
            rintro e w16 ⟨rfl, s20⟩
            clear s19
            go_wp2_with fail
            refine (hmacFormG 312 false (c := d) k M rfl (by rw [HA.out.2.1]; omega) (by (repeat (first | with_reducible apply Sat.sub (s20) | with_reducible apply Sat.alloc' | with_reducible apply Sat.drew | with_reducible apply Sat.drewN)); (repeat (first | with_reducible exact Fr.done | with_reducible exact Fr.nil | (with_reducible apply Fr.cons; (focus ((repeat (first | with_reducible exact Take.here | with_reducible apply Take.there)); done))) | with_reducible apply Fr.skip)); done)).mono ?_
            rintro e w17 ⟨q8, d8, rfl, -, hd8, s21⟩
            clear s20
            rw [← HF1.out.2] at s21
            go_wp2_with fail
            refine (hmacReset false (c := c) k M (by (repeat (first | with_reducible apply Sat.sub (s21) | with_reducible apply Sat.alloc' | with_reducible apply Sat.drew | with_reducible apply Sat.drewN)); (repeat (first | with_reducible exact Fr.done | with_reducible exact Fr.nil | (with_reducible apply Fr.cons; (focus ((repeat (first | with_reducible exact Take.here | with_reducible apply Take.there)); done))) | with_reducible apply Fr.skip)); done)).mono ?_
            rintro e w18 ⟨rfl, s22⟩
            clear s21
            go_wp2_with fail
            refine (hmacFormG 312 false (c := c) k [] rfl (by decide) (by (repeat (first | with_reducible apply Sat.sub (s22) | with_reducible apply Sat.alloc' | with_reducible apply Sat.drew | with_reducible apply Sat.drewN)); (repeat (first | with_reducible exact Fr.done | with_reducible exact Fr.nil | (with_reducible apply Fr.cons; (focus ((repeat (first | with_reducible exact Take.here | with_reducible apply Take.there)); done))) | with_reducible apply Fr.skip)); done)).mono ?_
            rintro e w19 ⟨q9, d9, rfl, -, hd9, s23⟩
            clear s22
            rw [← HF.out.2] at s23
            go_wp2_with fail
            refine (sameT F0 F0 HF.out.1 HF.out.1 (by decide) rfl ((by (repeat (first | with_reducible apply Sat.sub (s23) | with_reducible apply Sat.alloc' | with_reducible apply Sat.drew | with_reducible apply Sat.drewN)); (repeat (first | with_reducible exact Fr.done | with_reducible exact Fr.nil | (with_reducible apply Fr.cons; (focus ((repeat (first | with_reducible exact Take.here | with_reducible apply Take.there)); done))) | with_reducible apply Fr.skip)); done) : Sat W w19 (bytes true q9 F0 :: bytes true q0 F0 :: mac false c k [] :: bytes true q8 F1 :: bytes true q1 T :: mac false d k M :: bytes false p2 M :: []))).mono ?_
            rintro e w20 ⟨rfl, s24⟩
            clear s23
            go_wp2_with fail
            refine (hmacWriteF (c := c) false none [] k [] M HA.out.2.1 rfl hM1 HA.out.2.2.2.2.1 (by simp only [tot, List.length_nil]; omega) (by decide) (by (repeat (first | with_reducible apply Sat.sub (ledNone s24) | with_reducible apply Sat.alloc' | with_reducible apply Sat.drew | with_reducible apply Sat.drewN)); (repeat (first | with_reducible exact Fr.done | with_reducible exact Fr.nil | (with_reducible apply Fr.cons; (focus ((repeat (first | with_reducible exact Take.here | with_reducible apply Take.there)); done))) | with_reducible apply Fr.skip)); done)).mono ?_
            rintro e w21 ⟨rfl, s25⟩
            clear s24
            simp only [List.nil_append] at s25
            go_wp2_with fail
            refine (hmacFormG 312 false (c := c) k M rfl (by rw [HA.out.2.1]; omega) (by (repeat (first | with_reducible apply Sat.sub (s25) | with_reducible apply Sat.alloc' | with_reducible apply Sat.drew | with_reducible apply Sat.drewN)); (repeat (first | with_reducible exact Fr.done | with_reducible exact Fr.nil | (with_reducible apply Fr.cons; (focus ((repeat (first | with_reducible exact Take.here | with_reducible apply Take.there)); done))) | with_reducible apply Fr.skip)); done)).mono ?_
            rintro e w22 ⟨q10, d10, rfl, -, hd10, s26⟩
            clear s25
            rw [← HF1.out.2] at s26
            go_wp2_with fail
            refine (sameT F1 F1 HF1.out.1 HF1.out.1 (by decide) rfl ((by (repeat (first | with_reducible apply Sat.sub (s26) | with_reducible apply Sat.alloc' | with_reducible apply Sat.drew | with_reducible apply Sat.drewN)); (repeat (first | with_reducible exact Fr.done | with_reducible exact Fr.nil | (with_reducible apply Fr.cons; (focus ((repeat (first | with_reducible exact Take.here | with_reducible apply Take.there)); done))) | with_reducible apply Fr.skip)); done) : Sat W w22 (bytes true q10 F1 :: bytes true q8 F1 :: mac false c k M :: bytes true q1 T :: mac false d k M :: []))).mono ?_
            rintro e w23 ⟨rfl, s27⟩
            clear s26
            go_wp2_with fail
            refine (hmacSumK false (c := c) none [] K M k HT.out.2.2.2 rfl (by rw [HA.out.2.1]; simp only [tot]; omega) (by decide) (by (repeat (first | with_reducible apply Sat.sub (ledNone s27) | with_reducible apply Sat.alloc' | with_reducible apply Sat.drew | with_reducible apply Sat.drewN)); (repeat (first | with_reducible exact Fr.done | with_reducible exact Fr.nil | (with_reducible apply Fr.cons; (focus ((repeat (first | with_reducible exact Take.here | with_reducible apply Take.there)); done))) | with_reducible apply Fr.skip)); done)).mono ?_
            rintro e w24 ⟨q11, d11, rfl, s28⟩
            clear s27
            rw [← HTl.out.2] at s28
            simp only [hsz]
            go_wp2_with fail
            refine (sameT T T HTl.out.1 HTl.out.1 (by decide) rfl ((by (repeat (first | with_reducible apply Sat.sub (s28) | with_reducible apply Sat.alloc' | with_reducible apply Sat.drew | with_reducible apply Sat.drewN)); (repeat (first | with_reducible exact Fr.done | with_reducible exact Fr.nil | (with_reducible apply Fr.cons; (focus ((repeat (first | with_reducible exact Take.here | with_reducible apply Take.there)); done))) | with_reducible apply Fr.skip)); done) : Sat W w24 (bytes true q11 T :: bytes true q1 T :: bytes true q8 F1 :: mac false d k M :: []))).mono ?_
            rintro e w25 ⟨rfl, s29⟩
            clear s28
            go_wp2_with fail
            refine (hmacFormG 312 false (c := d) k M rfl (by rw [HA.out.2.1]; omega) (by (repeat (first | with_reducible apply Sat.sub (s29) | with_reducible apply Sat.alloc' | with_reducible apply Sat.drew | with_reducible apply Sat.drewN)); (repeat (first | with_reducible exact Fr.done | with_reducible exact Fr.nil | (with_reducible apply Fr.cons; (focus ((repeat (first | with_reducible exact Take.here | with_reducible apply Take.there)); done))) | with_reducible apply Fr.skip)); done)).mono ?_
            rintro e w26 ⟨q12, d12, rfl, -, hd12, s30⟩
            clear s29
            rw [← HF1.out.2] at s30
            go_wp2_with fail
            refine (sameT F1 F1 HF1.out.1 HF1.out.1 (by decide) rfl ((by (repeat (first | with_reducible apply Sat.sub (s30) | with_reducible apply Sat.alloc' | with_reducible apply Sat.drew | with_reducible apply Sat.drewN)); (repeat (first | with_reducible exact Fr.done | with_reducible exact Fr.nil | (with_reducible apply Fr.cons; (focus ((repeat (first | with_reducible exact Take.here | with_reducible apply Take.there)); done))) | with_reducible apply Fr.skip)); done) : Sat W w26 (bytes true q12 F1 :: bytes true q8 F1 :: []))).mono ?_
            rintro e w27 ⟨rfl, s31⟩
            go_wp2
            go_ret
            exact ⟨rfl, s31.below⟩
  · skip
    obtain ⟨k, hk⟩ : ∃ k, k = blockKey true K := ⟨_, rfl⟩
    go_enter Try.func10, Try.ntmps10
    go_wp2_with fail
    refine (alg12 _ true).mono ?_
    rintro e w' ⟨rfl, rfl⟩
    simp only [algN, bsz]
    go_wp2_with fail
    refine (ledNewF s0).mono ?_
    rintro e w1 ⟨l, rfl, s1⟩
    clear s0
    go_wp2_with fail
    refine (hmacNewF true none [] K HA.out.1 rfl rfl hK1 HA.out.2.2.2.1 (by simp only [tot]; omega) (by decide) (by (repeat (first | with_reducible apply Sat.sub (ledNone s1) | with_reducible apply Sat.alloc' | with_reducible apply Sat.drew | with_reducible apply Sat.drewN)); (repeat (first | with_reducible exact Fr.done | with_reducible exact Fr.nil | (with_reducible apply Fr.cons; (focus ((repeat (first | with_reducible exact Take.here | with_reducible apply Take.there)); done))) | with_reducible apply Fr.skip)); done)).mono ?_
    rintro e w2 ⟨c, rfl, s2⟩
    clear s1
    rw [← hk] at s2
    go_wp2_with fail
    refine (awake12 s2).mono ?_
    rintro e w3 ⟨rfl, s3⟩
    clear s2
    go_wp2_with fail
    refine (hmacFormG 600 true k [] rfl (by decide) (by (repeat (first | with_reducible apply Sat.sub (s3) | with_reducible apply Sat.alloc' | with_reducible apply Sat.drew | with_reducible apply Sat.drewN)); (repeat (first | with_reducible exact Fr.done | with_reducible exact Fr.nil | (with_reducible apply Fr.cons; (focus ((repeat (first | with_reducible exact Take.here | with_reducible apply Take.there)); done))) | with_reducible apply Fr.skip)); done)).mono ?_
    rintro e w4 ⟨q0, d0, rfl, hF0, hd0, s4⟩
    clear s3
    obtain ⟨F0, hF⟩ : ∃ F0, F0 = macForm true k [] := ⟨_, rfl⟩
    rw [← hF] at hF0 s4
    have HF := Lib.hid (And.intro hF0 hF); clear hF0 hF
    go_wp2_with fail
    refine (cutInto M C HA.out.2.1 HA.out.2.2.1 (by omega) (by omega) hM1 HA.out.2.2.2.2.1 (by (repeat (first | with_reducible apply Sat.sub (s4) | with_reducible apply Sat.alloc' | with_reducible apply Sat.drew | with_reducible apply Sat.drewN)); (repeat (first | with_reducible exact Fr.done | with_reducible exact Fr.nil | (with_reducible apply Fr.cons; (focus ((repeat (first | with_reducible exact Take.here | with_reducible apply Take.there)); done))) | with_reducible apply Fr.skip)); done)).mono ?_
    rintro e w5 ⟨qp, cp, ts, rfl, hts0, hfl, hok, s5⟩
    clear s4
    obtain ⟨gp, rfl, hcp, hcp2, s6⟩ := rowSeg s5 hts0
    have s7 : Sat W w5 (mac true c k [] :: ledO (some l) [] :: seg true gp 0 (ts.map pieceV) :: allRo ts :: bytes true q0 F0 :: bytes false p1 K :: bytes false p2 M :: []) := (by (repeat (first | with_reducible apply Sat.sub (s6) | with_reducible apply Sat.alloc' | with_reducible apply Sat.drew | with_reducible apply Sat.drewN)); (repeat (first | with_reducible exact Fr.done | with_reducible exact Fr.nil | (with_reducible apply Fr.cons; (focus ((repeat (first | with_reducible exact Take.here | with_reducible apply Take.there)); done))) | with_reducible apply Fr.skip)); done)
    obtain ⟨N, hN⟩ : ∃ N, N = ts.length := ⟨_, rfl⟩
    rw [← hN] at hts0 hcp ⊢
    obtain ⟨st, hst⟩ : ∃ st, st = y % N := ⟨_, rfl⟩
    have er : (y : Int) % (N : Int) = (st : Int) := by rw [hst]; exact (Int.natCast_emod y N).symm
    have er2 : (y : Int).tmod (N : Int) = (st : Int) := by rw [Int.tmod_eq_emod_of_nonneg (by omega)]; exact er
    have hstN : st < N := by rw [hst]; exact Nat.mod_lt _ hts0
    have hN0 : (N : Int) ≠ 0 := by omega
    have HT := Lib.hid (And.intro hfl (And.intro hok (And.intro hN hk))); clear hfl hok hN s5 s6 hst hk
    go_wp2
    clear er er2 hN0 hy2
    go_loopw [19, 20] (fun t19 t20 wr => ∃ (i : Nat) (cl : Option Nat), i ≤ N ∧ t20 = .int .i64 (i : Int) ∧ t19 = ptrO cl ∧ (cl = none ↔ i ≤ st) ∧ Sat W wr (mac true c k (flatP (ts.take i)) :: macO true cl k (flatP (ts.take st)) :: ledO (some l) (noteN [] (evK true) (evS true) ((flatP (ts.take i)).length / bsz true)) :: seg true gp 0 (ts.map pieceV) :: allRo ts :: bytes true q0 F0 :: bytes false p1 K :: bytes false p2 M :: [])) (fun _ t20 _ => N - (intOf t20).toNat)
    case atStart => exact ⟨0, none, Nat.zero_le _, rfl, rfl, by simp, ((by simpa [flatP, noteN] using s7 : Sat W w5 (mac true c k (flatP (ts.take 0)) :: ledO (some l) (noteN [] (evK true) (evS true) ((flatP (ts.take 0)).length / bsz true)) :: seg true gp 0 (ts.map pieceV) :: allRo ts :: bytes true q0 F0 :: bytes false p1 K :: bytes false p2 M :: [])).emp).pick [1]⟩
    case round =>
      clear s7
      obtain ⟨i, cl, hi, rfl, rfl, hcl, s⟩ := hrel
      by_cases hlt : i < N
      · have hit : i < ts.length := by rw [← HT.out.2.2.1]; exact hlt
        have hft := flatP_take ts i hit
        have hlen := flatP_take_len ts (i + 1)
        rw [HT.out.1, HA.out.2.1] at hlen
        have hokt := HT.out.2.1 ts[i] (List.getElem_mem hit)
        obtain ⟨⟨tp, tc, tb⟩, htt⟩ : ∃ t, t = ts[i] := ⟨_, rfl⟩
        rw [← htt] at hft hokt
        simp only at hft hokt
        have sp : Sat W wr (allRo ts :: mac true c k (flatP (ts.take i)) :: macO true cl k (flatP (ts.take st)) :: ledO (some l) (noteN [] (evK true) (evS true) ((flatP (ts.take i)).length / bsz true)) :: seg true gp 0 (ts.map pieceV) :: bytes true q0 F0 :: bytes false p1 K :: bytes false p2 M :: []) := (by (repeat (first | with_reducible apply Sat.sub (s) | with_reducible apply Sat.alloc' | with_reducible apply Sat.drew | with_reducible apply Sat.drewN)); (repeat (first | with_reducible exact Fr.done | with_reducible exact Fr.nil | (with_reducible apply Fr.cons; (focus ((repeat (first | with_reducible exact Take.here | with_reducible apply Take.there)); done))) | with_reducible apply Fr.skip)); done)
        have sq := allPeek (t := ((tp, tc, tb) : Piece)) sp (by rw [htt]; exact List.getElem_mem hit)
        simp only at sq
        have hG : ∀ wx, Sat W wx (seg true gp 0 (ts.map pieceV) :: []) → gp < wx.heap.size ∧ wx.cell? ⟨gp, i, none⟩ = some (.slice tp tb.length tc) := fun wx h => ⟨h.lt (by rw [List.length_map]; omega), h.at i (by rw [List.getElem?_map, List.getElem?_eq_getElem hit, ← htt]; rfl)⟩
        have HX := Lib.hid (And.intro hft (And.intro hokt (And.intro hlen hG))); clear hft hokt hlen hG htt sp s hit
        by_cases his : i = st
        · have hcn : cl = none := hcl.2 (by omega)
          subst hcn
          subst his
          clear hcl
          obtain ⟨Mi, hMi⟩ : ∃ Mi, Mi = flatP (ts.take i) := ⟨_, rfl⟩
          have hX := HX.out
          rw [← hMi] at hX sq
          obtain ⟨hx1, hx2, hx3, hx4⟩ := hX
          rw [hx1, List.length_append] at hx3
          have HY := Lib.hid (And.intro hMi (And.intro hx2 (And.intro hx3 hx4))); have HY1 := Lib.hid hx1; clear hx1 hx2 hx3 hx4 hMi HX
          go_wp2_with fail
          refine (hmacSumK true none [] K Mi k HT.out.2.2.2 rfl (by have := HY.out.2.2.1; simp only [tot]; omega) (by decide) (by (repeat (first | with_reducible apply Sat.sub (ledNone sq) | with_reducible apply Sat.alloc' | with_reducible apply Sat.drew | with_reducible apply Sat.drewN)); (repeat (first | with_reducible exact Fr.done | with_reducible exact Fr.nil | (with_reducible apply Fr.cons; (focus ((repeat (first | with_reducible exact Take.here | with_reducible apply Take.there)); done))) | with_reducible apply Fr.skip)); done)).mono ?_
          rintro e w6 ⟨q4, d4, rfl, s8⟩
          clear sq
          go_wp2_with fail
          refine (hmacClone true (c := c) k Mi (by (repeat (first | with_reducible apply Sat.sub (s8) | with_reducible apply Sat.alloc' | with_reducible apply Sat.drew | with_reducible apply Sat.drewN)); (repeat (first | with_reducible exact Fr.done | with_reducible exact Fr.nil | (with_reducible apply Fr.cons; (focus ((repeat (first | with_reducible exact Take.here | with_reducible apply Take.there)); done))) | with_reducible apply Fr.skip)); done)).mono ?_
          rintro e w7 ⟨d, rfl, s9⟩
          clear s8
          obtain ⟨zg, cg⟩ := HY.out.2.2.2 _ (Sat.sub (s9) (by (repeat (first | with_reducible exact Fr.done | with_reducible exact Fr.nil | (with_reducible apply Fr.cons; (focus ((repeat (first | with_reducible exact Take.here | with_reducible apply Take.there)); done))) | with_reducible apply Fr.skip))))
          go_wp2_with fail
          refine (hmacWriteF (cap := tc) true (some l) (noteN [] (evK true) (evS true) (Mi.length / bsz true)) k Mi tb rfl rfl HY.out.2.1.1 HY.out.2.1.2 (by rw [tot_noteN]; have := HY.out.2.2.1; have := Nat.div_le_self Mi.length (bsz true); simp only [tot]; omega) (by have := noteN_len [] (evK true) (evS true) (Mi.length / bsz true); simp only [List.length_nil] at this; omega) (by (repeat (first | with_reducible apply Sat.sub (s9) | with_reducible apply Sat.alloc' | with_reducible apply Sat.drew | with_reducible apply Sat.drewN)); (repeat (first | with_reducible exact Fr.done | with_reducible exact Fr.nil | (with_reducible apply Fr.cons; (focus ((repeat (first | with_reducible exact Take.here | with_reducible apply Take.there)); done))) | with_reducible apply Fr.skip)); done)).mono ?_
          rintro e w8 ⟨rfl, s10⟩
          clear s9 zg cg
          rw [noteN_add] at s10
          have HS := Lib.hid s10; clear s10
          go_wp2
          go_roundw
          case rel =>
            refine ⟨i + 1, some d, by omega, by go_num, rfl, by simp, ?_⟩
            have s11 := HS.out
            rw [HY1.out, ← HY.out.1, List.length_append]
            have hdv : Mi.length / bsz true ≤ (Mi.length + tb.length) / bsz true := Nat.div_le_div_right (by omega)
            rw [Nat.add_sub_cancel' hdv] at s11
            have s12 : Sat W w8 (mac true c k (Mi ++ tb) :: mac true d k Mi :: ledO (some l) (noteN [] (evK true) (evS true) ((Mi.length + tb.length) / bsz true)) :: seg true gp 0 (ts.map pieceV) :: allRo ts :: bytes true q0 F0 :: bytes false p1 K :: bytes false p2 M :: []) := (by (repeat (first | with_reducible apply Sat.sub (s11) | with_reducible apply Sat.alloc' | with_reducible apply Sat.drew | with_reducible apply Sat.drewN)); (repeat (first | with_reducible exact Fr.done | with_reducible exact Fr.nil | (with_reducible apply Fr.cons; (focus ((repeat (first | with_reducible exact Take.here | with_reducible apply Take.there)); done))) | with_reducible apply Fr.skip)); done)
            exact s12
          case measure => simp [intOf]; omega
        · obtain ⟨Mi, hMi⟩ : ∃ Mi, Mi = flatP (ts.take i) := ⟨_, rfl⟩
          have hX := HX.out
          rw [← hMi] at hX sq
          obtain ⟨hx1, hx2, hx3, hx4⟩ := hX
          rw [hx1, List.length_append] at hx3
          have HY := Lib.hid (And.intro hMi (And.intro hx2 (And.intro hx3 hx4))); have HY1 := Lib.hid hx1; clear hx1 hx2 hx3 hx4 hMi HX
          have HC := Lib.hid hcl; clear hcl
          obtain ⟨zg, cg⟩ := HY.out.2.2.2 _ (Sat.sub (sq) (by (repeat (first | with_reducible exact Fr.done | with_reducible exact Fr.nil | (with_reducible apply Fr.cons; (focus ((repeat (first | with_reducible exact Take.here | with_reducible apply Take.there)); done))) | with_reducible apply Fr.skip))))
          go_wp2_with fail
          refine (hmacWriteF (cap := tc) true (some l) (noteN [] (evK true) (evS true) (Mi.length / bsz true)) k Mi tb rfl rfl HY.out.2.1.1 HY.out.2.1.2 (by rw [tot_noteN]; have := HY.out.2.2.1; have := Nat.div_le_self Mi.length (bsz true); simp only [tot]; omega) (by have := noteN_len [] (evK true) (evS true) (Mi.length / bsz true); simp only [List.length_nil] at this; omega) (by (repeat (first | with_reducible apply Sat.sub (sq) | with_reducible apply Sat.alloc' | with_reducible apply Sat.drew | with_reducible apply Sat.drewN)); (repeat (first | with_reducible exact Fr.done | with_reducible exact Fr.nil | (with_reducible apply Fr.cons; (focus ((repeat (first | with_reducible exact Take.here | with_reducible apply Take.there)); done))) | with_reducible apply Fr.skip)); done)).mono ?_
          rintro e w8 ⟨rfl, s10⟩
          clear sq zg cg
          rw [noteN_add] at s10
          have HS := Lib.hid s10; clear s10
          go_wp2
          go_roundw
          case rel =>
            refine ⟨i + 1, cl, by omega, by go_num, rfl, ?_, ?_⟩
            · rw [HC.out]; omega
            have s11 := HS.out
            rw [HY1.out, List.length_append]
            have hdv : Mi.length / bsz true ≤ (Mi.length + tb.length) / bsz true := Nat.div_le_div_right (by omega)
            rw [Nat.add_sub_cancel' hdv] at s11
            exact (by (repeat (first | with_reducible apply Sat.sub (s11) | with_reducible apply Sat.alloc' | with_reducible apply Sat.drew | with_reducible apply Sat.drewN)); (repeat (first | with_reducible exact Fr.done | with_reducible exact Fr.nil | (with_reducible apply Fr.cons; (focus ((repeat (first | with_reducible exact Take.here | with_reducible apply Take.there)); done))) | with_reducible apply Fr.skip)); done)
          case measure => simp [intOf]; omega
      · have hiN : i = N := by omega
        obtain ⟨d, rfl⟩ : ∃ d, cl = some d := by
          cases cl with
          | none => have := hcl.1 rfl; omega
          | some d => exact ⟨d, rfl⟩
        clear hcl
        rw [hiN, HT.out.2.2.1, List.take_of_length_le (Nat.le_refl _), HT.out.1, HA.out.2.1] at s
        have s8 : Sat W wr (mac true d k (flatP (ts.take st)) :: mac true c k M :: ledO (some l) (noteN [] (evK true) (evS true) (n2 / bsz true)) :: seg true gp 0 (ts.map pieceV) :: allRo ts :: bytes true q0 F0 :: bytes false p1 K :: bytes false p2 M :: []) := s.pick [1]
        clear s hiN
        simp only [ptrO, Option.map_some]
        go_wp2
        go_loopw [23] (fun t23 wr => ∃ j : Nat, st ≤ j ∧ j ≤ N ∧ t23 = .int .i64 (j : Int) ∧ Sat W wr (mac true d k (flatP (ts.take j)) :: mac true c k M :: ledO (some l) (noteN [] (evK true) (evS true) (n2 / bsz true)) :: seg true gp 0 (ts.map pieceV) :: allRo ts :: bytes true q0 F0 :: bytes false p1 K :: bytes false p2 M :: [])) (fun t23 _ => N - (intOf t23).toNat)
        case atStart => exact ⟨st, Nat.le_refl _, by omega, rfl, s8⟩
        case round =>
          clear s8
          obtain ⟨j, hj0, hj, rfl, s⟩ := hrel
          by_cases hlt : j < N
          · have hit : j < ts.length := by rw [← HT.out.2.2.1]; exact hlt
            have hft := flatP_take ts j hit
            have hlen := flatP_take_len ts (j + 1)
            rw [HT.out.1, HA.out.2.1] at hlen
            have hokt := HT.out.2.1 ts[j] (List.getElem_mem hit)
            obtain ⟨⟨tp, tc, tb⟩, htt⟩ : ∃ t, t = ts[j] := ⟨_, rfl⟩
            rw [← htt] at hft hokt
            simp only at hft hokt
            obtain ⟨Mi, hMi⟩ : ∃ Mi, Mi = flatP (ts.take j) := ⟨_, rfl⟩
            rw [← hMi] at hft s
            rw [hft, List.length_append] at hlen
            have sp : Sat W wr (allRo ts :: mac true d k Mi :: mac true c k M :: ledO (some l) (noteN [] (evK true) (evS true) (n2 / bsz true)) :: seg true gp 0 (ts.map pieceV) :: bytes true q0 F0 :: bytes false p1 K :: bytes false p2 M :: []) := (by (repeat (first | with_reducible apply Sat.sub (s) | with_reducible apply Sat.alloc' | with_reducible apply Sat.drew | with_reducible apply Sat.drewN)); (repeat (first | with_reducible exact Fr.done | with_reducible exact Fr.nil | (with_reducible apply Fr.cons; (focus ((repeat (first | with_reducible exact Take.here | with_reducible apply Take.there)); done))) | with_reducible apply Fr.skip)); done)
            have sq := allPeek (t := ((tp, tc, tb) : Piece)) sp (by rw [htt]; exact List.getElem_mem hit)
            simp only at sq
            have sg : Sat W wr (seg true gp 0 (ts.map pieceV) :: []) := (by (repeat (first | with_reducible apply Sat.sub (s) | with_reducible apply Sat.alloc' | with_reducible apply Sat.drew | with_reducible apply Sat.drewN)); (repeat (first | with_reducible exact Fr.done | with_reducible exact Fr.nil | (with_reducible apply Fr.cons; (focus ((repeat (first | with_reducible exact Take.here | with_reducible apply Take.there)); done))) | with_reducible apply Fr.skip)); done)
            have zg := sg.lt (by rw [List.length_map]; omega)
            have cg := sg.at j (v := .slice tp tb.length tc) (by rw [List.getElem?_map, List.getElem?_eq_getElem hit, ← htt]; rfl)
            have HX := Lib.hid (And.intro hft (And.intro hokt hlen)); clear hft hokt hlen htt sp s hit hMi sg
            go_wp2_with fail
            refine (hmacWriteF (cap := tc) true none [] k Mi tb rfl rfl HX.out.2.1.1 HX.out.2.1.2 (by have := HX.out.2.2; simp only [tot]; omega) (by decide) (by (repeat (first | with_reducible apply Sat.sub (ledNone sq) | with_reducible apply Sat.alloc' | with_reducible apply Sat.drew | with_reducible apply Sat.drewN)); (repeat (first | with_reducible exact Fr.done | with_reducible exact Fr.nil | (with_reducible apply Fr.cons; (focus ((repeat (first | with_reducible exact Take.here | with_reducible apply Take.there)); done))) | with_reducible apply Fr.skip)); done)).mono ?_
            rintro e w8 ⟨rfl, s10⟩
            clear sq zg cg
            have HS := Lib.hid s10; clear s10
            go_wp2
            go_roundw
            case rel =>
              refine ⟨j + 1, by omega, by omega, by go_num, ?_⟩
              have s11 := HS.out
              rw [HX.out.1]
              exact (by (repeat (first | with_reducible apply Sat.sub (s11) | with_reducible apply Sat.alloc' | with_reducible apply Sat.drew | with_reducible apply Sat.drewN)); (repeat (first | with_reducible exact Fr.done | with_reducible exact Fr.nil | (with_reducible apply Fr.cons; (focus ((repeat (first | with_reducible exact Take.here | with_reducible apply Take.there)); done))) | with_reducible apply Fr.skip)); done)
            case measure => simp [intOf]; omega
          · have hjN : j = N := by omega
            rw [hjN, HT.out.2.2.1, List.take_of_length_le (Nat.le_refl _), HT.out.1] at s
            have s9 : Sat W wr (ledO (some l) (noteN [] (evK true) (evS true) (n2 / bsz true)) :: mac true c k M :: mac true d k M :: bytes true q0 F0 :: bytes false p1 K :: bytes false p2 M :: []) := (by (repeat (first | with_reducible apply Sat.sub (s) | with_reducible apply Sat.alloc' | with_reducible apply Sat.drew | with_reducible apply Sat.drewN)); (repeat (first | with_reducible exact Fr.done | with_reducible exact Fr.nil | (with_reducible apply Fr.cons; (focus ((repeat (first | with_reducible exact Take.here | with_reducible apply Take.there)); done))) | with_reducible apply Fr.skip)); done)
            clear s hjN
            obtain ⟨R, hR⟩ : ∃ R, R = noteN [] (evK true) (evS true) (n2 / bsz true) := ⟨_, rfl⟩
            rw [← hR] at s9
            have hRt : tot R = n2 / bsz true := by rw [hR, tot_noteN]; simp [tot]
            have hRl : R.length ≤ 1 := by rw [hR]; exact noteN_len _ _ _ _
            obtain ⟨blk, hblk⟩ : ∃ blk, blk = n2 / bsz true + endN true n2 := ⟨_, rfl⟩
            have hRe : noteN R (evK true) (evS true) (endN true n2) = [(evK true, evS true, blk)] := by
              rw [hR, noteN_add, ← hblk]
              exact noteN_one _ _ _ (by rw [hblk]; unfold endN; omega)
            simp only [endN, padN, roomN, bsz] at hblk
            have hq : ((n2 : Int) + 16) / 128 + 2 = (blk : Int) := by omega
            have hRt2 : tot R ≤ 1048576 := by rw [hRt]; have := Nat.div_le_self n2 (bsz true); omega
            have hT := hmac_len true K M
            have HR := Lib.hid (And.intro hRe (And.intro hRt2 (And.intro hRl (And.intro hq hT)))); clear hRe hRt2 hRl hRt hblk hR hq hT
            go_wp2_with fail
            refine (hmacSumK true (some l) R K M k HT.out.2.2.2 rfl (by have := HR.out.2.1; rw [HA.out.2.1]; omega) (by have := HR.out.2.2.1; omega) s9).mono ?_
            rintro e w6 ⟨q1, d1, rfl, s10⟩
            clear s9
            rw [HA.out.2.1, HR.out.1] at s10
            simp only [hsz]
            go_wp2_with fail
            refine (hmacSumK true (c := d) none [] K M k HT.out.2.2.2 rfl (by rw [HA.out.2.1]; simp only [tot]; omega) (by decide) (by (repeat (first | with_reducible apply Sat.sub (ledNone s10) | with_reducible apply Sat.alloc' | with_reducible apply Sat.drew | with_reducible apply Sat.drewN)); (repeat (first | with_reducible exact Fr.done | with_reducible exact Fr.nil | (with_reducible apply Fr.cons; (focus ((repeat (first | with_reducible exact Take.here | with_reducible apply Take.there)); done))) | with_reducible apply Fr.skip)); done)).mono ?_
            rintro e w7 ⟨q2, d2, rfl, s11⟩
            clear s10
            simp only [hsz]
            go_wp2_with fail
            refine (hmacTagF true none [] K M HA.out.1 HA.out.2.1 rfl rfl hK1 HA.out.2.2.2.1 hM1 HA.out.2.2.2.2.1 (by simp only [tot]; omega) (by decide) (by (repeat (first | with_reducible apply Sat.sub (ledNone s11) | with_reducible apply Sat.alloc' | with_reducible apply Sat.drew | with_reducible apply Sat.drewN)); (repeat (first | with_reducible exact Fr.done | with_reducible exact Fr.nil | (with_reducible apply Fr.cons; (focus ((repeat (first | with_reducible exact Take.here | with_reducible apply Take.there)); done))) | with_reducible apply Fr.skip)); done)).mono ?_
            rintro e w8 ⟨q3, d3, rfl, -, -, s12'⟩
            clear s11
            simp only [hsz]
            obtain ⟨T, hTe⟩ : ∃ T, T = hmac true K M := ⟨_, rfl⟩
            have hTl : T.length = hsz true := by rw [hTe]; exact HR.out.2.2.2.2
            have s12 : Sat W w8 (bytes true q3 (hmac true K M) :: bytes true q2 (hmac true K M) :: bytes true q1 (hmac true K M) :: mac true c k M :: mac true d k M :: ledO (some l) [(evK true, evS true, blk)] :: bytes true q0 F0 :: bytes false p2 M :: []) := (by (repeat (first | with_reducible apply Sat.sub (s12') | with_reducible apply Sat.alloc' | with_reducible apply Sat.drew | with_reducible apply Sat.drewN)); (repeat (first | with_reducible exact Fr.done | with_reducible exact Fr.nil | (with_reducible apply Fr.cons; (focus ((repeat (first | with_reducible exact Take.here | with_reducible apply Take.there)); done))) | with_reducible apply Fr.skip)); done)
            rw [← hTe] at s12
            clear s12'
            have HTl := Lib.hid (And.intro hTl hTe); clear hTl hTe
            have hq := HR.out.2.2.2.1
            go_wp2_with fail
            refine (hmacSize true (c := c) k M (by (repeat (first | with_reducible apply Sat.sub (s12) | with_reducible apply Sat.alloc' | with_reducible apply Sat.drew | with_reducible apply Sat.drewN)); (repeat (first | with_reducible exact Fr.done | with_reducible exact Fr.nil | (with_reducible apply Fr.cons; (focus ((repeat (first | with_reducible exact Take.here | with_reducible apply Take.there)); done))) | with_reducible apply Fr.skip)); done)).mono ?_
            rintro e w' ⟨rfl, rfl⟩
            simp only [hsz]
            go_wp2_with fail
            refine (sameT T T HTl.out.1 HTl.out.1 (by decide) rfl ((by (repeat (first | with_reducible apply Sat.sub (s12) | with_reducible apply Sat.alloc' | with_reducible apply Sat.drew | with_reducible apply Sat.drewN)); (repeat (first | with_reducible exact Fr.done | with_reducible exact Fr.nil | (with_reducible apply Fr.cons; (focus ((repeat (first | with_reducible exact Take.here | with_reducible apply Take.there)); done))) | with_reducible apply Fr.skip)); done) : Sat W w8 (bytes true q1 T :: bytes true q2 T :: bytes true q3 T :: mac true c k M :: mac true d k M :: ledO (some l) [(evK true, evS true, blk)] :: bytes true q0 F0 :: bytes false p2 M :: []))).mono ?_
            rintro e w9 ⟨rfl, s13⟩
            clear s12
            go_wp2_with fail
            refine (sameT T T HTl.out.1 HTl.out.1 (by decide) rfl ((by (repeat (first | with_reducible apply Sat.sub (s13) | with_reducible apply Sat.alloc' | with_reducible apply Sat.drew | with_reducible apply Sat.drewN)); (repeat (first | with_reducible exact Fr.done | with_reducible exact Fr.nil | (with_reducible apply Fr.cons; (focus ((repeat (first | with_reducible exact Take.here | with_reducible apply Take.there)); done))) | with_reducible apply Fr.skip)); done) : Sat W w9 (bytes true q1 T :: bytes true q3 T :: mac true c k M :: mac true d k M :: ledO (some l) [(evK true, evS true, blk)] :: bytes true q0 F0 :: bytes false p2 M :: []))).mono ?_
            rintro e w10 ⟨rfl, s14⟩
            clear s13
            go_wp2_with fail
            refine (hmacFormG 600 true (c := c) k M rfl (by rw [HA.out.2.1]; omega) (by (repeat (first | with_reducible apply Sat.sub (s14) | with_reducible apply Sat.alloc' | with_reducible apply Sat.drew | with_reducible apply Sat.drewN)); (repeat (first | with_reducible exact Fr.done | with_reducible exact Fr.nil | (with_reducible apply Fr.cons; (focus ((repeat (first | with_reducible exact Take.here | with_reducible apply Take.there)); done))) | with_reducible apply Fr.skip)); done)).mono ?_
            rintro e w11 ⟨q4, d4, rfl, hF1, hd4, s15⟩
            clear s14
            go_wp2_with fail
            refine (hmacFormG 600 true (c := d) k M rfl (by rw [HA.out.2.1]; omega) (by (repeat (first | with_reducible apply Sat.sub (s15) | with_reducible apply Sat.alloc' | with_reducible apply Sat.drew | with_reducible apply Sat.drewN)); (repeat (first | with_reducible exact Fr.done | with_reducible exact Fr.nil | (with_reducible apply Fr.cons; (focus ((repeat (first | with_reducible exact Take.here | with_reducible apply Take.there)); done))) | with_reducible apply Fr.skip)); done)).mono ?_
            rintro e w12 ⟨q5, d5, rfl, -, hd5, s16⟩
            clear s15
            obtain ⟨F1, hF1e⟩ : ∃ F1, F1 = macForm true k M := ⟨_, rfl⟩
            rw [← hF1e] at hF1 s16
            have HF1 := Lib.hid (And.intro hF1 hF1e); clear hF1 hF1e
            go_wp2_with fail
            refine (sameT F1 F1 HF1.out.1 HF1.out.1 (by decide) rfl ((by (repeat (first | with_reducible apply Sat.sub (s16) | with_reducible apply Sat.alloc' | with_reducible apply Sat.drew | with_reducible apply Sat.drewN)); (repeat (first | with_reducible exact Fr.done | with_reducible exact Fr.nil | (with_reducible apply Fr.cons; (focus ((repeat (first | with_reducible exact Take.here | with_reducible apply Take.there)); done))) | with_reducible apply Fr.skip)); done) : Sat W w12 (bytes true q4 F1 :: bytes true q5 F1 :: bytes true q1 T :: mac true c k M :: mac true d k M :: ledO (some l) [(evK true, evS true, blk)] :: bytes true q0 F0 :: bytes false p2 M :: []))).mono ?_
            rintro e w13 ⟨rfl, s17⟩
            clear s16
            go_wp2_with fail
            refine (ledRunsF (l := l) (rs := [(evK true, evS true, blk)]) (by simp) (by (repeat (first | with_reducible apply Sat.sub (s17) | with_reducible apply Sat.alloc' | with_reducible apply Sat.drew | with_reducible apply Sat.drewN)); (repeat (first | with_reducible exact Fr.done | with_reducible exact Fr.nil | (with_reducible apply Fr.cons; (focus ((repeat (first | with_reducible exact Take.here | with_reducible apply Take.there)); done))) | with_reducible apply Fr.skip)); done)).mono ?_
            rintro e w14 ⟨q6, d6, rfl, s18⟩
            clear s17
            go_wp2_with fail
            skip
            refine (events12 true blk s18).mono ?_
            rintro e w15 ⟨g7, rfl, s19⟩
            clear s18
            go_wp2_with fail
            refine (sameRuns [(evK true, evS true, blk)] (by rfl) (by rfl) (by simp) (by (repeat (first | with_reducible apply Sat.sub (s19) | with_reducible apply Sat.alloc' | with_reducible apply Sat.drew | with_reducible apply Sat.drewN)); (repeat (first | with_reducible exact Fr.done | with_reducible exact Fr.nil | (with_reducible apply Fr.cons; (focus ((repeat (first | with_reducible exact Take.here | with_reducible apply Take.there)); done))) | with_reducible apply Fr.skip)); done)).mono ?_
            rintro e w16 ⟨rfl, s20⟩
            clear s19
            go_wp2_with fail
            refine (hmacFormG 600 true (c := d) k M rfl (by rw [HA.out.2.1]; omega) (by (repeat (first | with_reducible apply Sat.sub (s20) | with_reducible apply Sat.alloc' | with_reducible apply Sat.drew | with_reducible apply Sat.drewN)); (repeat (first | with_reducible exact Fr.done | with_reducible exact Fr.nil | (with_reducible apply Fr.cons; (focus ((repeat (first | with_reducible exact Take.here | with_reducible apply Take.there)); done))) | with_reducible apply Fr.skip)); done)).mono ?_
            rintro e w17 ⟨q8, d8, rfl, -, hd8, s21⟩
            clear s20
            rw [← HF1.out.2] at s21
            go_wp2_with fail
            refine (hmacReset true (c := c) k M (by (repeat (first | with_reducible apply Sat.sub (s21) | with_reducible apply Sat.alloc' | with_reducible apply Sat.drew | with_reducible apply Sat.drewN)); (repeat (first | with_reducible exact Fr.done | with_reducible exact Fr.nil | (with_reducible apply Fr.cons; (focus ((repeat (first | with_reducible exact Take.here | with_reducible apply Take.there)); done))) | with_reducible apply Fr.skip)); done)).mono ?_
            rintro e w18 ⟨rfl, s22⟩
            clear s21
            go_wp2_with fail
            refine (hmacFormG 600 true (c := c) k [] rfl (by decide) (by (repeat (first | with_reducible apply Sat.sub (s22) | with_reducible apply Sat.alloc' | with_reducible apply Sat.drew | with_reducible apply Sat.drewN)); (repeat (first | with_reducible exact Fr.done | with_reducible exact Fr.nil | (with_reducible apply Fr.cons; (focus ((repeat (first | with_reducible exact Take.here | with_reducible apply Take.there)); done))) | with_reducible apply Fr.skip)); done)).mono ?_
            rintro e w19 ⟨q9, d9, rfl, -, hd9, s23⟩
            clear s22
            rw [← HF.out.2] at s23
            go_wp2_with fail
            refine (sameT F0 F0 HF.out.1 HF.out.1 (by decide) rfl ((by (repeat (first | with_reducible apply Sat.sub (s23) | with_reducible apply Sat.alloc' | with_reducible apply Sat.drew | with_reducible apply Sat.drewN)); (repeat (first | with_reducible exact Fr.done | with_reducible exact Fr.nil | (with_reducible apply Fr.cons; (focus ((repeat (first | with_reducible exact Take.here | with_reducible apply Take.there)); done))) | with_reducible apply Fr.skip)); done) : Sat W w19 (bytes true q9 F0 :: bytes true q0 F0 :: mac true c k [] :: bytes true q8 F1 :: bytes true q1 T :: mac true d k M :: bytes false p2 M :: []))).mono ?_
            rintro e w20 ⟨rfl, s24⟩
            clear s23
            go_wp2_with fail
            refine (hmacWriteF (c := c) true none [] k [] M HA.out.2.1 rfl hM1 HA.out.2.2.2.2.1 (by simp only [tot, List.length_nil]; omega) (by decide) (by (repeat (first | with_reducible apply Sat.sub (ledNone s24) | with_reducible apply Sat.alloc' | with_reducible apply Sat.drew | with_reducible apply Sat.drewN)); (repeat (first | with_reducible exact Fr.done | with_reducible exact Fr.nil | (with_reducible apply Fr.cons; (focus ((repeat (first | with_reducible exact Take.here | with_reducible apply Take.there)); done))) | with_reducible apply Fr.skip)); done)).mono ?_
            rintro e w21 ⟨rfl, s25⟩
            clear s24
            simp only [List.nil_append] at s25
            go_wp2_with fail
            refine (hmacFormG 600 true (c := c) k M rfl (by rw [HA.out.2.1]; omega) (by (repeat (first | with_reducible apply Sat.sub (s25) | with_reducible apply Sat.alloc' | with_reducible apply Sat.drew | with_reducible apply Sat.drewN)); (repeat (first | with_reducible exact Fr.done | with_reducible exact Fr.nil | (with_reducible apply Fr.cons; (focus ((repeat (first | with_reducible exact Take.here | with_reducible apply Take.there)); done))) | with_reducible apply Fr.skip)); done)).mono ?_
            rintro e w22 ⟨q10, d10, rfl, -, hd10, s26⟩
            clear s25
            rw [← HF1.out.2] at s26
            go_wp2_with fail
            refine (sameT F1 F1 HF1.out.1 HF1.out.1 (by decide) rfl ((by (repeat (first | with_reducible apply Sat.sub (s26) | with_reducible apply Sat.alloc' | with_reducible apply Sat.drew | with_reducible apply Sat.drewN)); (repeat (first | with_reducible exact Fr.done | with_reducible exact Fr.nil | (with_reducible apply Fr.cons; (focus ((repeat (first | with_reducible exact Take.here | with_reducible apply Take.there)); done))) | with_reducible apply Fr.skip)); done) : Sat W w22 (bytes true q10 F1 :: bytes true q8 F1 :: mac true c k M :: bytes true q1 T :: mac true d k M :: []))).mono ?_
            rintro e w23 ⟨rfl, s27⟩
            clear s26
            go_wp2_with fail
            refine (hmacSumK true (c := c) none [] K M k HT.out.2.2.2 rfl (by rw [HA.out.2.1]; simp only [tot]; omega) (by decide) (by (repeat (first | with_reducible apply Sat.sub (ledNone s27) | with_reducible apply Sat.alloc' | with_reducible apply Sat.drew | with_reducible apply Sat.drewN)); (repeat (first | with_reducible exact Fr.done | with_reducible exact Fr.nil | (with_reducible apply Fr.cons; (focus ((repeat (first | with_reducible exact Take.here | with_reducible apply Take.there)); done))) | with_reducible apply Fr.skip)); done)).mono ?_
            rintro e w24 ⟨q11, d11, rfl, s28⟩
            clear s27
            rw [← HTl.out.2] at s28
            simp only [hsz]
            go_wp2_with fail
            refine (sameT T T HTl.out.1 HTl.out.1 (by decide) rfl ((by (repeat (first | with_reducible apply Sat.sub (s28) | with_reducible apply Sat.alloc' | with_reducible apply Sat.drew | with_reducible apply Sat.drewN)); (repeat (first | with_reducible exact Fr.done | with_reducible exact Fr.nil | (with_reducible apply Fr.cons; (focus ((repeat (first | with_reducible exact Take.here | with_reducible apply Take.there)); done))) | with_reducible apply Fr.skip)); done) : Sat W w24 (bytes true q11 T :: bytes true q1 T :: bytes true q8 F1 :: mac true d k M :: []))).mono ?_
            rintro e w25 ⟨rfl, s29⟩
            clear s28
            go_wp2_with fail
            refine (hmacFormG 600 true (c := d) k M rfl (by rw [HA.out.2.1]; omega) (by (repeat (first | with_reducible apply Sat.sub (s29) | with_reducible apply Sat.alloc' | with_reducible apply Sat.drew | with_reducible apply Sat.drewN)); (repeat (first | with_reducible exact Fr.done | with_reducible exact Fr.nil | (with_reducible apply Fr.cons; (focus ((repeat (first | with_reducible exact Take.here | with_reducible apply Take.there)); done))) | with_reducible apply Fr.skip)); done)).mono ?_
            rintro e w26 ⟨q12, d12, rfl, -, hd12, s30⟩
            clear s29
            rw [← HF1.out.2] at s30
            go_wp2_with fail
            refine (sameT F1 F1 HF1.out.1 HF1.out.1 (by decide) rfl ((by (repeat (first | with_reducible apply Sat.sub (s30) | with_reducible apply Sat.alloc' | with_reducible apply Sat.drew | with_reducible apply Sat.drewN)); (repeat (first | with_reducible exact Fr.done | with_reducible exact Fr.nil | (with_reducible apply Fr.cons; (focus ((repeat (first | with_reducible exact Take.here | with_reducible apply Take.there)); done))) | with_reducible apply Fr.skip)); done) : Sat W w26 (bytes true q12 F1 :: bytes true q8 F1 :: []))).mono ?_
            rintro e w27 ⟨rfl, s31⟩
            go_wp2
            go_ret
            exact ⟨rfl, s31.below⟩
theorem u8_byteP (z : Int) (hw : (Lit.int .u8 z).wf = true) : ∃ b : Byte, z = v8 b := by
  simp only [Lit.wf, Bool.and_eq_true, decide_eq_true_eq] at hw
  have h1 : IntKind.u8.min = 0 := rfl
  have h2 : IntKind.u8.max = 255 := rfl
  rw [h1, h2] at hw
  exact ⟨BitVec.ofInt 8 z, by rw [v8_ofInt z (by omega) (by omega)]⟩
theorem hpieces_u8 (W : World) (wide : Bool) (a1 a2 a3 : Option Addr × Nat × Nat × List Byte) (z : Int) (h1 : IsBytes W a1.1 a1.2.1 a1.2.2.1 a1.2.2.2) (h2 : IsBytes W a2.1 a2.2.1 a2.2.2.1 a2.2.2.2) (h3 : IsBytes W a3.1 a3.2.1 a3.2.2.1 a3.2.2.2) (hz : (Lit.int .u8 z).wf = true) (hb1 : a1.2.2.1 ≤ 1048576) (hb2 : a2.2.2.1 ≤ 1048576) (hb3 : a3.2.2.1 ≤ 1048576) :
    Calls Try.prog 10 #[.bool wide, .slice a1.1 a1.2.1 a1.2.2.1, .slice a2.1 a2.2.1 a2.2.2.1, .slice a3.1 a3.2.1 a3.2.2.1, .int .u8 z] W fun e W' => e = .returned (.bool true) ∧ Below W.heap.size W W' := by
  obtain ⟨b, rfl⟩ := u8_byteP z hz
  exact hpieces_any W wide a1 a2 a3 b h1 h2 h3 hb1 hb2 hb3
end Go.Proofs.Ytmohabidfalhoaa
