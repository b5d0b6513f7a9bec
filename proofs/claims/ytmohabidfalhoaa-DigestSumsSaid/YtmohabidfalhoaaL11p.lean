/- DigestPieces: however a message is cut, the digest and the events are those of the whole; where the arguments read as bytes, of bulk at most 1048576. -/
import Derived.Test.YtmohabidfalhoaaL11
import Derived.Test.YtmohabidfalhoaaCut
import Derived.Test.YtmohabidfalhoaaArg
namespace Go.Proofs.Ytmohabidfalhoaa
open Go.RowKit Go.Sep Go.Bv Go.Sha
set_option linter.unusedVariables false
set_option linter.unusedSimpArgs false
@[go_sem] theorem eqlG26 (f : FuncId) (w : World) : (binOp .eql 26 (.func (.func f) #[] #[]) .nilFunc).run Try.prog w = .ok (.bool false) w := by kernel_rfl
@[go_sem] theorem eqlG27 (f : FuncId) (w : World) : (binOp .eql 27 (.func (.func f) #[] #[]) .nilFunc).run Try.prog w = .ok (.bool false) w := by kernel_rfl
@[go_sem] theorem eqlI0 (b : Nat) (w : World) : (binOp .eql 57 (.iface 99 (.agg #[.pointer (some ⟨b, 0, none⟩)])) .nilIface).run Try.prog w = .ok (.bool false) w := by kernel_rfl
@[go_sem] theorem eqlI1 (b : Nat) (w : World) : (binOp .eql 57 (.iface 103 (.agg #[.pointer (some ⟨b, 0, none⟩)])) .nilIface).run Try.prog w = .ok (.bool false) w := by kernel_rfl
@[go_sem] theorem nilA0 (b : Nat) (w : World) : (nilAhead 307 99 (.agg #[.pointer (some ⟨b, 0, none⟩)]) "Write").run Try.prog w = .ok (some false) w := by kernel_rfl
@[go_sem] theorem nilA1 (b : Nat) (w : World) : (nilAhead 307 103 (.agg #[.pointer (some ⟨b, 0, none⟩)]) "Write").run Try.prog w = .ok (some false) w := by kernel_rfl
@[go_sem] theorem meth0_sum (b : Nat) (w : World) : (method 307 99 (.agg #[.pointer (some ⟨b, 0, none⟩)]) "Sum").run Try.prog w = .ok (90, .pointer (some ⟨b, 0, none⟩)) w := by kernel_rfl
@[go_sem] theorem meth0_write (b : Nat) (w : World) : (method 307 99 (.agg #[.pointer (some ⟨b, 0, none⟩)]) "Write").run Try.prog w = .ok (171, .pointer (some ⟨b, 0, none⟩)) w := by kernel_rfl
@[go_sem] theorem meth0_wipe (b : Nat) (w : World) : (method 307 99 (.agg #[.pointer (some ⟨b, 0, none⟩)]) "Wipe").run Try.prog w = .ok (170, .pointer (some ⟨b, 0, none⟩)) w := by kernel_rfl
@[go_sem] theorem meth0_form (b : Nat) (w : World) : (method 307 99 (.agg #[.pointer (some ⟨b, 0, none⟩)]) "Form").run Try.prog w = .ok (168, .pointer (some ⟨b, 0, none⟩)) w := by kernel_rfl
@[go_sem] theorem meth0_copy (b : Nat) (w : World) : (method 307 99 (.agg #[.pointer (some ⟨b, 0, none⟩)]) "Copy").run Try.prog w = .ok (172, .agg #[.pointer (some ⟨b, 0, none⟩)]) w := by kernel_rfl
@[go_sem] theorem meth1_sum (b : Nat) (w : World) : (method 307 103 (.agg #[.pointer (some ⟨b, 0, none⟩)]) "Sum").run Try.prog w = .ok (93, .pointer (some ⟨b, 0, none⟩)) w := by kernel_rfl
@[go_sem] theorem meth1_write (b : Nat) (w : World) : (method 307 103 (.agg #[.pointer (some ⟨b, 0, none⟩)]) "Write").run Try.prog w = .ok (92, .pointer (some ⟨b, 0, none⟩)) w := by kernel_rfl
@[go_sem] theorem meth1_wipe (b : Nat) (w : World) : (method 307 103 (.agg #[.pointer (some ⟨b, 0, none⟩)]) "Wipe").run Try.prog w = .ok (176, .pointer (some ⟨b, 0, none⟩)) w := by kernel_rfl
@[go_sem] theorem meth1_form (b : Nat) (w : World) : (method 307 103 (.agg #[.pointer (some ⟨b, 0, none⟩)]) "Form").run Try.prog w = .ok (174, .pointer (some ⟨b, 0, none⟩)) w := by kernel_rfl
@[go_sem] theorem meth1_copy (b : Nat) (w : World) : (method 307 103 (.agg #[.pointer (some ⟨b, 0, none⟩)]) "Copy").run Try.prog w = .ok (177, .agg #[.pointer (some ⟨b, 0, none⟩)]) w := by kernel_rfl
abbrev tRun : TypeId := 63
theorem rowSeg {W0 w : World} {L : List Assn} {p : Option Addr} {c sz n : Nat} {vs : List Value} (h : Sat W0 w (row p c sz n vs :: L)) (hn : 0 < n) : ∃ g, p = some ⟨g, 0, none⟩ ∧ n ≤ c ∧ c ≤ 9223372036854775807 ∧ Sat W0 w (seg true g 0 vs :: L) := by
  obtain ⟨hl, ⟨rfl, rfl, h0, hx, h1⟩ | ⟨g, rest, rfl, h1, h2, h3, h4⟩⟩ := h.rowOpen
  · omega
  · exact ⟨g, rfl, h1, h2, (h4.part (q := 0 + vs.length) rfl).drop 1⟩
theorem hc_false {W0 w : World} {L : List Assn} {b : Nat} (h : Sat W0 w (seg true b 0 (hcells false) :: L)) : b < w.heap.size ∧ w.cell? ⟨b, 0, none⟩ = some (.int .u8 1) ∧ w.cell? ⟨b, 1, none⟩ = some (.int .i64 32) ∧ w.cell? ⟨b, 2, none⟩ = some (.int .i64 64) ∧ w.cell? ⟨b, 3, none⟩ = some (.int .u8 1) ∧ w.cell? ⟨b, 4, none⟩ = some (.int .i64 64) ∧ w.cell? ⟨b, 5, none⟩ = some (.func (.func 65) #[] #[]) ∧ w.cell? ⟨b, 6, none⟩ = some (.func (.func 67) #[] #[]) :=
  ⟨h.lt (by simp [hcells]), h.at 0 rfl, h.at 1 rfl, h.at 2 rfl, h.at 3 rfl, h.at 4 rfl, h.at 5 rfl, h.at 6 rfl⟩
theorem hc_true {W0 w : World} {L : List Assn} {b : Nat} (h : Sat W0 w (seg true b 0 (hcells true) :: L)) : b < w.heap.size ∧ w.cell? ⟨b, 0, none⟩ = some (.int .u8 2) ∧ w.cell? ⟨b, 1, none⟩ = some (.int .i64 64) ∧ w.cell? ⟨b, 2, none⟩ = some (.int .i64 128) ∧ w.cell? ⟨b, 3, none⟩ = some (.int .u8 2) ∧ w.cell? ⟨b, 4, none⟩ = some (.int .i64 128) ∧ w.cell? ⟨b, 5, none⟩ = some (.func (.func 68) #[] #[]) ∧ w.cell? ⟨b, 6, none⟩ = some (.func (.func 70) #[] #[]) :=
  ⟨h.lt (by simp [hcells]), h.at 0 rfl, h.at 1 rfl, h.at 2 rfl, h.at 3 rfl, h.at 4 rfl, h.at 5 rfl, h.at 6 rfl⟩
theorem dWholeF {W0 w : World} {L : List Assn} {cap n : Nat} {m : Bool} {sp : Option Addr} {pv : Value} (wide : Bool) (p : Option Nat) (rs : List Run3) (bs : List Byte) (hn : bs.length = n) (hp : pv = ptrO p) (hs : Sat W0 w (ledO p rs :: bytes m sp bs :: L)) (hcap : n ≤ cap) (hcm : cap ≤ maxLen) (hb : tot rs + 2 * n + 400 ≤ 2305843009213693952) (hl : rs.length + 1 ≤ 1048576) :
    Calls Try.prog (fWhole wide) #[pv, .slice sp n cap] w fun e w' => ∃ q c, e = .returned (.slice q (hsz wide) c) ∧ Sat W0 w' (bytes true q (hash wide bs) :: ledO p (noteN rs (evK wide) (evS wide) (padN wide n)) :: bytes m sp bs :: L) := by
  subst hn hp
  refine (dWhole wide p rs bs hcap hcm hb hl hs).mono ?_
  rintro e w' ⟨q, c, rfl, s⟩
  exact ⟨q, c, rfl, (rowBytes s).2.2.2⟩
theorem dWriteF {W0 w : World} {L : List Assn} {b cap n : Nat} {m : Bool} {sp : Option Addr} {pv : Value} (wide : Bool) (p : Option Nat) (rs : List Run3) (msg bs : List Byte) (hn : bs.length = n) (hp : pv = ptrO p) (hcap : n ≤ cap) (hcm : cap ≤ maxLen) (hb : tot rs + msg.length + n ≤ 2305843009213693952) (hl : rs.length ≤ 1048576)
    (hs : Sat W0 w (ledO p rs :: bytes m sp bs :: dst wide b msg :: L)) :
    Calls Try.prog (fWrite wide) #[.pointer (some ⟨b, 0, none⟩), pv, .slice sp n cap] w fun e w' => e = .returned (.int .i64 0) ∧ Sat W0 w' (ledO p (noteN rs (evK wide) (evS wide) ((msg.length + n) / bsz wide - msg.length / bsz wide)) :: bytes m sp bs :: dst wide b (msg ++ bs) :: L) := by
  subst hn hp
  exact dWrite wide p rs msg bs hcap hcm hb hl hs
theorem padN_ge (wide : Bool) (n : Nat) : n / bsz wide ≤ padN wide n ∧ 0 < padN wide n := by
  cases wide <;> simp only [padN, bsz, roomN] <;> omega
theorem noteN_one (k s : Int) (n : Nat) (h : 0 < n) : noteN [] k s n = [(k, s, n)] := by
  unfold noteN; rw [if_neg (by omega)]; rfl
theorem flatP_take (ts : List Piece) (i : Nat) (hi : i < ts.length) : flatP (ts.take (i + 1)) = flatP (ts.take i) ++ ts[i].2.2 := by
  rw [List.take_succ_eq_append_getElem hi, flatP_snoc]
theorem flatP_take_len (ts : List Piece) (i : Nat) : (flatP (ts.take i)).length ≤ (flatP ts).length := by
  have : flatP ts = flatP (ts.take i) ++ flatP (ts.drop i) := by
    unfold flatP
    rw [← List.flatMap_append, List.take_append_drop]
  rw [this, List.length_append]; omega
set_option maxRecDepth 100000 in
set_option maxHeartbeats 1000000 in
theorem dpieces_any (W : World) (wide : Bool) (a1 a2 : Option Addr × Nat × Nat × List Byte) (h1 : IsBytes W a1.1 a1.2.1 a1.2.2.1 a1.2.2.2) (h2 : IsBytes W a2.1 a2.2.1 a2.2.2.1 a2.2.2.2) (hb2 : a2.2.2.1 ≤ 1048576) :
    Calls Try.prog 5 #[.bool wide, .slice a1.1 a1.2.1 a1.2.2.1, .slice a2.1 a2.2.1 a2.2.2.1] W fun e W' => e = .returned (.bool true) ∧ Below W.heap.size W W' := by
  obtain ⟨p1, n1, c1, P⟩ := a1
  obtain ⟨p2, n2, c2, C⟩ := a2
  simp only at h1 h2 hb2 ⊢
  have s0 : Sat W W (bytes false p1 P :: bytes false p2 C :: []) := h1.sat (h2.sat (Sat.nil W))
  obtain ⟨hP, hP1, hP2, -⟩ := h1
  obtain ⟨hS, hS1, hS2, -⟩ := h2
  have HA := Lib.hid (And.intro hP (And.intro hS hP2)); clear hP hS hP2 hS2
  by_cases g1 : 8192 < n1
  · go_enter Try.func5, Try.ntmps5
    go_wp2_with fail
    refine (lives11 s0).mono ?_
    rintro e w1 ⟨rfl, s1⟩
    go_wp2
    go_ret
    exact ⟨rfl, s1.below⟩
  cases wide
  · skip
    go_enter Try.func5, Try.ntmps5
    go_wp2_with fail
    refine (lives11 s0).mono ?_
    rintro e w1 ⟨rfl, s1⟩
    clear s0
    go_wp2_with fail
    refine (dOf false s1).mono ?_
    rintro e w2 ⟨rfl, s2⟩
    clear s1
    obtain ⟨bx, hbx⟩ : ∃ bx, bx = w2.heap.size := ⟨_, rfl⟩
    have s3 : Sat W _ (seg true bx 0 (hcells false) :: bytes false p1 P :: bytes false p2 C :: []) := s2.allocAt (hcells false).toArray 29 (q := bx) hbx
    have hn := dNew false s3
    simp only [hcells] at hn ⊢
    go_wp2_with fail
    refine hn.mono ?_
    rintro e w3 ⟨bs, rfl, s4'⟩
    have s4 : Sat W w3 (dst false bs [] :: seg true bx 0 (hcells false) :: bytes false p1 P :: bytes false p2 C :: []) := s4'
    rw [← hbx]
    clear s4'
    clear hn s3 s2 hbx
    simp only [ifv]
    go_wp2_with fail
    refine (ledNewF s4).mono ?_
    rintro e w4 ⟨l, rfl, s5⟩
    clear s4
    go_wp2_with fail
    refine (cutInto P C HA.out.1 HA.out.2.1 (by omega) (by omega) hP1 HA.out.2.2 (by (repeat (first | with_reducible apply Sat.sub (s5) | with_reducible apply Sat.alloc' | with_reducible apply Sat.drew | with_reducible apply Sat.drewN)); (repeat (first | with_reducible exact Fr.done | with_reducible exact Fr.nil | (with_reducible apply Fr.cons; (focus ((repeat (first | with_reducible exact Take.here | with_reducible apply Take.there)); done))) | with_reducible apply Fr.skip)); done)).mono ?_
    rintro e w5 ⟨qp, cp, ts, rfl, hts0, hfl, hok, s6⟩
    clear s5
    obtain ⟨gp, rfl, hcp, hcp2, s7'⟩ := rowSeg s6 hts0
    have s7 : Sat W w5 (dst false bs [] :: ledO (some l) [] :: seg true gp 0 (ts.map pieceV) :: allRo ts :: seg true bx 0 (hcells false) :: bytes false p1 P :: []) := (by (repeat (first | with_reducible apply Sat.sub (s7') | with_reducible apply Sat.alloc' | with_reducible apply Sat.drew | with_reducible apply Sat.drewN)); (repeat (first | with_reducible exact Fr.done | with_reducible exact Fr.nil | (with_reducible apply Fr.cons; (focus ((repeat (first | with_reducible exact Take.here | with_reducible apply Take.there)); done))) | with_reducible apply Fr.skip)); done)
    obtain ⟨N, hN⟩ : ∃ N, N = ts.length := ⟨_, rfl⟩
    rw [← hN] at hts0 hcp ⊢
    have HT := Lib.hid (And.intro hfl (And.intro hok hN)); clear hfl hok hN s6 s7'
    go_wp2
    go_loopw [14] (fun t14 wr => ∃ i : Nat, i ≤ N ∧ t14 = .int .i64 (i : Int) ∧ Sat W wr (dst false bs (flatP (ts.take i)) :: ledO (some l) (noteN [] (evK false) (evS false) ((flatP (ts.take i)).length / bsz false)) :: seg true gp 0 (ts.map pieceV) :: allRo ts :: seg true bx 0 (hcells false) :: bytes false p1 P :: [])) (fun t14 _ => N - (intOf t14).toNat)
    case atStart => exact ⟨0, Nat.zero_le _, rfl, by simpa [flatP, noteN] using s7⟩
    case round =>
      clear s7
      obtain ⟨i, hi, rfl, s⟩ := hrel
      by_cases hlt : i < N
      · have hit : i < ts.length := by rw [← HT.out.2.2]; exact hlt
        have hft := flatP_take ts i hit
        have hlen := flatP_take_len ts (i + 1)
        have hlen0 := flatP_take_len ts i
        rw [HT.out.1, HA.out.1] at hlen hlen0
        have hokt := HT.out.2.1 ts[i] (List.getElem_mem hit)
        obtain ⟨⟨tp, tc, tb⟩, htt⟩ : ∃ t, t = ts[i] := ⟨_, rfl⟩
        rw [← htt] at hft hokt
        simp only at hft hokt
        have sg : Sat W wr (seg true gp 0 (ts.map pieceV) :: _) := s.pull 2
        have cg := sg.at i (v := .slice tp tb.length tc) (by rw [List.getElem?_map, List.getElem?_eq_getElem hit, ← htt]; rfl)
        have sp : Sat W wr (allRo ts :: dst false bs (flatP (ts.take i)) :: ledO (some l) (noteN [] (evK false) (evS false) ((flatP (ts.take i)).length / bsz false)) :: seg true gp 0 (ts.map pieceV) :: seg true bx 0 (hcells false) :: bytes false p1 P :: []) := (by (repeat (first | with_reducible apply Sat.sub (s) | with_reducible apply Sat.alloc' | with_reducible apply Sat.drew | with_reducible apply Sat.drewN)); (repeat (first | with_reducible exact Fr.done | with_reducible exact Fr.nil | (with_reducible apply Fr.cons; (focus ((repeat (first | with_reducible exact Take.here | with_reducible apply Take.there)); done))) | with_reducible apply Fr.skip)); done)
        have sq := allPeek (t := ((tp, tc, tb) : Piece)) sp (by rw [htt]; exact List.getElem_mem hit)
        simp only at sq
        obtain ⟨M, hM⟩ : ∃ M, M = flatP (ts.take i) := ⟨_, rfl⟩
        rw [← hM] at hft sq hlen0
        rw [hft, List.length_append] at hlen
        have HX := Lib.hid (And.intro hft (And.intro hokt (And.intro hlen hlen0))); clear hft hokt hlen hlen0 hM htt sg sp s hit
        go_wp2_with fail
        refine wp_region_quiet_tail_lit 9 (by kernel_rfl) (by kernel_rfl) ?_
        simp only [List.take_succ_cons, List.take_zero, List.drop_succ_cons, List.drop_zero]
        repeat (go_big_quiet_step (fail))
        refine wpQuiet_nil ?_
        rintro _ ⟨nq, rfl⟩
        go_wp2_with fail
        refine (dWrite (cap := tc) false (some l) (noteN [] (evK false) (evS false) (M.length / bsz false)) M tb HX.out.2.1.1 HX.out.2.1.2 (by rw [tot_noteN]; have := HX.out.2.2.1; have := Nat.div_le_self M.length (bsz false); simp only [tot]; omega) (by have := noteN_len [] (evK false) (evS false) (M.length / bsz false); simp only [List.length_nil] at this; omega) (by (repeat (first | with_reducible apply Sat.sub (sq) | with_reducible apply Sat.alloc' | with_reducible apply Sat.drew | with_reducible apply Sat.drewN)); (repeat (first | with_reducible exact Fr.done | with_reducible exact Fr.nil | (with_reducible apply Fr.cons; (focus ((repeat (first | with_reducible exact Take.here | with_reducible apply Take.there)); done))) | with_reducible apply Fr.skip)); done)).mono ?_
        rintro e w6 ⟨rfl, s7⟩
        clear sq
        rw [noteN_add] at s7
        have HS := Lib.hid s7; clear s7
        go_wp2
        go_roundw
        case rel =>
          refine ⟨i + 1, by omega, by go_num, ?_⟩
          have s8 := HS.out
          rw [HX.out.1, List.length_append]
          have hdv : M.length / bsz false ≤ (M.length + tb.length) / bsz false := Nat.div_le_div_right (by omega)
          rw [Nat.add_sub_cancel' hdv] at s8
          exact (by (repeat (first | with_reducible apply Sat.sub (s8) | with_reducible apply Sat.alloc' | with_reducible apply Sat.drew | with_reducible apply Sat.drewN)); (repeat (first | with_reducible exact Fr.done | with_reducible exact Fr.nil | (with_reducible apply Fr.cons; (focus ((repeat (first | with_reducible exact Take.here | with_reducible apply Take.there)); done))) | with_reducible apply Fr.skip)); done)
        case measure => simp [intOf]; omega
      · obtain rfl : i = N := by omega
        rw [HT.out.2.2, List.take_of_length_le (Nat.le_refl _), HT.out.1, HA.out.1] at s
        obtain ⟨m, hm⟩ : ∃ m, m = n1 / bsz false := ⟨_, rfl⟩
        rw [← hm] at s
        simp only [bsz] at hm
        have hm1 : (n1 : Int) / 64 = (m : Int) := by omega
        have hm2 : (n1 : Int).tdiv 64 = (m : Int) := by rw [Int.tdiv_eq_ediv_of_nonneg (by omega)]; exact hm1
        have hT : tot (noteN [] (evK false) (evS false) m) = m := by rw [tot_noteN]; simp [tot]
        have s8 : Sat W wr (ledO (some l) (noteN [] (evK false) (evS false) m) :: dst false bs P :: seg true bx 0 (hcells false) :: bytes false p1 P :: []) := (by (repeat (first | with_reducible apply Sat.sub (s) | with_reducible apply Sat.alloc' | with_reducible apply Sat.drew | with_reducible apply Sat.drewN)); (repeat (first | with_reducible exact Fr.done | with_reducible exact Fr.nil | (with_reducible apply Fr.cons; (focus ((repeat (first | with_reducible exact Take.here | with_reducible apply Take.there)); done))) | with_reducible apply Fr.skip)); done)
        obtain ⟨z, y0, y1, y2, y3, y4, y5, y6⟩ := hc_false ((by (repeat (first | with_reducible apply Sat.sub (s8) | with_reducible apply Sat.alloc' | with_reducible apply Sat.drew | with_reducible apply Sat.drewN)); (repeat (first | with_reducible exact Fr.done | with_reducible exact Fr.nil | (with_reducible apply Fr.cons; (focus ((repeat (first | with_reducible exact Take.here | with_reducible apply Take.there)); done))) | with_reducible apply Fr.skip)); done) : Sat W wr (seg true bx 0 (hcells false) :: []))
        have HM := Lib.hid (And.intro hm hT); clear hm hT s
        go_wp2_with fail
        go_quiet ((go_at_call 35; exact Calls.quiet_of_same ((ledLenF (l := l) (rs := noteN [] (evK false) (evS false) m) (by (repeat (first | with_reducible apply Sat.sub (s8) | with_reducible apply Sat.alloc' | with_reducible apply Sat.drew | with_reducible apply Sat.drewN)); (repeat (first | with_reducible exact Fr.done | with_reducible exact Fr.nil | (with_reducible apply Fr.cons; (focus ((repeat (first | with_reducible exact Take.here | with_reducible apply Take.there)); done))) | with_reducible apply Fr.skip)); done)).mono fun _ _ ⟨ha, hb⟩ => ⟨by rw [ha, HM.out.2], hb.symm⟩)))
        obtain ⟨R, hR⟩ : ∃ R, R = noteN [] (evK false) (evS false) m := ⟨_, rfl⟩
        rw [← hR] at s8
        have hRt : tot R = m := by rw [hR]; exact HM.out.2
        have hRl : R.length ≤ 1 := by rw [hR]; exact noteN_len _ _ _ _
        have hpad : noteN R (evK false) (evS false) (padN false P.length - P.length / bsz false) = [(evK false, evS false, padN false n1)] := by
          have h1 := padN_ge false n1
          rw [hR, noteN_add, HA.out.1, show m + (padN false n1 - n1 / bsz false) = padN false n1 by have := HM.out.1; simp only [bsz] at this h1 ⊢; omega]
          exact noteN_one _ _ _ h1.2
        obtain ⟨pd, hpd⟩ : ∃ pd, pd = padN false n1 := ⟨_, rfl⟩
        rw [← hpd] at hpad
        simp only [padN, roomN, bsz] at hpd
        have hm3 : m ≤ 8192 := by omega
        clear hR
        have HP := Lib.hid (And.intro hRt (And.intro hpad hpd)); clear hRt hpad hpd hm1 hm2
        go_wp2_with fail
        refine (dCopy false (b := bs) P (by (repeat (first | with_reducible apply Sat.sub (s8) | with_reducible apply Sat.alloc' | with_reducible apply Sat.drew | with_reducible apply Sat.drewN)); (repeat (first | with_reducible exact Fr.done | with_reducible exact Fr.nil | (with_reducible apply Fr.cons; (focus ((repeat (first | with_reducible exact Take.here | with_reducible apply Take.there)); done))) | with_reducible apply Fr.skip)); done)).mono ?_
        rintro e w7 ⟨bc, rfl, s9⟩
        clear s8 z y0 y1 y2 y3 y4 y5 y6
        simp only [ifv]
        go_wp2_with fail
        refine (dSum false (b := bs) (some l) R P (by rw [HP.out.1, HA.out.1]; omega) (by omega) (by (repeat (first | with_reducible apply Sat.sub (s9) | with_reducible apply Sat.alloc' | with_reducible apply Sat.drew | with_reducible apply Sat.drewN)); (repeat (first | with_reducible exact Fr.done | with_reducible exact Fr.nil | (with_reducible apply Fr.cons; (focus ((repeat (first | with_reducible exact Take.here | with_reducible apply Take.there)); done))) | with_reducible apply Fr.skip)); done)).mono ?_
        rintro e w8 ⟨q1, d1, rfl, s10⟩
        clear s9
        rw [HP.out.2.1] at s10
        obtain ⟨-, hd1, hd2, s11⟩ := rowBytes s10
        obtain ⟨z, y0, y1, y2, y3, y4, y5, y6⟩ := hc_false ((by (repeat (first | with_reducible apply Sat.sub (s11) | with_reducible apply Sat.alloc' | with_reducible apply Sat.drew | with_reducible apply Sat.drewN)); (repeat (first | with_reducible exact Fr.done | with_reducible exact Fr.nil | (with_reducible apply Fr.cons; (focus ((repeat (first | with_reducible exact Take.here | with_reducible apply Take.there)); done))) | with_reducible apply Fr.skip)); done) : Sat W w8 (seg true bx 0 (hcells false) :: []))
        have HD := Lib.hid hd2; clear hd2 s10
        simp only [hsz] at hd1 ⊢
        go_wp2_with fail
        refine (dWholeF false none [] P HA.out.1 rfl (by (repeat (first | with_reducible apply Sat.sub (ledNone s11) | with_reducible apply Sat.alloc' | with_reducible apply Sat.drew | with_reducible apply Sat.drewN)); (repeat (first | with_reducible exact Fr.done | with_reducible exact Fr.nil | (with_reducible apply Fr.cons; (focus ((repeat (first | with_reducible exact Take.here | with_reducible apply Take.there)); done))) | with_reducible apply Fr.skip)); done) hP1 HA.out.2.2 (by simp only [tot]; omega) (by decide)).mono ?_
        rintro e w9 ⟨q2, d2, rfl, s12⟩
        clear s11 z y0 y1 y2 y3 y4 y5 y6
        simp only [hsz]
        go_wp2_with fail
        refine (sameT (hash false P) (hash false P) (hash_len _ _) (hash_len _ _) (by decide) rfl (by (repeat (first | with_reducible apply Sat.sub (s12) | with_reducible apply Sat.alloc' | with_reducible apply Sat.drew | with_reducible apply Sat.drewN)); (repeat (first | with_reducible exact Fr.done | with_reducible exact Fr.nil | (with_reducible apply Fr.cons; (focus ((repeat (first | with_reducible exact Take.here | with_reducible apply Take.there)); done))) | with_reducible apply Fr.skip)); done)).mono ?_
        rintro e w10 ⟨rfl, s13⟩
        clear s12
        obtain ⟨z, y0, y1, y2, y3, y4, y5, y6⟩ := hc_false ((by (repeat (first | with_reducible apply Sat.sub (s13) | with_reducible apply Sat.alloc' | with_reducible apply Sat.drew | with_reducible apply Sat.drewN)); (repeat (first | with_reducible exact Fr.done | with_reducible exact Fr.nil | (with_reducible apply Fr.cons; (focus ((repeat (first | with_reducible exact Take.here | with_reducible apply Take.there)); done))) | with_reducible apply Fr.skip)); done) : Sat W w10 (seg true bx 0 (hcells false) :: []))
        go_wp2_with fail
        have hq : ((n1 : Int) + 9 + 64 - 1) / 64 = (pd : Int) := by have := HP.out.2.2; omega
        rw [hq]
        clear hq
        have s14 : Sat W w10 (ledO none [] :: dst false bc P :: bytes true q1 (hash false P) :: ledO (some l) [(evK false, evS false, pd)] :: seg true bx 0 (hcells false) :: []) := (by (repeat (first | with_reducible apply Sat.sub (ledNone s13) | with_reducible apply Sat.alloc' | with_reducible apply Sat.drew | with_reducible apply Sat.drewN)); (repeat (first | with_reducible exact Fr.done | with_reducible exact Fr.nil | (with_reducible apply Fr.cons; (focus ((repeat (first | with_reducible exact Take.here | with_reducible apply Take.there)); done))) | with_reducible apply Fr.skip)); done)
        clear s13
        refine (dSum false (b := bc) none [] P (by rw [HA.out.1]; simp only [tot]; omega) (by decide) s14).mono ?_
        rintro e w11 ⟨q3, d3, rfl, s15⟩
        clear s14 z y0 y1 y2 y3 y4 y5 y6
        obtain ⟨-, hd3, hd4, s16⟩ := rowBytes s15
        obtain ⟨z, y0, y1, y2, y3, y4, y5, y6⟩ := hc_false ((by (repeat (first | with_reducible apply Sat.sub (s16) | with_reducible apply Sat.alloc' | with_reducible apply Sat.drew | with_reducible apply Sat.drewN)); (repeat (first | with_reducible exact Fr.done | with_reducible exact Fr.nil | (with_reducible apply Fr.cons; (focus ((repeat (first | with_reducible exact Take.here | with_reducible apply Take.there)); done))) | with_reducible apply Fr.skip)); done) : Sat W w11 (seg true bx 0 (hcells false) :: []))
        obtain ⟨T, hT⟩ : ∃ T, T = hash false P := ⟨_, rfl⟩
        have hTl : T.length = hsz false := by rw [hT]; exact hash_len _ _
        rw [← hT] at s16
        have s17 : Sat W w11 (bytes true q3 T :: bytes true q1 T :: ledO (some l) [(evK false, evS false, pd)] :: seg true bx 0 (hcells false) :: []) := (by (repeat (first | with_reducible apply Sat.sub (s16) | with_reducible apply Sat.alloc' | with_reducible apply Sat.drew | with_reducible apply Sat.drewN)); (repeat (first | with_reducible exact Fr.done | with_reducible exact Fr.nil | (with_reducible apply Fr.cons; (focus ((repeat (first | with_reducible exact Take.here | with_reducible apply Take.there)); done))) | with_reducible apply Fr.skip)); done)
        have HQ := Lib.hid (And.intro hTl hd4); clear s15 s16 hT hTl hd4
        have hK : ∀ wx, Sat W wx (seg true bx 0 (hcells false) :: []) → wx.cell? ⟨bx, 3, none⟩ = some (.int .u8 1) ∧ wx.cell? ⟨bx, 4, none⟩ = some (.int .i64 64) := fun wx h => ⟨(hc_false h).2.2.2.2.1, (hc_false h).2.2.2.2.2.1⟩
        have HK := Lib.hid hK; clear hK
        simp only [hsz, evK, evS] at s17 ⊢
        go_wp2_with fail
        go_region_held3 (fun w' => w'.cell? ⟨bx, 3, none⟩ = some (.int .u8 1) ∧ w'.cell? ⟨bx, 4, none⟩ = some (.int .i64 64)) (first | exact HK.out _ (Sat.sub (s17) (by (repeat (first | with_reducible exact Fr.done | with_reducible exact Fr.nil | (with_reducible apply Fr.cons; (focus ((repeat (first | with_reducible exact Take.here | with_reducible apply Take.there)); done))) | with_reducible apply Fr.skip)))) | exact HK.out _ (Sat.sub (s18) (by (repeat (first | with_reducible exact Fr.done | with_reducible exact Fr.nil | (with_reducible apply Fr.cons; (focus ((repeat (first | with_reducible exact Take.here | with_reducible apply Take.there)); done))) | with_reducible apply Fr.skip)))) | exact HK.out _ (Sat.sub (s19) (by (repeat (first | with_reducible exact Fr.done | with_reducible exact Fr.nil | (with_reducible apply Fr.cons; (focus ((repeat (first | with_reducible exact Take.here | with_reducible apply Take.there)); done))) | with_reducible apply Fr.skip)))) | exact HK.out _ (Sat.sub (s20) (by (repeat (first | with_reducible exact Fr.done | with_reducible exact Fr.nil | (with_reducible apply Fr.cons; (focus ((repeat (first | with_reducible exact Take.here | with_reducible apply Take.there)); done))) | with_reducible apply Fr.skip)))) | exact HK.out _ (Sat.sub (s17.drew) (by (repeat (first | with_reducible exact Fr.done | with_reducible exact Fr.nil | (with_reducible apply Fr.cons; (focus ((repeat (first | with_reducible exact Take.here | with_reducible apply Take.there)); done))) | with_reducible apply Fr.skip)))) | exact HK.out _ (Sat.sub (s18.drew) (by (repeat (first | with_reducible exact Fr.done | with_reducible exact Fr.nil | (with_reducible apply Fr.cons; (focus ((repeat (first | with_reducible exact Take.here | with_reducible apply Take.there)); done))) | with_reducible apply Fr.skip)))) | exact HK.out _ (Sat.sub (s19.drew) (by (repeat (first | with_reducible exact Fr.done | with_reducible exact Fr.nil | (with_reducible apply Fr.cons; (focus ((repeat (first | with_reducible exact Take.here | with_reducible apply Take.there)); done))) | with_reducible apply Fr.skip)))) | exact HK.out _ (Sat.sub ((s18.alloc' _)) (by (repeat (first | with_reducible exact Fr.done | with_reducible exact Fr.nil | (with_reducible apply Fr.cons; (focus ((repeat (first | with_reducible exact Take.here | with_reducible apply Take.there)); done))) | with_reducible apply Fr.skip)))) | exact HK.out _ (Sat.sub ((s19.alloc' _)) (by (repeat (first | with_reducible exact Fr.done | with_reducible exact Fr.nil | (with_reducible apply Fr.cons; (focus ((repeat (first | with_reducible exact Take.here | with_reducible apply Take.there)); done))) | with_reducible apply Fr.skip))))) (first | (go_at_call 28; refine (sameT T T HQ.out.1 HQ.out.1 (by decide) rfl (by (repeat (first | with_reducible apply Sat.sub (s17) | with_reducible apply Sat.alloc' | with_reducible apply Sat.drew | with_reducible apply Sat.drewN)); (repeat (first | with_reducible exact Fr.done | with_reducible exact Fr.nil | (with_reducible apply Fr.cons; (focus ((repeat (first | with_reducible exact Take.here | with_reducible apply Take.there)); done))) | with_reducible apply Fr.skip)); done)).mono ?_; rintro e w12 ⟨rfl, s18⟩) | (go_at_call 30; refine (ledRunsF (l := l) (rs := [(1, 64, pd)]) (by simp) (by first | exact (Sat.sub (runOne (k := 1) (s := 64) (n := pd) (T := tRun) s18) (by (repeat (first | with_reducible exact Fr.done | with_reducible exact Fr.nil | (with_reducible apply Fr.cons; (focus ((repeat (first | with_reducible exact Take.here | with_reducible apply Take.there)); done))) | with_reducible apply Fr.skip)))) | exact (Sat.sub (s18) (by (repeat (first | with_reducible exact Fr.done | with_reducible exact Fr.nil | (with_reducible apply Fr.cons; (focus ((repeat (first | with_reducible exact Take.here | with_reducible apply Take.there)); done))) | with_reducible apply Fr.skip)))) | exact (Sat.sub (s18.drew) (by (repeat (first | with_reducible exact Fr.done | with_reducible exact Fr.nil | (with_reducible apply Fr.cons; (focus ((repeat (first | with_reducible exact Take.here | with_reducible apply Take.there)); done))) | with_reducible apply Fr.skip)))))).mono ?_; rintro e w13 ⟨q5, c5, rfl, s19⟩) | (go_at_call 29; refine (sameRuns [(1, 64, pd)] (by rfl) (by rfl) (by simp) (by first | exact (Sat.sub (runOne (k := 1) (s := 64) (n := pd) (T := tRun) s19) (by (repeat (first | with_reducible exact Fr.done | with_reducible exact Fr.nil | (with_reducible apply Fr.cons; (focus ((repeat (first | with_reducible exact Take.here | with_reducible apply Take.there)); done))) | with_reducible apply Fr.skip)))) | exact (Sat.sub (s19) (by (repeat (first | with_reducible exact Fr.done | with_reducible exact Fr.nil | (with_reducible apply Fr.cons; (focus ((repeat (first | with_reducible exact Take.here | with_reducible apply Take.there)); done))) | with_reducible apply Fr.skip)))) | exact (Sat.sub (s19.drew) (by (repeat (first | with_reducible exact Fr.done | with_reducible exact Fr.nil | (with_reducible apply Fr.cons; (focus ((repeat (first | with_reducible exact Take.here | with_reducible apply Take.there)); done))) | with_reducible apply Fr.skip)))))).mono ?_; rintro e w14 ⟨rfl, s20⟩))
        all_goals
          go_wp2
          go_ret
          exact ⟨rfl, s20.below⟩
  · skip
    go_enter Try.func5, Try.ntmps5
    go_wp2_with fail
    refine (lives11 s0).mono ?_
    rintro e w1 ⟨rfl, s1⟩
    clear s0
    go_wp2_with fail
    refine (dOf true s1).mono ?_
    rintro e w2 ⟨rfl, s2⟩
    clear s1
    obtain ⟨bx, hbx⟩ : ∃ bx, bx = w2.heap.size := ⟨_, rfl⟩
    have s3 : Sat W _ (seg true bx 0 (hcells true) :: bytes false p1 P :: bytes false p2 C :: []) := s2.allocAt (hcells true).toArray 29 (q := bx) hbx
    have hn := dNew true s3
    simp only [hcells] at hn ⊢
    go_wp2_with fail
    refine hn.mono ?_
    rintro e w3 ⟨bs, rfl, s4'⟩
    have s4 : Sat W w3 (dst true bs [] :: seg true bx 0 (hcells true) :: bytes false p1 P :: bytes false p2 C :: []) := s4'
    rw [← hbx]
    clear s4'
    clear hn s3 s2 hbx
    simp only [ifv]
    go_wp2_with fail
    refine (ledNewF s4).mono ?_
    rintro e w4 ⟨l, rfl, s5⟩
    clear s4
    go_wp2_with fail
    refine (cutInto P C HA.out.1 HA.out.2.1 (by omega) (by omega) hP1 HA.out.2.2 (by (repeat (first | with_reducible apply Sat.sub (s5) | with_reducible apply Sat.alloc' | with_reducible apply Sat.drew | with_reducible apply Sat.drewN)); (repeat (first | with_reducible exact Fr.done | with_reducible exact Fr.nil | (with_reducible apply Fr.cons; (focus ((repeat (first | with_reducible exact Take.here | with_reducible apply Take.there)); done))) | with_reducible apply Fr.skip)); done)).mono ?_
    rintro e w5 ⟨qp, cp, ts, rfl, hts0, hfl, hok, s6⟩
    clear s5
    obtain ⟨gp, rfl, hcp, hcp2, s7'⟩ := rowSeg s6 hts0
    have s7 : Sat W w5 (dst true bs [] :: ledO (some l) [] :: seg true gp 0 (ts.map pieceV) :: allRo ts :: seg true bx 0 (hcells true) :: bytes false p1 P :: []) := (by (repeat (first | with_reducible apply Sat.sub (s7') | with_reducible apply Sat.alloc' | with_reducible apply Sat.drew | with_reducible apply Sat.drewN)); (repeat (first | with_reducible exact Fr.done | with_reducible exact Fr.nil | (with_reducible apply Fr.cons; (focus ((repeat (first | with_reducible exact Take.here | with_reducible apply Take.there)); done))) | with_reducible apply Fr.skip)); done)
    obtain ⟨N, hN⟩ : ∃ N, N = ts.length := ⟨_, rfl⟩
    rw [← hN] at hts0 hcp ⊢
    have HT := Lib.hid (And.intro hfl (And.intro hok hN)); clear hfl hok hN s6 s7'
    go_wp2
    go_loopw [14] (fun t14 wr => ∃ i : Nat, i ≤ N ∧ t14 = .int .i64 (i : Int) ∧ Sat W wr (dst true bs (flatP (ts.take i)) :: ledO (some l) (noteN [] (evK true) (evS true) ((flatP (ts.take i)).length / bsz true)) :: seg true gp 0 (ts.map pieceV) :: allRo ts :: seg true bx 0 (hcells true) :: bytes false p1 P :: [])) (fun t14 _ => N - (intOf t14).toNat)
    case atStart => exact ⟨0, Nat.zero_le _, rfl, by simpa [flatP, noteN] using s7⟩
    case round =>
      clear s7
      obtain ⟨i, hi, rfl, s⟩ := hrel
      by_cases hlt : i < N
      · have hit : i < ts.length := by rw [← HT.out.2.2]; exact hlt
        have hft := flatP_take ts i hit
        have hlen := flatP_take_len ts (i + 1)
        have hlen0 := flatP_take_len ts i
        rw [HT.out.1, HA.out.1] at hlen hlen0
        have hokt := HT.out.2.1 ts[i] (List.getElem_mem hit)
        obtain ⟨⟨tp, tc, tb⟩, htt⟩ : ∃ t, t = ts[i] := ⟨_, rfl⟩
        rw [← htt] at hft hokt
        simp only at hft hokt
        have sg : Sat W wr (seg true gp 0 (ts.map pieceV) :: _) := s.pull 2
        have cg := sg.at i (v := .slice tp tb.length tc) (by rw [List.getElem?_map, List.getElem?_eq_getElem hit, ← htt]; rfl)
        have sp : Sat W wr (allRo ts :: dst true bs (flatP (ts.take i)) :: ledO (some l) (noteN [] (evK true) (evS true) ((flatP (ts.take i)).length / bsz true)) :: seg true gp 0 (ts.map pieceV) :: seg true bx 0 (hcells true) :: bytes false p1 P :: []) := (by (repeat (first | with_reducible apply Sat.sub (s) | with_reducible apply Sat.alloc' | with_reducible apply Sat.drew | with_reducible apply Sat.drewN)); (repeat (first | with_reducible exact Fr.done | with_reducible exact Fr.nil | (with_reducible apply Fr.cons; (focus ((repeat (first | with_reducible exact Take.here | with_reducible apply Take.there)); done))) | with_reducible apply Fr.skip)); done)
        have sq := allPeek (t := ((tp, tc, tb) : Piece)) sp (by rw [htt]; exact List.getElem_mem hit)
        simp only at sq
        obtain ⟨M, hM⟩ : ∃ M, M = flatP (ts.take i) := ⟨_, rfl⟩
        rw [← hM] at hft sq hlen0
        rw [hft, List.length_append] at hlen
        have HX := Lib.hid (And.intro hft (And.intro hokt (And.intro hlen hlen0))); clear hft hokt hlen hlen0 hM htt sg sp s hit
        go_wp2_with fail
        refine wp_region_quiet_tail_lit 9 (by kernel_rfl) (by kernel_rfl) ?_
        simp only [List.take_succ_cons, List.take_zero, List.drop_succ_cons, List.drop_zero]
        repeat (go_big_quiet_step (fail))
        refine wpQuiet_nil ?_
        rintro _ ⟨nq, rfl⟩
        go_wp2_with fail
        refine (dWrite (cap := tc) true (some l) (noteN [] (evK true) (evS true) (M.length / bsz true)) M tb HX.out.2.1.1 HX.out.2.1.2 (by rw [tot_noteN]; have := HX.out.2.2.1; have := Nat.div_le_self M.length (bsz true); simp only [tot]; omega) (by have := noteN_len [] (evK true) (evS true) (M.length / bsz true); simp only [List.length_nil] at this; omega) (by (repeat (first | with_reducible apply Sat.sub (sq) | with_reducible apply Sat.alloc' | with_reducible apply Sat.drew | with_reducible apply Sat.drewN)); (repeat (first | with_reducible exact Fr.done | with_reducible exact Fr.nil | (with_reducible apply Fr.cons; (focus ((repeat (first | with_reducible exact Take.here | with_reducible apply Take.there)); done))) | with_reducible apply Fr.skip)); done)).mono ?_
        rintro e w6 ⟨rfl, s7⟩
        clear sq
        rw [noteN_add] at s7
        have HS := Lib.hid s7; clear s7
        go_wp2
        go_roundw
        case rel =>
          refine ⟨i + 1, by omega, by go_num, ?_⟩
          have s8 := HS.out
          rw [HX.out.1, List.length_append]
          have hdv : M.length / bsz true ≤ (M.length + tb.length) / bsz true := Nat.div_le_div_right (by omega)
          rw [Nat.add_sub_cancel' hdv] at s8
          exact (by (repeat (first | with_reducible apply Sat.sub (s8) | with_reducible apply Sat.alloc' | with_reducible apply Sat.drew | with_reducible apply Sat.drewN)); (repeat (first | with_reducible exact Fr.done | with_reducible exact Fr.nil | (with_reducible apply Fr.cons; (focus ((repeat (first | with_reducible exact Take.here | with_reducible apply Take.there)); done))) | with_reducible apply Fr.skip)); done)
        case measure => simp [intOf]; omega
      · obtain rfl : i = N := by omega
        rw [HT.out.2.2, List.take_of_length_le (Nat.le_refl _), HT.out.1, HA.out.1] at s
        obtain ⟨m, hm⟩ : ∃ m, m = n1 / bsz true := ⟨_, rfl⟩
        rw [← hm] at s
        simp only [bsz] at hm
        have hm1 : (n1 : Int) / 128 = (m : Int) := by omega
        have hm2 : (n1 : Int).tdiv 128 = (m : Int) := by rw [Int.tdiv_eq_ediv_of_nonneg (by omega)]; exact hm1
        have hT : tot (noteN [] (evK true) (evS true) m) = m := by rw [tot_noteN]; simp [tot]
        have s8 : Sat W wr (ledO (some l) (noteN [] (evK true) (evS true) m) :: dst true bs P :: seg true bx 0 (hcells true) :: bytes false p1 P :: []) := (by (repeat (first | with_reducible apply Sat.sub (s) | with_reducible apply Sat.alloc' | with_reducible apply Sat.drew | with_reducible apply Sat.drewN)); (repeat (first | with_reducible exact Fr.done | with_reducible exact Fr.nil | (with_reducible apply Fr.cons; (focus ((repeat (first | with_reducible exact Take.here | with_reducible apply Take.there)); done))) | with_reducible apply Fr.skip)); done)
        obtain ⟨z, y0, y1, y2, y3, y4, y5, y6⟩ := hc_true ((by (repeat (first | with_reducible apply Sat.sub (s8) | with_reducible apply Sat.alloc' | with_reducible apply Sat.drew | with_reducible apply Sat.drewN)); (repeat (first | with_reducible exact Fr.done | with_reducible exact Fr.nil | (with_reducible apply Fr.cons; (focus ((repeat (first | with_reducible exact Take.here | with_reducible apply Take.there)); done))) | with_reducible apply Fr.skip)); done) : Sat W wr (seg true bx 0 (hcells true) :: []))
        have HM := Lib.hid (And.intro hm hT); clear hm hT s
        go_wp2_with fail
        go_quiet ((go_at_call 35; exact Calls.quiet_of_same ((ledLenF (l := l) (rs := noteN [] (evK true) (evS true) m) (by (repeat (first | with_reducible apply Sat.sub (s8) | with_reducible apply Sat.alloc' | with_reducible apply Sat.drew | with_reducible apply Sat.drewN)); (repeat (first | with_reducible exact Fr.done | with_reducible exact Fr.nil | (with_reducible apply Fr.cons; (focus ((repeat (first | with_reducible exact Take.here | with_reducible apply Take.there)); done))) | with_reducible apply Fr.skip)); done)).mono fun _ _ ⟨ha, hb⟩ => ⟨by rw [ha, HM.out.2], hb.symm⟩)))
        obtain ⟨R, hR⟩ : ∃ R, R = noteN [] (evK true) (evS true) m := ⟨_, rfl⟩
        rw [← hR] at s8
        have hRt : tot R = m := by rw [hR]; exact HM.out.2
        have hRl : R.length ≤ 1 := by rw [hR]; exact noteN_len _ _ _ _
        have hpad : noteN R (evK true) (evS true) (padN true P.length - P.length / bsz true) = [(evK true, evS true, padN true n1)] := by
          have h1 := padN_ge true n1
          rw [hR, noteN_add, HA.out.1, show m + (padN true n1 - n1 / bsz true) = padN true n1 by have := HM.out.1; simp only [bsz] at this h1 ⊢; omega]
          exact noteN_one _ _ _ h1.2
        obtain ⟨pd, hpd⟩ : ∃ pd, pd = padN true n1 := ⟨_, rfl⟩
        rw [← hpd] at hpad
        simp only [padN, roomN, bsz] at hpd
        have hm3 : m ≤ 8192 := by omega
        clear hR
        have HP := Lib.hid (And.intro hRt (And.intro hpad hpd)); clear hRt hpad hpd hm1 hm2
        go_wp2_with fail
        refine (dCopy true (b := bs) P (by (repeat (first | with_reducible apply Sat.sub (s8) | with_reducible apply Sat.alloc' | with_reducible apply Sat.drew | with_reducible apply Sat.drewN)); (repeat (first | with_reducible exact Fr.done | with_reducible exact Fr.nil | (with_reducible apply Fr.cons; (focus ((repeat (first | with_reducible exact Take.here | with_reducible apply Take.there)); done))) | with_reducible apply Fr.skip)); done)).mono ?_
        rintro e w7 ⟨bc, rfl, s9⟩
        clear s8 z y0 y1 y2 y3 y4 y5 y6
        simp only [ifv]
        go_wp2_with fail
        refine (dSum true (b := bs) (some l) R P (by rw [HP.out.1, HA.out.1]; omega) (by omega) (by (repeat (first | with_reducible apply Sat.sub (s9) | with_reducible apply Sat.alloc' | with_reducible apply Sat.drew | with_reducible apply Sat.drewN)); (repeat (first | with_reducible exact Fr.done | with_reducible exact Fr.nil | (with_reducible apply Fr.cons; (focus ((repeat (first | with_reducible exact Take.here | with_reducible apply Take.there)); done))) | with_reducible apply Fr.skip)); done)).mono ?_
        rintro e w8 ⟨q1, d1, rfl, s10⟩
        clear s9
        rw [HP.out.2.1] at s10
        obtain ⟨-, hd1, hd2, s11⟩ := rowBytes s10
        obtain ⟨z, y0, y1, y2, y3, y4, y5, y6⟩ := hc_true ((by (repeat (first | with_reducible apply Sat.sub (s11) | with_reducible apply Sat.alloc' | with_reducible apply Sat.drew | with_reducible apply Sat.drewN)); (repeat (first | with_reducible exact Fr.done | with_reducible exact Fr.nil | (with_reducible apply Fr.cons; (focus ((repeat (first | with_reducible exact Take.here | with_reducible apply Take.there)); done))) | with_reducible apply Fr.skip)); done) : Sat W w8 (seg true bx 0 (hcells true) :: []))
        have HD := Lib.hid hd2; clear hd2 s10
        simp only [hsz] at hd1 ⊢
        go_wp2_with fail
        refine (dWholeF true none [] P HA.out.1 rfl (by (repeat (first | with_reducible apply Sat.sub (ledNone s11) | with_reducible apply Sat.alloc' | with_reducible apply Sat.drew | with_reducible apply Sat.drewN)); (repeat (first | with_reducible exact Fr.done | with_reducible exact Fr.nil | (with_reducible apply Fr.cons; (focus ((repeat (first | with_reducible exact Take.here | with_reducible apply Take.there)); done))) | with_reducible apply Fr.skip)); done) hP1 HA.out.2.2 (by simp only [tot]; omega) (by decide)).mono ?_
        rintro e w9 ⟨q2, d2, rfl, s12⟩
        clear s11 z y0 y1 y2 y3 y4 y5 y6
        simp only [hsz]
        go_wp2_with fail
        refine (sameT (hash true P) (hash true P) (hash_len _ _) (hash_len _ _) (by decide) rfl (by (repeat (first | with_reducible apply Sat.sub (s12) | with_reducible apply Sat.alloc' | with_reducible apply Sat.drew | with_reducible apply Sat.drewN)); (repeat (first | with_reducible exact Fr.done | with_reducible exact Fr.nil | (with_reducible apply Fr.cons; (focus ((repeat (first | with_reducible exact Take.here | with_reducible apply Take.there)); done))) | with_reducible apply Fr.skip)); done)).mono ?_
        rintro e w10 ⟨rfl, s13⟩
        clear s12
        obtain ⟨z, y0, y1, y2, y3, y4, y5, y6⟩ := hc_true ((by (repeat (first | with_reducible apply Sat.sub (s13) | with_reducible apply Sat.alloc' | with_reducible apply Sat.drew | with_reducible apply Sat.drewN)); (repeat (first | with_reducible exact Fr.done | with_reducible exact Fr.nil | (with_reducible apply Fr.cons; (focus ((repeat (first | with_reducible exact Take.here | with_reducible apply Take.there)); done))) | with_reducible apply Fr.skip)); done) : Sat W w10 (seg true bx 0 (hcells true) :: []))
        go_wp2_with fail
        have hq : ((n1 : Int) + 17 + 128 - 1) / 128 = (pd : Int) := by have := HP.out.2.2; omega
        rw [hq]
        clear hq
        have s14 : Sat W w10 (ledO none [] :: dst true bc P :: bytes true q1 (hash true P) :: ledO (some l) [(evK true, evS true, pd)] :: seg true bx 0 (hcells true) :: []) := (by (repeat (first | with_reducible apply Sat.sub (ledNone s13) | with_reducible apply Sat.alloc' | with_reducible apply Sat.drew | with_reducible apply Sat.drewN)); (repeat (first | with_reducible exact Fr.done | with_reducible exact Fr.nil | (with_reducible apply Fr.cons; (focus ((repeat (first | with_reducible exact Take.here | with_reducible apply Take.there)); done))) | with_reducible apply Fr.skip)); done)
        clear s13
        refine (dSum true (b := bc) none [] P (by rw [HA.out.1]; simp only [tot]; omega) (by decide) s14).mono ?_
        rintro e w11 ⟨q3, d3, rfl, s15⟩
        clear s14 z y0 y1 y2 y3 y4 y5 y6
        obtain ⟨-, hd3, hd4, s16⟩ := rowBytes s15
        obtain ⟨z, y0, y1, y2, y3, y4, y5, y6⟩ := hc_true ((by (repeat (first | with_reducible apply Sat.sub (s16) | with_reducible apply Sat.alloc' | with_reducible apply Sat.drew | with_reducible apply Sat.drewN)); (repeat (first | with_reducible exact Fr.done | with_reducible exact Fr.nil | (with_reducible apply Fr.cons; (focus ((repeat (first | with_reducible exact Take.here | with_reducible apply Take.there)); done))) | with_reducible apply Fr.skip)); done) : Sat W w11 (seg true bx 0 (hcells true) :: []))
        obtain ⟨T, hT⟩ : ∃ T, T = hash true P := ⟨_, rfl⟩
        have hTl : T.length = hsz true := by rw [hT]; exact hash_len _ _
        rw [← hT] at s16
        have s17 : Sat W w11 (bytes true q3 T :: bytes true q1 T :: ledO (some l) [(evK true, evS true, pd)] :: seg true bx 0 (hcells true) :: []) := (by (repeat (first | with_reducible apply Sat.sub (s16) | with_reducible apply Sat.alloc' | with_reducible apply Sat.drew | with_reducible apply Sat.drewN)); (repeat (first | with_reducible exact Fr.done | with_reducible exact Fr.nil | (with_reducible apply Fr.cons; (focus ((repeat (first | with_reducible exact Take.here | with_reducible apply Take.there)); done))) | with_reducible apply Fr.skip)); done)
        have HQ := Lib.hid (And.intro hTl hd4); clear s15 s16 hT hTl hd4
        have hK : ∀ wx, Sat W wx (seg true bx 0 (hcells true) :: []) → wx.cell? ⟨bx, 3, none⟩ = some (.int .u8 2) ∧ wx.cell? ⟨bx, 4, none⟩ = some (.int .i64 128) := fun wx h => ⟨(hc_true h).2.2.2.2.1, (hc_true h).2.2.2.2.2.1⟩
        have HK := Lib.hid hK; clear hK
        simp only [hsz, evK, evS] at s17 ⊢
        go_wp2_with fail
        go_region_held3 (fun w' => w'.cell? ⟨bx, 3, none⟩ = some (.int .u8 2) ∧ w'.cell? ⟨bx, 4, none⟩ = some (.int .i64 128)) (first | exact HK.out _ (Sat.sub (s17) (by (repeat (first | with_reducible exact Fr.done | with_reducible exact Fr.nil | (with_reducible apply Fr.cons; (focus ((repeat (first | with_reducible exact Take.here | with_reducible apply Take.there)); done))) | with_reducible apply Fr.skip)))) | exact HK.out _ (Sat.sub (s18) (by (repeat (first | with_reducible exact Fr.done | with_reducible exact Fr.nil | (with_reducible apply Fr.cons; (focus ((repeat (first | with_reducible exact Take.here | with_reducible apply Take.there)); done))) | with_reducible apply Fr.skip)))) | exact HK.out _ (Sat.sub (s19) (by (repeat (first | with_reducible exact Fr.done | with_reducible exact Fr.nil | (with_reducible apply Fr.cons; (focus ((repeat (first | with_reducible exact Take.here | with_reducible apply Take.there)); done))) | with_reducible apply Fr.skip)))) | exact HK.out _ (Sat.sub (s20) (by (repeat (first | with_reducible exact Fr.done | with_reducible exact Fr.nil | (with_reducible apply Fr.cons; (focus ((repeat (first | with_reducible exact Take.here | with_reducible apply Take.there)); done))) | with_reducible apply Fr.skip)))) | exact HK.out _ (Sat.sub (s17.drew) (by (repeat (first | with_reducible exact Fr.done | with_reducible exact Fr.nil | (with_reducible apply Fr.cons; (focus ((repeat (first | with_reducible exact Take.here | with_reducible apply Take.there)); done))) | with_reducible apply Fr.skip)))) | exact HK.out _ (Sat.sub (s18.drew) (by (repeat (first | with_reducible exact Fr.done | with_reducible exact Fr.nil | (with_reducible apply Fr.cons; (focus ((repeat (first | with_reducible exact Take.here | with_reducible apply Take.there)); done))) | with_reducible apply Fr.skip)))) | exact HK.out _ (Sat.sub (s19.drew) (by (repeat (first | with_reducible exact Fr.done | with_reducible exact Fr.nil | (with_reducible apply Fr.cons; (focus ((repeat (first | with_reducible exact Take.here | with_reducible apply Take.there)); done))) | with_reducible apply Fr.skip)))) | exact HK.out _ (Sat.sub ((s18.alloc' _)) (by (repeat (first | with_reducible exact Fr.done | with_reducible exact Fr.nil | (with_reducible apply Fr.cons; (focus ((repeat (first | with_reducible exact Take.here | with_reducible apply Take.there)); done))) | with_reducible apply Fr.skip)))) | exact HK.out _ (Sat.sub ((s19.alloc' _)) (by (repeat (first | with_reducible exact Fr.done | with_reducible exact Fr.nil | (with_reducible apply Fr.cons; (focus ((repeat (first | with_reducible exact Take.here | with_reducible apply Take.there)); done))) | with_reducible apply Fr.skip))))) (first | (go_at_call 28; refine (sameT T T HQ.out.1 HQ.out.1 (by decide) rfl (by (repeat (first | with_reducible apply Sat.sub (s17) | with_reducible apply Sat.alloc' | with_reducible apply Sat.drew | with_reducible apply Sat.drewN)); (repeat (first | with_reducible exact Fr.done | with_reducible exact Fr.nil | (with_reducible apply Fr.cons; (focus ((repeat (first | with_reducible exact Take.here | with_reducible apply Take.there)); done))) | with_reducible apply Fr.skip)); done)).mono ?_; rintro e w12 ⟨rfl, s18⟩) | (go_at_call 30; refine (ledRunsF (l := l) (rs := [(2, 128, pd)]) (by simp) (by first | exact (Sat.sub (runOne (k := 2) (s := 128) (n := pd) (T := tRun) s18) (by (repeat (first | with_reducible exact Fr.done | with_reducible exact Fr.nil | (with_reducible apply Fr.cons; (focus ((repeat (first | with_reducible exact Take.here | with_reducible apply Take.there)); done))) | with_reducible apply Fr.skip)))) | exact (Sat.sub (s18) (by (repeat (first | with_reducible exact Fr.done | with_reducible exact Fr.nil | (with_reducible apply Fr.cons; (focus ((repeat (first | with_reducible exact Take.here | with_reducible apply Take.there)); done))) | with_reducible apply Fr.skip)))) | exact (Sat.sub (s18.drew) (by (repeat (first | with_reducible exact Fr.done | with_reducible exact Fr.nil | (with_reducible apply Fr.cons; (focus ((repeat (first | with_reducible exact Take.here | with_reducible apply Take.there)); done))) | with_reducible apply Fr.skip)))))).mono ?_; rintro e w13 ⟨q5, c5, rfl, s19⟩) | (go_at_call 29; refine (sameRuns [(2, 128, pd)] (by rfl) (by rfl) (by simp) (by first | exact (Sat.sub (runOne (k := 2) (s := 128) (n := pd) (T := tRun) s19) (by (repeat (first | with_reducible exact Fr.done | with_reducible exact Fr.nil | (with_reducible apply Fr.cons; (focus ((repeat (first | with_reducible exact Take.here | with_reducible apply Take.there)); done))) | with_reducible apply Fr.skip)))) | exact (Sat.sub (s19) (by (repeat (first | with_reducible exact Fr.done | with_reducible exact Fr.nil | (with_reducible apply Fr.cons; (focus ((repeat (first | with_reducible exact Take.here | with_reducible apply Take.there)); done))) | with_reducible apply Fr.skip)))) | exact (Sat.sub (s19.drew) (by (repeat (first | with_reducible exact Fr.done | with_reducible exact Fr.nil | (with_reducible apply Fr.cons; (focus ((repeat (first | with_reducible exact Take.here | with_reducible apply Take.there)); done))) | with_reducible apply Fr.skip)))))).mono ?_; rintro e w14 ⟨rfl, s20⟩))
        all_goals
          go_wp2
          go_ret
          exact ⟨rfl, s20.below⟩
end Go.Proofs.Ytmohabidfalhoaa
