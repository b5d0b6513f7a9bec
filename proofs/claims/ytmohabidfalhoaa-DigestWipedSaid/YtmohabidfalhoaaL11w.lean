/- DigestWiped: a state that was wiped refuses all; a copy of it does not know; for every input. -/
import Derived.Test.YtmohabidfalhoaaL11p
import Derived.Test.YtmohabidfalhoaaGone
namespace Go.Proofs.Ytmohabidfalhoaa
open Go.RowKit Go.Sep Go.Bv Go.Sha
set_option linter.unusedVariables false
set_option linter.unusedSimpArgs false
@[go_sem] theorem inv0_writeN (b : Nat) (p s : Value) (w : World) : (callMethod (.iface 99 (.agg #[.pointer (some ⟨b, 0, none⟩)])) "Write" #[p, s]).run Try.prog w = .ok (.enter 171 #[.pointer (some ⟨b, 0, none⟩), p, s]) w := by kernel_rfl
theorem dFormF {W0 w : World} {L : List Assn} {b : Nat} (wide : Bool) (msg : List Byte) (hb : msg.length ≤ 2305843009213693952) (hs : Sat W0 w (dst wide b msg :: L)) :
    Calls Try.prog (fForm wide) #[.pointer (some ⟨b, 0, none⟩)] w fun e w' => ∃ q c, e = .returned (.slice q (fsz wide) c) ∧ Sat W0 w' (dst wide b msg :: L) := by
  refine (dForm wide msg hb hs).mono ?_
  rintro e w' ⟨q, c, rfl, s⟩
  exact ⟨q, c, rfl, s.tail⟩
set_option maxRecDepth 100000 in
set_option maxHeartbeats 1000000 in
theorem dwiped_any (W : World) (wide : Bool) (a1 : Option Addr × Nat × Nat × List Byte) (h1 : IsBytes W a1.1 a1.2.1 a1.2.2.1 a1.2.2.2) :
    Calls Try.prog 8 #[.bool wide, .slice a1.1 a1.2.1 a1.2.2.1] W fun e W' => e = .returned (.bool true) ∧ Below W.heap.size W W' := by
  obtain ⟨p1, n1, c1, P⟩ := a1
  simp only at h1 ⊢
  have s0 : Sat W W (bytes false p1 P :: []) := h1.sat (Sat.nil W)
  obtain ⟨hP, hP1, hP2, -⟩ := h1
  have HA := Lib.hid (And.intro hP hP2); clear hP hP2
  by_cases g1 : 8192 < n1
  · go_enter Try.func8, Try.ntmps8
    go_wp2_with fail
    refine (lives11 s0).mono ?_
    rintro e w1 ⟨rfl, s1⟩
    go_wp2
    go_ret
    exact ⟨rfl, s1.below⟩
  cases wide
  · skip
    go_enter Try.func8, Try.ntmps8
    go_wp2_with fail
    refine (lives11 s0).mono ?_
    rintro e w1 ⟨rfl, s1⟩
    clear s0
    go_wp2_with fail
    refine (dOf false s1).mono ?_
    rintro e w2 ⟨rfl, s2⟩
    clear s1
    obtain ⟨bx, hbx⟩ : ∃ bx, bx = w2.heap.size := ⟨_, rfl⟩
    have s3 : Sat W _ (seg true bx 0 (hcells false) :: bytes false p1 P :: []) := s2.allocAt (hcells false).toArray 29 (q := bx) hbx
    have hn := dNew false s3
    simp only [hcells] at hn ⊢
    go_wp2_with fail
    refine hn.mono ?_
    rintro e w3 ⟨bs, rfl, s4'⟩
    have s4 : Sat W w3 (dst false bs [] :: seg true bx 0 (hcells false) :: bytes false p1 P :: []) := s4'
    rw [← hbx]
    clear s4' hn s3 s2 hbx
    simp only [ifv]
    go_wp2_with fail
    refine (ledNewF s4).mono ?_
    rintro e w4 ⟨l, rfl, s5⟩
    clear s4
    go_wp2_with fail
    refine (dWriteF (cap := c1) false none [] [] P HA.out.1 rfl hP1 HA.out.2 (by simp only [tot, List.length_nil]; omega) (by decide) (by (repeat (first | with_reducible apply Sat.sub (ledNone s5) | with_reducible apply Sat.alloc' | with_reducible apply Sat.drew | with_reducible apply Sat.drewN)); (repeat (first | with_reducible exact Fr.done | with_reducible exact Fr.nil | (with_reducible apply Fr.cons; (focus ((repeat (first | with_reducible exact Take.here | with_reducible apply Take.there)); done))) | with_reducible apply Fr.skip)); done)).mono ?_
    rintro e w5 ⟨rfl, s6⟩
    clear s5
    simp only [List.nil_append] at s6
    go_wp2_with fail
    refine (dCopy false (b := bs) P (by (repeat (first | with_reducible apply Sat.sub (s6) | with_reducible apply Sat.alloc' | with_reducible apply Sat.drew | with_reducible apply Sat.drewN)); (repeat (first | with_reducible exact Fr.done | with_reducible exact Fr.nil | (with_reducible apply Fr.cons; (focus ((repeat (first | with_reducible exact Take.here | with_reducible apply Take.there)); done))) | with_reducible apply Fr.skip)); done)).mono ?_
    rintro e w6 ⟨bc, rfl, s7⟩
    clear s6
    simp only [ifv]
    go_wp2_with fail
    refine (dWipe false (b := bs) (some l) [] P (by decide) (by decide) (by (repeat (first | with_reducible apply Sat.sub (s7) | with_reducible apply Sat.alloc' | with_reducible apply Sat.drew | with_reducible apply Sat.drewN)); (repeat (first | with_reducible exact Fr.done | with_reducible exact Fr.nil | (with_reducible apply Fr.cons; (focus ((repeat (first | with_reducible exact Take.here | with_reducible apply Take.there)); done))) | with_reducible apply Fr.skip)); done)).mono ?_
    rintro e w7 ⟨rfl, s8⟩
    clear s7
    go_wp2_with fail
    have e1 : note [] 8 (fsz false) 1 = [((8 : Int), (104 : Int), 1)] := rfl
    rw [e1] at s8
    clear e1
    go_at_call 30
    refine (ledRunsF (l := l) (rs := [((8 : Int), (104 : Int), 1)]) (by decide) (by (repeat (first | with_reducible apply Sat.sub (s8) | with_reducible apply Sat.alloc' | with_reducible apply Sat.drew | with_reducible apply Sat.drewN)); (repeat (first | with_reducible exact Fr.done | with_reducible exact Fr.nil | (with_reducible apply Fr.cons; (focus ((repeat (first | with_reducible exact Take.here | with_reducible apply Take.there)); done))) | with_reducible apply Fr.skip)); done)).mono ?_
    rintro e w8 ⟨q5, c5, rfl, s9⟩
    clear s8
    go_wp2_with fail
    refine (sameRuns [((8 : Int), (104 : Int), 1)] (by rfl) (by rfl) (by decide) (Sat.sub (runOne (k := 8) (s := 104) (n := 1) (T := tRun) s9) (by (repeat (first | with_reducible exact Fr.done | with_reducible exact Fr.nil | (with_reducible apply Fr.cons; (focus ((repeat (first | with_reducible exact Take.here | with_reducible apply Take.there)); done))) | with_reducible apply Fr.skip))))).mono ?_
    rintro e w9 ⟨rfl, s10⟩
    clear s9
    go_wp2_with fail
    have s11 : Sat W w9 (gone false bs :: ledO (some l) [((8 : Int), (104 : Int), 1)] :: dst false bc P :: seg true bx 0 (hcells false) :: bytes false p1 P :: []) := (by (repeat (first | with_reducible apply Sat.sub (s10) | with_reducible apply Sat.alloc' | with_reducible apply Sat.drew | with_reducible apply Sat.drewN)); (repeat (first | with_reducible exact Fr.done | with_reducible exact Fr.nil | (with_reducible apply Fr.cons; (focus ((repeat (first | with_reducible exact Take.here | with_reducible apply Take.there)); done))) | with_reducible apply Fr.skip)); done)
    clear s10
    refine (gSum false _ s11).mono ?_
    rintro e w10 ⟨rfl, rfl⟩
    go_wp2_with fail
    refine (gWrite false _ _ s11).mono ?_
    rintro e w10 ⟨rfl, rfl⟩
    go_wp2_with fail
    refine (gWipe false _ s11).mono ?_
    rintro e w10 ⟨rfl, rfl⟩
    go_wp2_with fail
    refine (gCopy false s11).mono ?_
    rintro e w10 ⟨rfl, s12⟩
    go_wp2_with fail
    refine (gForm false s12).mono ?_
    rintro e w10 ⟨rfl, rfl⟩
    go_wp2_with fail
    refine (ledLenF (l := l) (rs := [((8 : Int), (104 : Int), 1)]) (by (repeat (first | with_reducible apply Sat.sub (s12) | with_reducible apply Sat.alloc' | with_reducible apply Sat.drew | with_reducible apply Sat.drewN)); (repeat (first | with_reducible exact Fr.done | with_reducible exact Fr.nil | (with_reducible apply Fr.cons; (focus ((repeat (first | with_reducible exact Take.here | with_reducible apply Take.there)); done))) | with_reducible apply Fr.skip)); done)).mono ?_
    rintro e w10 ⟨rfl, rfl⟩
    go_wp2_with fail
    refine (dSum false (b := bc) none [] P (by rw [HA.out.1]; simp only [tot]; omega) (by decide) (by (repeat (first | with_reducible apply Sat.sub (ledNone s12) | with_reducible apply Sat.alloc' | with_reducible apply Sat.drew | with_reducible apply Sat.drewN)); (repeat (first | with_reducible exact Fr.done | with_reducible exact Fr.nil | (with_reducible apply Fr.cons; (focus ((repeat (first | with_reducible exact Take.here | with_reducible apply Take.there)); done))) | with_reducible apply Fr.skip)); done)).mono ?_
    rintro e w10 ⟨q1, d1, rfl, s13⟩
    clear s11 s12
    obtain ⟨-, hd1, hd2, s14⟩ := rowBytes s13
    have HD := Lib.hid hd2; clear hd2 s13
    obtain ⟨z, y0, y1, y2, y3, y4, y5, y6⟩ := hc_false ((by (repeat (first | with_reducible apply Sat.sub (s14) | with_reducible apply Sat.alloc' | with_reducible apply Sat.drew | with_reducible apply Sat.drewN)); (repeat (first | with_reducible exact Fr.done | with_reducible exact Fr.nil | (with_reducible apply Fr.cons; (focus ((repeat (first | with_reducible exact Take.here | with_reducible apply Take.there)); done))) | with_reducible apply Fr.skip)); done) : Sat W w10 (seg true bx 0 (hcells false) :: []))
    simp only [hsz] at hd1 ⊢
    go_wp2_with fail
    refine (dWholeF false none [] P HA.out.1 rfl (by (repeat (first | with_reducible apply Sat.sub (ledNone s14) | with_reducible apply Sat.alloc' | with_reducible apply Sat.drew | with_reducible apply Sat.drewN)); (repeat (first | with_reducible exact Fr.done | with_reducible exact Fr.nil | (with_reducible apply Fr.cons; (focus ((repeat (first | with_reducible exact Take.here | with_reducible apply Take.there)); done))) | with_reducible apply Fr.skip)); done) hP1 HA.out.2 (by simp only [tot]; omega) (by decide)).mono ?_
    rintro e w11 ⟨q2, d2, rfl, s15⟩
    clear s14 z y0 y1 y2 y3 y4 y5 y6
    simp only [hsz]
    go_wp2_with fail
    refine (sameT (hash false P) (hash false P) (hash_len _ _) (hash_len _ _) (by decide) rfl (by (repeat (first | with_reducible apply Sat.sub (s15) | with_reducible apply Sat.alloc' | with_reducible apply Sat.drew | with_reducible apply Sat.drewN)); (repeat (first | with_reducible exact Fr.done | with_reducible exact Fr.nil | (with_reducible apply Fr.cons; (focus ((repeat (first | with_reducible exact Take.here | with_reducible apply Take.there)); done))) | with_reducible apply Fr.skip)); done)).mono ?_
    rintro e w12 ⟨rfl, s16⟩
    clear s15
    go_wp2_with fail
    refine (dFormF false (b := bc) P (by rw [HA.out.1]; omega) (by (repeat (first | with_reducible apply Sat.sub (s16) | with_reducible apply Sat.alloc' | with_reducible apply Sat.drew | with_reducible apply Sat.drewN)); (repeat (first | with_reducible exact Fr.done | with_reducible exact Fr.nil | (with_reducible apply Fr.cons; (focus ((repeat (first | with_reducible exact Take.here | with_reducible apply Take.there)); done))) | with_reducible apply Fr.skip)); done)).mono ?_
    rintro e w13 ⟨q3, d3, rfl, s17⟩
    simp only [fsz]
    go_wp2
    go_ret
    exact ⟨rfl, s17.below⟩
  · skip
    go_enter Try.func8, Try.ntmps8
    go_wp2_with fail
    refine (lives11 s0).mono ?_
    rintro e w1 ⟨rfl, s1⟩
    clear s0
    go_wp2_with fail
    refine (dOf true s1).mono ?_
    rintro e w2 ⟨rfl, s2⟩
    clear s1
    obtain ⟨bx, hbx⟩ : ∃ bx, bx = w2.heap.size := ⟨_, rfl⟩
    have s3 : Sat W _ (seg true bx 0 (hcells true) :: bytes false p1 P :: []) := s2.allocAt (hcells true).toArray 29 (q := bx) hbx
    have hn := dNew true s3
    simp only [hcells] at hn ⊢
    go_wp2_with fail
    refine hn.mono ?_
    rintro e w3 ⟨bs, rfl, s4'⟩
    have s4 : Sat W w3 (dst true bs [] :: seg true bx 0 (hcells true) :: bytes false p1 P :: []) := s4'
    rw [← hbx]
    clear s4' hn s3 s2 hbx
    simp only [ifv]
    go_wp2_with fail
    refine (ledNewF s4).mono ?_
    rintro e w4 ⟨l, rfl, s5⟩
    clear s4
    go_wp2_with fail
    refine (dWriteF (cap := c1) true none [] [] P HA.out.1 rfl hP1 HA.out.2 (by simp only [tot, List.length_nil]; omega) (by decide) (by (repeat (first | with_reducible apply Sat.sub (ledNone s5) | with_reducible apply Sat.alloc' | with_reducible apply Sat.drew | with_reducible apply Sat.drewN)); (repeat (first | with_reducible exact Fr.done | with_reducible exact Fr.nil | (with_reducible apply Fr.cons; (focus ((repeat (first | with_reducible exact Take.here | with_reducible apply Take.there)); done))) | with_reducible apply Fr.skip)); done)).mono ?_
    rintro e w5 ⟨rfl, s6⟩
    clear s5
    simp only [List.nil_append] at s6
    go_wp2_with fail
    refine (dCopy true (b := bs) P (by (repeat (first | with_reducible apply Sat.sub (s6) | with_reducible apply Sat.alloc' | with_reducible apply Sat.drew | with_reducible apply Sat.drewN)); (repeat (first | with_reducible exact Fr.done | with_reducible exact Fr.nil | (with_reducible apply Fr.cons; (focus ((repeat (first | with_reducible exact Take.here | with_reducible apply Take.there)); done))) | with_reducible apply Fr.skip)); done)).mono ?_
    rintro e w6 ⟨bc, rfl, s7⟩
    clear s6
    simp only [ifv]
    go_wp2_with fail
    refine (dWipe true (b := bs) (some l) [] P (by decide) (by decide) (by (repeat (first | with_reducible apply Sat.sub (s7) | with_reducible apply Sat.alloc' | with_reducible apply Sat.drew | with_reducible apply Sat.drewN)); (repeat (first | with_reducible exact Fr.done | with_reducible exact Fr.nil | (with_reducible apply Fr.cons; (focus ((repeat (first | with_reducible exact Take.here | with_reducible apply Take.there)); done))) | with_reducible apply Fr.skip)); done)).mono ?_
    rintro e w7 ⟨rfl, s8⟩
    clear s7
    go_wp2_with fail
    have e1 : note [] 8 (fsz true) 1 = [((8 : Int), (200 : Int), 1)] := rfl
    rw [e1] at s8
    clear e1
    go_at_call 30
    refine (ledRunsF (l := l) (rs := [((8 : Int), (200 : Int), 1)]) (by decide) (by (repeat (first | with_reducible apply Sat.sub (s8) | with_reducible apply Sat.alloc' | with_reducible apply Sat.drew | with_reducible apply Sat.drewN)); (repeat (first | with_reducible exact Fr.done | with_reducible exact Fr.nil | (with_reducible apply Fr.cons; (focus ((repeat (first | with_reducible exact Take.here | with_reducible apply Take.there)); done))) | with_reducible apply Fr.skip)); done)).mono ?_
    rintro e w8 ⟨q5, c5, rfl, s9⟩
    clear s8
    go_wp2_with fail
    refine (sameRuns [((8 : Int), (200 : Int), 1)] (by rfl) (by rfl) (by decide) (Sat.sub (runOne (k := 8) (s := 200) (n := 1) (T := tRun) s9) (by (repeat (first | with_reducible exact Fr.done | with_reducible exact Fr.nil | (with_reducible apply Fr.cons; (focus ((repeat (first | with_reducible exact Take.here | with_reducible apply Take.there)); done))) | with_reducible apply Fr.skip))))).mono ?_
    rintro e w9 ⟨rfl, s10⟩
    clear s9
    go_wp2_with fail
    have s11 : Sat W w9 (gone true bs :: ledO (some l) [((8 : Int), (200 : Int), 1)] :: dst true bc P :: seg true bx 0 (hcells true) :: bytes false p1 P :: []) := (by (repeat (first | with_reducible apply Sat.sub (s10) | with_reducible apply Sat.alloc' | with_reducible apply Sat.drew | with_reducible apply Sat.drewN)); (repeat (first | with_reducible exact Fr.done | with_reducible exact Fr.nil | (with_reducible apply Fr.cons; (focus ((repeat (first | with_reducible exact Take.here | with_reducible apply Take.there)); done))) | with_reducible apply Fr.skip)); done)
    clear s10
    refine (gSum true _ s11).mono ?_
    rintro e w10 ⟨rfl, rfl⟩
    go_wp2_with fail
    refine (gWrite true _ _ s11).mono ?_
    rintro e w10 ⟨rfl, rfl⟩
    go_wp2_with fail
    refine (gWipe true _ s11).mono ?_
    rintro e w10 ⟨rfl, rfl⟩
    go_wp2_with fail
    refine (gCopy true s11).mono ?_
    rintro e w10 ⟨rfl, s12⟩
    go_wp2_with fail
    refine (gForm true s12).mono ?_
    rintro e w10 ⟨rfl, rfl⟩
    go_wp2_with fail
    refine (ledLenF (l := l) (rs := [((8 : Int), (200 : Int), 1)]) (by (repeat (first | with_reducible apply Sat.sub (s12) | with_reducible apply Sat.alloc' | with_reducible apply Sat.drew | with_reducible apply Sat.drewN)); (repeat (first | with_reducible exact Fr.done | with_reducible exact Fr.nil | (with_reducible apply Fr.cons; (focus ((repeat (first | with_reducible exact Take.here | with_reducible apply Take.there)); done))) | with_reducible apply Fr.skip)); done)).mono ?_
    rintro e w10 ⟨rfl, rfl⟩
    go_wp2_with fail
    refine (dSum true (b := bc) none [] P (by rw [HA.out.1]; simp only [tot]; omega) (by decide) (by (repeat (first | with_reducible apply Sat.sub (ledNone s12) | with_reducible apply Sat.alloc' | with_reducible apply Sat.drew | with_reducible apply Sat.drewN)); (repeat (first | with_reducible exact Fr.done | with_reducible exact Fr.nil | (with_reducible apply Fr.cons; (focus ((repeat (first | with_reducible exact Take.here | with_reducible apply Take.there)); done))) | with_reducible apply Fr.skip)); done)).mono ?_
    rintro e w10 ⟨q1, d1, rfl, s13⟩
    clear s11 s12
    obtain ⟨-, hd1, hd2, s14⟩ := rowBytes s13
    have HD := Lib.hid hd2; clear hd2 s13
    obtain ⟨z, y0, y1, y2, y3, y4, y5, y6⟩ := hc_true ((by (repeat (first | with_reducible apply Sat.sub (s14) | with_reducible apply Sat.alloc' | with_reducible apply Sat.drew | with_reducible apply Sat.drewN)); (repeat (first | with_reducible exact Fr.done | with_reducible exact Fr.nil | (with_reducible apply Fr.cons; (focus ((repeat (first | with_reducible exact Take.here | with_reducible apply Take.there)); done))) | with_reducible apply Fr.skip)); done) : Sat W w10 (seg true bx 0 (hcells true) :: []))
    simp only [hsz] at hd1 ⊢
    go_wp2_with fail
    refine (dWholeF true none [] P HA.out.1 rfl (by (repeat (first | with_reducible apply Sat.sub (ledNone s14) | with_reducible apply Sat.alloc' | with_reducible apply Sat.drew | with_reducible apply Sat.drewN)); (repeat (first | with_reducible exact Fr.done | with_reducible exact Fr.nil | (with_reducible apply Fr.cons; (focus ((repeat (first | with_reducible exact Take.here | with_reducible apply Take.there)); done))) | with_reducible apply Fr.skip)); done) hP1 HA.out.2 (by simp only [tot]; omega) (by decide)).mono ?_
    rintro e w11 ⟨q2, d2, rfl, s15⟩
    clear s14 z y0 y1 y2 y3 y4 y5 y6
    simp only [hsz]
    go_wp2_with fail
    refine (sameT (hash true P) (hash true P) (hash_len _ _) (hash_len _ _) (by decide) rfl (by (repeat (first | with_reducible apply Sat.sub (s15) | with_reducible apply Sat.alloc' | with_reducible apply Sat.drew | with_reducible apply Sat.drewN)); (repeat (first | with_reducible exact Fr.done | with_reducible exact Fr.nil | (with_reducible apply Fr.cons; (focus ((repeat (first | with_reducible exact Take.here | with_reducible apply Take.there)); done))) | with_reducible apply Fr.skip)); done)).mono ?_
    rintro e w12 ⟨rfl, s16⟩
    clear s15
    go_wp2_with fail
    refine (dFormF true (b := bc) P (by rw [HA.out.1]; omega) (by (repeat (first | with_reducible apply Sat.sub (s16) | with_reducible apply Sat.alloc' | with_reducible apply Sat.drew | with_reducible apply Sat.drewN)); (repeat (first | with_reducible exact Fr.done | with_reducible exact Fr.nil | (with_reducible apply Fr.cons; (focus ((repeat (first | with_reducible exact Take.here | with_reducible apply Take.there)); done))) | with_reducible apply Fr.skip)); done)).mono ?_
    rintro e w13 ⟨q3, d3, rfl, s17⟩
    simp only [fsz]
    go_wp2
    go_ret
    exact ⟨rfl, s17.below⟩
end Go.Proofs.Ytmohabidfalhoaa
