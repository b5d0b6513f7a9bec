/- TableNone: tables that are nil, or that nobody made, are answered as rule 4 says; there is no condition. -/
import Derived.Test.YtgdjhegefemkaaaLawA
import Derived.Test.YtgdjhegefemkaaaRng
import Derived.RangeFuncNested
import Derived.RangeFuncBound
import Derived.Shelf.RegionOpen
import Derived.OwnWalkIn
import Derived.TacticsInMore
import Derived.LoopNIn
import Derived.LoopIn
namespace Go.Proofs.Ytgdjhegefemkaaa
open Go.RowKit Go.Sep
set_option linter.unusedVariables false
set_option linter.unusedSimpArgs false
attribute [local go_sem] Oper.semAt_some
theorem empIn {W0 w : World} {L : List Assn} (h : Sat W0 w L) : Sat W0 w (emp :: L) := by
  obtain ⟨hb, hs, hf⟩ := h
  exact ⟨hb, Hp.of (fun _ _ => none) :: hs, .cons trivial (Hp.of_ok fun b o m v e => by cases e) (fun k hk => Hp.of_dis fun b o x y e => by cases e) hf⟩
theorem allocAt' {W0 w : World} {L : List Assn} (h : Sat W0 w L) (cs : Array Value) (T : TypeId) {q : Nat} (hq : q = w.heap.size) : Sat W0 (w.alloc (.cells cs T)) (seg true q 0 cs.toList :: L) := by
  subst hq; exact h.alloc cs T
@[go_sem] theorem eqlSeq (f : FuncId) (fr : Array Value) (w : World) : (binOp .eql 83 (.func (.func f) #[] fr) .nilFunc).run Try.prog w = .ok (.bool false) w := by kernel_rfl
/-- A table that is none: no pointer, or one to a table without numbers. -/
def tnone (b : Option Nat) : Assn := match b with | none => emp | some b => seg true b 0 [.slice none 0 0, .slice none 0 0]
def tptr (b : Option Nat) : Value := .pointer (b.map fun b => ⟨b, 0, none⟩)
theorem tmade {W0 w : World} {L : List Assn} (b : Option Nat) (hs : Sat W0 w (tnone b :: L)) :
    Calls Try.prog 34 #[tptr b] w fun e w' => e = .returned (.bool false) ∧ w' = w := by
  cases b with
  | none =>
    simp only [tptr, Option.map_none]
    go_enter Try.func34, Try.ntmps34
    go_wp2
    go_ret
    exact ⟨rfl, rfl⟩
  | some b =>
    simp only [tptr, Option.map_some, tnone] at hs ⊢
    have c0 := hs.at 0 rfl
    have z0 := hs.lt (by simp)
    go_enter Try.func34, Try.ntmps34
    go_wp2
    go_ret
    exact ⟨rfl, rfl⟩
theorem tadd {W0 w : World} {L : List Assn} (b : Option Nat) (v : Value) (hs : Sat W0 w (tnone b :: L)) :
    Calls Try.prog 17 #[tptr b, v] w fun e w' => e = .returned (.tuple #[.int .i64 0, .int .i64 1]) ∧ w' = w := by
  go_enter Try.func17, Try.ntmps17
  go_wp2_with fail
  refine (tmade b hs).mono ?_
  rintro e w1 ⟨rfl, rfl⟩
  go_wp2
  exact bodyPost_ret (v := .tuple #[.int .i64 0, .int .i64 1]) (by simp [results, Try.results17, go_sem]) rfl ⟨rfl, rfl⟩
theorem tget {W0 w : World} {L : List Assn} (b : Option Nat) (h : Value) (hs : Sat W0 w (tnone b :: L)) :
    Calls Try.prog 18 #[tptr b, h] w fun e w' => e = .returned (.tuple #[.int .i64 0, .int .i64 1]) ∧ w' = w := by
  go_enter Try.func18, Try.ntmps18
  go_wp2_with fail
  refine (tmade b hs).mono ?_
  rintro e w1 ⟨rfl, rfl⟩
  go_wp2
  exact bodyPost_ret (v := .tuple #[.int .i64 0, .int .i64 1]) (by simp [results, Try.results18, go_sem]) rfl ⟨rfl, rfl⟩
theorem tdrop {W0 w : World} {L : List Assn} (b : Option Nat) (h : Value) (hs : Sat W0 w (tnone b :: L)) :
    Calls Try.prog 39 #[tptr b, h] w fun e w' => e = .returned (.tuple #[.int .i64 0, .int .i64 1]) ∧ w' = w := by
  go_enter Try.func39, Try.ntmps39
  go_wp2_with fail
  refine (tget b h hs).mono ?_
  rintro e w1 ⟨rfl, rfl⟩
  go_wp2
  exact bodyPost_ret (v := .tuple #[.int .i64 0, .int .i64 1]) (by simp [results, Try.results39, go_sem]) rfl ⟨rfl, rfl⟩
theorem tset {W0 w : World} {L : List Assn} (b : Option Nat) (h v : Value) (hs : Sat W0 w (tnone b :: L)) :
    Calls Try.prog 19 #[tptr b, h, v] w fun e w' => e = .returned (.int .i64 1) ∧ w' = w := by
  go_enter Try.func19, Try.ntmps19
  go_wp2_with fail
  refine (tmade b hs).mono ?_
  rintro e w1 ⟨rfl, rfl⟩
  go_wp2
  go_ret
  exact ⟨rfl, rfl⟩
theorem tlen {W0 w : World} {L : List Assn} (b : Option Nat) (hs : Sat W0 w (tnone b :: L)) :
    Calls Try.prog 41 #[tptr b] w fun e w' => e = .returned (.int .i64 0) ∧ w' = w := by
  go_enter Try.func41, Try.ntmps41
  go_wp2_with fail
  refine (tmade b hs).mono ?_
  rintro e w1 ⟨rfl, rfl⟩
  go_wp2
  go_ret
  exact ⟨rfl, rfl⟩
theorem tfull {W0 w : World} {L : List Assn} (b : Option Nat) (hs : Sat W0 w (tnone b :: L)) :
    Calls Try.prog 43 #[tptr b] w fun e w' => e = .returned (.bool false) ∧ ∃ k, w' = w.drewN k := by
  go_enter Try.func43, Try.ntmps43
  go_wp2_with fail
  go_quiet ((go_at_call 34; exact Calls.quiet_of_same (tmade b (hs.drewN _))))
  go_wp2
  go_ret
  exact ⟨rfl, _, rfl⟩
theorem tall {W0 w : World} {L : List Assn} (b : Option Nat) (hs : Sat W0 w (tnone b :: L)) :
    Calls Try.prog 44 #[tptr b] w fun e w' => ∃ g, e = .returned (.func (.func 59) #[] #[.pointer (some ⟨g, 0, none⟩)]) ∧ Sat W0 w' (seg true g 0 [.slice none 0 0, .slice none 0 0] :: tnone b :: L) := by
  have s1 := hs.alloc #[.slice none 0 0, .slice none 0 0] 64
  go_enter Try.func44, Try.ntmps44
  go_wp2_with fail
  refine (tmade b (hs.alloc' _)).mono ?_
  rintro e w1 ⟨rfl, rfl⟩
  go_wp2
  go_ret
  exact ⟨_, rfl, s1⟩
set_option maxRecDepth 100000 in
set_option maxHeartbeats 1000000 in
theorem twalk {W0 w : World} {L : List Assn} (g : Nat) (hs : Sat W0 w (seg true g 0 [.slice none 0 0, .slice none 0 0] :: L)) :
    Calls Try.prog 46 #[.func (.func 59) #[] #[.pointer (some ⟨g, 0, none⟩)], .slice none 0 0, .slice none 0 0, .int .i64 0] w fun e w' => e = .returned (.bool true) ∧ Sat W0 w' L := by
  obtain ⟨bx, hbx⟩ : ∃ bx, bx = w.heap.size := ⟨_, rfl⟩
  have s1 := allocAt' (allocAt' (allocAt' (allocAt' (allocAt' hs #[.slice none 0 0] 62 (q := bx) hbx) #[.slice none 0 0] 62 (q := bx + 1) (by simp [hbx])) #[.int .i64 0] 3 (q := bx + 1 + 1) (by simp [hbx])) #[.bool false] 4 (q := bx + 1 + 1 + 1) (by simp [hbx])) #[.int .i64 0] 3 (q := bx + 1 + 1 + 1 + 1) (by simp [hbx])
  refine (callsIn_wide (n := 3)).1 ?_
  refine callsIn_of_wp_marks Try.func46 rfl trivial ?_ rfl
  simp only [Try.ntmps46, List.size_toArray, List.length_cons, List.length_nil, Nat.reduceAdd, Nat.reduceSub, Array.replicate_succ, Array.replicate_zero, List.push_toArray, List.append_toArray, List.nil_append, List.cons_append]
  gi_wp2
  rw [← hbx]
  refine wpIn_rangeSat (F := Fence.wide) (n := 3) rfl (by decide) (gf := 59) (lb := #[.pointer (some ⟨g, 0, none⟩)]) rfl trivial (enters_of Try.func59 (by kernel_rfl) rfl) s1 ?_
  intro fn l D rd W1 hfn hl hD hrd s3
  clear hl hD s1 hbx hs
  have sg : Sat W0 W1 (seg true g 0 [.slice none 0 0, .slice none 0 0] :: _) := s3.pull 7
  have c0 := sg.at 0 rfl
  have z0 := sg.lt (by simp)
  refine callsIn_of_wp Try.func59 rfl trivial ?_ rfl
  simp only [Try.ntmps59, List.size_toArray, List.length_cons, List.length_nil, Nat.reduceAdd, Nat.reduceSub, Array.replicate_succ, Array.replicate_zero, List.push_toArray, List.append_toArray, List.nil_append, List.cons_append]
  gi_wp2
  gi_loopw [8] (fun t8 wr => t8 = .int .i64 0 ∧ wr = W1) (fun _ _ => 0)
  case atStart => exact ⟨rfl, rfl⟩
  case round =>
    obtain ⟨rfl, rfl⟩ := hrel
    gi_wp2
    refine bodyPost_end (results_none rfl _ _ _) rfl ⟨⟨_, rfl⟩, .ready, none, _, (fun h => by cases h), s3, ?_⟩
    clear sg c0 z0 s3
    intro W2 s4 hD
    obtain ⟨s5, hs5⟩ : ∃ s : Sat W0 W2 _, s = s4 := ⟨_, rfl⟩
    have sn : Sat W0 W2 (seg true (bx + 1 + 1 + 1 + 1) 0 [.int .i64 0] :: _) := s4.pull 1
    have sr : Sat W0 W2 (seg true (bx + 1 + 1 + 1) 0 [.bool false] :: _) := s4.pull 2
    have sh : Sat W0 W2 (seg true bx 0 [.slice none 0 0] :: _) := s4.pull 5
    have n0 := sn.at 0 rfl
    have zn := sn.lt (by simp)
    have r0 := sr.at 0 rfl
    have fr0 := sr.fr 0 (by simp)
    have zr := sr.lt (by simp)
    have h0 := sh.at 0 rfl
    have zh := sh.lt (by simp)
    gi_wp2
    have st := sr.store (i := 0) (by simp) (.bool true) (q := 0) rfl
    have hD' := (st.pull 1 : Sat W0 _ (obj D (.deferred (some [])) :: _)).obj.1
    have s6 := (st.pull 1 : Sat W0 _ (obj D (.deferred (some [])) :: _)).putObj (.deferred none) rfl
    have r1 := (s6.pull 1 : Sat W0 _ (seg true (bx + 1 + 1 + 1) 0 [.bool true] :: _)).at 0 rfl
    refine ⟨by simp, .inl ⟨_, _, rfl, run_takeDeferred hD', ?_⟩⟩
    refine ⟨.bool true, ?_, rfl, ?_⟩
    · simp [results, Try.results46, go_sem, asAddr, r1]
    · exact s6.tail.tail.tail.tail.tail.tail.tail
set_option maxRecDepth 100000 in
set_option maxHeartbeats 1000000 in
theorem tnone19 {W0 w : World} {L : List Assn} (b : Option Nat) (h v : Int) (hs : Sat W0 w (tnone b :: L)) :
    Calls Try.prog 25 #[tptr b, .int .i64 h, .int .i64 v] w fun e w' => e = .returned (.bool true) ∧ Sat W0 w' (tnone b :: L) := by
  go_enter Try.func25, Try.ntmps25
  go_wp2_with fail
  refine (tadd b _ hs).mono ?_
  rintro e w1 ⟨rfl, rfl⟩
  go_wp2_with fail
  refine (tget b _ hs).mono ?_
  rintro e w1 ⟨rfl, rfl⟩
  go_wp2_with fail
  refine (tdrop b _ hs).mono ?_
  rintro e w1 ⟨rfl, rfl⟩
  go_wp2_with fail
  refine (tset b _ _ hs).mono ?_
  rintro e w1 ⟨rfl, rfl⟩
  go_wp2_with fail
  refine (tlen b hs).mono ?_
  rintro e w1 ⟨rfl, rfl⟩
  go_wp2_with fail
  refine (tfull b hs).mono ?_
  rintro e w1 ⟨rfl, k, rfl⟩
  have s1 := hs.drewN k
  obtain ⟨w2, hw2⟩ : ∃ w2, w2 = w1.drewN k := ⟨_, rfl⟩
  rw [← hw2] at s1 ⊢
  clear hw2
  go_wp2_with fail
  refine (tall b s1).mono ?_
  rintro e w3 ⟨g, rfl, s2⟩
  go_wp2_with fail
  refine (twalk g s2).mono ?_
  rintro e w4 ⟨rfl, s3⟩
  go_wp2
  go_ret
  exact ⟨rfl, s3⟩
set_option maxRecDepth 100000 in
set_option maxHeartbeats 1000000 in
theorem tableNone_any (W : World) (h v : Int) :
    Calls Try.prog 6 #[.int .i64 h, .int .i64 v] W fun e W' => e = .returned (.bool true) ∧ Below W.heap.size W W' := by
  go_enter Try.func6, Try.ntmps6
  go_wp2_with fail
  refine (awake_any (Sat.nil W)).mono ?_
  rintro e w1 ⟨rfl, s1⟩
  have s2 : Sat W _ (tnone (some w1.heap.size) :: []) := s1.alloc #[.slice none 0 0, .slice none 0 0] 64
  go_wp2_with fail
  refine (tnone19 none h v (empIn s2)).mono ?_
  rintro e w2 ⟨rfl, s3⟩
  go_wp2_with fail
  refine (tnone19 (some w1.heap.size) h v (s3.drop 0)).mono ?_
  rintro e w3 ⟨rfl, s4⟩
  go_wp2_with fail
  refine (tnone19 (some w1.heap.size) 0 v s4).mono ?_
  rintro e w4 ⟨rfl, s5⟩
  go_wp2
  go_ret
  exact ⟨rfl, s5.below⟩
end Go.Proofs.Ytgdjhegefemkaaa
