
/- The helpers of layer 11's statements, and DigestNames; each under the conditions that it names. -/
import Derived.Test.YtlmababpmmhhoaaGreatL12
namespace Go.Proofs.YtlmababpmmhhoaaGreat
open Go.RowKit Go.Sep Go.Bv Go.Sha
set_option linter.unusedVariables false
set_option linter.unusedSimpArgs false
/-- The document's numbers of a hash function. -/
def rcells : Bool → List Value
  | false => [.int .u8 1, .int .i64 32, .int .i64 64, .int .u8 1, .int .i64 64]
  | true => [.int .u8 2, .int .i64 64, .int .i64 128, .int .u8 2, .int .i64 128]
def rbare : List Value := [.int .u8 0, .int .i64 0, .int .i64 0, .int .u8 0, .int .i64 0]
set_option maxHeartbeats 1000000 in
theorem rOf {W0 w : World} {L : List Assn} (wide : Bool) (hs : Sat W0 w L) : Calls Tryz.prog 19 #[.int .u8 (algN wide)] w fun e w' => e = .returned (.tuple #[.agg (rcells wide).toArray, .int .i64 0]) ∧ Sat W0 w' L := by
  cases wide
  · show Calls Tryz.prog 19 #[.int .u8 1] w _
    go_enter Tryz.func19, Tryz.ntmps19
    go_wp2
    refine bodyPost_ret (v := .tuple #[.agg (rcells false).toArray, .int .i64 0]) (by simp [results, Tryz.results19, go_sem, rcells]) rfl ⟨rfl, ?_⟩
    exact (hs.alloc _ _).tail
  · show Calls Tryz.prog 19 #[.int .u8 2] w _
    go_enter Tryz.func19, Tryz.ntmps19
    go_wp2
    refine bodyPost_ret (v := .tuple #[.agg (rcells true).toArray, .int .i64 0]) (by simp [results, Tryz.results19, go_sem, rcells]) rfl ⟨rfl, ?_⟩
    exact (hs.alloc _ _).tail
set_option maxHeartbeats 1000000 in
theorem rOfNone {W0 w : World} {L : List Assn} (a : Int) (h1 : ¬ a = 1) (h2 : ¬ a = 2) (hs : Sat W0 w L) : Calls Tryz.prog 19 #[.int .u8 a] w fun e w' => e = .returned (.tuple #[.agg rbare.toArray, .int .i64 4]) ∧ Sat W0 w' L := by
  have e1 : (a == 1) = false := by simpa using h1
  have e2 : (a == 2) = false := by simpa using h2
  go_enter Tryz.func19, Tryz.ntmps19
  go_wp2
  refine bodyPost_ret (v := .tuple #[.agg rbare.toArray, .int .i64 4]) (by simp [results, Tryz.results19, go_sem, rbare]) rfl ⟨rfl, ?_⟩
  exact (hs.alloc _ _).tail
@[go_sem] theorem neqF26 (f : FuncId) (w : World) : (binOp .neq 60 (.func (.func f) #[] #[]) .nilFunc).run Tryz.prog w = .ok (.bool true) w := by kernel_rfl
@[go_sem] theorem neqF27 (f : FuncId) (w : World) : (binOp .neq 61 (.func (.func f) #[] #[]) .nilFunc).run Tryz.prog w = .ok (.bool true) w := by kernel_rfl
@[go_sem] theorem eqlF26 (w : World) : (binOp .eql 60 .nilFunc .nilFunc).run Tryz.prog w = .ok (.bool true) w := by kernel_rfl
@[go_sem] theorem eqlF27 (w : World) : (binOp .eql 61 .nilFunc .nilFunc).run Tryz.prog w = .ok (.bool true) w := by kernel_rfl
theorem abc256 : (hash false [97, 98, 99]).take 4 = [186, 120, 22, 191] := by decide +kernel
theorem abc512 : (hash true [97, 98, 99]).take 4 = [221, 175, 53, 161] := by decide +kernel
set_option maxRecDepth 100000 in
set_option maxHeartbeats 4000000 in
theorem lives11 {W0 w : World} {L : List Assn} (hs : Sat W0 w L) : Calls Tryz.prog 4 #[] w fun e w' => e = .returned (.bool true) ∧ Sat W0 w' L := by
  have kc := fun (w : World) (C : Array Value) (n c g : Nat) (hg : g = w.heap.size) => Joins.run_convert_bytes_const_at (P := Tryz.prog) w 41 5 C n c g hg Tryz.underlying41 Tryz.underlying5
  have s1 := hs.allocMark (u8s [97, 98, 99]).toArray 5
  have h1 := digSum (cap := 3) false none [] [97, 98, 99] (by decide) (by decide) (by decide) (by decide) (ledNone (bytesOf s1))
  simp only [algN, ptrO, Option.map_none, hsz, List.length_cons, List.length_nil, Nat.zero_add, Nat.reduceAdd] at h1
  go_enter Tryz.func4, Tryz.ntmps4
  go_wp2_with fail
  refine h1.mono ?_
  rintro e w1 ⟨q, cq, rfl, s2⟩
  clear h1 s1
  obtain ⟨hl1, hl2, hl3, s3⟩ := rowBytes s2
  have s4 := (s3.drop 1).allocMark (u8s [97, 98, 99]).toArray 5
  have h2 := digSum (cap := 3) true none [] [97, 98, 99] (by decide) (by decide) (by decide) (by decide) (ledNone (bytesOf s4))
  simp only [algN, ptrO, Option.map_none, hsz, List.length_cons, List.length_nil, Nat.zero_add, Nat.reduceAdd] at h2
  go_wp2_with fail
  refine h2.mono ?_
  rintro e w2 ⟨q2, cq2, rfl, s5⟩
  clear h2 s4 s3 s2
  obtain ⟨hl4, hl5, hl6, s6⟩ := rowBytes s5
  obtain ⟨T1, hT1⟩ : ∃ T, T = hash false [97, 98, 99] := ⟨_, rfl⟩
  obtain ⟨T2, hT2⟩ : ∃ T, T = hash true [97, 98, 99] := ⟨_, rfl⟩
  rw [← hT1] at s6
  rw [← hT2] at s6
  have e1 : T1.take 4 = [186, 120, 22, 191] := by rw [hT1]; exact abc256
  have e2 : T2.take 4 = [221, 175, 53, 161] := by rw [hT2]; exact abc512
  have s7 : Sat W0 w2 (bytes true q (T1.take 4) :: bytes true q2 (T2.take 4) :: L) := by
    have sa : Sat W0 w2 (bytes true q T1 :: bytes true q2 T2 :: L) := (((s6.pick [3, 0]).drop 2).drop 2).drop 2
    have sb : Sat W0 w2 (bytes true q2 T2 :: bytes true q (T1.take 4) :: L) := (bytesTake 4 sa).pull 1
    exact (bytesTake 4 sb).pull 1
  have hA : ∀ (wx : World) (g : Nat), Sat W0 wx (seg true g 0 (u8s [186, 120, 22, 191]) :: bytes true q (T1.take 4) :: bytes true q2 (T2.take 4) :: L) → Calls Tryz.prog 12 #[.slice q 4 cq, .slice (some ⟨g, 0, none⟩) 4 4] wx fun e w' => e = .returned (.bool true) ∧ Sat W0 w' (bytes true q2 (T2.take 4) :: L) := by
    intro wx g sx
    have h4 : (T1.take 4).length = 4 := by rw [e1]; rfl
    have := sameTrue (ca := cq) (cb := 4) (T1.take 4) [186, 120, 22, 191] e1 (by rw [h4]; decide) ((bytesOf sx).pull 1)
    rw [h4] at this
    refine this.mono ?_
    rintro e w' ⟨rfl, n, rfl⟩
    exact ⟨rfl, ((sx.drewN n).drop 0).drop 0⟩
  have hB : ∀ (wx : World) (g : Nat), Sat W0 wx (seg true g 0 (u8s [221, 175, 53, 161]) :: bytes true q2 (T2.take 4) :: L) → Calls Tryz.prog 12 #[.slice q2 4 cq2, .slice (some ⟨g, 0, none⟩) 4 4] wx fun e w' => e = .returned (.bool true) ∧ Sat W0 w' L := by
    intro wx g sx
    have h4 : (T2.take 4).length = 4 := by rw [e2]; rfl
    have := sameTrue (ca := cq2) (cb := 4) (T2.take 4) [221, 175, 53, 161] e2 (by rw [h4]; decide) ((bytesOf sx).pull 1)
    rw [h4] at this
    refine this.mono ?_
    rintro e w' ⟨rfl, n, rfl⟩
    exact ⟨rfl, ((sx.drewN n).drop 0).drop 0⟩
  have HA := Lib.hid hA; have HB := Lib.hid hB
  have sA := s7.alloc (u8s [186, 120, 22, 191]).toArray 5
  have hq1 : (4 : Int) ≤ (cq : Int) := by omega
  have hq2 : (4 : Int) ≤ (cq2 : Int) := by omega
  clear hA hB hT1 hT2 e1 e2 s5 s6 hl1 hl2 hl3 hl4 hl5 hl6 hs
  go_wp2_with fail
  refine (HA.out _ _ sA).mono ?_
  rintro e w3 ⟨rfl, s8⟩
  have sB := s8.alloc (u8s [221, 175, 53, 161]).toArray 5
  go_wp2_with fail
  refine (HB.out _ _ sB).mono ?_
  rintro e w4 ⟨rfl, s9⟩
  go_wp2
  go_ret
  exact ⟨rfl, s9⟩
end Go.Proofs.YtlmababpmmhhoaaGreat
