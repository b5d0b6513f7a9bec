
/- States that were wiped: they refuse all; under the conditions that each names. -/
import Derived.Test.YtlmababpmmhhoaaGreatLed2
namespace Go.Proofs.YtlmababpmmhhoaaGreat
open Go.RowKit Go.Sep Go.Bv Go.Sha
set_option linter.unusedVariables false
set_option linter.unusedSimpArgs false
/-- A state that was wiped. -/
def gone : Bool → Nat → Assn | false, b => seg true b 73 [.bool false] | true, b => seg true b 0 [.bool false]
theorem cut256 : cells256 (List.replicate 8 0) 0 (List.replicate 64 0) false = (cells256 (List.replicate 8 0) 0 (List.replicate 64 0) false).take 73 ++ [.bool false] := by rfl
theorem cut512 : cells512 (List.replicate 8 0) 0 (List.replicate 128 0) false = [.bool false] ++ (cells512 (List.replicate 8 0) 0 (List.replicate 128 0) false).drop 1 := by rfl
theorem dWipe {W0 w : World} {L : List Assn} {b : Nat} (wide : Bool) (p : Option Nat) (rs : List Run3) (msg : List Byte) (hb : tot rs + 1 ≤ 4611686018427387904) (hl : rs.length ≤ 4294967296) (hs : Sat W0 w (ledO p rs :: dst wide b msg :: L)) :
    Calls Tryz.prog (fWipe wide) #[.pointer (some ⟨b, 0, none⟩), ptrO p] w fun e w' => e = .returned (.int .i64 0) ∧ Sat W0 w' (ledO p (note rs 8 (fsz wide) 1) :: gone wide b :: L) := by
  cases wide
  · refine (wipe256 p rs msg hb hl (((dstOpen0 (hs.pick [1] : Sat W0 w (dst false b msg :: ledO p rs :: L))).pick [4]))).mono ?_
    rintro e w' ⟨rfl, s⟩
    refine ⟨rfl, ?_⟩
    rw [cut256] at s
    exact ((Sat.part s (q := 73) rfl).drop 0).pick [1]
  · refine (wipe512 p rs msg hb hl (((dstOpen1 (hs.pick [1] : Sat W0 w (dst true b msg :: ledO p rs :: L))).pick [4]))).mono ?_
    rintro e w' ⟨rfl, s⟩
    refine ⟨rfl, ?_⟩
    rw [cut512] at s
    exact ((Sat.part s (q := 1) rfl).drop 1).pick [1, 0]
theorem noneG {W0 w : World} {L : List Assn} {b : Nat} (hs : Sat W0 w (gone false b :: L)) : Calls Tryz.prog 69 #[.pointer (some ⟨b, 0, none⟩)] w fun e w' => e = .returned (.bool true) ∧ w = w' := by
  have c : w.cell? ⟨b, 73, none⟩ = some (.bool false) := Sat.cell (hs : Sat W0 w (seg true b 73 [.bool false] :: L)) (i := 0) rfl
  go_enter Tryz.func69, Tryz.ntmps69
  go_wp2
  go_ret
  exact ⟨rfl, rfl⟩
theorem isG {W0 w : World} {L : List Assn} {b : Nat} (hs : Sat W0 w (gone true b :: L)) : Calls Tryz.prog 72 #[.pointer (some ⟨b, 0, none⟩)] w fun e w' => e = .returned (.bool false) ∧ w = w' := by
  have c : w.cell? ⟨b, 0, none⟩ = some (.bool false) := Sat.cell (hs : Sat W0 w (seg true b 0 [.bool false] :: L)) (i := 0) rfl
  go_enter Tryz.func72, Tryz.ntmps72
  go_wp2
  go_ret
  exact ⟨rfl, rfl⟩
theorem gWrite {W0 w : World} {L : List Assn} {b : Nat} (wide : Bool) (p v : Value) (hs : Sat W0 w (gone wide b :: L)) :
    Calls Tryz.prog (fWrite wide) #[.pointer (some ⟨b, 0, none⟩), p, v] w fun e w' => e = .returned (.int .i64 1) ∧ w = w' := by
  cases wide
  · show Calls Tryz.prog 127 _ w _
    go_enter Tryz.func127, Tryz.ntmps127
    go_wp2_with fail
    refine (noneG hs).mono ?_
    rintro e w' ⟨rfl, rfl⟩
    go_wp2
    go_ret
    exact ⟨rfl, rfl⟩
  · show Calls Tryz.prog 54 _ w _
    go_enter Tryz.func54, Tryz.ntmps54
    go_wp2_with fail
    refine (isG hs).mono ?_
    rintro e w' ⟨rfl, rfl⟩
    go_wp2
    go_ret
    exact ⟨rfl, rfl⟩
theorem gWipe {W0 w : World} {L : List Assn} {b : Nat} (wide : Bool) (p : Value) (hs : Sat W0 w (gone wide b :: L)) :
    Calls Tryz.prog (fWipe wide) #[.pointer (some ⟨b, 0, none⟩), p] w fun e w' => e = .returned (.int .i64 1) ∧ w = w' := by
  cases wide
  · show Calls Tryz.prog 126 _ w _
    go_enter Tryz.func126, Tryz.ntmps126
    go_wp2_with fail
    refine (noneG hs).mono ?_
    rintro e w' ⟨rfl, rfl⟩
    go_wp2
    go_ret
    exact ⟨rfl, rfl⟩
  · show Calls Tryz.prog 132 _ w _
    go_enter Tryz.func132, Tryz.ntmps132
    go_wp2_with fail
    refine (isG hs).mono ?_
    rintro e w' ⟨rfl, rfl⟩
    go_wp2
    go_ret
    exact ⟨rfl, rfl⟩
theorem gSum {W0 w : World} {L : List Assn} {b : Nat} (wide : Bool) (p : Value) (hs : Sat W0 w (gone wide b :: L)) :
    Calls Tryz.prog (fSum wide) #[.pointer (some ⟨b, 0, none⟩), p] w fun e w' => e = .returned (.tuple #[.slice none 0 0, .int .i64 1]) ∧ w = w' := by
  cases wide
  · show Calls Tryz.prog 52 _ w _
    go_enter Tryz.func52, Tryz.ntmps52
    go_wp2_with fail
    refine (noneG hs).mono ?_
    rintro e w' ⟨rfl, rfl⟩
    go_wp2
    refine bodyPost_ret (v := .tuple #[.slice none 0 0, .int .i64 1]) (by simp [results, Tryz.results52, go_sem]) rfl ⟨rfl, rfl⟩
  · show Calls Tryz.prog 55 _ w _
    go_enter Tryz.func55, Tryz.ntmps55
    go_wp2_with fail
    refine (isG hs).mono ?_
    rintro e w' ⟨rfl, rfl⟩
    go_wp2
    refine bodyPost_ret (v := .tuple #[.slice none 0 0, .int .i64 1]) (by simp [results, Tryz.results55, go_sem]) rfl ⟨rfl, rfl⟩
theorem gForm {W0 w : World} {L : List Assn} {b : Nat} (wide : Bool) (hs : Sat W0 w (gone wide b :: L)) :
    Calls Tryz.prog (fForm wide) #[.pointer (some ⟨b, 0, none⟩)] w fun e w' => e = .returned (.slice none 0 0) ∧ w = w' := by
  cases wide
  · show Calls Tryz.prog 124 _ w _
    go_enter Tryz.func124, Tryz.ntmps124
    go_wp2_with fail
    refine (noneG hs).mono ?_
    rintro e w' ⟨rfl, rfl⟩
    go_wp2
    go_ret
    exact ⟨rfl, rfl⟩
  · show Calls Tryz.prog 130 _ w _
    go_enter Tryz.func130, Tryz.ntmps130
    go_wp2_with fail
    refine (isG hs).mono ?_
    rintro e w' ⟨rfl, rfl⟩
    go_wp2
    go_ret
    exact ⟨rfl, rfl⟩
theorem gClone256 {W0 w : World} {L : List Assn} {b : Nat} (hs : Sat W0 w (gone false b :: L)) :
    Calls Tryz.prog 129 #[.pointer (some ⟨b, 0, none⟩)] w fun e w' => e = .returned (.tuple #[.pointer none, .int .i64 1]) ∧ w = w' := by
  go_enter Tryz.func129, Tryz.ntmps129
  go_wp2_with fail
  refine (noneG hs).mono ?_
  rintro e w' ⟨rfl, rfl⟩
  go_wp2
  refine bodyPost_ret (v := .tuple #[.pointer none, .int .i64 1]) (by simp [results, Tryz.results129, go_sem]) rfl ⟨rfl, rfl⟩
theorem gClone512 {W0 w : World} {L : List Assn} {b : Nat} (hs : Sat W0 w (gone true b :: L)) :
    Calls Tryz.prog 134 #[.pointer (some ⟨b, 0, none⟩)] w fun e w' => e = .returned (.tuple #[.pointer none, .int .i64 1]) ∧ w = w' := by
  go_enter Tryz.func134, Tryz.ntmps134
  go_wp2_with fail
  refine (isG hs).mono ?_
  rintro e w' ⟨rfl, rfl⟩
  go_wp2
  refine bodyPost_ret (v := .tuple #[.pointer none, .int .i64 1]) (by simp [results, Tryz.results134, go_sem]) rfl ⟨rfl, rfl⟩
theorem gCopy {W0 w : World} {L : List Assn} {b : Nat} (wide : Bool) (hs : Sat W0 w (gone wide b :: L)) :
    Calls Tryz.prog (fCopy wide) #[.agg #[.pointer (some ⟨b, 0, none⟩)]] w fun e w' => e = .returned .nilIface ∧ Sat W0 w' (gone wide b :: L) := by
  cases wide
  · show Calls Tryz.prog 128 _ w _
    go_enter Tryz.func128, Tryz.ntmps128
    go_wp2_with fail
    refine (gClone256 (hs.alloc' _)).mono ?_
    rintro e w' ⟨rfl, rfl⟩
    go_wp2
    go_ret
    exact ⟨rfl, hs.alloc' _⟩
  · show Calls Tryz.prog 133 _ w _
    go_enter Tryz.func133, Tryz.ntmps133
    go_wp2_with fail
    refine (gClone512 (hs.alloc' _)).mono ?_
    rintro e w' ⟨rfl, rfl⟩
    go_wp2
    go_ret
    exact ⟨rfl, hs.alloc' _⟩
@[go_sem] theorem eql_small (b : Nat) (w : World) : (binOp .eql 31 (.iface 87 (.agg #[.pointer (some ⟨b, 0, none⟩)])) .nilIface).run Tryz.prog w = .ok (.bool false) w := by kernel_rfl
@[go_sem] theorem eql_big (b : Nat) (w : World) : (binOp .eql 31 (.iface 91 (.agg #[.pointer (some ⟨b, 0, none⟩)])) .nilIface).run Tryz.prog w = .ok (.bool false) w := by kernel_rfl
@[go_sem] theorem eql_nilif (w : World) : (binOp .eql 31 .nilIface .nilIface).run Tryz.prog w = .ok (.bool true) w := by kernel_rfl
@[go_sem] theorem eqlFunc26 (f : FuncId) (w : World) : (binOp .eql 60 (.func (.func f) #[] #[]) .nilFunc).run Tryz.prog w = .ok (.bool false) w := by kernel_rfl
@[go_sem] theorem eqlFunc27 (f : FuncId) (w : World) : (binOp .eql 61 (.func (.func f) #[] #[]) .nilFunc).run Tryz.prog w = .ok (.bool false) w := by kernel_rfl
end Go.Proofs.YtlmababpmmhhoaaGreat
