
/- A number as a pair; under the conditions that each names. -/
import Derived.Test.YtpiiklfnakkdiaaRfh
namespace Go.Proofs.Ytpiiklfnakkdiaa
open Go.RowKit Go.Sep
set_option linter.unusedVariables false
set_option linter.unusedSimpArgs false
theorem zero_pair (w : World) : (zeroValue 31).run Try.prog w = .ok (.agg #[.int .i64 0, .int .i64 0]) w := by kernel_rfl
theorem Try.size_pair : (Try.prog.info? 31).map (·.size) = some 2 := by kernel_rfl
theorem pair_one (a b : Int) : ∀ v ∈ [Value.int .i64 a, .int .i64 b], v.oneCell' = true := by
  intro v hv; simp only [List.mem_cons, List.not_mem_nil, or_false] at hv; rcases hv with rfl | rfl <;> rfl
set_option maxHeartbeats 1000000 in
theorem pair19 {W0 w : World} {L : List Assn} (z : Int) (hs : Sat W0 w L) :
    Calls Try.prog 26 #[.int .i64 z] w fun e w' => e = .returned (.agg #[.int .i64 z, .int .i64 (bits .xor .i64 z 5)]) ∧ Sat W0 w' L := by
  go_enter Try.func26, Try.ntmps26
  go_wp2_with (first | (refine wpl_alloc_agg rfl 31 rfl hs _ (zero_pair _) ?_; intro w1 g s1 _; clear hs) | (refine wpl_store_agg rfl rfl 31 (.tmp 2) (.tmp 6) rfl (cs := [.int .i64 z, .int .i64 (bits .xor .i64 z 5)]) s1 0 0 Try.size_pair rfl rfl rfl (Nat.le_refl 2) (pair_one _ _) ?_; intro w2 s2; rw [setL_all _ _ (by rfl)] at s2; clear s1))
  have hr := run_loadVar_agg (P := Try.prog) (ty := 31) Try.underlying31 rfl Try.size_pair s2 0 0 rfl (Nat.le_refl 2)
  have hr2 : Sem.run Try.prog (loadVar 31 ⟨g, 0, none⟩) w2 = Result.ok (.agg #[.int .i64 z, .int .i64 (bits .xor .i64 z 5)]) w2 := hr
  have HS := Lib.hid s2.tail; clear s2 hr
  refine bodyPost_ret (v := .agg #[.int .i64 z, .int .i64 (bits .xor .i64 z 5)]) (by simp [results, Try.results26, asAddr]; exact hr2) rfl ⟨rfl, HS.out⟩
end Go.Proofs.Ytpiiklfnakkdiaa
