
import Derived.Test.YtbefjaodpbgpcaaGreatSk3
set_option linter.unusedVariables false
set_option linter.unusedSimpArgs false
set_option maxRecDepth 100000
set_option maxHeartbeats 16000000
namespace Go.Proofs.YtbefjaodpbgpcaaGreat
open Go.RowKit Go.Sep Go.Bv
def clamp (z : Int) : Nat := min z.toNat 16777216
theorem clamp_le (z : Int) : clamp z ≤ 16777216 := Nat.min_le_right _ _
def boundN (s : OpS) : Nat := 64 + clamp s.dn + clamp s.out + (clamp s.en + 512) * (clamp s.out / 32 + 1) / 16 + 4 * clamp s.count * (clamp s.out / 32 + 1)
theorem clampW (w : World) (z : Int) : Calls Tryz.prog 40 #[.int .i64 z] w fun e w' => e = .returned (.int .i64 (clamp z : Int)) ∧ w' = w := by
 have hm : max z 0 = (z.toNat : Int) := by omega
 have hn : min (z.toNat : Int) 16777216 = (clamp z : Int) := by unfold clamp; omega
 have hm1 : (if z ≤ 0 then (0 : Int) else z) = (z.toNat : Int) := by split <;> omega
 go_enter Tryz.func40, Tryz.ntmps40
 go_wp2
 all_goals
  go_ret
  refine ⟨?_, rfl⟩
  show Ending.returned (Value.int IntKind.i64 _) = Ending.returned (Value.int IntKind.i64 _)
  congr 2
  unfold clamp
  (first | omega | (split at * <;> omega))
theorem boundW {W0 w : World} {L : List Assn} (s : OpS) (hs : Sat W0 w L) :
  Calls Tryz.prog 18 #[skV s] w fun e w' => e = .returned (.int .i64 (boundN s : Int)) ∧ Sat W0 w' L := by
 obtain ⟨d, hd⟩ : ∃ d, d = clamp s.dn := ⟨_, rfl⟩
 obtain ⟨m, hm⟩ : ∃ d, d = clamp s.en := ⟨_, rfl⟩
 obtain ⟨o, ho⟩ : ∃ d, d = clamp s.out := ⟨_, rfl⟩
 obtain ⟨c, hc⟩ : ∃ d, d = clamp s.count := ⟨_, rfl⟩
 have bd : d ≤ 16777216 := by rw [hd]; exact clamp_le _
 have bm : m ≤ 16777216 := by rw [hm]; exact clamp_le _
 have bo : o ≤ 16777216 := by rw [ho]; exact clamp_le _
 have bc : c ≤ 16777216 := by rw [hc]; exact clamp_le _
 obtain ⟨k, hk⟩ : ∃ q, q = o / 32 := ⟨_, rfl⟩
 obtain ⟨q, hq⟩ : ∃ q, q = k + 1 := ⟨_, rfl⟩
 obtain ⟨M, hM⟩ : ∃ z, z = (m + 512) * q := ⟨_, rfl⟩
 obtain ⟨C, hC⟩ : ∃ z, z = 4 * c * q := ⟨_, rfl⟩
 have bq : q ≤ 524289 := by omega
 have bM : M ≤ 16777728 * 524289 := by rw [hM]; exact Nat.mul_le_mul (by omega) bq
 have bC : C ≤ 67108864 * 524289 := by rw [hC]; exact Nat.mul_le_mul (by omega) bq
 obtain ⟨Z, hZ⟩ : ∃ z, z = M / 16 := ⟨_, rfl⟩
 have bk : k ≤ 524288 := by omega
 have bZ : Z ≤ M := by omega
 have e1 : (o : Int).tdiv 32 = (k : Int) := by rw [hk]; rfl
 have e2 : (k : Int) + 1 = (q : Int) := by omega
 have e3 : ((m : Int) + 512) * (q : Int) = (M : Int) := by rw [hM]; push_cast; rfl
 have e4 : (M : Int).tdiv 16 = (Z : Int) := by rw [hZ]; rfl
 have e5 : 4 * (c : Int) * (q : Int) = (C : Int) := by rw [hC]; push_cast; rfl
 have eB : boundN s = 64 + d + o + Z + C := by unfold boundN; rw [← hd, ← hm, ← ho, ← hc, ← hk, ← hq, ← hM, ← hC, ← hZ]
 have hw1 := clampW
 have HC := Lib.hid (And.intro (And.intro hd (And.intro hm (And.intro ho hc))) (And.intro eB hw1)); clear hd hm ho hc eB hw1
 have HE := Lib.hid (And.intro e1 (And.intro e2 (And.intro e3 (And.intro e4 e5)))); clear e1 e2 e3 e4 e5 hk hq hM hC hZ
 have HB := Lib.hid (And.intro bd (And.intro bo (And.intro bM (And.intro bC (And.intro bq (And.intro bm (And.intro bc (And.intro bk bZ)))))))); clear bd bo bM bC bq bm bc bk bZ
 go_enter Tryz.func18, Tryz.ntmps18
 go_wp2_with (refine wpl_box rfl 38 (.tmp 0) rfl (skC s) rfl hs ?_; intro w1 g s1 _; clear hs)
 have hCf := fun (w' : World) (X : List Assn) (h : Sat W0 w' (seg true g 0 (skC s) :: X)) => hSk W0 g w' X s h
 have HF := Lib.hid hCf; clear hCf
 have sd := s1.drew
 clear s1
 refine region_E (fun w' : World => w'.cell? ⟨g, 0, none⟩ = some (.int .u8 (s.kind : Int)) ∧ w'.cell? ⟨g, 1, none⟩ = some (.int .i64 s.handle) ∧ w'.cell? ⟨g, 2, none⟩ = some (.int .u8 (s.alg : Int)) ∧ w'.cell? ⟨g, 3, none⟩ = some (.int .i64 s.count) ∧ w'.cell? ⟨g, 4, none⟩ = some (.int .i64 s.out) ∧ w'.cell? ⟨g, 5, none⟩ = some (.int .i64 (s.dn : Int)) ∧ w'.cell? ⟨g, 6, none⟩ = some (.int .i64 (s.en : Int)) ∧ g < w'.heap.size) [2, 6, 10, 14] (by kernel_rfl) ?_
 have hHeld := HF.out _ _ sd
 iterate 12
  first | refine autoT' hHeld (h := ?_) | refine autoP' (h := ?_)
  try simp only [pA1, pA2, pA3, pA4]
 refine anyE_one' (i := 3) (h := fun K hK => ?_)
 go_simp
 refine (HC.out.2.2 _ _).mono ?_
 rintro e w23 ⟨rfl, rfl⟩
 rw [← HC.out.1.1]
 go_wp2_with fail
 have hKp := HF.out _ _ sd
 refine hK.out _ _ hKp ?_
 clear hK K hHeld
 have hHeld := hKp
 clear hKp
 try simp only [pA1, pA2, pA3, pA4]
 refine anyE_one' (i := 7) (h := fun K hK => ?_)
 go_simp
 refine (HC.out.2.2 _ _).mono ?_
 rintro e w27 ⟨rfl, rfl⟩
 rw [← HC.out.1.2.1]
 go_wp2_with fail
 have hKp := HF.out _ _ sd
 refine hK.out _ _ hKp ?_
 clear hK K hHeld
 have hHeld := hKp
 clear hKp
 try simp only [pA1, pA2, pA3, pA4]
 refine anyE_one' (i := 11) (h := fun K hK => ?_)
 go_simp
 refine (HC.out.2.2 _ _).mono ?_
 rintro e w31 ⟨rfl, rfl⟩
 rw [← HC.out.1.2.2.1]
 go_wp2_with fail
 have hKp := HF.out _ _ sd
 refine hK.out _ _ hKp ?_
 clear hK K hHeld
 have hHeld := hKp
 clear hKp
 try simp only [pA1, pA2, pA3, pA4]
 refine anyE_one' (i := 15) (h := fun K hK => ?_)
 go_simp
 refine (HC.out.2.2 _ _).mono ?_
 rintro e w35 ⟨rfl, rfl⟩
 rw [← HC.out.1.2.2.2]
 go_wp2_with fail
 have hKp := HF.out _ _ sd
 refine hK.out _ _ hKp ?_
 clear hK K hHeld
 have hHeld := hKp
 clear hKp
 try simp only [pA1, pA2, pA3, pA4]
 iterate 4
  first | refine autoT' hHeld (h := ?_) | refine autoP' (h := ?_)
  try simp only [pA1, pA2, pA3, pA4]
 refine anyE_done (by kernel_rfl) ?_ _
 clear hHeld
 have HS := Lib.hid sd; clear sd
 obtain ⟨bd, bo, bM, bC, bq, bm, bc, bk, bZ⟩ := HB.out
 obtain ⟨e1, e2, e3, e4, e5⟩ := HE.out
 have b1 : M ≤ 10000000000000 := by omega
 have b2 : C ≤ 40000000000000 := by omega
 clear bM bC
 go_wp2
 go_ret
 refine ⟨?_, HS.out.tail⟩
 show Ending.returned (Value.int IntKind.i64 _) = Ending.returned (Value.int IntKind.i64 _)
 rw [HC.out.2.1]
 congr 2
end Go.Proofs.YtbefjaodpbgpcaaGreat
