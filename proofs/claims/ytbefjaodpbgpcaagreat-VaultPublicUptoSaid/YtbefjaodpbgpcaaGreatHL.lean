/- Vp3, Vp4: texts that lie apart elsewhere, as one; each under the conditions that it names. -/
import Derived.Test.YtbefjaodpbgpcaaGreatHG
import Derived.Test.YtbefjaodpbgpcaaGreatGI
import Derived.RangeFuncNested
import Derived.RangeFuncBound
import Derived.Shelf.RegionOpen
import Derived.OwnWalkIn
import Derived.TacticsInMore
import Derived.LoopNIn
import Derived.LoopIn
set_option linter.unusedVariables false
set_option linter.unusedSimpArgs false
set_option maxRecDepth 100000
set_option maxHeartbeats 16000000
namespace Go.Proofs.YtbefjaodpbgpcaaGreat
open Go.RowKit Go.Sep
theorem zero_tabT (w : World) : (zeroValue 107).run Tryz.prog w = .ok (.agg #[.slice none 0 0, .slice none 0 0]) w := by kernel_rfl
theorem all_th {W0 w : World} {L : List Assn} {b hb vb n : Nat} {held : List Bool} {vals : List Value} (hn : held.length = n) (hv : vals.length = n) (hp : 0 < n) (hsm : n ≤ 64) (hoi : ∀ v ∈ vals, v.oneCell' = true) (hs : Sat W0 w (seg true b 0 [.slice (some ⟨hb,0,none⟩) n n, .slice (some ⟨vb,0,none⟩) n n] :: seg true hb 0 (held.map .bool) :: seg true vb 0 vals :: L)) :
  Calls Tryz.prog 41 #[.pointer (some ⟨b,0,none⟩)] w fun e w' => ∃ g p1 c1 p2 c2, e = .returned (.func (.func 60) #[] #[.pointer (some ⟨g, 0, none⟩)]) ∧ Sat W0 w' (seg true g 0 [.slice p1 n c1, .slice p2 n c2] :: row p1 c1 1 n (held.map .bool) :: row p2 c2 1 n vals :: seg true b 0 [.slice (some ⟨hb,0,none⟩) n n, .slice (some ⟨vb,0,none⟩) n n] :: seg true hb 0 (held.map .bool) :: seg true vb 0 vals :: L) := by
 obtain ⟨i4, hi4, hz4, hs4, hb4⟩ := info_parts Tryz.infoBool
 obtain ⟨i3, hi3, hz3, hs3, hb3⟩ := info_parts Tryz.info_th
 have HI := Lib.hid (And.intro hi4 (And.intro hz4 (And.intro hs4 (And.intro hb4 (And.intro hi3 (And.intro hz3 (And.intro hs3 hb3))))))); clear hi4 hz4 hs4 hb4 hi3 hz3 hs3 hb3
 have hob : ∀ v ∈ held.map Value.bool, v.oneCell' = true := by
  intro v hv
  simp only [List.mem_map] at hv
  obtain ⟨x, _, rfl⟩ := hv
  rfl
 obtain ⟨HB, hHB⟩ : ∃ l, l = held.map Value.bool := ⟨_, rfl⟩
 obtain ⟨VB, hVB⟩ : ∃ l, l = vals := ⟨_, rfl⟩
 have hHl : HB.length = n := by rw [hHB, List.length_map]; exact hn
 have hVl : VB.length = n := by rw [hVB]; exact hv
 rw [← hHB, ← hVB] at hs ⊢
 rw [← hHB] at hob
 rw [← hVB] at hoi
 have HN := Lib.hid (And.intro hHl (And.intro hVl (And.intro hob hoi))); clear hn hv hHB hVB hHl hVl hob hoi
 have hmd := fun (w : World) (X : List Assn) (s : Sat W0 w (seg true b 0 [.slice (some ⟨hb,0,none⟩) n n, .slice (some ⟨vb,0,none⟩) n n] :: X)) => made_th hp s
 have HM := Lib.hid hmd; clear hmd
 go_enter Tryz.func41, Tryz.ntmps41
 go_wp2_with (refine wpl_alloc_agg rfl 107 rfl hs [.slice none 0 0, .slice none 0 0] (zero_tabT _) ?_; intro w1 g s1 _; clear hs)
 refine (HM.out _ _ (s1.pull 1)).mono ?_
 rintro e w2 ⟨rfl, rfl⟩
 go_wp2_with fail
 have s2 : Sat W0 w1.drew (seg true b 0 [.slice (some ⟨hb,0,none⟩) n n, .slice (some ⟨vb,0,none⟩) n n] :: seg true g 0 [.slice none 0 0, .slice none 0 0] :: seg true hb 0 HB :: seg true vb 0 VB :: L) := Sat.drew s1.f
 clear s1
 refine region_E (fun w' => w'.cell? ⟨g, 0, none⟩ = some (.slice none 0 0) ∧ g < w'.heap.size ∧ w'.cell? ⟨b, 0, none⟩ = some (.slice (some ⟨hb,0,none⟩) n n) ∧ b < w'.heap.size) [1, 5] (by kernel_rfl) ?_
 have hHeld := And.intro ((s2.f : Sat W0 _ (seg true g 0 [.slice none 0 0, .slice none 0 0] :: [])).at 0 rfl) (And.intro ((s2.f : Sat W0 _ (seg true g 0 [.slice none 0 0, .slice none 0 0] :: [])).lt (by simp)) (And.intro (s2.at 0 rfl) (s2.lt (by simp))))
 iterate 6
  first | refine autoT' hHeld (h := ?_) | refine autoP' (h := ?_)
  try simp only [pA1, pA2, pA3, pA4]
 refine anyE_last' (i := 6) (h := fun K hK => ?_)
 refine step_append (by rfl) (.tmp 7) (.tmp 11) 104 (by rfl) Tryz.underlying104 HI.out.1 HI.out.2.1 HI.out.2.2.1 HI.out.2.2.2.1 rfl (by decide) (p := none) (cp := 0) (n := 0) (xs := []) (L := seg true g 0 [.slice none 0 0, .slice none 0 0] :: seg true b 0 [.slice (some ⟨hb,0,none⟩) n n, .slice (some ⟨vb,0,none⟩) n n] :: seg true hb 0 HB :: seg true vb 0 VB :: L) (by have h1 := s2.rowNil 1; exact h1.f) (by rfl) (some _) n n (by rfl) HB (by rw [HN.out.1, Nat.mul_one]) ((s2.f : Sat W0 _ (seg true hb 0 HB :: [])).news) (fun h => by cases h) HN.out.2.2.1 (by unfold maxLen; omega) (by omega) ?_
 intro p1 c1 w3 s3' _ _
 rw [Nat.zero_add, List.nil_append] at s3'
 rw [Nat.zero_add]
 have s3 : Sat W0 w3 (seg true g 0 [.slice none 0 0, .slice none 0 0] :: row p1 c1 1 n HB :: seg true b 0 [.slice (some ⟨hb,0,none⟩) n n, .slice (some ⟨vb,0,none⟩) n n] :: seg true hb 0 HB :: seg true vb 0 VB :: L) := s3'.f
 clear s2 s3'
 have gk := s3.at 0 rfl
 have gf := s3.fr 0 (by simp)
 have gz := s3.lt (by simp)
 refine hK.out _ _ ?_
 clear hK K hHeld
 try simp only [pA1, pA2, pA3, pA4]
 iterate 1
  first | refine autoT' hHeld (h := ?_) | refine autoP' (h := ?_)
  try simp only [pA1, pA2, pA3, pA4]
 refine anyE_last' (i := 8) (h := fun K hK => ?_)
 go_simp
 refine hK.out _ _ ?_
 clear hK K
 try simp only [pA1, pA2, pA3, pA4]
 have s4' := s3.store (i := 0) (by simp) (.slice p1 n c1) (q := 0) (by simp)
 have s4 : Sat W0 _ (seg true g 0 [.slice p1 n c1, .slice none 0 0] :: row p1 c1 1 n HB :: seg true b 0 [.slice (some ⟨hb,0,none⟩) n n, .slice (some ⟨vb,0,none⟩) n n] :: seg true hb 0 HB :: seg true vb 0 VB :: L) := s4'
 clear s3 s4' gk gf gz
 refine anyE_done (by kernel_rfl) ?_ _
 go_wp2_with fail
 have s5 : Sat W0 _ (seg true b 0 [.slice (some ⟨hb,0,none⟩) n n, .slice (some ⟨vb,0,none⟩) n n] :: seg true g 0 [.slice p1 n c1, .slice none 0 0] :: seg true hb 0 HB :: seg true vb 0 VB :: row p1 c1 1 n HB :: L) := Sat.drew s4.f
 clear s4
 refine region_E (fun w' => w'.cell? ⟨g, 1, none⟩ = some (.slice none 0 0) ∧ g < w'.heap.size ∧ w'.cell? ⟨b, 1, none⟩ = some (.slice (some ⟨vb,0,none⟩) n n) ∧ b < w'.heap.size) [1, 5] (by kernel_rfl) ?_
 have hHeld := And.intro ((s5.f : Sat W0 _ (seg true g 0 [.slice p1 n c1, .slice none 0 0] :: [])).at 1 rfl) (And.intro ((s5.f : Sat W0 _ (seg true g 0 [.slice p1 n c1, .slice none 0 0] :: [])).lt (by simp)) (And.intro (s5.at 1 rfl) (s5.lt (by simp))))
 iterate 6
  first | refine autoT' hHeld (h := ?_) | refine autoP' (h := ?_)
  try simp only [pA1, pA2, pA3, pA4]
 refine anyE_last' (i := 6) (h := fun K hK => ?_)
 refine step_append (by rfl) (.tmp 15) (.tmp 19) 105 (by rfl) Tryz.underlying105 HI.out.2.2.2.2.1 HI.out.2.2.2.2.2.1 HI.out.2.2.2.2.2.2.1 HI.out.2.2.2.2.2.2.2 rfl (by decide) (p := none) (cp := 0) (n := 0) (xs := []) (L := seg true g 0 [.slice p1 n c1, .slice none 0 0] :: seg true b 0 [.slice (some ⟨hb,0,none⟩) n n, .slice (some ⟨vb,0,none⟩) n n] :: seg true hb 0 HB :: seg true vb 0 VB :: row p1 c1 1 n HB :: L) (by have h1 := s5.rowNil 1; exact h1.f) (by rfl) (some _) n n (by rfl) VB (by rw [HN.out.2.1, Nat.mul_one]) ((s5.f : Sat W0 _ (seg true vb 0 VB :: [])).news) (fun h => by cases h) HN.out.2.2.2 (by unfold maxLen; omega) (by omega) ?_
 intro p2 c2 w5 s6' _ _
 rw [Nat.zero_add, List.nil_append] at s6'
 rw [Nat.zero_add]
 have s6 : Sat W0 w5 (seg true g 0 [.slice p1 n c1, .slice none 0 0] :: row p2 c2 1 n VB :: seg true b 0 [.slice (some ⟨hb,0,none⟩) n n, .slice (some ⟨vb,0,none⟩) n n] :: seg true hb 0 HB :: seg true vb 0 VB :: row p1 c1 1 n HB :: L) := s6'.f
 clear s5 s6'
 have gk := s6.at 1 rfl
 have gf := s6.fr 1 (by simp)
 have gz := s6.lt (by simp)
 refine hK.out _ _ ?_
 clear hK K hHeld
 try simp only [pA1, pA2, pA3, pA4]
 iterate 1
  first | refine autoT' hHeld (h := ?_) | refine autoP' (h := ?_)
  try simp only [pA1, pA2, pA3, pA4]
 refine anyE_last' (i := 8) (h := fun K hK => ?_)
 go_simp
 refine hK.out _ _ ?_
 clear hK K
 try simp only [pA1, pA2, pA3, pA4]
 have s7' := s6.store (i := 1) (by simp) (.slice p2 n c2) (q := 1) (by simp)
 have s7 : Sat W0 _ (seg true g 0 [.slice p1 n c1, .slice p2 n c2] :: row p2 c2 1 n VB :: seg true b 0 [.slice (some ⟨hb,0,none⟩) n n, .slice (some ⟨vb,0,none⟩) n n] :: seg true hb 0 HB :: seg true vb 0 VB :: row p1 c1 1 n HB :: L) := s7'
 clear s6 s7' gk gf gz
 refine anyE_done (by kernel_rfl) ?_ _
 have HS := Lib.hid s7; clear s7
 go_wp2_with fail
 go_ret
 have s8 := HS.out
 exact ⟨g, rfl, p1, c1, p2, c2, s8.f⟩
end Go.Proofs.YtbefjaodpbgpcaaGreat
namespace Go.Proofs.YtbefjaodpbgpcaaGreat
open Go.RowKit Go.Sep
attribute [local go_sem] Oper.semAt_some
def idxH (held : List Bool) : Nat → List Nat
 | 0 => []
 | n + 1 => if held.getD n false then idxH held n ++ [n] else idxH held n
theorem thIter {W0 W : World} {g h1 h2 n c1 c2 : Nat} (held : List Bool) (vv : Nat → Value) (HB VB : List Value) (hH : ∀ i, i < n → HB[i]? = some (.bool (held.getD i false))) (hV : ∀ i, i < n → VB[i]? = some (vv i)) (hp : 0 < n) (hsm : n ≤ 64) (J : Nat → List Assn) (hJ : ∀ i, held.getD i false = false → J (i + 1) = J i) (E : World → Prop) (l m : Nat)
  (hY : ∀ i W1, i < n → held.getD i false = true → Sat W0 W1 (seg true g 0 [.slice (some ⟨h1,0,none⟩) n c1, .slice (some ⟨h2,0,none⟩) n c2] :: seg true h1 0 HB :: seg true h2 0 VB :: J i) → YieldAt Fence.wide m Tryz.prog l #[.int .i64 (i : Int), vv i] W1 fun e W' =>
   (e = .returned (.bool true) ∧ Sat W0 W' (seg true g 0 [.slice (some ⟨h1,0,none⟩) n c1, .slice (some ⟨h2,0,none⟩) n c2] :: seg true h1 0 HB :: seg true h2 0 VB :: J (i + 1))) ∨ (e = .returned (.bool false) ∧ E W'))
  (hE : ∀ W', Sat W0 W' (seg true g 0 [.slice (some ⟨h1,0,none⟩) n c1, .slice (some ⟨h2,0,none⟩) n c2] :: seg true h1 0 HB :: seg true h2 0 VB :: J n) → E W')
  (hs : Sat W0 W (seg true g 0 [.slice (some ⟨h1,0,none⟩) n c1, .slice (some ⟨h2,0,none⟩) n c2] :: seg true h1 0 HB :: seg true h2 0 VB :: J 0)) :
  CallsIn Fence.wide (m + 1) Tryz.prog 60 #[.func (.yield l) #[] #[], .pointer (some ⟨g, 0, none⟩)] W fun e W' => (∃ v, e = .returned v) ∧ E W' := by
 have HY := Lib.hid (And.intro hY (And.intro hE hJ)); clear hY hE hJ
 have hCC : ∀ w' i, i < n → Sat W0 w' (seg true g 0 [.slice (some ⟨h1,0,none⟩) n c1, .slice (some ⟨h2,0,none⟩) n c2] :: seg true h1 0 HB :: seg true h2 0 VB :: []) → w'.cell? ⟨g, 0, none⟩ = some (.slice (some ⟨h1,0,none⟩) n c1) ∧ w'.cell? ⟨g, 1, none⟩ = some (.slice (some ⟨h2,0,none⟩) n c2) ∧ g < w'.heap.size ∧ w'.cell? ⟨h1, i, none⟩ = some (.bool (held.getD i false)) ∧ h1 < w'.heap.size ∧ w'.cell? ⟨h2, i, none⟩ = some (vv i) ∧ h2 < w'.heap.size := fun w' i hi s => by
  have s2 := s.pull 1
  have s3 := s.pull 2
  have l1 := (List.getElem?_eq_some_iff.1 (hH i hi)).1
  have l2 := (List.getElem?_eq_some_iff.1 (hV i hi)).1
  exact ⟨s.at 0 rfl, s.at 1 rfl, s.lt (by simp), Sat.at s2 i (hH i hi), Sat.lt s2 (by omega), Sat.at s3 i (hV i hi), Sat.lt s3 (by omega)⟩
 have HC := Lib.hid hCC; clear hCC hH hV
 refine callsIn_of_wp Tryz.func60 rfl trivial ?_ rfl
 simp only [Tryz.ntmps60, List.size_toArray, List.length_cons, List.length_nil, Nat.reduceAdd, Nat.reduceSub, Array.replicate_succ, Array.replicate_zero, List.push_toArray, List.append_toArray, List.nil_append, List.cons_append]
 obtain ⟨k0, k1, k2, k3, k4, k5, k6⟩ := HC.out _ 0 hp hs.f
 clear k3 k5
 gi_wp2
 clear k0 k1 k2 k4 k6
 gi_loopw [8] (fun t8 wr => ∃ i : Nat, i ≤ n ∧ t8 = .int .i64 (i : Int) ∧ Sat W0 wr (seg true g 0 [.slice (some ⟨h1,0,none⟩) n c1, .slice (some ⟨h2,0,none⟩) n c2] :: seg true h1 0 HB :: seg true h2 0 VB :: J i)) (fun t8 _ => n - (intOf t8).toNat)
 case atStart => exact ⟨0, Nat.zero_le _, rfl, hs⟩
 case round =>
  clear hs
  obtain ⟨i, hi, rfl, s⟩ := hrel
  by_cases hlt : i < n
  ·obtain ⟨k0, k1, k2, k3, k4, k5, k6⟩ := HC.out _ i hlt s.f
   have hlt' : (i : Int) < (n : Int) := by omega
   cases hd : held.getD i false with
   | false =>
    rw [hd] at k3
    have e := HY.out.2.2 i hd
    have HS := Lib.hid (And.intro s e); clear s e hd
    gi_wp2
    refine ⟨fun f hf => (by cases hf), ?_⟩
    gi_wp2
    go_roundw
    case rel => exact ⟨i + 1, by omega, by go_num, by rw [HS.out.2]; exact HS.out.1⟩
    case measure => simp [intOf]; omega
   | true =>
    rw [hd] at k3
    obtain ⟨fn, tmps, assign, body, hy, hRd⟩ := HY.out.1 i wr hlt hd s
    have HS := Lib.hid (And.intro s hd); clear s hd
    gi_wp2
    refine hRd.mono ?_
    rintro e w6 (⟨rfl, s7⟩ | ⟨rfl, hE⟩)
    ·gi_wp2
     go_roundw
     case rel => exact ⟨i + 1, by omega, by go_num, s7⟩
     case measure => simp [intOf]; omega
    ·gi_wp2
     refine bodyPost_ret (results_none rfl _ _ _) rfl ?_
     exact ⟨⟨_, rfl⟩, hE⟩
  ·obtain rfl : i = n := by omega
   have HS := Lib.hid s; clear s
   gi_wp2
   refine bodyPost_end (results_none rfl _ _ _) rfl ⟨⟨_, rfl⟩, HY.out.2.1 _ HS.out⟩
end Go.Proofs.YtbefjaodpbgpcaaGreat
