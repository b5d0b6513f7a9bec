
/- The table of pairs: All copies what is held; under the conditions that each names. -/
import Derived.Test.YtpiiklfnakkdiaaRfh
import Derived.Test.YtpiiklfnakkdiaaHeldE
namespace Go.Proofs.Ytpiiklfnakkdiaa
open Go.RowKit Go.Sep
set_option linter.unusedVariables false
set_option linter.unusedSimpArgs false
theorem zero_tabP (w : World) : (zeroValue 55).run Try.prog w = .ok (.agg #[.slice none 0 0, .slice none 0 0]) w := by kernel_rfl
set_option maxRecDepth 100000 in
set_option maxHeartbeats 8000000 in
theorem all_pr {W0 w : World} {L : List Assn} {b hb vb n : Nat} {held : List Bool} {vals : List A2} (hn : held.length = n) (hv : vals.length = n) (hp : 0 < n) (hsm : n ≤ 64) (hs : Sat W0 w (seg true b 0 [.slice (some ⟨hb,0,none⟩) n n, .slice (some ⟨vb,0,none⟩) n n] :: seg true hb 0 (held.map .bool) :: seg true vb 0 (vals.flatMap enc2) :: L)) :
    Calls Try.prog 32 #[.pointer (some ⟨b,0,none⟩)] w fun e w' => ∃ g p1 c1 p2 c2, e = .returned (.func (.func 40) #[] #[.pointer (some ⟨g, 0, none⟩)]) ∧ Sat W0 w' (seg true g 0 [.slice p1 n c1, .slice p2 n c2] :: row p1 c1 1 n (held.map .bool) :: row p2 c2 2 n (vals.flatMap enc2) :: seg true b 0 [.slice (some ⟨hb,0,none⟩) n n, .slice (some ⟨vb,0,none⟩) n n] :: seg true hb 0 (held.map .bool) :: seg true vb 0 (vals.flatMap enc2) :: L) := by
  obtain ⟨i4, hi4, hz4, hs4, hb4⟩ := info_parts Try.infoBool
  obtain ⟨i3, hi3, hz3, hs3, hb3⟩ := info_parts Try.info_pr
  have HI := Lib.hid (And.intro hi4 (And.intro hz4 (And.intro hs4 (And.intro hb4 (And.intro hi3 (And.intro hz3 (And.intro hs3 hb3))))))); clear hi4 hz4 hs4 hb4 hi3 hz3 hs3 hb3
  have hob : ∀ v ∈ held.map Value.bool, v.oneCell' = true := by
    intro v hv
    simp only [List.mem_map] at hv
    obtain ⟨x, _, rfl⟩ := hv
    rfl
  have hoi : ∀ v ∈ vals.flatMap enc2, v.oneCell' = true := by
    intro v hv
    simp only [List.mem_flatMap] at hv
    obtain ⟨x, _, hx⟩ := hv
    simp only [enc2, List.mem_cons, List.not_mem_nil, or_false] at hx
    rcases hx with rfl | rfl <;> rfl
  obtain ⟨HB, hHB⟩ : ∃ l, l = held.map Value.bool := ⟨_, rfl⟩
  obtain ⟨VB, hVB⟩ : ∃ l, l = vals.flatMap enc2 := ⟨_, rfl⟩
  have hHl : HB.length = n := by rw [hHB, List.length_map]; exact hn
  have hVl : VB.length = n * 2 := by rw [hVB, fm_len len2, hv]
  rw [← hHB, ← hVB] at hs ⊢
  rw [← hHB] at hob
  rw [← hVB] at hoi
  have HN := Lib.hid (And.intro hHl (And.intro hVl (And.intro hob hoi))); clear hn hv hHB hVB hHl hVl hob hoi
  have hmd := fun (w : World) (X : List Assn) (s : Sat W0 w (seg true b 0 [.slice (some ⟨hb,0,none⟩) n n, .slice (some ⟨vb,0,none⟩) n n] :: X)) => made_pr hp s
  have HM := Lib.hid hmd; clear hmd
  go_enter Try.func32, Try.ntmps32
  go_wp2_with (refine wpl_alloc_agg rfl 55 rfl hs [.slice none 0 0, .slice none 0 0] (zero_tabP _) ?_; intro w1 g s1 _; clear hs)
  refine (HM.out _ _ (s1.pull 1)).mono ?_
  rintro e w2 ⟨rfl, rfl⟩
  go_wp2_with fail
  have s2 : Sat W0 w1.drew (seg true b 0 [.slice (some ⟨hb,0,none⟩) n n, .slice (some ⟨vb,0,none⟩) n n] :: seg true g 0 [.slice none 0 0, .slice none 0 0] :: seg true hb 0 HB :: seg true vb 0 VB :: L) := Sat.drew (Sat.sub (s1) (by with_reducible repeat first | exact Fr1 | exact Fr2 | (apply Fr3; focus ((repeat (first | exact Tk1 | apply Tk2)); done)) | apply Fr4))
  clear s1
  refine region_E (fun w' => w'.cell? ⟨g, 0, none⟩ = some (.slice none 0 0) ∧ g < w'.heap.size ∧ w'.cell? ⟨b, 0, none⟩ = some (.slice (some ⟨hb,0,none⟩) n n) ∧ b < w'.heap.size) [1, 5] (by kernel_rfl) ?_
  have hHeld := And.intro (((Sat.sub (s2) (by with_reducible repeat first | exact Fr1 | exact Fr2 | (apply Fr3; focus ((repeat (first | exact Tk1 | apply Tk2)); done)) | apply Fr4)) : Sat W0 _ (seg true g 0 [.slice none 0 0, .slice none 0 0] :: [])).at 0 rfl) (And.intro (((Sat.sub (s2) (by with_reducible repeat first | exact Fr1 | exact Fr2 | (apply Fr3; focus ((repeat (first | exact Tk1 | apply Tk2)); done)) | apply Fr4)) : Sat W0 _ (seg true g 0 [.slice none 0 0, .slice none 0 0] :: [])).lt (by simp)) (And.intro (s2.at 0 rfl) (s2.lt (by simp))))
  iterate 6
   first | refine autoT hHeld (by rfl) (by rfl) (x := ?_) (v := ?_) ?_ (by kernel_rfl) ?_ ?_ ?_ | refine autoP (by rfl) (x := ?_) (v := ?_) ?_ (by kernel_rfl) ?_ ?_ ?_
   rotate_left 2
   · (simp only [gE1, gE2, gE3]; rfl)
   · exact fun _ _ _ h => h
   · refine Or.inl ⟨by rfl, fun w hSw => ?_⟩
     (try dsimp only at hSw)
     go_simp
     try (with_reducible rfl)
   try simp only [pA1, pA2, pA3, pA4]
  refine anyE_last (i := 6) (x := ?_) ?_ (by kernel_rfl) (by kernel_rfl) (fun K hK => ?_)
  rotate_left
  · (simp only [gE1, gE2, gE3]; rfl)
  refine step_append (by rfl) (.tmp 7) (.tmp 11) 49 (by rfl) Try.underlying49 HI.out.1 HI.out.2.1 HI.out.2.2.1 HI.out.2.2.2.1 rfl (by decide) (p := none) (cp := 0) (n := 0) (xs := []) (L := seg true g 0 [.slice none 0 0, .slice none 0 0] :: seg true b 0 [.slice (some ⟨hb,0,none⟩) n n, .slice (some ⟨vb,0,none⟩) n n] :: seg true hb 0 HB :: seg true vb 0 VB :: L) (by have h1 := s2.rowNil 1; exact (Sat.sub (h1) (by with_reducible repeat first | exact Fr1 | exact Fr2 | (apply Fr3; focus ((repeat (first | exact Tk1 | apply Tk2)); done)) | apply Fr4))) (by rfl) (some _) n n (by rfl) HB (by rw [HN.out.1, Nat.mul_one]) (((Sat.sub (s2) (by with_reducible repeat first | exact Fr1 | exact Fr2 | (apply Fr3; focus ((repeat (first | exact Tk1 | apply Tk2)); done)) | apply Fr4)) : Sat W0 _ (seg true hb 0 HB :: [])).news) (fun h => by cases h) HN.out.2.2.1 (by unfold maxLen; omega) (by omega) ?_
  intro p1 c1 w3 s3' _ _
  rw [Nat.zero_add, List.nil_append] at s3'
  rw [Nat.zero_add]
  have s3 : Sat W0 w3 (seg true g 0 [.slice none 0 0, .slice none 0 0] :: row p1 c1 1 n HB :: seg true b 0 [.slice (some ⟨hb,0,none⟩) n n, .slice (some ⟨vb,0,none⟩) n n] :: seg true hb 0 HB :: seg true vb 0 VB :: L) := (Sat.sub (s3') (by with_reducible repeat first | exact Fr1 | exact Fr2 | (apply Fr3; focus ((repeat (first | exact Tk1 | apply Tk2)); done)) | apply Fr4))
  clear s2 s3'
  have gk := s3.at 0 rfl
  have gf := s3.fr 0 (by simp)
  have gz := s3.lt (by simp)
  refine hK.out _ _ ?_
  clear hK K hHeld
  try simp only [pA1, pA2, pA3, pA4]
  iterate 1
   first | refine autoT hHeld (by rfl) (by rfl) (x := ?_) (v := ?_) ?_ (by kernel_rfl) ?_ ?_ ?_ | refine autoP (by rfl) (x := ?_) (v := ?_) ?_ (by kernel_rfl) ?_ ?_ ?_
   rotate_left 2
   · (simp only [gE1, gE2, gE3]; rfl)
   · exact fun _ _ _ h => h
   · refine Or.inl ⟨by rfl, fun w hSw => ?_⟩
     (try dsimp only at hSw)
     go_simp
     try (with_reducible rfl)
   try simp only [pA1, pA2, pA3, pA4]
  refine anyE_last (i := 8) (x := ?_) ?_ (by kernel_rfl) (by kernel_rfl) (fun K hK => ?_)
  rotate_left
  · (simp only [gE1, gE2, gE3]; rfl)
  go_simp
  refine hK.out _ _ ?_
  clear hK K
  try simp only [pA1, pA2, pA3, pA4]
  have s4' := s3.store (i := 0) (by simp) (.slice p1 n c1) (q := 0) (by simp)
  have s4 : Sat W0 _ (seg true g 0 [.slice p1 n c1, .slice none 0 0] :: row p1 c1 1 n HB :: seg true b 0 [.slice (some ⟨hb,0,none⟩) n n, .slice (some ⟨vb,0,none⟩) n n] :: seg true hb 0 HB :: seg true vb 0 VB :: L) := s4'
  clear s3 s4' gk gf gz
  refine anyE_done (by kernel_rfl) ?_ _
  go_wp2_with fail
  have s5 : Sat W0 _ (seg true b 0 [.slice (some ⟨hb,0,none⟩) n n, .slice (some ⟨vb,0,none⟩) n n] :: seg true g 0 [.slice p1 n c1, .slice none 0 0] :: seg true hb 0 HB :: seg true vb 0 VB :: row p1 c1 1 n HB :: L) := Sat.drew (Sat.sub (s4) (by with_reducible repeat first | exact Fr1 | exact Fr2 | (apply Fr3; focus ((repeat (first | exact Tk1 | apply Tk2)); done)) | apply Fr4))
  clear s4
  refine region_E (fun w' => w'.cell? ⟨g, 1, none⟩ = some (.slice none 0 0) ∧ g < w'.heap.size ∧ w'.cell? ⟨b, 1, none⟩ = some (.slice (some ⟨vb,0,none⟩) n n) ∧ b < w'.heap.size) [1, 5] (by kernel_rfl) ?_
  have hHeld := And.intro (((Sat.sub (s5) (by with_reducible repeat first | exact Fr1 | exact Fr2 | (apply Fr3; focus ((repeat (first | exact Tk1 | apply Tk2)); done)) | apply Fr4)) : Sat W0 _ (seg true g 0 [.slice p1 n c1, .slice none 0 0] :: [])).at 1 rfl) (And.intro (((Sat.sub (s5) (by with_reducible repeat first | exact Fr1 | exact Fr2 | (apply Fr3; focus ((repeat (first | exact Tk1 | apply Tk2)); done)) | apply Fr4)) : Sat W0 _ (seg true g 0 [.slice p1 n c1, .slice none 0 0] :: [])).lt (by simp)) (And.intro (s5.at 1 rfl) (s5.lt (by simp))))
  iterate 6
   first | refine autoT hHeld (by rfl) (by rfl) (x := ?_) (v := ?_) ?_ (by kernel_rfl) ?_ ?_ ?_ | refine autoP (by rfl) (x := ?_) (v := ?_) ?_ (by kernel_rfl) ?_ ?_ ?_
   rotate_left 2
   · (simp only [gE1, gE2, gE3]; rfl)
   · exact fun _ _ _ h => h
   · refine Or.inl ⟨by rfl, fun w hSw => ?_⟩
     (try dsimp only at hSw)
     go_simp
     try (with_reducible rfl)
   try simp only [pA1, pA2, pA3, pA4]
  refine anyE_last (i := 6) (x := ?_) ?_ (by kernel_rfl) (by kernel_rfl) (fun K hK => ?_)
  rotate_left
  · (simp only [gE1, gE2, gE3]; rfl)
  refine step_append (by rfl) (.tmp 15) (.tmp 19) 53 (by rfl) Try.underlying53 HI.out.2.2.2.2.1 HI.out.2.2.2.2.2.1 HI.out.2.2.2.2.2.2.1 HI.out.2.2.2.2.2.2.2 rfl (by decide) (p := none) (cp := 0) (n := 0) (xs := []) (L := seg true g 0 [.slice p1 n c1, .slice none 0 0] :: seg true b 0 [.slice (some ⟨hb,0,none⟩) n n, .slice (some ⟨vb,0,none⟩) n n] :: seg true hb 0 HB :: seg true vb 0 VB :: row p1 c1 1 n HB :: L) (by have h1 := s5.rowNil 2; exact (Sat.sub (h1) (by with_reducible repeat first | exact Fr1 | exact Fr2 | (apply Fr3; focus ((repeat (first | exact Tk1 | apply Tk2)); done)) | apply Fr4))) (by rfl) (some _) n n (by rfl) VB HN.out.2.1 (((Sat.sub (s5) (by with_reducible repeat first | exact Fr1 | exact Fr2 | (apply Fr3; focus ((repeat (first | exact Tk1 | apply Tk2)); done)) | apply Fr4)) : Sat W0 _ (seg true vb 0 VB :: [])).news) (fun h => by cases h) HN.out.2.2.2 (by unfold maxLen; omega) (by omega) ?_
  intro p2 c2 w5 s6' _ _
  rw [Nat.zero_add, List.nil_append] at s6'
  rw [Nat.zero_add]
  have s6 : Sat W0 w5 (seg true g 0 [.slice p1 n c1, .slice none 0 0] :: row p2 c2 2 n VB :: seg true b 0 [.slice (some ⟨hb,0,none⟩) n n, .slice (some ⟨vb,0,none⟩) n n] :: seg true hb 0 HB :: seg true vb 0 VB :: row p1 c1 1 n HB :: L) := (Sat.sub (s6') (by with_reducible repeat first | exact Fr1 | exact Fr2 | (apply Fr3; focus ((repeat (first | exact Tk1 | apply Tk2)); done)) | apply Fr4))
  clear s5 s6'
  have gk := s6.at 1 rfl
  have gf := s6.fr 1 (by simp)
  have gz := s6.lt (by simp)
  refine hK.out _ _ ?_
  clear hK K hHeld
  try simp only [pA1, pA2, pA3, pA4]
  iterate 1
   first | refine autoT hHeld (by rfl) (by rfl) (x := ?_) (v := ?_) ?_ (by kernel_rfl) ?_ ?_ ?_ | refine autoP (by rfl) (x := ?_) (v := ?_) ?_ (by kernel_rfl) ?_ ?_ ?_
   rotate_left 2
   · (simp only [gE1, gE2, gE3]; rfl)
   · exact fun _ _ _ h => h
   · refine Or.inl ⟨by rfl, fun w hSw => ?_⟩
     (try dsimp only at hSw)
     go_simp
     try (with_reducible rfl)
   try simp only [pA1, pA2, pA3, pA4]
  refine anyE_last (i := 8) (x := ?_) ?_ (by kernel_rfl) (by kernel_rfl) (fun K hK => ?_)
  rotate_left
  · (simp only [gE1, gE2, gE3]; rfl)
  go_simp
  refine hK.out _ _ ?_
  clear hK K
  try simp only [pA1, pA2, pA3, pA4]
  have s7' := s6.store (i := 1) (by simp) (.slice p2 n c2) (q := 1) (by simp)
  have s7 : Sat W0 _ (seg true g 0 [.slice p1 n c1, .slice p2 n c2] :: row p2 c2 2 n VB :: seg true b 0 [.slice (some ⟨hb,0,none⟩) n n, .slice (some ⟨vb,0,none⟩) n n] :: seg true hb 0 HB :: seg true vb 0 VB :: row p1 c1 1 n HB :: L) := s7'
  clear s6 s7' gk gf gz
  refine anyE_done (by kernel_rfl) ?_ _
  have HS := Lib.hid s7; clear s7
  go_wp2_with fail
  go_ret
  have s8 := HS.out
  exact ⟨g, rfl, p1, c1, p2, c2, (Sat.sub (s8) (by with_reducible repeat first | exact Fr1 | exact Fr2 | (apply Fr3; focus ((repeat (first | exact Tk1 | apply Tk2)); done)) | apply Fr4))⟩
end Go.Proofs.Ytpiiklfnakkdiaa
