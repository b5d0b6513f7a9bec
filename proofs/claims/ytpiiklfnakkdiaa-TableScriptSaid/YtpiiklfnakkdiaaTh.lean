
/- What the document's table has: numbers, and what they stand for; under the conditions that each names. -/
import Derived.Test.YtpiiklfnakkdiaaRfh
import Derived.Test.YtpiiklfnakkdiaaHeldE
namespace Go.Proofs.Ytpiiklfnakkdiaa
open Go.RowKit Go.Sep
set_option linter.unusedVariables false
set_option linter.unusedSimpArgs false
def valsT (vals : List Int) (l : List Nat) : List Value := l.map fun j : Nat => Value.int .i64 (vals.getD j 0)
theorem idxT_lt {held : List Bool} {n i j : Nat} (h : (idxT held n)[i]? = some j) : j < n := by
  have := List.mem_of_getElem? h
  unfold idxT at this
  rw [List.mem_filter, List.mem_range] at this
  exact this.1
set_option maxRecDepth 100000 in
set_option maxHeartbeats 8000000 in
theorem held19 {W0 w : World} {L : List Assn} {b hb vb n : Nat} {held : List Bool} {vals : List Int} (hn : held.length = n) (hv : vals.length = n) (hp : 0 < n) (hsm : n ≤ 64) (hs : Sat W0 w (seg true b 0 [.slice (some ⟨hb,0,none⟩) n n, .slice (some ⟨vb,0,none⟩) n n] :: seg true hb 0 (held.map .bool) :: seg true vb 0 (vals.map fun x => Value.int .i64 x) :: L)) :
    Calls Try.prog 23 #[.pointer (some ⟨b,0,none⟩)] w fun e w' => ∃ m p c q d, m = (idxT held n).length ∧ e = .returned (.tuple #[.slice p m c, .slice q m d]) ∧ Sat W0 w' (row p c 1 m (ints (idxT held n)) :: row q d 1 m (valsT vals (idxT held n)) :: seg true b 0 [.slice (some ⟨hb,0,none⟩) n n, .slice (some ⟨vb,0,none⟩) n n] :: seg true hb 0 (held.map .bool) :: seg true vb 0 (vals.map fun x => Value.int .i64 x) :: L) := by
  obtain ⟨i3, hi3, hz3, hs3, hb3⟩ := info_parts Try.info_int
  have HI := Lib.hid (And.intro hi3 (And.intro hz3 (And.intro hs3 hb3))); clear hi3 hz3 hs3 hb3
  have hhl := held_ref hn hp hsm hs
  obtain ⟨I, hI⟩ : ∃ I, I = idxT held n := ⟨_, rfl⟩
  have hlt : ∀ i j, I[i]? = some j → j < n := fun i j h => idxT_lt (by rw [← hI]; exact h)
  have hIm : I.length ≤ n := by rw [hI]; exact idxT_len held n
  rw [← hI] at hhl ⊢
  obtain ⟨m, hm⟩ : ∃ m, m = I.length := ⟨_, rfl⟩
  rw [← hm] at hhl hIm ⊢
  have HN := Lib.hid (And.intro hv (And.intro hlt hm)); clear hn hv hlt hm hI hs
  have HH := Lib.hid hhl; clear hhl
  have hm64 : m ≤ 64 := by omega
  go_enter Try.func23, Try.ntmps23
  go_wp2_with fail
  refine HH.out.mono ?_
  rintro e w1 ⟨p, c, rfl, s1⟩
  clear HH
  go_wp2
  go_loopw [5, 6] (fun t5 t6 wr => ∃ (i : Nat) (q : Option Addr) (d : Nat), i ≤ m ∧ t6 = .int .i64 (i : Int) ∧ t5 = .slice q i d ∧ Sat W0 wr (row q d 1 i (valsT vals (I.take i)) :: row p c 1 m (ints I) :: seg true b 0 [.slice (some ⟨hb,0,none⟩) n n, .slice (some ⟨vb,0,none⟩) n n] :: seg true hb 0 (held.map .bool) :: seg true vb 0 (vals.map fun x => Value.int .i64 x) :: L)) (fun _ t6 _ => m - (intOf t6).toNat)
  case atStart => exact ⟨0, none, 0, Nat.zero_le _, rfl, rfl, s1.rowNil 1⟩
  case round =>
    clear s1
    obtain ⟨i, q, d, hi, rfl, rfl, s⟩ := hrel
    by_cases hlt : i < m
    · obtain ⟨j, hj⟩ : ∃ j, I[i]? = some j := ⟨I[i]'(by rw [← HN.out.2.2]; exact hlt), List.getElem?_eq_getElem _⟩
      have hjn := HN.out.2.1 i j hj
      have hr : Sat W0 wr (row p c 1 m (ints I) :: row q d 1 i (valsT vals (I.take i)) :: seg true b 0 [.slice (some ⟨hb,0,none⟩) n n, .slice (some ⟨vb,0,none⟩) n n] :: seg true hb 0 (held.map .bool) :: seg true vb 0 (vals.map fun x => Value.int .i64 x) :: L) := s.pull 1
      obtain ⟨hrl, ⟨-, -, h0, -, -⟩ | ⟨g, rest, rfl, hcap, hmx, hcl, s2⟩⟩ := hr.rowOpen
      · omega
      have hcell : ∀ w' L', Sat W0 w' (seg true g 0 (ints I ++ rest) :: L') → w'.cell? ⟨g, i, none⟩ = some (.int .i64 (j : Int)) ∧ g < w'.heap.size := fun w' L' s' => by
        have h1 : (ints I ++ rest)[i]? = some (.int .i64 (j : Int)) := by
          rw [List.getElem?_append_left (by unfold ints; rw [List.length_map, ← HN.out.2.2]; exact hlt)]
          unfold ints
          rw [List.getElem?_map, hj]
          rfl
        exact ⟨s'.at i h1, s'.lt (by rw [hcl]; omega)⟩
      have hvc : ∀ w' L', Sat W0 w' (seg true vb 0 (vals.map fun x => Value.int .i64 x) :: L') → w'.cell? ⟨vb, j, none⟩ = some (.int .i64 (vals.getD j 0)) ∧ vb < w'.heap.size := fun w' L' s' => by
        have hjv : j < vals.length := by rw [HN.out.1]; exact hjn
        exact ⟨s'.at j (by rw [List.getElem?_map, List.getD_eq_getElem?_getD, List.getElem?_eq_getElem hjv]; rfl), s'.lt (by rw [List.length_map]; omega)⟩
      have htk : valsT vals (I.take (i + 1)) = valsT vals (I.take i) ++ [.int .i64 (vals.getD j 0)] := by
        rw [List.take_add_one, hj]
        unfold valsT
        rw [List.map_append]
        rfl
      obtain ⟨x, hx⟩ : ∃ x, x = vals.getD j 0 := ⟨_, rfl⟩
      rw [← hx] at hvc htk
      have HC := Lib.hid (And.intro hcell (And.intro hvc (And.intro htk (And.intro hrl (And.intro hcl (And.intro hcap hmx)))))); clear hcell hvc htk hrl hcl s hr hj hx
      have hin : (i : Int) < (m : Int) := by omega
      have hjI : (j : Int) < (n : Int) := by omega
      have hcb : c ≤ 9223372036854775807 := hmx
      clear hcap hmx
      go_wp2_with fail
      have s3 : Sat W0 wr.drew (seg true b 0 [.slice (some ⟨hb,0,none⟩) n n, .slice (some ⟨vb,0,none⟩) n n] :: seg true g 0 (ints I ++ rest) :: row q d 1 i (valsT vals (I.take i)) :: seg true hb 0 (held.map .bool) :: seg true vb 0 (vals.map fun x => Value.int .i64 x) :: L) := Sat.drew (Sat.sub (s2) (by with_reducible repeat first | exact Fr1 | exact Fr2 | (apply Fr3; focus ((repeat (first | exact Tk1 | apply Tk2)); done)) | apply Fr4))
      clear s2
      have hkeep : ∀ w', Sat W0 w' (seg true b 0 [.slice (some ⟨hb,0,none⟩) n n, .slice (some ⟨vb,0,none⟩) n n] :: seg true g 0 (ints I ++ rest) :: seg true vb 0 (vals.map fun x => Value.int .i64 x) :: []) →  w'.cell? ⟨b, 1, none⟩ = some (.slice (some ⟨vb,0,none⟩) n n) ∧ b < w'.heap.size ∧ w'.cell? ⟨g, i, none⟩ = some (.int .i64 (j : Int)) ∧ g < w'.heap.size ∧ w'.cell? ⟨vb, j, none⟩ = some (.int .i64 x) ∧ vb < w'.heap.size := fun w' s => ⟨s.at 1 rfl, s.lt (by simp), (HC.out.1 _ _ ((Sat.sub (s) (by with_reducible repeat first | exact Fr1 | exact Fr2 | (apply Fr3; focus ((repeat (first | exact Tk1 | apply Tk2)); done)) | apply Fr4)) : Sat W0 w' (seg true g 0 (ints I ++ rest) :: []))).1, (HC.out.1 _ _ ((Sat.sub (s) (by with_reducible repeat first | exact Fr1 | exact Fr2 | (apply Fr3; focus ((repeat (first | exact Tk1 | apply Tk2)); done)) | apply Fr4)) : Sat W0 w' (seg true g 0 (ints I ++ rest) :: []))).2, (HC.out.2.1 _ _ ((Sat.sub (s) (by with_reducible repeat first | exact Fr1 | exact Fr2 | (apply Fr3; focus ((repeat (first | exact Tk1 | apply Tk2)); done)) | apply Fr4)) : Sat W0 w' (seg true vb 0 (vals.map fun x => Value.int .i64 x) :: []))).1, (HC.out.2.1 _ _ ((Sat.sub (s) (by with_reducible repeat first | exact Fr1 | exact Fr2 | (apply Fr3; focus ((repeat (first | exact Tk1 | apply Tk2)); done)) | apply Fr4)) : Sat W0 w' (seg true vb 0 (vals.map fun x => Value.int .i64 x) :: []))).2⟩
      have HKEEP := Lib.hid hkeep; clear hkeep
      refine region_E (fun w' => w'.cell? ⟨b, 1, none⟩ = some (.slice (some ⟨vb,0,none⟩) n n) ∧ b < w'.heap.size ∧ w'.cell? ⟨g, i, none⟩ = some (.int .i64 (j : Int)) ∧ g < w'.heap.size ∧ w'.cell? ⟨vb, j, none⟩ = some (.int .i64 x) ∧ vb < w'.heap.size) [4, 8, 10] (by kernel_rfl) ?_
      have hHeld := (HKEEP.out _ (Sat.sub (s3) (by with_reducible repeat first | exact Fr1 | exact Fr2 | (apply Fr3; focus ((repeat (first | exact Tk1 | apply Tk2)); done)) | apply Fr4)))
      iterate 11
       first | refine autoT hHeld (by rfl) (by rfl) (x := ?_) (v := ?_) ?_ (by kernel_rfl) ?_ ?_ ?_ | refine autoP (by rfl) (x := ?_) (v := ?_) ?_ (by kernel_rfl) ?_ ?_ ?_
       rotate_left 2
       · (simp only [gE1, gE2, gE3]; rfl)
       · exact fun _ _ _ h => h
       · refine Or.inl ⟨by rfl, fun w hSw => ?_⟩
         (try dsimp only at hSw)
         go_simp
         try (with_reducible rfl)
       try simp only [pA1, pA2, pA3, pA4]
      have s4' := s3.alloc #[.int .i64 x] 3
      have hk2 := (HKEEP.out _ (Sat.sub (s4') (by with_reducible repeat first | exact Fr1 | exact Fr2 | (apply Fr3; focus ((repeat (first | exact Tk1 | apply Tk2)); done)) | apply Fr4)))
      refine anyE_one (i := 11) (x := ?_) ?_ (by kernel_rfl) (fun K hK => ?_)
      rotate_left
      · (simp only [gE1, gE2, gE3]; rfl)
      go_simp
      refine hK.out _ _ hk2 ?_
      clear hK K hHeld
      have hHeld := hk2
      try simp only [pA1, pA2, pA3, pA4]
      refine anyE_one (i := 12) (x := ?_) ?_ (by kernel_rfl) (fun K hK => ?_)
      rotate_left
      · (simp only [gE1, gE2, gE3]; rfl)
      refine step_append (by rfl) (.tmp 15) (.tmp 26) 50 (by rfl) Try.underlying50 HI.out.1 HI.out.2.1 HI.out.2.2.1 HI.out.2.2.2 rfl (by decide) (p := q) (cp := d) (n := i) (xs := valsT vals (I.take i)) (L := seg true g 0 (ints I ++ rest) :: seg true b 0 [.slice (some ⟨hb,0,none⟩) n n, .slice (some ⟨vb,0,none⟩) n n] :: seg true hb 0 (held.map .bool) :: seg true vb 0 (vals.map fun x => Value.int .i64 x) :: L) ((Sat.sub (s4') (by with_reducible repeat first | exact Fr1 | exact Fr2 | (apply Fr3; focus ((repeat (first | exact Tk1 | apply Tk2)); done)) | apply Fr4))) (by rfl) (some _) 1 1 (by rfl) [.int .i64 x] rfl (s4'.news) (fun h => by cases h) (by simp [Value.oneCell']) (by unfold maxLen; omega) (by omega) ?_
      intro q2 d2 w5 s5 _ _
      have hk3 := (HKEEP.out _ (Sat.sub (s5) (by with_reducible repeat first | exact Fr1 | exact Fr2 | (apply Fr3; focus ((repeat (first | exact Tk1 | apply Tk2)); done)) | apply Fr4)))
      refine hK.out _ _ hk3 ?_
      clear hK K hHeld hk2 s3 s4'
      have hHeld := hk3
      try simp only [pA1, pA2, pA3, pA4]
      iterate 1
       first | refine autoT hHeld (by rfl) (by rfl) (x := ?_) (v := ?_) ?_ (by kernel_rfl) ?_ ?_ ?_ | refine autoP (by rfl) (x := ?_) (v := ?_) ?_ (by kernel_rfl) ?_ ?_ ?_
       rotate_left 2
       · (simp only [gE1, gE2, gE3]; rfl)
       · exact fun _ _ _ h => h
       · refine Or.inl ⟨by rfl, fun w hSw => ?_⟩
         (try dsimp only at hSw)
         go_simp
         try (with_reducible rfl)
       try simp only [pA1, pA2, pA3, pA4]
      clear hHeld hk3
      refine anyE_done (by kernel_rfl) ?_ _
      have s6 : Sat W0 w5 (row q2 d2 1 (i + 1) (valsT vals (I.take (i + 1))) :: row (some ⟨g, 0, none⟩) c 1 m (ints I) :: seg true b 0 [.slice (some ⟨hb,0,none⟩) n n, .slice (some ⟨vb,0,none⟩) n n] :: seg true hb 0 (held.map .bool) :: seg true vb 0 (vals.map fun x => Value.int .i64 x) :: L) := by
        rw [HC.out.2.2.1]
        have t : Sat W0 w5 (seg true g 0 (ints I ++ rest) :: row q2 d2 1 (i + 1) (valsT vals (I.take i) ++ [.int .i64 x]) :: seg true b 0 [.slice (some ⟨hb,0,none⟩) n n, .slice (some ⟨vb,0,none⟩) n n] :: seg true hb 0 (held.map .bool) :: seg true vb 0 (vals.map fun x => Value.int .i64 x) :: L) := (Sat.sub (s5) (by with_reducible repeat first | exact Fr1 | exact Fr2 | (apply Fr3; focus ((repeat (first | exact Tk1 | apply Tk2)); done)) | apply Fr4))
        exact (t.rowMade HC.out.2.2.2.1 HC.out.2.2.2.2.1 HC.out.2.2.2.2.2.1 HC.out.2.2.2.2.2.2).pull 1
      have HS := Lib.hid s6; clear s5 s6
      go_wp2_with fail
      exact ⟨⟨i + 1, q2, d2, by omega, by go_num, rfl, HS.out⟩, by simp [intOf]; omega⟩
    · obtain rfl : i = m := by omega
      have e1 : I.take i = I := List.take_of_length_le (by rw [← HN.out.2.2]; exact Nat.le_refl _)
      rw [e1] at s
      have HS := Lib.hid s; clear s e1
      go_wp2_with fail
      go_ret2
      exact ⟨i, p, c, q, d, rfl, rfl, HS.out.pull 1⟩
end Go.Proofs.Ytpiiklfnakkdiaa
