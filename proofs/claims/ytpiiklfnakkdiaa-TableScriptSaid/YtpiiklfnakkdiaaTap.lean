
/- A call of the table of pairs, beside the document's; under the conditions that each names. -/
import Derived.Test.YtpiiklfnakkdiaaTag
import Derived.Test.YtpiiklfnakkdiaaTai
namespace Go.Proofs.Ytpiiklfnakkdiaa
open Go.RowKit Go.Sep
set_option linter.unusedVariables false
set_option linter.unusedSimpArgs false
/-- What a call of the table of pairs leaves. -/
def postP (W0 : World) (L : List Assn) (k b hb vb rb rhb rvb n : Nat) (A : List KI) (B : List KP) (e : Ending) (w' : World) : Prop := e = .returned (.bool true) ∧ ∃ B' held tv rv, B'.length ≤ B.length + 1 ∧ agG (0, 0) prT n held tv rv ∧ Sat W0 w' (keptA k A B' :: tP b hb vb rb rhb rvb n held tv rv L)
set_option maxRecDepth 100000 in
set_option maxHeartbeats 4000000 in
theorem ap_other {W0 w : World} {L : List Assn} {k b hb vb rb rhb rvb n : Nat} {A : List KI} {B : List KP} {held : List Bool} {tv : List A2} {rv : List Int} (hag : agG (0, 0) prT n held tv rv) (h0 : 0 < n) (hsm : n ≤ 64) (hA : B.length ≤ 100000) (on h v : Int) (kd : Int) (n0 : kd ≠ 0) (n1 : kd ≠ 1) (n2 : kd ≠ 2) (n3 : kd ≠ 3) (n4 : kd ≠ 4) (n5 : kd ≠ 5) (hs : Sat W0 w (keptA k A B :: tP b hb vb rb rhb rvb n held tv rv L)) :
    Calls Try.prog 9 #[.pointer (some ⟨k,0,none⟩), .pointer (some ⟨b,0,none⟩), .pointer (some ⟨rb,0,none⟩), .agg #[.int .i64 on, .int .i64 kd, .int .i64 h, .int .i64 v]] w (postP W0 L k b hb vb rb rhb rvb n A B) := by
  have HG := Lib.hid hag; clear hag
  go_enter Try.func9, Try.ntmps9
  go_wp2_with (refine wpl_box rfl 44 (.tmp 3) rfl [.int .i64 on, .int .i64 kd, .int .i64 h, .int .i64 v] rfl hs ?_; intro w1 g s1 _; clear hs; have g1 := s1.at 1 rfl; have g2 := s1.at 2 rfl; have g3 := s1.at 3 rfl; have gz := s1.lt (by simp))
  go_ret
  exact ⟨rfl, B, held, tv, rv, by omega, HG.out, (Sat.sub (s1) (by with_reducible repeat first | exact Fr1 | exact Fr2 | (apply Fr3; focus ((repeat (first | exact Tk1 | apply Tk2)); done)) | apply Fr4))⟩
set_option maxRecDepth 100000 in
set_option maxHeartbeats 4000000 in
theorem ap_get {W0 w : World} {L : List Assn} {k b hb vb rb rhb rvb n : Nat} {A : List KI} {B : List KP} {held : List Bool} {tv : List A2} {rv : List Int} (hag : agG (0, 0) prT n held tv rv) (h0 : 0 < n) (hsm : n ≤ 64) (hA : B.length ≤ 100000) (on h v : Int) (hs : Sat W0 w (keptA k A B :: tP b hb vb rb rhb rvb n held tv rv L)) :
    Calls Try.prog 9 #[.pointer (some ⟨k,0,none⟩), .pointer (some ⟨b,0,none⟩), .pointer (some ⟨rb,0,none⟩), .agg #[.int .i64 on, .int .i64 1, .int .i64 h, .int .i64 v]] w (postP W0 L k b hb vb rb rhb rvb n A B) := by
  have HG := Lib.hid hag; clear hag
  cases hy : (decide (0 ≤ h) && held.getD h.toNat false) with
  | false =>
    go_enter Try.func9, Try.ntmps9
    go_wp2_with (refine wpl_box rfl 44 (.tmp 3) rfl [.int .i64 on, .int .i64 1, .int .i64 h, .int .i64 v] rfl hs ?_; intro w1 g s1 _; clear hs; have g1 := s1.at 1 rfl; have g2 := s1.at 2 rfl; have g3 := s1.at 3 rfl; have gz := s1.lt (by simp))
    have sa : Sat W0 w1 (seg true b 0 [.slice (some ⟨hb,0,none⟩) n n, .slice (some ⟨vb,0,none⟩) n n] :: seg true hb 0 (held.map .bool) :: seg true vb 0 (tv.flatMap enc2) :: seg true rb 0 [.slice (some ⟨rhb,0,none⟩) n n, .slice (some ⟨rvb,0,none⟩) n n] :: seg true rhb 0 (held.map .bool) :: seg true rvb 0 (rv.map fun x => Value.int .i64 x) :: seg true g 0 [.int .i64 on, .int .i64 1, .int .i64 h, .int .i64 v] :: keptA k A B :: L) := (Sat.sub (s1) (by with_reducible repeat first | exact Fr1 | exact Fr2 | (apply Fr3; focus ((repeat (first | exact Tk1 | apply Tk2)); done)) | apply Fr4))
    refine (get_no_pr h hy HG.out.1 HG.out.2.1 h0 hsm sa).mono ?_
    rintro e w2 ⟨rfl, s2⟩
    clear s1 sa g1 g2 g3 gz
    have g1 := ((Sat.sub (s2) (by with_reducible repeat first | exact Fr1 | exact Fr2 | (apply Fr3; focus ((repeat (first | exact Tk1 | apply Tk2)); done)) | apply Fr4)) : Sat W0 w2 (seg true g 0 [.int .i64 on, .int .i64 1, .int .i64 h, .int .i64 v] :: [])).at 1 rfl
    have g2 := ((Sat.sub (s2) (by with_reducible repeat first | exact Fr1 | exact Fr2 | (apply Fr3; focus ((repeat (first | exact Tk1 | apply Tk2)); done)) | apply Fr4)) : Sat W0 w2 (seg true g 0 [.int .i64 on, .int .i64 1, .int .i64 h, .int .i64 v] :: [])).at 2 rfl
    have g3 := ((Sat.sub (s2) (by with_reducible repeat first | exact Fr1 | exact Fr2 | (apply Fr3; focus ((repeat (first | exact Tk1 | apply Tk2)); done)) | apply Fr4)) : Sat W0 w2 (seg true g 0 [.int .i64 on, .int .i64 1, .int .i64 h, .int .i64 v] :: [])).at 3 rfl
    have gz := ((Sat.sub (s2) (by with_reducible repeat first | exact Fr1 | exact Fr2 | (apply Fr3; focus ((repeat (first | exact Tk1 | apply Tk2)); done)) | apply Fr4)) : Sat W0 w2 (seg true g 0 [.int .i64 on, .int .i64 1, .int .i64 h, .int .i64 v] :: [])).lt (by simp)
    obtain ⟨bq, hbq⟩ : ∃ bq, bq = w2.heap.size := ⟨_, rfl⟩
    have s2a := s2.allocAt #[.int .i64 0, .int .i64 0] 31 (q := bq) hbq
    have HBQ := Lib.hid hbq; clear hbq
    go_wp2_with fail
    rw [← HBQ.out]
    have sb : Sat W0 _ (seg true rb 0 [.slice (some ⟨rhb,0,none⟩) n n, .slice (some ⟨rvb,0,none⟩) n n] :: seg true rhb 0 (held.map .bool) :: seg true rvb 0 (rv.map fun x => Value.int .i64 x) :: seg true bq 0 [.int .i64 0, .int .i64 0] :: seg true b 0 [.slice (some ⟨hb,0,none⟩) n n, .slice (some ⟨vb,0,none⟩) n n] :: seg true hb 0 (held.map .bool) :: seg true vb 0 (tv.flatMap enc2) :: seg true g 0 [.int .i64 on, .int .i64 1, .int .i64 h, .int .i64 v] :: keptA k A B :: L) := (Sat.sub (s2a) (by with_reducible repeat first | exact Fr1 | exact Fr2 | (apply Fr3; focus ((repeat (first | exact Tk1 | apply Tk2)); done)) | apply Fr4))
    refine (get_no_ref h hy HG.out.1 HG.out.2.2.1 h0 hsm sb).mono ?_
    rintro e w3 ⟨rfl, s3⟩
    clear s2 s2a sb g1 g2 g3 gz
    go_wp2_with fail
    have s3d := s3.drew
    refine region_E (fun w' => w'.cell? ⟨bq, 0, none⟩ = some (.int .i64 0) ∧ w'.cell? ⟨bq, 1, none⟩ = some (.int .i64 0) ∧ bq < w'.heap.size) [7, 15] (by kernel_rfl) ?_
    have hHeld := (And.intro (((Sat.sub (s3d) (by with_reducible repeat first | exact Fr1 | exact Fr2 | (apply Fr3; focus ((repeat (first | exact Tk1 | apply Tk2)); done)) | apply Fr4)) : Sat W0 _ (seg true bq 0 [.int .i64 0, .int .i64 0] :: [])).at 0 rfl) (And.intro (((Sat.sub (s3d) (by with_reducible repeat first | exact Fr1 | exact Fr2 | (apply Fr3; focus ((repeat (first | exact Tk1 | apply Tk2)); done)) | apply Fr4)) : Sat W0 _ (seg true bq 0 [.int .i64 0, .int .i64 0] :: [])).at 1 rfl) (((Sat.sub (s3d) (by with_reducible repeat first | exact Fr1 | exact Fr2 | (apply Fr3; focus ((repeat (first | exact Tk1 | apply Tk2)); done)) | apply Fr4)) : Sat W0 _ (seg true bq 0 [.int .i64 0, .int .i64 0] :: [])).lt (by simp))))
    iterate 7
     first | refine autoT hHeld (by rfl) (by rfl) (x := ?_) (v := ?_) ?_ (by kernel_rfl) ?_ ?_ ?_ | refine autoP (by rfl) (x := ?_) (v := ?_) ?_ (by kernel_rfl) ?_ ?_ ?_
     rotate_left 2
     · (simp only [gE1, gE2, gE3]; rfl)
     · exact fun _ _ _ h => h
     · refine Or.inl ⟨by rfl, fun w hSw => ?_⟩
       (try dsimp only at hSw)
       go_simp
       try (with_reducible rfl)
     try simp only [pA1, pA2, pA3, pA4]
    refine anyE_take (i := 7) (x := ?_) (v := ?_) ?_ (by kernel_rfl) (by kernel_rfl) (by kernel_rfl) (by kernel_rfl) ?_ ?_ hHeld ?_
    rotate_left 2
    · (simp only [gE1, gE2, gE3]; rfl)
    · exact fun _ _ _ h => h
    · refine Or.inl ⟨by rfl, fun w hSw => ?_⟩
      (try dsimp only at hSw)
      go_simp
      try (with_reducible rfl)
    try simp only [pA1, pA2, pA3, pA4]
    refine anyE_pure (i := 8) (x := ?_) (v := ?_) ?_ (by kernel_rfl) (by kernel_rfl) (by kernel_rfl) ?_ ?_ ?_
    rotate_left 2
    · (simp only [gE1, gE2, gE3]; rfl)
    · exact fun _ _ _ h => h
    · refine Or.inl ⟨by rfl, fun w hSw => ?_⟩
      (try dsimp only at hSw)
      go_simp
      try (with_reducible rfl)
    try simp only [pA1, pA2, pA3, pA4]
    refine anyE_pure (i := 9) (x := ?_) (v := ?_) ?_ (by kernel_rfl) (by kernel_rfl) (by kernel_rfl) ?_ ?_ ?_
    rotate_left 2
    · (simp only [gE1, gE2, gE3]; rfl)
    · exact fun _ _ _ h => h
    · refine Or.inl ⟨by rfl, fun w hSw => ?_⟩
      (try dsimp only at hSw)
      go_simp
      try (with_reducible rfl)
    try simp only [pA1, pA2, pA3, pA4]
    refine anyE_pure (i := 10) (x := ?_) (v := ?_) ?_ (by kernel_rfl) (by kernel_rfl) (by kernel_rfl) ?_ ?_ ?_
    rotate_left 2
    · (simp only [gE1, gE2, gE3]; rfl)
    · exact fun _ _ _ h => h
    · refine Or.inl ⟨by rfl, fun w hSw => ?_⟩
      (try dsimp only at hSw)
      go_simp
      try (with_reducible rfl)
    try simp only [pA1, pA2, pA3, pA4]
    refine anyE_pure (i := 11) (x := ?_) (v := ?_) ?_ (by kernel_rfl) (by kernel_rfl) (by kernel_rfl) ?_ ?_ ?_
    rotate_left 2
    · (simp only [gE1, gE2, gE3]; rfl)
    · exact fun _ _ _ h => h
    · refine Or.inl ⟨by rfl, fun w hSw => ?_⟩
      (try dsimp only at hSw)
      go_simp
      try (with_reducible rfl)
    try simp only [pA1, pA2, pA3, pA4]
    refine anyE_pure (i := 12) (x := ?_) (v := undef) ?_ (by kernel_rfl) (by kernel_rfl) (by kernel_rfl) ?_ ?_ ?_
    rotate_left 1
    · (simp only [gE1, gE2, gE3]; rfl)
    · exact fun _ _ _ h => h
    · exact Or.inr ⟨by rfl, rfl⟩
    try simp only [pA1, pA2, pA3, pA4]
    refine anyE_pure (i := 13) (x := ?_) (v := undef) ?_ (by kernel_rfl) (by kernel_rfl) (by kernel_rfl) ?_ ?_ ?_
    rotate_left 1
    · (simp only [gE1, gE2, gE3]; rfl)
    · exact fun _ _ _ h => h
    · exact Or.inr ⟨by rfl, rfl⟩
    try simp only [pA1, pA2, pA3, pA4]
    refine anyE_pure (i := 14) (x := ?_) (v := undef) ?_ (by kernel_rfl) (by kernel_rfl) (by kernel_rfl) ?_ ?_ ?_
    rotate_left 1
    · (simp only [gE1, gE2, gE3]; rfl)
    · exact fun _ _ _ h => h
    · exact Or.inr ⟨by rfl, rfl⟩
    try simp only [pA1, pA2, pA3, pA4]
    refine anyE_pure (i := 15) (x := ?_) (v := undef) ?_ (by kernel_rfl) (by kernel_rfl) (by kernel_rfl) ?_ ?_ ?_
    rotate_left 1
    · (simp only [gE1, gE2, gE3]; rfl)
    · exact fun _ _ _ h => h
    · exact Or.inr ⟨by rfl, rfl⟩
    try simp only [pA1, pA2, pA3, pA4]
    refine anyE_pure (i := 16) (x := ?_) (v := undef) ?_ (by kernel_rfl) (by kernel_rfl) (by kernel_rfl) ?_ ?_ ?_
    rotate_left 1
    · (simp only [gE1, gE2, gE3]; rfl)
    · exact fun _ _ _ h => h
    · exact Or.inr ⟨by rfl, rfl⟩
    try simp only [pA1, pA2, pA3, pA4]
    refine anyE_pure (i := 17) (x := ?_) (v := undef) ?_ (by kernel_rfl) (by kernel_rfl) (by kernel_rfl) ?_ ?_ ?_
    rotate_left 1
    · (simp only [gE1, gE2, gE3]; rfl)
    · exact fun _ _ _ h => h
    · exact Or.inr ⟨by rfl, rfl⟩
    try simp only [pA1, pA2, pA3, pA4]
    refine anyE_pure (i := 18) (x := ?_) (v := undef) ?_ (by kernel_rfl) (by kernel_rfl) (by kernel_rfl) ?_ ?_ ?_
    rotate_left 1
    · (simp only [gE1, gE2, gE3]; rfl)
    · exact fun _ _ _ h => h
    · exact Or.inr ⟨by rfl, rfl⟩
    try simp only [pA1, pA2, pA3, pA4]
    refine anyE_pure (i := 19) (x := ?_) (v := undef) ?_ (by kernel_rfl) (by kernel_rfl) (by kernel_rfl) ?_ ?_ ?_
    rotate_left 1
    · (simp only [gE1, gE2, gE3]; rfl)
    · exact fun _ _ _ h => h
    · exact Or.inr ⟨by rfl, rfl⟩
    try simp only [pA1, pA2, pA3, pA4]
    refine anyE_pure (i := 20) (x := ?_) (v := ?_) ?_ (by kernel_rfl) (by kernel_rfl) (by kernel_rfl) ?_ ?_ ?_
    rotate_left 2
    · (simp only [gE1, gE2, gE3]; rfl)
    · exact fun _ _ _ h => h
    · refine Or.inl ⟨by rfl, fun w hSw => ?_⟩
      (try dsimp only at hSw)
      go_simp
      try (with_reducible rfl)
    try simp only [pA1, pA2, pA3, pA4]
    refine anyE_pure (i := 21) (x := ?_) (v := ?_) ?_ (by kernel_rfl) (by kernel_rfl) (by kernel_rfl) ?_ ?_ ?_
    rotate_left 2
    · (simp only [gE1, gE2, gE3]; rfl)
    · exact fun _ _ _ h => h
    · refine Or.inl ⟨by rfl, fun w hSw => ?_⟩
      (try dsimp only at hSw)
      go_simp
      try (with_reducible rfl)
    try simp only [pA1, pA2, pA3, pA4]
    refine anyE_pure (i := 22) (x := ?_) (v := ?_) ?_ (by kernel_rfl) (by kernel_rfl) (by kernel_rfl) ?_ ?_ ?_
    rotate_left 2
    · (simp only [gE1, gE2, gE3]; rfl)
    · exact fun _ _ _ h => h
    · refine Or.inl ⟨by rfl, fun w hSw => ?_⟩
      (try dsimp only at hSw)
      go_simp
      try (with_reducible rfl)
    try simp only [pA1, pA2, pA3, pA4]
    refine anyE_done (by kernel_rfl) ?_ _
    go_wp2_with fail
    go_ret
    exact ⟨rfl, B, held, tv, rv, by omega, HG.out, (Sat.sub (s3d) (by with_reducible repeat first | exact Fr1 | exact Fr2 | (apply Fr3; focus ((repeat (first | exact Tk1 | apply Tk2)); done)) | apply Fr4))⟩
  | true =>
    obtain ⟨m, rfl, hm, hh⟩ := there_nat HG.out.1 hy
    have e1 := getD_some (0, 0) (show m < tv.length by rw [HG.out.2.1]; exact hm)
    have e2 := getD_some 0 (show m < rv.length by rw [HG.out.2.2.1]; exact hm)
    rw [HG.out.2.2.2 m hh] at e1
    obtain ⟨z, hz⟩ : ∃ z, z = rv.getD m 0 := ⟨_, rfl⟩
    rw [← hz] at e1 e2
    have HE := Lib.hid (And.intro hh (And.intro e1 e2)); clear hh e1 e2 hy hz
    go_enter Try.func9, Try.ntmps9
    go_wp2_with (refine wpl_box rfl 44 (.tmp 3) rfl [.int .i64 on, .int .i64 1, .int .i64 (m : Int), .int .i64 v] rfl hs ?_; intro w1 g s1 _; clear hs; have g1 := s1.at 1 rfl; have g2 := s1.at 2 rfl; have g3 := s1.at 3 rfl; have gz := s1.lt (by simp))
    have sa : Sat W0 w1 (seg true b 0 [.slice (some ⟨hb,0,none⟩) n n, .slice (some ⟨vb,0,none⟩) n n] :: seg true hb 0 (held.map .bool) :: seg true vb 0 (tv.flatMap enc2) :: seg true rb 0 [.slice (some ⟨rhb,0,none⟩) n n, .slice (some ⟨rvb,0,none⟩) n n] :: seg true rhb 0 (held.map .bool) :: seg true rvb 0 (rv.map fun x => Value.int .i64 x) :: seg true g 0 [.int .i64 on, .int .i64 1, .int .i64 (m : Int), .int .i64 v] :: keptA k A B :: L) := (Sat.sub (s1) (by with_reducible repeat first | exact Fr1 | exact Fr2 | (apply Fr3; focus ((repeat (first | exact Tk1 | apply Tk2)); done)) | apply Fr4))
    refine (get_yes_pr m HE.out.1 HE.out.2.1 HG.out.1 HG.out.2.1 h0 hsm sa).mono ?_
    rintro e w2 ⟨rfl, s2⟩
    clear s1 sa g1 g2 g3 gz
    have g1 := ((Sat.sub (s2) (by with_reducible repeat first | exact Fr1 | exact Fr2 | (apply Fr3; focus ((repeat (first | exact Tk1 | apply Tk2)); done)) | apply Fr4)) : Sat W0 w2 (seg true g 0 [.int .i64 on, .int .i64 1, .int .i64 (m : Int), .int .i64 v] :: [])).at 1 rfl
    have g2 := ((Sat.sub (s2) (by with_reducible repeat first | exact Fr1 | exact Fr2 | (apply Fr3; focus ((repeat (first | exact Tk1 | apply Tk2)); done)) | apply Fr4)) : Sat W0 w2 (seg true g 0 [.int .i64 on, .int .i64 1, .int .i64 (m : Int), .int .i64 v] :: [])).at 2 rfl
    have g3 := ((Sat.sub (s2) (by with_reducible repeat first | exact Fr1 | exact Fr2 | (apply Fr3; focus ((repeat (first | exact Tk1 | apply Tk2)); done)) | apply Fr4)) : Sat W0 w2 (seg true g 0 [.int .i64 on, .int .i64 1, .int .i64 (m : Int), .int .i64 v] :: [])).at 3 rfl
    have gz := ((Sat.sub (s2) (by with_reducible repeat first | exact Fr1 | exact Fr2 | (apply Fr3; focus ((repeat (first | exact Tk1 | apply Tk2)); done)) | apply Fr4)) : Sat W0 w2 (seg true g 0 [.int .i64 on, .int .i64 1, .int .i64 (m : Int), .int .i64 v] :: [])).lt (by simp)
    obtain ⟨bq, hbq⟩ : ∃ bq, bq = w2.heap.size := ⟨_, rfl⟩
    have s2a := s2.allocAt #[.int .i64 z, .int .i64 (bits .xor .i64 z 5)] 31 (q := bq) hbq
    have HBQ := Lib.hid hbq; clear hbq
    go_wp2_with fail
    rw [← HBQ.out]
    have sb : Sat W0 _ (seg true rb 0 [.slice (some ⟨rhb,0,none⟩) n n, .slice (some ⟨rvb,0,none⟩) n n] :: seg true rhb 0 (held.map .bool) :: seg true rvb 0 (rv.map fun x => Value.int .i64 x) :: seg true bq 0 [.int .i64 z, .int .i64 (bits .xor .i64 z 5)] :: seg true b 0 [.slice (some ⟨hb,0,none⟩) n n, .slice (some ⟨vb,0,none⟩) n n] :: seg true hb 0 (held.map .bool) :: seg true vb 0 (tv.flatMap enc2) :: seg true g 0 [.int .i64 on, .int .i64 1, .int .i64 (m : Int), .int .i64 v] :: keptA k A B :: L) := (Sat.sub (s2a) (by with_reducible repeat first | exact Fr1 | exact Fr2 | (apply Fr3; focus ((repeat (first | exact Tk1 | apply Tk2)); done)) | apply Fr4))
    refine (get_yes_ref m HE.out.1 HE.out.2.2 HG.out.1 HG.out.2.2.1 h0 hsm sb).mono ?_
    rintro e w3 ⟨rfl, s3⟩
    clear s2 s2a sb g1 g2 g3 gz
    go_wp2_with fail
    have s3d := s3.drew
    refine region_E (fun w' => w'.cell? ⟨bq, 0, none⟩ = some (.int .i64 z) ∧ w'.cell? ⟨bq, 1, none⟩ = some (.int .i64 (bits .xor .i64 z 5)) ∧ bq < w'.heap.size) [7, 15] (by kernel_rfl) ?_
    have hHeld := (And.intro (((Sat.sub (s3d) (by with_reducible repeat first | exact Fr1 | exact Fr2 | (apply Fr3; focus ((repeat (first | exact Tk1 | apply Tk2)); done)) | apply Fr4)) : Sat W0 _ (seg true bq 0 [.int .i64 z, .int .i64 (bits .xor .i64 z 5)] :: [])).at 0 rfl) (And.intro (((Sat.sub (s3d) (by with_reducible repeat first | exact Fr1 | exact Fr2 | (apply Fr3; focus ((repeat (first | exact Tk1 | apply Tk2)); done)) | apply Fr4)) : Sat W0 _ (seg true bq 0 [.int .i64 z, .int .i64 (bits .xor .i64 z 5)] :: [])).at 1 rfl) (((Sat.sub (s3d) (by with_reducible repeat first | exact Fr1 | exact Fr2 | (apply Fr3; focus ((repeat (first | exact Tk1 | apply Tk2)); done)) | apply Fr4)) : Sat W0 _ (seg true bq 0 [.int .i64 z, .int .i64 (bits .xor .i64 z 5)] :: [])).lt (by simp))))
    iterate 7
     first | refine autoT hHeld (by rfl) (by rfl) (x := ?_) (v := ?_) ?_ (by kernel_rfl) ?_ ?_ ?_ | refine autoP (by rfl) (x := ?_) (v := ?_) ?_ (by kernel_rfl) ?_ ?_ ?_
     rotate_left 2
     · (simp only [gE1, gE2, gE3]; rfl)
     · exact fun _ _ _ h => h
     · refine Or.inl ⟨by rfl, fun w hSw => ?_⟩
       (try dsimp only at hSw)
       go_simp
       try (with_reducible rfl)
     try simp only [pA1, pA2, pA3, pA4]
    refine anyE_pure (i := 7) (x := ?_) (v := undef) ?_ (by kernel_rfl) (by kernel_rfl) (by kernel_rfl) ?_ ?_ ?_
    rotate_left 1
    · (simp only [gE1, gE2, gE3]; rfl)
    · exact fun _ _ _ h => h
    · exact Or.inr ⟨by rfl, rfl⟩
    try simp only [pA1, pA2, pA3, pA4]
    refine anyE_pure (i := 8) (x := ?_) (v := undef) ?_ (by kernel_rfl) (by kernel_rfl) (by kernel_rfl) ?_ ?_ ?_
    rotate_left 1
    · (simp only [gE1, gE2, gE3]; rfl)
    · exact fun _ _ _ h => h
    · exact Or.inr ⟨by rfl, rfl⟩
    try simp only [pA1, pA2, pA3, pA4]
    refine anyE_pure (i := 9) (x := ?_) (v := undef) ?_ (by kernel_rfl) (by kernel_rfl) (by kernel_rfl) ?_ ?_ ?_
    rotate_left 1
    · (simp only [gE1, gE2, gE3]; rfl)
    · exact fun _ _ _ h => h
    · exact Or.inr ⟨by rfl, rfl⟩
    try simp only [pA1, pA2, pA3, pA4]
    refine anyE_pure (i := 10) (x := ?_) (v := ?_) ?_ (by kernel_rfl) (by kernel_rfl) (by kernel_rfl) ?_ ?_ ?_
    rotate_left 2
    · (simp only [gE1, gE2, gE3]; rfl)
    · exact fun _ _ _ h => h
    · refine Or.inl ⟨by rfl, fun w hSw => ?_⟩
      (try dsimp only at hSw)
      go_simp
      try (with_reducible rfl)
    try simp only [pA1, pA2, pA3, pA4]
    refine anyE_pure (i := 11) (x := ?_) (v := ?_) ?_ (by kernel_rfl) (by kernel_rfl) (by kernel_rfl) ?_ ?_ ?_
    rotate_left 2
    · (simp only [gE1, gE2, gE3]; rfl)
    · exact fun _ _ _ h => h
    · refine Or.inl ⟨by rfl, fun w hSw => ?_⟩
      (try dsimp only at hSw)
      go_simp
      try (with_reducible rfl)
    try simp only [pA1, pA2, pA3, pA4]
    refine anyE_pure (i := 12) (x := ?_) (v := ?_) ?_ (by kernel_rfl) (by kernel_rfl) (by kernel_rfl) ?_ ?_ ?_
    rotate_left 2
    · (simp only [gE1, gE2, gE3]; rfl)
    · exact fun _ _ _ h => h
    · refine Or.inl ⟨by rfl, fun w hSw => ?_⟩
      (try dsimp only at hSw)
      go_simp
      try (with_reducible rfl)
    try simp only [pA1, pA2, pA3, pA4]
    refine anyE_pure (i := 13) (x := ?_) (v := ?_) ?_ (by kernel_rfl) (by kernel_rfl) (by kernel_rfl) ?_ ?_ ?_
    rotate_left 2
    · (simp only [gE1, gE2, gE3]; rfl)
    · exact fun _ _ _ h => h
    · refine Or.inl ⟨by rfl, fun w hSw => ?_⟩
      (try dsimp only at hSw)
      go_simp
      try (with_reducible rfl)
    try simp only [pA1, pA2, pA3, pA4]
    refine anyE_pure (i := 14) (x := ?_) (v := ?_) ?_ (by kernel_rfl) (by kernel_rfl) (by kernel_rfl) ?_ ?_ ?_
    rotate_left 2
    · (simp only [gE1, gE2, gE3]; rfl)
    · exact fun _ _ _ h => h
    · refine Or.inl ⟨by rfl, fun w hSw => ?_⟩
      (try dsimp only at hSw)
      go_simp
      try (with_reducible rfl)
    try simp only [pA1, pA2, pA3, pA4]
    refine anyE_take (i := 15) (x := ?_) (v := ?_) ?_ (by kernel_rfl) (by kernel_rfl) (by kernel_rfl) (by kernel_rfl) ?_ ?_ hHeld ?_
    rotate_left 2
    · (simp only [gE1, gE2, gE3]; rfl)
    · exact fun _ _ _ h => h
    · refine Or.inl ⟨by rfl, fun w hSw => ?_⟩
      (try dsimp only at hSw)
      go_simp
      try (with_reducible rfl)
    try simp only [pA1, pA2, pA3, pA4]
    refine anyE_pure (i := 16) (x := ?_) (v := ?_) ?_ (by kernel_rfl) (by kernel_rfl) (by kernel_rfl) ?_ ?_ ?_
    rotate_left 2
    · (simp only [gE1, gE2, gE3]; rfl)
    · exact fun _ _ _ h => h
    · refine Or.inl ⟨by rfl, fun w hSw => ?_⟩
      (try dsimp only at hSw)
      go_simp
      try (with_reducible rfl)
    try simp only [pA1, pA2, pA3, pA4]
    refine anyE_one (i := 17) (x := ?_) ?_ (by kernel_rfl) (fun K hK => ?_)
    rotate_left
    · (simp only [gE1, gE2, gE3]; rfl)
    go_simp
    refine (pair19 z s3d).mono ?_
    rintro e w6 ⟨rfl, s6⟩
    go_wp2_with fail
    have hKp := (And.intro (((Sat.sub (s6) (by with_reducible repeat first | exact Fr1 | exact Fr2 | (apply Fr3; focus ((repeat (first | exact Tk1 | apply Tk2)); done)) | apply Fr4)) : Sat W0 w6 (seg true bq 0 [.int .i64 z, .int .i64 (bits .xor .i64 z 5)] :: [])).at 0 rfl) (And.intro (((Sat.sub (s6) (by with_reducible repeat first | exact Fr1 | exact Fr2 | (apply Fr3; focus ((repeat (first | exact Tk1 | apply Tk2)); done)) | apply Fr4)) : Sat W0 w6 (seg true bq 0 [.int .i64 z, .int .i64 (bits .xor .i64 z 5)] :: [])).at 1 rfl) (((Sat.sub (s6) (by with_reducible repeat first | exact Fr1 | exact Fr2 | (apply Fr3; focus ((repeat (first | exact Tk1 | apply Tk2)); done)) | apply Fr4)) : Sat W0 w6 (seg true bq 0 [.int .i64 z, .int .i64 (bits .xor .i64 z 5)] :: [])).lt (by simp))))
    refine hK.out _ _ hKp ?_
    clear hK K hHeld
    have hHeld := hKp
    clear hKp
    try simp only [pA1, pA2, pA3, pA4]
    refine anyE_pure (i := 18) (x := ?_) (v := ?_) ?_ (by kernel_rfl) (by kernel_rfl) (by kernel_rfl) ?_ ?_ ?_
    rotate_left 2
    · (simp only [gE1, gE2, gE3]; rfl)
    · exact fun _ _ _ h => h
    · refine Or.inl ⟨by rfl, fun w hSw => ?_⟩
      (try dsimp only at hSw)
      go_simp
      try (with_reducible rfl)
    try simp only [pA1, pA2, pA3, pA4]
    refine anyE_pure (i := 19) (x := ?_) (v := ?_) ?_ (by kernel_rfl) (by kernel_rfl) (by kernel_rfl) ?_ ?_ ?_
    rotate_left 2
    · (simp only [gE1, gE2, gE3]; rfl)
    · exact fun _ _ _ h => h
    · refine Or.inl ⟨by rfl, fun w hSw => ?_⟩
      (try dsimp only at hSw)
      go_simp
      try (with_reducible rfl)
    try simp only [pA1, pA2, pA3, pA4]
    refine anyE_pure (i := 20) (x := ?_) (v := ?_) ?_ (by kernel_rfl) (by kernel_rfl) (by kernel_rfl) ?_ ?_ ?_
    rotate_left 2
    · (simp only [gE1, gE2, gE3]; rfl)
    · exact fun _ _ _ h => h
    · refine Or.inl ⟨by rfl, fun w hSw => ?_⟩
      (try dsimp only at hSw)
      go_simp
      try (with_reducible rfl)
    try simp only [pA1, pA2, pA3, pA4]
    refine anyE_pure (i := 21) (x := ?_) (v := ?_) ?_ (by kernel_rfl) (by kernel_rfl) (by kernel_rfl) ?_ ?_ ?_
    rotate_left 2
    · (simp only [gE1, gE2, gE3]; rfl)
    · exact fun _ _ _ h => h
    · refine Or.inl ⟨by rfl, fun w hSw => ?_⟩
      (try dsimp only at hSw)
      go_simp
      try (with_reducible rfl)
    try simp only [pA1, pA2, pA3, pA4]
    refine anyE_pure (i := 22) (x := ?_) (v := ?_) ?_ (by kernel_rfl) (by kernel_rfl) (by kernel_rfl) ?_ ?_ ?_
    rotate_left 2
    · (simp only [gE1, gE2, gE3]; rfl)
    · exact fun _ _ _ h => h
    · refine Or.inl ⟨by rfl, fun w hSw => ?_⟩
      (try dsimp only at hSw)
      go_simp
      try (with_reducible rfl)
    try simp only [pA1, pA2, pA3, pA4]
    refine anyE_done (by kernel_rfl) ?_ _
    go_wp2_with fail
    go_ret
    exact ⟨rfl, B, held, tv, rv, by omega, HG.out, (Sat.sub (s6) (by with_reducible repeat first | exact Fr1 | exact Fr2 | (apply Fr3; focus ((repeat (first | exact Tk1 | apply Tk2)); done)) | apply Fr4))⟩
set_option maxRecDepth 100000 in
set_option maxHeartbeats 4000000 in
theorem ap_drop {W0 w : World} {L : List Assn} {k b hb vb rb rhb rvb n : Nat} {A : List KI} {B : List KP} {held : List Bool} {tv : List A2} {rv : List Int} (hag : agG (0, 0) prT n held tv rv) (h0 : 0 < n) (hsm : n ≤ 64) (hA : B.length ≤ 100000) (on h v : Int) (hs : Sat W0 w (keptA k A B :: tP b hb vb rb rhb rvb n held tv rv L)) :
    Calls Try.prog 9 #[.pointer (some ⟨k,0,none⟩), .pointer (some ⟨b,0,none⟩), .pointer (some ⟨rb,0,none⟩), .agg #[.int .i64 on, .int .i64 3, .int .i64 h, .int .i64 v]] w (postP W0 L k b hb vb rb rhb rvb n A B) := by
  have HG := Lib.hid hag; clear hag
  cases hy : (decide (0 ≤ h) && held.getD h.toNat false) with
  | false =>
    go_enter Try.func9, Try.ntmps9
    go_wp2_with (refine wpl_box rfl 44 (.tmp 3) rfl [.int .i64 on, .int .i64 3, .int .i64 h, .int .i64 v] rfl hs ?_; intro w1 g s1 _; clear hs; have g1 := s1.at 1 rfl; have g2 := s1.at 2 rfl; have g3 := s1.at 3 rfl; have gz := s1.lt (by simp))
    have sa : Sat W0 w1 (seg true b 0 [.slice (some ⟨hb,0,none⟩) n n, .slice (some ⟨vb,0,none⟩) n n] :: seg true hb 0 (held.map .bool) :: seg true vb 0 (tv.flatMap enc2) :: seg true rb 0 [.slice (some ⟨rhb,0,none⟩) n n, .slice (some ⟨rvb,0,none⟩) n n] :: seg true rhb 0 (held.map .bool) :: seg true rvb 0 (rv.map fun x => Value.int .i64 x) :: seg true g 0 [.int .i64 on, .int .i64 3, .int .i64 h, .int .i64 v] :: keptA k A B :: L) := (Sat.sub (s1) (by with_reducible repeat first | exact Fr1 | exact Fr2 | (apply Fr3; focus ((repeat (first | exact Tk1 | apply Tk2)); done)) | apply Fr4))
    refine (drop_no_pr h hy HG.out.1 HG.out.2.1 h0 hsm sa).mono ?_
    rintro e w2 ⟨rfl, s2⟩
    clear s1 sa g1 g2 g3 gz
    have g1 := ((Sat.sub (s2) (by with_reducible repeat first | exact Fr1 | exact Fr2 | (apply Fr3; focus ((repeat (first | exact Tk1 | apply Tk2)); done)) | apply Fr4)) : Sat W0 w2 (seg true g 0 [.int .i64 on, .int .i64 3, .int .i64 h, .int .i64 v] :: [])).at 1 rfl
    have g2 := ((Sat.sub (s2) (by with_reducible repeat first | exact Fr1 | exact Fr2 | (apply Fr3; focus ((repeat (first | exact Tk1 | apply Tk2)); done)) | apply Fr4)) : Sat W0 w2 (seg true g 0 [.int .i64 on, .int .i64 3, .int .i64 h, .int .i64 v] :: [])).at 2 rfl
    have g3 := ((Sat.sub (s2) (by with_reducible repeat first | exact Fr1 | exact Fr2 | (apply Fr3; focus ((repeat (first | exact Tk1 | apply Tk2)); done)) | apply Fr4)) : Sat W0 w2 (seg true g 0 [.int .i64 on, .int .i64 3, .int .i64 h, .int .i64 v] :: [])).at 3 rfl
    have gz := ((Sat.sub (s2) (by with_reducible repeat first | exact Fr1 | exact Fr2 | (apply Fr3; focus ((repeat (first | exact Tk1 | apply Tk2)); done)) | apply Fr4)) : Sat W0 w2 (seg true g 0 [.int .i64 on, .int .i64 3, .int .i64 h, .int .i64 v] :: [])).lt (by simp)
    obtain ⟨bq, hbq⟩ : ∃ bq, bq = w2.heap.size := ⟨_, rfl⟩
    have s2a := s2.allocAt #[.int .i64 0, .int .i64 0] 31 (q := bq) hbq
    have HBQ := Lib.hid hbq; clear hbq
    go_wp2_with fail
    rw [← HBQ.out]
    have sb : Sat W0 _ (seg true rb 0 [.slice (some ⟨rhb,0,none⟩) n n, .slice (some ⟨rvb,0,none⟩) n n] :: seg true rhb 0 (held.map .bool) :: seg true rvb 0 (rv.map fun x => Value.int .i64 x) :: seg true bq 0 [.int .i64 0, .int .i64 0] :: seg true b 0 [.slice (some ⟨hb,0,none⟩) n n, .slice (some ⟨vb,0,none⟩) n n] :: seg true hb 0 (held.map .bool) :: seg true vb 0 (tv.flatMap enc2) :: seg true g 0 [.int .i64 on, .int .i64 3, .int .i64 h, .int .i64 v] :: keptA k A B :: L) := (Sat.sub (s2a) (by with_reducible repeat first | exact Fr1 | exact Fr2 | (apply Fr3; focus ((repeat (first | exact Tk1 | apply Tk2)); done)) | apply Fr4))
    refine (drop_no_ref h hy HG.out.1 HG.out.2.2.1 h0 hsm sb).mono ?_
    rintro e w3 ⟨rfl, s3⟩
    clear s2 s2a sb g1 g2 g3 gz
    go_wp2_with fail
    have s3d := s3.drew
    refine region_E (fun w' => w'.cell? ⟨bq, 0, none⟩ = some (.int .i64 0) ∧ w'.cell? ⟨bq, 1, none⟩ = some (.int .i64 0) ∧ bq < w'.heap.size) [7, 15] (by kernel_rfl) ?_
    have hHeld := (And.intro (((Sat.sub (s3d) (by with_reducible repeat first | exact Fr1 | exact Fr2 | (apply Fr3; focus ((repeat (first | exact Tk1 | apply Tk2)); done)) | apply Fr4)) : Sat W0 _ (seg true bq 0 [.int .i64 0, .int .i64 0] :: [])).at 0 rfl) (And.intro (((Sat.sub (s3d) (by with_reducible repeat first | exact Fr1 | exact Fr2 | (apply Fr3; focus ((repeat (first | exact Tk1 | apply Tk2)); done)) | apply Fr4)) : Sat W0 _ (seg true bq 0 [.int .i64 0, .int .i64 0] :: [])).at 1 rfl) (((Sat.sub (s3d) (by with_reducible repeat first | exact Fr1 | exact Fr2 | (apply Fr3; focus ((repeat (first | exact Tk1 | apply Tk2)); done)) | apply Fr4)) : Sat W0 _ (seg true bq 0 [.int .i64 0, .int .i64 0] :: [])).lt (by simp))))
    iterate 7
     first | refine autoT hHeld (by rfl) (by rfl) (x := ?_) (v := ?_) ?_ (by kernel_rfl) ?_ ?_ ?_ | refine autoP (by rfl) (x := ?_) (v := ?_) ?_ (by kernel_rfl) ?_ ?_ ?_
     rotate_left 2
     · (simp only [gE1, gE2, gE3]; rfl)
     · exact fun _ _ _ h => h
     · refine Or.inl ⟨by rfl, fun w hSw => ?_⟩
       (try dsimp only at hSw)
       go_simp
       try (with_reducible rfl)
     try simp only [pA1, pA2, pA3, pA4]
    refine anyE_take (i := 7) (x := ?_) (v := ?_) ?_ (by kernel_rfl) (by kernel_rfl) (by kernel_rfl) (by kernel_rfl) ?_ ?_ hHeld ?_
    rotate_left 2
    · (simp only [gE1, gE2, gE3]; rfl)
    · exact fun _ _ _ h => h
    · refine Or.inl ⟨by rfl, fun w hSw => ?_⟩
      (try dsimp only at hSw)
      go_simp
      try (with_reducible rfl)
    try simp only [pA1, pA2, pA3, pA4]
    refine anyE_pure (i := 8) (x := ?_) (v := ?_) ?_ (by kernel_rfl) (by kernel_rfl) (by kernel_rfl) ?_ ?_ ?_
    rotate_left 2
    · (simp only [gE1, gE2, gE3]; rfl)
    · exact fun _ _ _ h => h
    · refine Or.inl ⟨by rfl, fun w hSw => ?_⟩
      (try dsimp only at hSw)
      go_simp
      try (with_reducible rfl)
    try simp only [pA1, pA2, pA3, pA4]
    refine anyE_pure (i := 9) (x := ?_) (v := ?_) ?_ (by kernel_rfl) (by kernel_rfl) (by kernel_rfl) ?_ ?_ ?_
    rotate_left 2
    · (simp only [gE1, gE2, gE3]; rfl)
    · exact fun _ _ _ h => h
    · refine Or.inl ⟨by rfl, fun w hSw => ?_⟩
      (try dsimp only at hSw)
      go_simp
      try (with_reducible rfl)
    try simp only [pA1, pA2, pA3, pA4]
    refine anyE_pure (i := 10) (x := ?_) (v := ?_) ?_ (by kernel_rfl) (by kernel_rfl) (by kernel_rfl) ?_ ?_ ?_
    rotate_left 2
    · (simp only [gE1, gE2, gE3]; rfl)
    · exact fun _ _ _ h => h
    · refine Or.inl ⟨by rfl, fun w hSw => ?_⟩
      (try dsimp only at hSw)
      go_simp
      try (with_reducible rfl)
    try simp only [pA1, pA2, pA3, pA4]
    refine anyE_pure (i := 11) (x := ?_) (v := ?_) ?_ (by kernel_rfl) (by kernel_rfl) (by kernel_rfl) ?_ ?_ ?_
    rotate_left 2
    · (simp only [gE1, gE2, gE3]; rfl)
    · exact fun _ _ _ h => h
    · refine Or.inl ⟨by rfl, fun w hSw => ?_⟩
      (try dsimp only at hSw)
      go_simp
      try (with_reducible rfl)
    try simp only [pA1, pA2, pA3, pA4]
    refine anyE_pure (i := 12) (x := ?_) (v := undef) ?_ (by kernel_rfl) (by kernel_rfl) (by kernel_rfl) ?_ ?_ ?_
    rotate_left 1
    · (simp only [gE1, gE2, gE3]; rfl)
    · exact fun _ _ _ h => h
    · exact Or.inr ⟨by rfl, rfl⟩
    try simp only [pA1, pA2, pA3, pA4]
    refine anyE_pure (i := 13) (x := ?_) (v := undef) ?_ (by kernel_rfl) (by kernel_rfl) (by kernel_rfl) ?_ ?_ ?_
    rotate_left 1
    · (simp only [gE1, gE2, gE3]; rfl)
    · exact fun _ _ _ h => h
    · exact Or.inr ⟨by rfl, rfl⟩
    try simp only [pA1, pA2, pA3, pA4]
    refine anyE_pure (i := 14) (x := ?_) (v := undef) ?_ (by kernel_rfl) (by kernel_rfl) (by kernel_rfl) ?_ ?_ ?_
    rotate_left 1
    · (simp only [gE1, gE2, gE3]; rfl)
    · exact fun _ _ _ h => h
    · exact Or.inr ⟨by rfl, rfl⟩
    try simp only [pA1, pA2, pA3, pA4]
    refine anyE_pure (i := 15) (x := ?_) (v := undef) ?_ (by kernel_rfl) (by kernel_rfl) (by kernel_rfl) ?_ ?_ ?_
    rotate_left 1
    · (simp only [gE1, gE2, gE3]; rfl)
    · exact fun _ _ _ h => h
    · exact Or.inr ⟨by rfl, rfl⟩
    try simp only [pA1, pA2, pA3, pA4]
    refine anyE_pure (i := 16) (x := ?_) (v := undef) ?_ (by kernel_rfl) (by kernel_rfl) (by kernel_rfl) ?_ ?_ ?_
    rotate_left 1
    · (simp only [gE1, gE2, gE3]; rfl)
    · exact fun _ _ _ h => h
    · exact Or.inr ⟨by rfl, rfl⟩
    try simp only [pA1, pA2, pA3, pA4]
    refine anyE_pure (i := 17) (x := ?_) (v := undef) ?_ (by kernel_rfl) (by kernel_rfl) (by kernel_rfl) ?_ ?_ ?_
    rotate_left 1
    · (simp only [gE1, gE2, gE3]; rfl)
    · exact fun _ _ _ h => h
    · exact Or.inr ⟨by rfl, rfl⟩
    try simp only [pA1, pA2, pA3, pA4]
    refine anyE_pure (i := 18) (x := ?_) (v := undef) ?_ (by kernel_rfl) (by kernel_rfl) (by kernel_rfl) ?_ ?_ ?_
    rotate_left 1
    · (simp only [gE1, gE2, gE3]; rfl)
    · exact fun _ _ _ h => h
    · exact Or.inr ⟨by rfl, rfl⟩
    try simp only [pA1, pA2, pA3, pA4]
    refine anyE_pure (i := 19) (x := ?_) (v := undef) ?_ (by kernel_rfl) (by kernel_rfl) (by kernel_rfl) ?_ ?_ ?_
    rotate_left 1
    · (simp only [gE1, gE2, gE3]; rfl)
    · exact fun _ _ _ h => h
    · exact Or.inr ⟨by rfl, rfl⟩
    try simp only [pA1, pA2, pA3, pA4]
    refine anyE_pure (i := 20) (x := ?_) (v := ?_) ?_ (by kernel_rfl) (by kernel_rfl) (by kernel_rfl) ?_ ?_ ?_
    rotate_left 2
    · (simp only [gE1, gE2, gE3]; rfl)
    · exact fun _ _ _ h => h
    · refine Or.inl ⟨by rfl, fun w hSw => ?_⟩
      (try dsimp only at hSw)
      go_simp
      try (with_reducible rfl)
    try simp only [pA1, pA2, pA3, pA4]
    refine anyE_pure (i := 21) (x := ?_) (v := ?_) ?_ (by kernel_rfl) (by kernel_rfl) (by kernel_rfl) ?_ ?_ ?_
    rotate_left 2
    · (simp only [gE1, gE2, gE3]; rfl)
    · exact fun _ _ _ h => h
    · refine Or.inl ⟨by rfl, fun w hSw => ?_⟩
      (try dsimp only at hSw)
      go_simp
      try (with_reducible rfl)
    try simp only [pA1, pA2, pA3, pA4]
    refine anyE_pure (i := 22) (x := ?_) (v := ?_) ?_ (by kernel_rfl) (by kernel_rfl) (by kernel_rfl) ?_ ?_ ?_
    rotate_left 2
    · (simp only [gE1, gE2, gE3]; rfl)
    · exact fun _ _ _ h => h
    · refine Or.inl ⟨by rfl, fun w hSw => ?_⟩
      (try dsimp only at hSw)
      go_simp
      try (with_reducible rfl)
    try simp only [pA1, pA2, pA3, pA4]
    refine anyE_done (by kernel_rfl) ?_ _
    go_wp2_with fail
    go_ret
    exact ⟨rfl, B, held, tv, rv, by omega, HG.out, (Sat.sub (s3d) (by with_reducible repeat first | exact Fr1 | exact Fr2 | (apply Fr3; focus ((repeat (first | exact Tk1 | apply Tk2)); done)) | apply Fr4))⟩
  | true =>
    obtain ⟨m, rfl, hm, hh⟩ := there_nat HG.out.1 hy
    have e1 := getD_some (0, 0) (show m < tv.length by rw [HG.out.2.1]; exact hm)
    have e2 := getD_some 0 (show m < rv.length by rw [HG.out.2.2.1]; exact hm)
    rw [HG.out.2.2.2 m hh] at e1
    obtain ⟨z, hz⟩ : ∃ z, z = rv.getD m 0 := ⟨_, rfl⟩
    rw [← hz] at e1 e2
    have HE := Lib.hid (And.intro hh (And.intro e1 e2)); clear hh e1 e2 hy hz
    go_enter Try.func9, Try.ntmps9
    go_wp2_with (refine wpl_box rfl 44 (.tmp 3) rfl [.int .i64 on, .int .i64 3, .int .i64 (m : Int), .int .i64 v] rfl hs ?_; intro w1 g s1 _; clear hs; have g1 := s1.at 1 rfl; have g2 := s1.at 2 rfl; have g3 := s1.at 3 rfl; have gz := s1.lt (by simp))
    have sa : Sat W0 w1 (seg true b 0 [.slice (some ⟨hb,0,none⟩) n n, .slice (some ⟨vb,0,none⟩) n n] :: seg true hb 0 (held.map .bool) :: seg true vb 0 (tv.flatMap enc2) :: seg true rb 0 [.slice (some ⟨rhb,0,none⟩) n n, .slice (some ⟨rvb,0,none⟩) n n] :: seg true rhb 0 (held.map .bool) :: seg true rvb 0 (rv.map fun x => Value.int .i64 x) :: seg true g 0 [.int .i64 on, .int .i64 3, .int .i64 (m : Int), .int .i64 v] :: keptA k A B :: L) := (Sat.sub (s1) (by with_reducible repeat first | exact Fr1 | exact Fr2 | (apply Fr3; focus ((repeat (first | exact Tk1 | apply Tk2)); done)) | apply Fr4))
    refine (drop_yes_pr m HE.out.1 HE.out.2.1 HG.out.1 HG.out.2.1 h0 hsm sa).mono ?_
    rintro e w2 ⟨rfl, s2⟩
    clear s1 sa g1 g2 g3 gz
    have g1 := ((Sat.sub (s2) (by with_reducible repeat first | exact Fr1 | exact Fr2 | (apply Fr3; focus ((repeat (first | exact Tk1 | apply Tk2)); done)) | apply Fr4)) : Sat W0 w2 (seg true g 0 [.int .i64 on, .int .i64 3, .int .i64 (m : Int), .int .i64 v] :: [])).at 1 rfl
    have g2 := ((Sat.sub (s2) (by with_reducible repeat first | exact Fr1 | exact Fr2 | (apply Fr3; focus ((repeat (first | exact Tk1 | apply Tk2)); done)) | apply Fr4)) : Sat W0 w2 (seg true g 0 [.int .i64 on, .int .i64 3, .int .i64 (m : Int), .int .i64 v] :: [])).at 2 rfl
    have g3 := ((Sat.sub (s2) (by with_reducible repeat first | exact Fr1 | exact Fr2 | (apply Fr3; focus ((repeat (first | exact Tk1 | apply Tk2)); done)) | apply Fr4)) : Sat W0 w2 (seg true g 0 [.int .i64 on, .int .i64 3, .int .i64 (m : Int), .int .i64 v] :: [])).at 3 rfl
    have gz := ((Sat.sub (s2) (by with_reducible repeat first | exact Fr1 | exact Fr2 | (apply Fr3; focus ((repeat (first | exact Tk1 | apply Tk2)); done)) | apply Fr4)) : Sat W0 w2 (seg true g 0 [.int .i64 on, .int .i64 3, .int .i64 (m : Int), .int .i64 v] :: [])).lt (by simp)
    obtain ⟨bq, hbq⟩ : ∃ bq, bq = w2.heap.size := ⟨_, rfl⟩
    have s2a := s2.allocAt #[.int .i64 z, .int .i64 (bits .xor .i64 z 5)] 31 (q := bq) hbq
    have HBQ := Lib.hid hbq; clear hbq
    go_wp2_with fail
    rw [← HBQ.out]
    have sb : Sat W0 _ (seg true rb 0 [.slice (some ⟨rhb,0,none⟩) n n, .slice (some ⟨rvb,0,none⟩) n n] :: seg true rhb 0 (held.map .bool) :: seg true rvb 0 (rv.map fun x => Value.int .i64 x) :: seg true bq 0 [.int .i64 z, .int .i64 (bits .xor .i64 z 5)] :: seg true b 0 [.slice (some ⟨hb,0,none⟩) n n, .slice (some ⟨vb,0,none⟩) n n] :: seg true hb 0 ((held.set m false).map .bool) :: seg true vb 0 ((tv.set m (0, 0)).flatMap enc2) :: seg true g 0 [.int .i64 on, .int .i64 3, .int .i64 (m : Int), .int .i64 v] :: keptA k A B :: L) := (Sat.sub (s2a) (by with_reducible repeat first | exact Fr1 | exact Fr2 | (apply Fr3; focus ((repeat (first | exact Tk1 | apply Tk2)); done)) | apply Fr4))
    refine (drop_yes_ref m HE.out.1 HE.out.2.2 HG.out.1 HG.out.2.2.1 h0 hsm sb).mono ?_
    rintro e w3 ⟨rfl, s3⟩
    clear s2 s2a sb g1 g2 g3 gz
    go_wp2_with fail
    have s3d := s3.drew
    refine region_E (fun w' => w'.cell? ⟨bq, 0, none⟩ = some (.int .i64 z) ∧ w'.cell? ⟨bq, 1, none⟩ = some (.int .i64 (bits .xor .i64 z 5)) ∧ bq < w'.heap.size) [7, 15] (by kernel_rfl) ?_
    have hHeld := (And.intro (((Sat.sub (s3d) (by with_reducible repeat first | exact Fr1 | exact Fr2 | (apply Fr3; focus ((repeat (first | exact Tk1 | apply Tk2)); done)) | apply Fr4)) : Sat W0 _ (seg true bq 0 [.int .i64 z, .int .i64 (bits .xor .i64 z 5)] :: [])).at 0 rfl) (And.intro (((Sat.sub (s3d) (by with_reducible repeat first | exact Fr1 | exact Fr2 | (apply Fr3; focus ((repeat (first | exact Tk1 | apply Tk2)); done)) | apply Fr4)) : Sat W0 _ (seg true bq 0 [.int .i64 z, .int .i64 (bits .xor .i64 z 5)] :: [])).at 1 rfl) (((Sat.sub (s3d) (by with_reducible repeat first | exact Fr1 | exact Fr2 | (apply Fr3; focus ((repeat (first | exact Tk1 | apply Tk2)); done)) | apply Fr4)) : Sat W0 _ (seg true bq 0 [.int .i64 z, .int .i64 (bits .xor .i64 z 5)] :: [])).lt (by simp))))
    iterate 7
     first | refine autoT hHeld (by rfl) (by rfl) (x := ?_) (v := ?_) ?_ (by kernel_rfl) ?_ ?_ ?_ | refine autoP (by rfl) (x := ?_) (v := ?_) ?_ (by kernel_rfl) ?_ ?_ ?_
     rotate_left 2
     · (simp only [gE1, gE2, gE3]; rfl)
     · exact fun _ _ _ h => h
     · refine Or.inl ⟨by rfl, fun w hSw => ?_⟩
       (try dsimp only at hSw)
       go_simp
       try (with_reducible rfl)
     try simp only [pA1, pA2, pA3, pA4]
    refine anyE_pure (i := 7) (x := ?_) (v := undef) ?_ (by kernel_rfl) (by kernel_rfl) (by kernel_rfl) ?_ ?_ ?_
    rotate_left 1
    · (simp only [gE1, gE2, gE3]; rfl)
    · exact fun _ _ _ h => h
    · exact Or.inr ⟨by rfl, rfl⟩
    try simp only [pA1, pA2, pA3, pA4]
    refine anyE_pure (i := 8) (x := ?_) (v := undef) ?_ (by kernel_rfl) (by kernel_rfl) (by kernel_rfl) ?_ ?_ ?_
    rotate_left 1
    · (simp only [gE1, gE2, gE3]; rfl)
    · exact fun _ _ _ h => h
    · exact Or.inr ⟨by rfl, rfl⟩
    try simp only [pA1, pA2, pA3, pA4]
    refine anyE_pure (i := 9) (x := ?_) (v := undef) ?_ (by kernel_rfl) (by kernel_rfl) (by kernel_rfl) ?_ ?_ ?_
    rotate_left 1
    · (simp only [gE1, gE2, gE3]; rfl)
    · exact fun _ _ _ h => h
    · exact Or.inr ⟨by rfl, rfl⟩
    try simp only [pA1, pA2, pA3, pA4]
    refine anyE_pure (i := 10) (x := ?_) (v := ?_) ?_ (by kernel_rfl) (by kernel_rfl) (by kernel_rfl) ?_ ?_ ?_
    rotate_left 2
    · (simp only [gE1, gE2, gE3]; rfl)
    · exact fun _ _ _ h => h
    · refine Or.inl ⟨by rfl, fun w hSw => ?_⟩
      (try dsimp only at hSw)
      go_simp
      try (with_reducible rfl)
    try simp only [pA1, pA2, pA3, pA4]
    refine anyE_pure (i := 11) (x := ?_) (v := ?_) ?_ (by kernel_rfl) (by kernel_rfl) (by kernel_rfl) ?_ ?_ ?_
    rotate_left 2
    · (simp only [gE1, gE2, gE3]; rfl)
    · exact fun _ _ _ h => h
    · refine Or.inl ⟨by rfl, fun w hSw => ?_⟩
      (try dsimp only at hSw)
      go_simp
      try (with_reducible rfl)
    try simp only [pA1, pA2, pA3, pA4]
    refine anyE_pure (i := 12) (x := ?_) (v := ?_) ?_ (by kernel_rfl) (by kernel_rfl) (by kernel_rfl) ?_ ?_ ?_
    rotate_left 2
    · (simp only [gE1, gE2, gE3]; rfl)
    · exact fun _ _ _ h => h
    · refine Or.inl ⟨by rfl, fun w hSw => ?_⟩
      (try dsimp only at hSw)
      go_simp
      try (with_reducible rfl)
    try simp only [pA1, pA2, pA3, pA4]
    refine anyE_pure (i := 13) (x := ?_) (v := ?_) ?_ (by kernel_rfl) (by kernel_rfl) (by kernel_rfl) ?_ ?_ ?_
    rotate_left 2
    · (simp only [gE1, gE2, gE3]; rfl)
    · exact fun _ _ _ h => h
    · refine Or.inl ⟨by rfl, fun w hSw => ?_⟩
      (try dsimp only at hSw)
      go_simp
      try (with_reducible rfl)
    try simp only [pA1, pA2, pA3, pA4]
    refine anyE_pure (i := 14) (x := ?_) (v := ?_) ?_ (by kernel_rfl) (by kernel_rfl) (by kernel_rfl) ?_ ?_ ?_
    rotate_left 2
    · (simp only [gE1, gE2, gE3]; rfl)
    · exact fun _ _ _ h => h
    · refine Or.inl ⟨by rfl, fun w hSw => ?_⟩
      (try dsimp only at hSw)
      go_simp
      try (with_reducible rfl)
    try simp only [pA1, pA2, pA3, pA4]
    refine anyE_take (i := 15) (x := ?_) (v := ?_) ?_ (by kernel_rfl) (by kernel_rfl) (by kernel_rfl) (by kernel_rfl) ?_ ?_ hHeld ?_
    rotate_left 2
    · (simp only [gE1, gE2, gE3]; rfl)
    · exact fun _ _ _ h => h
    · refine Or.inl ⟨by rfl, fun w hSw => ?_⟩
      (try dsimp only at hSw)
      go_simp
      try (with_reducible rfl)
    try simp only [pA1, pA2, pA3, pA4]
    refine anyE_pure (i := 16) (x := ?_) (v := ?_) ?_ (by kernel_rfl) (by kernel_rfl) (by kernel_rfl) ?_ ?_ ?_
    rotate_left 2
    · (simp only [gE1, gE2, gE3]; rfl)
    · exact fun _ _ _ h => h
    · refine Or.inl ⟨by rfl, fun w hSw => ?_⟩
      (try dsimp only at hSw)
      go_simp
      try (with_reducible rfl)
    try simp only [pA1, pA2, pA3, pA4]
    refine anyE_one (i := 17) (x := ?_) ?_ (by kernel_rfl) (fun K hK => ?_)
    rotate_left
    · (simp only [gE1, gE2, gE3]; rfl)
    go_simp
    refine (pair19 z s3d).mono ?_
    rintro e w6 ⟨rfl, s6⟩
    go_wp2_with fail
    have hKp := (And.intro (((Sat.sub (s6) (by with_reducible repeat first | exact Fr1 | exact Fr2 | (apply Fr3; focus ((repeat (first | exact Tk1 | apply Tk2)); done)) | apply Fr4)) : Sat W0 w6 (seg true bq 0 [.int .i64 z, .int .i64 (bits .xor .i64 z 5)] :: [])).at 0 rfl) (And.intro (((Sat.sub (s6) (by with_reducible repeat first | exact Fr1 | exact Fr2 | (apply Fr3; focus ((repeat (first | exact Tk1 | apply Tk2)); done)) | apply Fr4)) : Sat W0 w6 (seg true bq 0 [.int .i64 z, .int .i64 (bits .xor .i64 z 5)] :: [])).at 1 rfl) (((Sat.sub (s6) (by with_reducible repeat first | exact Fr1 | exact Fr2 | (apply Fr3; focus ((repeat (first | exact Tk1 | apply Tk2)); done)) | apply Fr4)) : Sat W0 w6 (seg true bq 0 [.int .i64 z, .int .i64 (bits .xor .i64 z 5)] :: [])).lt (by simp))))
    refine hK.out _ _ hKp ?_
    clear hK K hHeld
    have hHeld := hKp
    clear hKp
    try simp only [pA1, pA2, pA3, pA4]
    refine anyE_pure (i := 18) (x := ?_) (v := ?_) ?_ (by kernel_rfl) (by kernel_rfl) (by kernel_rfl) ?_ ?_ ?_
    rotate_left 2
    · (simp only [gE1, gE2, gE3]; rfl)
    · exact fun _ _ _ h => h
    · refine Or.inl ⟨by rfl, fun w hSw => ?_⟩
      (try dsimp only at hSw)
      go_simp
      try (with_reducible rfl)
    try simp only [pA1, pA2, pA3, pA4]
    refine anyE_pure (i := 19) (x := ?_) (v := ?_) ?_ (by kernel_rfl) (by kernel_rfl) (by kernel_rfl) ?_ ?_ ?_
    rotate_left 2
    · (simp only [gE1, gE2, gE3]; rfl)
    · exact fun _ _ _ h => h
    · refine Or.inl ⟨by rfl, fun w hSw => ?_⟩
      (try dsimp only at hSw)
      go_simp
      try (with_reducible rfl)
    try simp only [pA1, pA2, pA3, pA4]
    refine anyE_pure (i := 20) (x := ?_) (v := ?_) ?_ (by kernel_rfl) (by kernel_rfl) (by kernel_rfl) ?_ ?_ ?_
    rotate_left 2
    · (simp only [gE1, gE2, gE3]; rfl)
    · exact fun _ _ _ h => h
    · refine Or.inl ⟨by rfl, fun w hSw => ?_⟩
      (try dsimp only at hSw)
      go_simp
      try (with_reducible rfl)
    try simp only [pA1, pA2, pA3, pA4]
    refine anyE_pure (i := 21) (x := ?_) (v := ?_) ?_ (by kernel_rfl) (by kernel_rfl) (by kernel_rfl) ?_ ?_ ?_
    rotate_left 2
    · (simp only [gE1, gE2, gE3]; rfl)
    · exact fun _ _ _ h => h
    · refine Or.inl ⟨by rfl, fun w hSw => ?_⟩
      (try dsimp only at hSw)
      go_simp
      try (with_reducible rfl)
    try simp only [pA1, pA2, pA3, pA4]
    refine anyE_pure (i := 22) (x := ?_) (v := ?_) ?_ (by kernel_rfl) (by kernel_rfl) (by kernel_rfl) ?_ ?_ ?_
    rotate_left 2
    · (simp only [gE1, gE2, gE3]; rfl)
    · exact fun _ _ _ h => h
    · refine Or.inl ⟨by rfl, fun w hSw => ?_⟩
      (try dsimp only at hSw)
      go_simp
      try (with_reducible rfl)
    try simp only [pA1, pA2, pA3, pA4]
    refine anyE_done (by kernel_rfl) ?_ _
    go_wp2_with fail
    go_ret
    exact ⟨rfl, B, (held.set m false), (tv.set m (0, 0)), rv, by omega, HG.out.drop m hm (0, 0), (Sat.sub (s6) (by with_reducible repeat first | exact Fr1 | exact Fr2 | (apply Fr3; focus ((repeat (first | exact Tk1 | apply Tk2)); done)) | apply Fr4))⟩
set_option maxRecDepth 100000 in
set_option maxHeartbeats 4000000 in
theorem ap_add {W0 w : World} {L : List Assn} {k b hb vb rb rhb rvb n : Nat} {A : List KI} {B : List KP} {held : List Bool} {tv : List A2} {rv : List Int} (hag : agG (0, 0) prT n held tv rv) (h0 : 0 < n) (hsm : n ≤ 64) (hA : B.length ≤ 100000) (on h v : Int) (hs : Sat W0 w (keptA k A B :: tP b hb vb rb rhb rvb n held tv rv L)) :
    Calls Try.prog 9 #[.pointer (some ⟨k,0,none⟩), .pointer (some ⟨b,0,none⟩), .pointer (some ⟨rb,0,none⟩), .agg #[.int .i64 on, .int .i64 0, .int .i64 h, .int .i64 v]] w (postP W0 L k b hb vb rb rhb rvb n A B) := by
  have HG := Lib.hid hag; clear hag
  go_enter Try.func9, Try.ntmps9
  go_wp2_with (refine wpl_box rfl 44 (.tmp 3) rfl [.int .i64 on, .int .i64 0, .int .i64 h, .int .i64 v] rfl hs ?_; intro w1 g s1 _; clear hs; have g1 := s1.at 1 rfl; have g2 := s1.at 2 rfl; have g3 := s1.at 3 rfl; have gz := s1.lt (by simp))
  refine (pair19 v s1).mono ?_
  rintro e w1 ⟨rfl, s1⟩
  clear g1 g2 g3 gz
  have g1 := ((Sat.sub (s1) (by with_reducible repeat first | exact Fr1 | exact Fr2 | (apply Fr3; focus ((repeat (first | exact Tk1 | apply Tk2)); done)) | apply Fr4)) : Sat W0 w1 (seg true g 0 [.int .i64 on, .int .i64 0, .int .i64 h, .int .i64 v] :: [])).at 1 rfl
  have g2 := ((Sat.sub (s1) (by with_reducible repeat first | exact Fr1 | exact Fr2 | (apply Fr3; focus ((repeat (first | exact Tk1 | apply Tk2)); done)) | apply Fr4)) : Sat W0 w1 (seg true g 0 [.int .i64 on, .int .i64 0, .int .i64 h, .int .i64 v] :: [])).at 2 rfl
  have g3 := ((Sat.sub (s1) (by with_reducible repeat first | exact Fr1 | exact Fr2 | (apply Fr3; focus ((repeat (first | exact Tk1 | apply Tk2)); done)) | apply Fr4)) : Sat W0 w1 (seg true g 0 [.int .i64 on, .int .i64 0, .int .i64 h, .int .i64 v] :: [])).at 3 rfl
  have gz := ((Sat.sub (s1) (by with_reducible repeat first | exact Fr1 | exact Fr2 | (apply Fr3; focus ((repeat (first | exact Tk1 | apply Tk2)); done)) | apply Fr4)) : Sat W0 w1 (seg true g 0 [.int .i64 on, .int .i64 0, .int .i64 h, .int .i64 v] :: [])).lt (by simp)
  go_wp2_with fail
  have sa : Sat W0 w1 (seg true b 0 [.slice (some ⟨hb,0,none⟩) n n, .slice (some ⟨vb,0,none⟩) n n] :: seg true hb 0 (held.map .bool) :: seg true vb 0 (tv.flatMap enc2) :: seg true rb 0 [.slice (some ⟨rhb,0,none⟩) n n, .slice (some ⟨rvb,0,none⟩) n n] :: seg true rhb 0 (held.map .bool) :: seg true rvb 0 (rv.map fun x => Value.int .i64 x) :: seg true g 0 [.int .i64 on, .int .i64 0, .int .i64 h, .int .i64 v] :: keptA k A B :: L) := (Sat.sub (s1) (by with_reducible repeat first | exact Fr1 | exact Fr2 | (apply Fr3; focus ((repeat (first | exact Tk1 | apply Tk2)); done)) | apply Fr4))
  refine (add_pr (prT v) HG.out.1 HG.out.2.1 h0 hsm sa).mono ?_
  rintro e w2 (⟨i, hi, hl1, hl2, rfl, s2⟩ | ⟨hfull, rfl, s2⟩)
  · have HL := Lib.hid (And.intro hl1 hl2); clear hl1 hl2
    clear s1 sa g1 g2 g3 gz
    have g1 := ((Sat.sub (s2) (by with_reducible repeat first | exact Fr1 | exact Fr2 | (apply Fr3; focus ((repeat (first | exact Tk1 | apply Tk2)); done)) | apply Fr4)) : Sat W0 w2 (seg true g 0 [.int .i64 on, .int .i64 0, .int .i64 h, .int .i64 v] :: [])).at 1 rfl
    have g2 := ((Sat.sub (s2) (by with_reducible repeat first | exact Fr1 | exact Fr2 | (apply Fr3; focus ((repeat (first | exact Tk1 | apply Tk2)); done)) | apply Fr4)) : Sat W0 w2 (seg true g 0 [.int .i64 on, .int .i64 0, .int .i64 h, .int .i64 v] :: [])).at 2 rfl
    have g3 := ((Sat.sub (s2) (by with_reducible repeat first | exact Fr1 | exact Fr2 | (apply Fr3; focus ((repeat (first | exact Tk1 | apply Tk2)); done)) | apply Fr4)) : Sat W0 w2 (seg true g 0 [.int .i64 on, .int .i64 0, .int .i64 h, .int .i64 v] :: [])).at 3 rfl
    have gz := ((Sat.sub (s2) (by with_reducible repeat first | exact Fr1 | exact Fr2 | (apply Fr3; focus ((repeat (first | exact Tk1 | apply Tk2)); done)) | apply Fr4)) : Sat W0 w2 (seg true g 0 [.int .i64 on, .int .i64 0, .int .i64 h, .int .i64 v] :: [])).lt (by simp)
    go_wp2_with fail
    have sb : Sat W0 w2 (seg true rb 0 [.slice (some ⟨rhb,0,none⟩) n n, .slice (some ⟨rvb,0,none⟩) n n] :: seg true rhb 0 (held.map .bool) :: seg true rvb 0 (rv.map fun x => Value.int .i64 x) :: seg true b 0 [.slice (some ⟨hb,0,none⟩) n n, .slice (some ⟨vb,0,none⟩) n n] :: seg true hb 0 ((held.set i true).map .bool) :: seg true vb 0 ((tv.set i (prT v)).flatMap enc2) :: seg true g 0 [.int .i64 on, .int .i64 0, .int .i64 h, .int .i64 v] :: keptA k A B :: L) := (Sat.sub (s2) (by with_reducible repeat first | exact Fr1 | exact Fr2 | (apply Fr3; focus ((repeat (first | exact Tk1 | apply Tk2)); done)) | apply Fr4))
    refine (add_ref v HG.out.1 HG.out.2.2.1 h0 hsm sb).mono ?_
    rintro e w3 (⟨j, hj, hr1, hr2, rfl, s3⟩ | ⟨hfull, rfl, s3⟩)
    · obtain rfl := least_uniq HL.out.1 HL.out.2 hr1 hr2
      clear hr1 hr2 s2 sb g1 g2 g3 gz
      go_wp2_with fail
      go_ret
      exact ⟨rfl, B, (held.set i true), (tv.set i (prT v)), (rv.set i v), by omega, HG.out.put i hi v, (Sat.sub (s3) (by with_reducible repeat first | exact Fr1 | exact Fr2 | (apply Fr3; focus ((repeat (first | exact Tk1 | apply Tk2)); done)) | apply Fr4))⟩
    · have := hfull i hi
      rw [HL.out.2] at this
      cases this
  · clear s1 sa g1 g2 g3 gz
    have g1 := ((Sat.sub (s2) (by with_reducible repeat first | exact Fr1 | exact Fr2 | (apply Fr3; focus ((repeat (first | exact Tk1 | apply Tk2)); done)) | apply Fr4)) : Sat W0 w2 (seg true g 0 [.int .i64 on, .int .i64 0, .int .i64 h, .int .i64 v] :: [])).at 1 rfl
    have g2 := ((Sat.sub (s2) (by with_reducible repeat first | exact Fr1 | exact Fr2 | (apply Fr3; focus ((repeat (first | exact Tk1 | apply Tk2)); done)) | apply Fr4)) : Sat W0 w2 (seg true g 0 [.int .i64 on, .int .i64 0, .int .i64 h, .int .i64 v] :: [])).at 2 rfl
    have g3 := ((Sat.sub (s2) (by with_reducible repeat first | exact Fr1 | exact Fr2 | (apply Fr3; focus ((repeat (first | exact Tk1 | apply Tk2)); done)) | apply Fr4)) : Sat W0 w2 (seg true g 0 [.int .i64 on, .int .i64 0, .int .i64 h, .int .i64 v] :: [])).at 3 rfl
    have gz := ((Sat.sub (s2) (by with_reducible repeat first | exact Fr1 | exact Fr2 | (apply Fr3; focus ((repeat (first | exact Tk1 | apply Tk2)); done)) | apply Fr4)) : Sat W0 w2 (seg true g 0 [.int .i64 on, .int .i64 0, .int .i64 h, .int .i64 v] :: [])).lt (by simp)
    have HF := Lib.hid hfull; clear hfull
    go_wp2_with fail
    have sb : Sat W0 w2 (seg true rb 0 [.slice (some ⟨rhb,0,none⟩) n n, .slice (some ⟨rvb,0,none⟩) n n] :: seg true rhb 0 (held.map .bool) :: seg true rvb 0 (rv.map fun x => Value.int .i64 x) :: seg true b 0 [.slice (some ⟨hb,0,none⟩) n n, .slice (some ⟨vb,0,none⟩) n n] :: seg true hb 0 (held.map .bool) :: seg true vb 0 (tv.flatMap enc2) :: seg true g 0 [.int .i64 on, .int .i64 0, .int .i64 h, .int .i64 v] :: keptA k A B :: L) := (Sat.sub (s2) (by with_reducible repeat first | exact Fr1 | exact Fr2 | (apply Fr3; focus ((repeat (first | exact Tk1 | apply Tk2)); done)) | apply Fr4))
    refine (add_ref v HG.out.1 HG.out.2.2.1 h0 hsm sb).mono ?_
    rintro e w3 (⟨j, hj, hr1, hr2, rfl, s3⟩ | ⟨hfull, rfl, s3⟩)
    · have := HF.out j hj
      rw [hr2] at this
      cases this
    · clear hfull s2 sb g1 g2 g3 gz
      go_wp2_with fail
      go_ret
      exact ⟨rfl, B, held, tv, rv, by omega, HG.out, (Sat.sub (s3) (by with_reducible repeat first | exact Fr1 | exact Fr2 | (apply Fr3; focus ((repeat (first | exact Tk1 | apply Tk2)); done)) | apply Fr4))⟩
set_option maxRecDepth 100000 in
set_option maxHeartbeats 4000000 in
theorem ap_set {W0 w : World} {L : List Assn} {k b hb vb rb rhb rvb n : Nat} {A : List KI} {B : List KP} {held : List Bool} {tv : List A2} {rv : List Int} (hag : agG (0, 0) prT n held tv rv) (h0 : 0 < n) (hsm : n ≤ 64) (hA : B.length ≤ 100000) (on h v : Int) (hs : Sat W0 w (keptA k A B :: tP b hb vb rb rhb rvb n held tv rv L)) :
    Calls Try.prog 9 #[.pointer (some ⟨k,0,none⟩), .pointer (some ⟨b,0,none⟩), .pointer (some ⟨rb,0,none⟩), .agg #[.int .i64 on, .int .i64 2, .int .i64 h, .int .i64 v]] w (postP W0 L k b hb vb rb rhb rvb n A B) := by
  have HG := Lib.hid hag; clear hag
  cases hy : (decide (0 ≤ h) && held.getD h.toNat false) with
  | false =>
    go_enter Try.func9, Try.ntmps9
    go_wp2_with (refine wpl_box rfl 44 (.tmp 3) rfl [.int .i64 on, .int .i64 2, .int .i64 h, .int .i64 v] rfl hs ?_; intro w1 g s1 _; clear hs; have g1 := s1.at 1 rfl; have g2 := s1.at 2 rfl; have g3 := s1.at 3 rfl; have gz := s1.lt (by simp))
    have s1d := s1.drew
    clear s1 g1 g2 g3 gz
    refine region_E (fun w' => w'.cell? ⟨g, 2, none⟩ = some (.int .i64 h) ∧ w'.cell? ⟨g, 3, none⟩ = some (.int .i64 v) ∧ g < w'.heap.size) [2, 4, 9, 11] (by kernel_rfl) ?_
    have hHeld := (And.intro (((Sat.sub (s1d) (by with_reducible repeat first | exact Fr1 | exact Fr2 | (apply Fr3; focus ((repeat (first | exact Tk1 | apply Tk2)); done)) | apply Fr4)) : Sat W0 _ (seg true g 0 [.int .i64 on, .int .i64 2, .int .i64 h, .int .i64 v] :: [])).at 2 rfl) (And.intro (((Sat.sub (s1d) (by with_reducible repeat first | exact Fr1 | exact Fr2 | (apply Fr3; focus ((repeat (first | exact Tk1 | apply Tk2)); done)) | apply Fr4)) : Sat W0 _ (seg true g 0 [.int .i64 on, .int .i64 2, .int .i64 h, .int .i64 v] :: [])).at 3 rfl) (((Sat.sub (s1d) (by with_reducible repeat first | exact Fr1 | exact Fr2 | (apply Fr3; focus ((repeat (first | exact Tk1 | apply Tk2)); done)) | apply Fr4)) : Sat W0 _ (seg true g 0 [.int .i64 on, .int .i64 2, .int .i64 h, .int .i64 v] :: [])).lt (by simp))))
    iterate 10
     first | refine autoT hHeld (by rfl) (by rfl) (x := ?_) (v := ?_) ?_ (by kernel_rfl) ?_ ?_ ?_ | refine autoP (by rfl) (x := ?_) (v := ?_) ?_ (by kernel_rfl) ?_ ?_ ?_
     rotate_left 2
     · (simp only [gE1, gE2, gE3]; rfl)
     · exact fun _ _ _ h => h
     · refine Or.inl ⟨by rfl, fun w hSw => ?_⟩
       (try dsimp only at hSw)
       go_simp
       try (with_reducible rfl)
     try simp only [pA1, pA2, pA3, pA4]
    refine anyE_one (i := 5) (x := ?_) ?_ (by kernel_rfl) (fun K hK => ?_)
    rotate_left
    · (simp only [gE1, gE2, gE3]; rfl)
    go_simp
    refine (pair19 v s1d).mono ?_
    rintro e w1 ⟨rfl, s1⟩
    go_wp2_with fail
    have hKp := (And.intro (((Sat.sub (s1) (by with_reducible repeat first | exact Fr1 | exact Fr2 | (apply Fr3; focus ((repeat (first | exact Tk1 | apply Tk2)); done)) | apply Fr4)) : Sat W0 w1 (seg true g 0 [.int .i64 on, .int .i64 2, .int .i64 h, .int .i64 v] :: [])).at 2 rfl) (And.intro (((Sat.sub (s1) (by with_reducible repeat first | exact Fr1 | exact Fr2 | (apply Fr3; focus ((repeat (first | exact Tk1 | apply Tk2)); done)) | apply Fr4)) : Sat W0 w1 (seg true g 0 [.int .i64 on, .int .i64 2, .int .i64 h, .int .i64 v] :: [])).at 3 rfl) (((Sat.sub (s1) (by with_reducible repeat first | exact Fr1 | exact Fr2 | (apply Fr3; focus ((repeat (first | exact Tk1 | apply Tk2)); done)) | apply Fr4)) : Sat W0 w1 (seg true g 0 [.int .i64 on, .int .i64 2, .int .i64 h, .int .i64 v] :: [])).lt (by simp))))
    refine hK.out _ _ hKp ?_
    clear hK K hHeld
    have hHeld := hKp
    clear hKp
    try simp only [pA1, pA2, pA3, pA4]
    refine anyE_one (i := 6) (x := ?_) ?_ (by kernel_rfl) (fun K hK => ?_)
    rotate_left
    · (simp only [gE1, gE2, gE3]; rfl)
    go_simp
    have sa : Sat W0 w1 (seg true b 0 [.slice (some ⟨hb,0,none⟩) n n, .slice (some ⟨vb,0,none⟩) n n] :: seg true hb 0 (held.map .bool) :: seg true vb 0 (tv.flatMap enc2) :: seg true rb 0 [.slice (some ⟨rhb,0,none⟩) n n, .slice (some ⟨rvb,0,none⟩) n n] :: seg true rhb 0 (held.map .bool) :: seg true rvb 0 (rv.map fun x => Value.int .i64 x) :: seg true g 0 [.int .i64 on, .int .i64 2, .int .i64 h, .int .i64 v] :: keptA k A B :: L) := (Sat.sub (s1) (by with_reducible repeat first | exact Fr1 | exact Fr2 | (apply Fr3; focus ((repeat (first | exact Tk1 | apply Tk2)); done)) | apply Fr4))
    refine (set_no_pr h (prT v) hy HG.out.1 HG.out.2.1 h0 hsm sa).mono ?_
    rintro e w2 ⟨rfl, s2⟩
    clear sa
    go_wp2_with fail
    have hKp := (And.intro (((Sat.sub (s2) (by with_reducible repeat first | exact Fr1 | exact Fr2 | (apply Fr3; focus ((repeat (first | exact Tk1 | apply Tk2)); done)) | apply Fr4)) : Sat W0 w2 (seg true g 0 [.int .i64 on, .int .i64 2, .int .i64 h, .int .i64 v] :: [])).at 2 rfl) (And.intro (((Sat.sub (s2) (by with_reducible repeat first | exact Fr1 | exact Fr2 | (apply Fr3; focus ((repeat (first | exact Tk1 | apply Tk2)); done)) | apply Fr4)) : Sat W0 w2 (seg true g 0 [.int .i64 on, .int .i64 2, .int .i64 h, .int .i64 v] :: [])).at 3 rfl) (((Sat.sub (s2) (by with_reducible repeat first | exact Fr1 | exact Fr2 | (apply Fr3; focus ((repeat (first | exact Tk1 | apply Tk2)); done)) | apply Fr4)) : Sat W0 w2 (seg true g 0 [.int .i64 on, .int .i64 2, .int .i64 h, .int .i64 v] :: [])).lt (by simp))))
    refine hK.out _ _ hKp ?_
    clear hK K hHeld
    have hHeld := hKp
    clear hKp
    try simp only [pA1, pA2, pA3, pA4]
    refine anyE_one (i := 12) (x := ?_) ?_ (by kernel_rfl) (fun K hK => ?_)
    rotate_left
    · (simp only [gE1, gE2, gE3]; rfl)
    go_simp
    have sb : Sat W0 w2 (seg true rb 0 [.slice (some ⟨rhb,0,none⟩) n n, .slice (some ⟨rvb,0,none⟩) n n] :: seg true rhb 0 (held.map .bool) :: seg true rvb 0 (rv.map fun x => Value.int .i64 x) :: seg true b 0 [.slice (some ⟨hb,0,none⟩) n n, .slice (some ⟨vb,0,none⟩) n n] :: seg true hb 0 (held.map .bool) :: seg true vb 0 (tv.flatMap enc2) :: seg true g 0 [.int .i64 on, .int .i64 2, .int .i64 h, .int .i64 v] :: keptA k A B :: L) := (Sat.sub (s2) (by with_reducible repeat first | exact Fr1 | exact Fr2 | (apply Fr3; focus ((repeat (first | exact Tk1 | apply Tk2)); done)) | apply Fr4))
    refine (set_no_ref h v hy HG.out.1 HG.out.2.2.1 h0 hsm sb).mono ?_
    rintro e w3 ⟨rfl, s3⟩
    clear sb
    go_wp2_with fail
    have hKp := (And.intro (((Sat.sub (s3) (by with_reducible repeat first | exact Fr1 | exact Fr2 | (apply Fr3; focus ((repeat (first | exact Tk1 | apply Tk2)); done)) | apply Fr4)) : Sat W0 w3 (seg true g 0 [.int .i64 on, .int .i64 2, .int .i64 h, .int .i64 v] :: [])).at 2 rfl) (And.intro (((Sat.sub (s3) (by with_reducible repeat first | exact Fr1 | exact Fr2 | (apply Fr3; focus ((repeat (first | exact Tk1 | apply Tk2)); done)) | apply Fr4)) : Sat W0 w3 (seg true g 0 [.int .i64 on, .int .i64 2, .int .i64 h, .int .i64 v] :: [])).at 3 rfl) (((Sat.sub (s3) (by with_reducible repeat first | exact Fr1 | exact Fr2 | (apply Fr3; focus ((repeat (first | exact Tk1 | apply Tk2)); done)) | apply Fr4)) : Sat W0 w3 (seg true g 0 [.int .i64 on, .int .i64 2, .int .i64 h, .int .i64 v] :: [])).lt (by simp))))
    refine hK.out _ _ hKp ?_
    clear hK K hHeld
    have hHeld := hKp
    clear hKp
    try simp only [pA1, pA2, pA3, pA4]
    iterate 2
     first | refine autoT hHeld (by rfl) (by rfl) (x := ?_) (v := ?_) ?_ (by kernel_rfl) ?_ ?_ ?_ | refine autoP (by rfl) (x := ?_) (v := ?_) ?_ (by kernel_rfl) ?_ ?_ ?_
     rotate_left 2
     · (simp only [gE1, gE2, gE3]; rfl)
     · exact fun _ _ _ h => h
     · refine Or.inl ⟨by rfl, fun w hSw => ?_⟩
       (try dsimp only at hSw)
       go_simp
       try (with_reducible rfl)
     try simp only [pA1, pA2, pA3, pA4]
    refine anyE_done (by kernel_rfl) ?_ _
    go_wp2_with fail
    go_ret
    exact ⟨rfl, B, held, tv, rv, by omega, HG.out, (Sat.sub (s3) (by with_reducible repeat first | exact Fr1 | exact Fr2 | (apply Fr3; focus ((repeat (first | exact Tk1 | apply Tk2)); done)) | apply Fr4))⟩
  | true =>
    obtain ⟨m, rfl, hm, hh⟩ := there_nat HG.out.1 hy
    have HE := Lib.hid hh; clear hh hy
    go_enter Try.func9, Try.ntmps9
    go_wp2_with (refine wpl_box rfl 44 (.tmp 3) rfl [.int .i64 on, .int .i64 2, .int .i64 (m : Int), .int .i64 v] rfl hs ?_; intro w1 g s1 _; clear hs; have g1 := s1.at 1 rfl; have g2 := s1.at 2 rfl; have g3 := s1.at 3 rfl; have gz := s1.lt (by simp))
    have s1d := s1.drew
    clear s1 g1 g2 g3 gz
    refine region_E (fun w' => w'.cell? ⟨g, 2, none⟩ = some (.int .i64 (m : Int)) ∧ w'.cell? ⟨g, 3, none⟩ = some (.int .i64 v) ∧ g < w'.heap.size) [2, 4, 9, 11] (by kernel_rfl) ?_
    have hHeld := (And.intro (((Sat.sub (s1d) (by with_reducible repeat first | exact Fr1 | exact Fr2 | (apply Fr3; focus ((repeat (first | exact Tk1 | apply Tk2)); done)) | apply Fr4)) : Sat W0 _ (seg true g 0 [.int .i64 on, .int .i64 2, .int .i64 (m : Int), .int .i64 v] :: [])).at 2 rfl) (And.intro (((Sat.sub (s1d) (by with_reducible repeat first | exact Fr1 | exact Fr2 | (apply Fr3; focus ((repeat (first | exact Tk1 | apply Tk2)); done)) | apply Fr4)) : Sat W0 _ (seg true g 0 [.int .i64 on, .int .i64 2, .int .i64 (m : Int), .int .i64 v] :: [])).at 3 rfl) (((Sat.sub (s1d) (by with_reducible repeat first | exact Fr1 | exact Fr2 | (apply Fr3; focus ((repeat (first | exact Tk1 | apply Tk2)); done)) | apply Fr4)) : Sat W0 _ (seg true g 0 [.int .i64 on, .int .i64 2, .int .i64 (m : Int), .int .i64 v] :: [])).lt (by simp))))
    iterate 10
     first | refine autoT hHeld (by rfl) (by rfl) (x := ?_) (v := ?_) ?_ (by kernel_rfl) ?_ ?_ ?_ | refine autoP (by rfl) (x := ?_) (v := ?_) ?_ (by kernel_rfl) ?_ ?_ ?_
     rotate_left 2
     · (simp only [gE1, gE2, gE3]; rfl)
     · exact fun _ _ _ h => h
     · refine Or.inl ⟨by rfl, fun w hSw => ?_⟩
       (try dsimp only at hSw)
       go_simp
       try (with_reducible rfl)
     try simp only [pA1, pA2, pA3, pA4]
    refine anyE_one (i := 5) (x := ?_) ?_ (by kernel_rfl) (fun K hK => ?_)
    rotate_left
    · (simp only [gE1, gE2, gE3]; rfl)
    go_simp
    refine (pair19 v s1d).mono ?_
    rintro e w1 ⟨rfl, s1⟩
    go_wp2_with fail
    have hKp := (And.intro (((Sat.sub (s1) (by with_reducible repeat first | exact Fr1 | exact Fr2 | (apply Fr3; focus ((repeat (first | exact Tk1 | apply Tk2)); done)) | apply Fr4)) : Sat W0 w1 (seg true g 0 [.int .i64 on, .int .i64 2, .int .i64 (m : Int), .int .i64 v] :: [])).at 2 rfl) (And.intro (((Sat.sub (s1) (by with_reducible repeat first | exact Fr1 | exact Fr2 | (apply Fr3; focus ((repeat (first | exact Tk1 | apply Tk2)); done)) | apply Fr4)) : Sat W0 w1 (seg true g 0 [.int .i64 on, .int .i64 2, .int .i64 (m : Int), .int .i64 v] :: [])).at 3 rfl) (((Sat.sub (s1) (by with_reducible repeat first | exact Fr1 | exact Fr2 | (apply Fr3; focus ((repeat (first | exact Tk1 | apply Tk2)); done)) | apply Fr4)) : Sat W0 w1 (seg true g 0 [.int .i64 on, .int .i64 2, .int .i64 (m : Int), .int .i64 v] :: [])).lt (by simp))))
    refine hK.out _ _ hKp ?_
    clear hK K hHeld
    have hHeld := hKp
    clear hKp
    try simp only [pA1, pA2, pA3, pA4]
    refine anyE_one (i := 6) (x := ?_) ?_ (by kernel_rfl) (fun K hK => ?_)
    rotate_left
    · (simp only [gE1, gE2, gE3]; rfl)
    go_simp
    have sa : Sat W0 w1 (seg true b 0 [.slice (some ⟨hb,0,none⟩) n n, .slice (some ⟨vb,0,none⟩) n n] :: seg true hb 0 (held.map .bool) :: seg true vb 0 (tv.flatMap enc2) :: seg true rb 0 [.slice (some ⟨rhb,0,none⟩) n n, .slice (some ⟨rvb,0,none⟩) n n] :: seg true rhb 0 (held.map .bool) :: seg true rvb 0 (rv.map fun x => Value.int .i64 x) :: seg true g 0 [.int .i64 on, .int .i64 2, .int .i64 (m : Int), .int .i64 v] :: keptA k A B :: L) := (Sat.sub (s1) (by with_reducible repeat first | exact Fr1 | exact Fr2 | (apply Fr3; focus ((repeat (first | exact Tk1 | apply Tk2)); done)) | apply Fr4))
    refine (set_yes_pr m (prT v) HE.out hm HG.out.1 HG.out.2.1 h0 hsm sa).mono ?_
    rintro e w2 ⟨rfl, s2⟩
    clear sa
    go_wp2_with fail
    have hKp := (And.intro (((Sat.sub (s2) (by with_reducible repeat first | exact Fr1 | exact Fr2 | (apply Fr3; focus ((repeat (first | exact Tk1 | apply Tk2)); done)) | apply Fr4)) : Sat W0 w2 (seg true g 0 [.int .i64 on, .int .i64 2, .int .i64 (m : Int), .int .i64 v] :: [])).at 2 rfl) (And.intro (((Sat.sub (s2) (by with_reducible repeat first | exact Fr1 | exact Fr2 | (apply Fr3; focus ((repeat (first | exact Tk1 | apply Tk2)); done)) | apply Fr4)) : Sat W0 w2 (seg true g 0 [.int .i64 on, .int .i64 2, .int .i64 (m : Int), .int .i64 v] :: [])).at 3 rfl) (((Sat.sub (s2) (by with_reducible repeat first | exact Fr1 | exact Fr2 | (apply Fr3; focus ((repeat (first | exact Tk1 | apply Tk2)); done)) | apply Fr4)) : Sat W0 w2 (seg true g 0 [.int .i64 on, .int .i64 2, .int .i64 (m : Int), .int .i64 v] :: [])).lt (by simp))))
    refine hK.out _ _ hKp ?_
    clear hK K hHeld
    have hHeld := hKp
    clear hKp
    try simp only [pA1, pA2, pA3, pA4]
    refine anyE_one (i := 12) (x := ?_) ?_ (by kernel_rfl) (fun K hK => ?_)
    rotate_left
    · (simp only [gE1, gE2, gE3]; rfl)
    go_simp
    have sb : Sat W0 w2 (seg true rb 0 [.slice (some ⟨rhb,0,none⟩) n n, .slice (some ⟨rvb,0,none⟩) n n] :: seg true rhb 0 (held.map .bool) :: seg true rvb 0 (rv.map fun x => Value.int .i64 x) :: seg true b 0 [.slice (some ⟨hb,0,none⟩) n n, .slice (some ⟨vb,0,none⟩) n n] :: seg true hb 0 (held.map .bool) :: seg true vb 0 ((tv.set m (prT v)).flatMap enc2) :: seg true g 0 [.int .i64 on, .int .i64 2, .int .i64 (m : Int), .int .i64 v] :: keptA k A B :: L) := (Sat.sub (s2) (by with_reducible repeat first | exact Fr1 | exact Fr2 | (apply Fr3; focus ((repeat (first | exact Tk1 | apply Tk2)); done)) | apply Fr4))
    refine (set_yes_ref m v HE.out hm HG.out.1 HG.out.2.2.1 h0 hsm sb).mono ?_
    rintro e w3 ⟨rfl, s3⟩
    clear sb
    go_wp2_with fail
    have hKp := (And.intro (((Sat.sub (s3) (by with_reducible repeat first | exact Fr1 | exact Fr2 | (apply Fr3; focus ((repeat (first | exact Tk1 | apply Tk2)); done)) | apply Fr4)) : Sat W0 w3 (seg true g 0 [.int .i64 on, .int .i64 2, .int .i64 (m : Int), .int .i64 v] :: [])).at 2 rfl) (And.intro (((Sat.sub (s3) (by with_reducible repeat first | exact Fr1 | exact Fr2 | (apply Fr3; focus ((repeat (first | exact Tk1 | apply Tk2)); done)) | apply Fr4)) : Sat W0 w3 (seg true g 0 [.int .i64 on, .int .i64 2, .int .i64 (m : Int), .int .i64 v] :: [])).at 3 rfl) (((Sat.sub (s3) (by with_reducible repeat first | exact Fr1 | exact Fr2 | (apply Fr3; focus ((repeat (first | exact Tk1 | apply Tk2)); done)) | apply Fr4)) : Sat W0 w3 (seg true g 0 [.int .i64 on, .int .i64 2, .int .i64 (m : Int), .int .i64 v] :: [])).lt (by simp))))
    refine hK.out _ _ hKp ?_
    clear hK K hHeld
    have hHeld := hKp
    clear hKp
    try simp only [pA1, pA2, pA3, pA4]
    iterate 2
     first | refine autoT hHeld (by rfl) (by rfl) (x := ?_) (v := ?_) ?_ (by kernel_rfl) ?_ ?_ ?_ | refine autoP (by rfl) (x := ?_) (v := ?_) ?_ (by kernel_rfl) ?_ ?_ ?_
     rotate_left 2
     · (simp only [gE1, gE2, gE3]; rfl)
     · exact fun _ _ _ h => h
     · refine Or.inl ⟨by rfl, fun w hSw => ?_⟩
       (try dsimp only at hSw)
       go_simp
       try (with_reducible rfl)
     try simp only [pA1, pA2, pA3, pA4]
    refine anyE_done (by kernel_rfl) ?_ _
    go_wp2_with fail
    go_ret
    exact ⟨rfl, B, held, (tv.set m (prT v)), (rv.set m v), by omega, HG.out.set m hm v, (Sat.sub (s3) (by with_reducible repeat first | exact Fr1 | exact Fr2 | (apply Fr3; focus ((repeat (first | exact Tk1 | apply Tk2)); done)) | apply Fr4))⟩
set_option maxRecDepth 100000 in
set_option maxHeartbeats 4000000 in
theorem ap_len {W0 w : World} {L : List Assn} {k b hb vb rb rhb rvb n : Nat} {A : List KI} {B : List KP} {held : List Bool} {tv : List A2} {rv : List Int} (hag : agG (0, 0) prT n held tv rv) (h0 : 0 < n) (hsm : n ≤ 64) (hA : B.length ≤ 100000) (on h v : Int) (hs : Sat W0 w (keptA k A B :: tP b hb vb rb rhb rvb n held tv rv L)) :
    Calls Try.prog 9 #[.pointer (some ⟨k,0,none⟩), .pointer (some ⟨b,0,none⟩), .pointer (some ⟨rb,0,none⟩), .agg #[.int .i64 on, .int .i64 4, .int .i64 h, .int .i64 v]] w (postP W0 L k b hb vb rb rhb rvb n A B) := by
  have HG := Lib.hid hag; clear hag
  obtain ⟨q, hq⟩ : ∃ q, q = held.count true := ⟨_, rfl⟩
  have hq2 : (idxT held n).length = q := by have := idxT_all HG.out.1; rw [← hq] at this; omega
  have HQ := Lib.hid (And.intro hq.symm hq2); clear hq hq2
  by_cases hqn : q = n
  · have hqe : ((q : Int) == (n : Int)) = true := by rw [hqn]; simp
    have hqf : ((q : Int) = (n : Int)) := by rw [hqn]
    have HE := Lib.hid (And.intro hqn hqe); clear hqn hqe
    go_enter Try.func9, Try.ntmps9
    go_wp2_with (refine wpl_box rfl 44 (.tmp 3) rfl [.int .i64 on, .int .i64 4, .int .i64 h, .int .i64 v] rfl hs ?_; intro w1 g s1 _; clear hs; have g1 := s1.at 1 rfl; have g2 := s1.at 2 rfl; have g3 := s1.at 3 rfl; have gz := s1.lt (by simp))
    have s1d := s1.drew
    clear s1 g1 g2 g3 gz
    refine region_E (fun w' => w'.cell? ⟨rb, 0, none⟩ = some (.slice (some ⟨rhb,0,none⟩) n n) ∧ rb < w'.heap.size) [15] (by kernel_rfl) ?_
    have hHeld := (And.intro (((Sat.sub (s1d) (by with_reducible repeat first | exact Fr1 | exact Fr2 | (apply Fr3; focus ((repeat (first | exact Tk1 | apply Tk2)); done)) | apply Fr4)) : Sat W0 _ (seg true rb 0 [.slice (some ⟨rhb,0,none⟩) n n, .slice (some ⟨rvb,0,none⟩) n n] :: [])).at 0 rfl) (((Sat.sub (s1d) (by with_reducible repeat first | exact Fr1 | exact Fr2 | (apply Fr3; focus ((repeat (first | exact Tk1 | apply Tk2)); done)) | apply Fr4)) : Sat W0 _ (seg true rb 0 [.slice (some ⟨rhb,0,none⟩) n n, .slice (some ⟨rvb,0,none⟩) n n] :: [])).lt (by simp)))
    iterate 2
     first | refine autoT hHeld (by rfl) (by rfl) (x := ?_) (v := ?_) ?_ (by kernel_rfl) ?_ ?_ ?_ | refine autoP (by rfl) (x := ?_) (v := ?_) ?_ (by kernel_rfl) ?_ ?_ ?_
     rotate_left 2
     · (simp only [gE1, gE2, gE3]; rfl)
     · exact fun _ _ _ h => h
     · refine Or.inl ⟨by rfl, fun w hSw => ?_⟩
       (try dsimp only at hSw)
       go_simp
       try (with_reducible rfl)
     try simp only [pA1, pA2, pA3, pA4]
    refine anyE_one (i := 1) (x := ?_) ?_ (by kernel_rfl) (fun K hK => ?_)
    rotate_left
    · (simp only [gE1, gE2, gE3]; rfl)
    go_simp
    have sa : Sat W0 _ (seg true b 0 [.slice (some ⟨hb,0,none⟩) n n, .slice (some ⟨vb,0,none⟩) n n] :: seg true hb 0 (held.map .bool) :: seg true vb 0 (tv.flatMap enc2) :: seg true rb 0 [.slice (some ⟨rhb,0,none⟩) n n, .slice (some ⟨rvb,0,none⟩) n n] :: seg true rhb 0 (held.map .bool) :: seg true rvb 0 (rv.map fun x => Value.int .i64 x) :: keptA k A B :: L) := (Sat.sub (s1d) (by with_reducible repeat first | exact Fr1 | exact Fr2 | (apply Fr3; focus ((repeat (first | exact Tk1 | apply Tk2)); done)) | apply Fr4))
    refine (len_pr HG.out.1 HG.out.2.1 h0 hsm sa).mono ?_
    rintro e w2 ⟨rfl, rfl⟩
    rw [HQ.out.1]
    go_wp2_with fail
    have hKp := (And.intro (((Sat.sub (sa) (by with_reducible repeat first | exact Fr1 | exact Fr2 | (apply Fr3; focus ((repeat (first | exact Tk1 | apply Tk2)); done)) | apply Fr4)) : Sat W0 _ (seg true rb 0 [.slice (some ⟨rhb,0,none⟩) n n, .slice (some ⟨rvb,0,none⟩) n n] :: [])).at 0 rfl) (((Sat.sub (sa) (by with_reducible repeat first | exact Fr1 | exact Fr2 | (apply Fr3; focus ((repeat (first | exact Tk1 | apply Tk2)); done)) | apply Fr4)) : Sat W0 _ (seg true rb 0 [.slice (some ⟨rhb,0,none⟩) n n, .slice (some ⟨rvb,0,none⟩) n n] :: [])).lt (by simp)))
    refine hK.out _ _ hKp ?_
    clear hK K hHeld
    have hHeld := hKp
    clear hKp
    try simp only [pA1, pA2, pA3, pA4]
    refine anyE_one (i := 3) (x := ?_) ?_ (by kernel_rfl) (fun K hK => ?_)
    rotate_left
    · (simp only [gE1, gE2, gE3]; rfl)
    go_simp
    have sb : Sat W0 _ (seg true rb 0 [.slice (some ⟨rhb,0,none⟩) n n, .slice (some ⟨rvb,0,none⟩) n n] :: seg true rhb 0 (held.map .bool) :: seg true rvb 0 (rv.map fun x => Value.int .i64 x) :: seg true b 0 [.slice (some ⟨hb,0,none⟩) n n, .slice (some ⟨vb,0,none⟩) n n] :: seg true hb 0 (held.map .bool) :: seg true vb 0 (tv.flatMap enc2) :: keptA k A B :: L) := (Sat.sub (sa) (by with_reducible repeat first | exact Fr1 | exact Fr2 | (apply Fr3; focus ((repeat (first | exact Tk1 | apply Tk2)); done)) | apply Fr4))
    refine (held_ref HG.out.1 h0 hsm sb).mono ?_
    rintro e w3 ⟨p, c, rfl, s3⟩
    rw [HQ.out.2] at s3 ⊢
    go_wp2_with fail
    have hKp := (And.intro (((Sat.sub (s3) (by with_reducible repeat first | exact Fr1 | exact Fr2 | (apply Fr3; focus ((repeat (first | exact Tk1 | apply Tk2)); done)) | apply Fr4)) : Sat W0 w3 (seg true rb 0 [.slice (some ⟨rhb,0,none⟩) n n, .slice (some ⟨rvb,0,none⟩) n n] :: [])).at 0 rfl) (((Sat.sub (s3) (by with_reducible repeat first | exact Fr1 | exact Fr2 | (apply Fr3; focus ((repeat (first | exact Tk1 | apply Tk2)); done)) | apply Fr4)) : Sat W0 w3 (seg true rb 0 [.slice (some ⟨rhb,0,none⟩) n n, .slice (some ⟨rvb,0,none⟩) n n] :: [])).lt (by simp)))
    refine hK.out _ _ hKp ?_
    clear hK K hHeld
    have hHeld := hKp
    clear hKp
    try simp only [pA1, pA2, pA3, pA4]
    iterate 5
     first | refine autoT hHeld (by rfl) (by rfl) (x := ?_) (v := ?_) ?_ (by kernel_rfl) ?_ ?_ ?_ | refine autoP (by rfl) (x := ?_) (v := ?_) ?_ (by kernel_rfl) ?_ ?_ ?_
     rotate_left 2
     · (simp only [gE1, gE2, gE3]; rfl)
     · exact fun _ _ _ h => h
     · refine Or.inl ⟨by rfl, fun w hSw => ?_⟩
       (try dsimp only at hSw)
       go_simp
       try (with_reducible rfl)
     try simp only [pA1, pA2, pA3, pA4]
    refine anyE_pure (i := 12) (x := ?_) (v := ?_) ?_ (by kernel_rfl) (by kernel_rfl) (by kernel_rfl) ?_ ?_ ?_
    rotate_left 2
    · (simp only [gE1, gE2, gE3]; rfl)
    · exact fun _ _ _ h => h
    · refine Or.inl ⟨by rfl, fun w hSw => ?_⟩
      (try dsimp only at hSw)
      go_simp
      try (with_reducible rfl)
    try simp only [pA1, pA2, pA3, pA4]
    refine anyE_pure (i := 13) (x := ?_) (v := ?_) ?_ (by kernel_rfl) (by kernel_rfl) (by kernel_rfl) ?_ ?_ ?_
    rotate_left 2
    · (simp only [gE1, gE2, gE3]; rfl)
    · exact fun _ _ _ h => h
    · refine Or.inl ⟨by rfl, fun w hSw => ?_⟩
      (try dsimp only at hSw)
      go_simp
      try (with_reducible rfl)
    try simp only [pA1, pA2, pA3, pA4]
    refine anyE_pure (i := 14) (x := ?_) (v := ?_) ?_ (by kernel_rfl) (by kernel_rfl) (by kernel_rfl) ?_ ?_ ?_
    rotate_left 2
    · (simp only [gE1, gE2, gE3]; rfl)
    · exact fun _ _ _ h => h
    · refine Or.inl ⟨by rfl, fun w hSw => ?_⟩
      (try dsimp only at hSw)
      go_simp
      try (with_reducible rfl)
    try simp only [pA1, pA2, pA3, pA4]
    refine anyE_take (i := 15) (x := ?_) (v := ?_) ?_ (by kernel_rfl) (by kernel_rfl) (by kernel_rfl) (by kernel_rfl) ?_ ?_ hHeld ?_
    rotate_left 2
    · (simp only [gE1, gE2, gE3]; rfl)
    · exact fun _ _ _ h => h
    · refine Or.inl ⟨by rfl, fun w hSw => ?_⟩
      (try dsimp only at hSw)
      go_simp
      try (with_reducible rfl)
    try simp only [pA1, pA2, pA3, pA4]
    refine anyE_pure (i := 16) (x := ?_) (v := ?_) ?_ (by kernel_rfl) (by kernel_rfl) (by kernel_rfl) ?_ ?_ ?_
    rotate_left 2
    · (simp only [gE1, gE2, gE3]; rfl)
    · exact fun _ _ _ h => h
    · refine Or.inl ⟨by rfl, fun w hSw => ?_⟩
      (try dsimp only at hSw)
      go_simp
      try (with_reducible rfl)
    try simp only [pA1, pA2, pA3, pA4]
    refine anyE_one (i := 8) (x := ?_) ?_ (by kernel_rfl) (fun K hK => ?_)
    rotate_left
    · (simp only [gE1, gE2, gE3]; rfl)
    go_simp
    have sa : Sat W0 w3 (seg true b 0 [.slice (some ⟨hb,0,none⟩) n n, .slice (some ⟨vb,0,none⟩) n n] :: seg true hb 0 (held.map .bool) :: seg true vb 0 (tv.flatMap enc2) :: seg true rb 0 [.slice (some ⟨rhb,0,none⟩) n n, .slice (some ⟨rvb,0,none⟩) n n] :: seg true rhb 0 (held.map .bool) :: seg true rvb 0 (rv.map fun x => Value.int .i64 x) :: keptA k A B :: L) := (Sat.sub (s3) (by with_reducible repeat first | exact Fr1 | exact Fr2 | (apply Fr3; focus ((repeat (first | exact Tk1 | apply Tk2)); done)) | apply Fr4))
    refine (full_pr HG.out.1 HG.out.2.1 h0 hsm sa).mono ?_
    rintro e w4 ⟨rfl, kk, hw4⟩
    have s4 := sa.drewN kk
    rw [← hw4] at s4
    clear hw4
    rw [HQ.out.1]
    rw [HE.out.2]
    go_wp2_with fail
    have hKp := (And.intro (((Sat.sub (s4) (by with_reducible repeat first | exact Fr1 | exact Fr2 | (apply Fr3; focus ((repeat (first | exact Tk1 | apply Tk2)); done)) | apply Fr4)) : Sat W0 w4 (seg true rb 0 [.slice (some ⟨rhb,0,none⟩) n n, .slice (some ⟨rvb,0,none⟩) n n] :: [])).at 0 rfl) (((Sat.sub (s4) (by with_reducible repeat first | exact Fr1 | exact Fr2 | (apply Fr3; focus ((repeat (first | exact Tk1 | apply Tk2)); done)) | apply Fr4)) : Sat W0 w4 (seg true rb 0 [.slice (some ⟨rhb,0,none⟩) n n, .slice (some ⟨rvb,0,none⟩) n n] :: [])).lt (by simp)))
    refine hK.out _ _ hKp ?_
    clear hK K hHeld
    have hHeld := hKp
    clear hKp
    try simp only [pA1, pA2, pA3, pA4]
    refine anyE_one (i := 10) (x := ?_) ?_ (by kernel_rfl) (fun K hK => ?_)
    rotate_left
    · (simp only [gE1, gE2, gE3]; rfl)
    go_simp
    have sb : Sat W0 w4 (seg true rb 0 [.slice (some ⟨rhb,0,none⟩) n n, .slice (some ⟨rvb,0,none⟩) n n] :: seg true rhb 0 (held.map .bool) :: seg true rvb 0 (rv.map fun x => Value.int .i64 x) :: seg true b 0 [.slice (some ⟨hb,0,none⟩) n n, .slice (some ⟨vb,0,none⟩) n n] :: seg true hb 0 (held.map .bool) :: seg true vb 0 (tv.flatMap enc2) :: keptA k A B :: L) := (Sat.sub (s4) (by with_reducible repeat first | exact Fr1 | exact Fr2 | (apply Fr3; focus ((repeat (first | exact Tk1 | apply Tk2)); done)) | apply Fr4))
    refine (held_ref HG.out.1 h0 hsm sb).mono ?_
    rintro e w5 ⟨p, c, rfl, s5⟩
    rw [HQ.out.2] at s5 ⊢
    go_wp2_with fail
    have hKp := (And.intro (((Sat.sub (s5) (by with_reducible repeat first | exact Fr1 | exact Fr2 | (apply Fr3; focus ((repeat (first | exact Tk1 | apply Tk2)); done)) | apply Fr4)) : Sat W0 w5 (seg true rb 0 [.slice (some ⟨rhb,0,none⟩) n n, .slice (some ⟨rvb,0,none⟩) n n] :: [])).at 0 rfl) (((Sat.sub (s5) (by with_reducible repeat first | exact Fr1 | exact Fr2 | (apply Fr3; focus ((repeat (first | exact Tk1 | apply Tk2)); done)) | apply Fr4)) : Sat W0 w5 (seg true rb 0 [.slice (some ⟨rhb,0,none⟩) n n, .slice (some ⟨rvb,0,none⟩) n n] :: [])).lt (by simp)))
    refine hK.out _ _ hKp ?_
    clear hK K hHeld
    have hHeld := hKp
    clear hKp
    try simp only [pA1, pA2, pA3, pA4]
    iterate 5
     first | refine autoT hHeld (by rfl) (by rfl) (x := ?_) (v := ?_) ?_ (by kernel_rfl) ?_ ?_ ?_ | refine autoP (by rfl) (x := ?_) (v := ?_) ?_ (by kernel_rfl) ?_ ?_ ?_
     rotate_left 2
     · (simp only [gE1, gE2, gE3]; rfl)
     · exact fun _ _ _ h => h
     · refine Or.inl ⟨by rfl, fun w hSw => ?_⟩
       (try dsimp only at hSw)
       go_simp
       try (with_reducible rfl)
     try simp only [pA1, pA2, pA3, pA4]
    refine anyE_done (by kernel_rfl) ?_ _
    go_wp2_with fail
    go_ret
    exact ⟨rfl, B, held, tv, rv, by omega, HG.out, (Sat.sub (s5) (by with_reducible repeat first | exact Fr1 | exact Fr2 | (apply Fr3; focus ((repeat (first | exact Tk1 | apply Tk2)); done)) | apply Fr4))⟩
  · have hqe : ((q : Int) == (n : Int)) = false := by simp; omega
    have hqf : ((q : Int) = (n : Int)) = False := by simp; omega
    have HE := Lib.hid (And.intro hqn hqe); clear hqn hqe
    go_enter Try.func9, Try.ntmps9
    go_wp2_with (refine wpl_box rfl 44 (.tmp 3) rfl [.int .i64 on, .int .i64 4, .int .i64 h, .int .i64 v] rfl hs ?_; intro w1 g s1 _; clear hs; have g1 := s1.at 1 rfl; have g2 := s1.at 2 rfl; have g3 := s1.at 3 rfl; have gz := s1.lt (by simp))
    have s1d := s1.drew
    clear s1 g1 g2 g3 gz
    refine region_E (fun w' => w'.cell? ⟨rb, 0, none⟩ = some (.slice (some ⟨rhb,0,none⟩) n n) ∧ rb < w'.heap.size) [15] (by kernel_rfl) ?_
    have hHeld := (And.intro (((Sat.sub (s1d) (by with_reducible repeat first | exact Fr1 | exact Fr2 | (apply Fr3; focus ((repeat (first | exact Tk1 | apply Tk2)); done)) | apply Fr4)) : Sat W0 _ (seg true rb 0 [.slice (some ⟨rhb,0,none⟩) n n, .slice (some ⟨rvb,0,none⟩) n n] :: [])).at 0 rfl) (((Sat.sub (s1d) (by with_reducible repeat first | exact Fr1 | exact Fr2 | (apply Fr3; focus ((repeat (first | exact Tk1 | apply Tk2)); done)) | apply Fr4)) : Sat W0 _ (seg true rb 0 [.slice (some ⟨rhb,0,none⟩) n n, .slice (some ⟨rvb,0,none⟩) n n] :: [])).lt (by simp)))
    iterate 2
     first | refine autoT hHeld (by rfl) (by rfl) (x := ?_) (v := ?_) ?_ (by kernel_rfl) ?_ ?_ ?_ | refine autoP (by rfl) (x := ?_) (v := ?_) ?_ (by kernel_rfl) ?_ ?_ ?_
     rotate_left 2
     · (simp only [gE1, gE2, gE3]; rfl)
     · exact fun _ _ _ h => h
     · refine Or.inl ⟨by rfl, fun w hSw => ?_⟩
       (try dsimp only at hSw)
       go_simp
       try (with_reducible rfl)
     try simp only [pA1, pA2, pA3, pA4]
    refine anyE_one (i := 1) (x := ?_) ?_ (by kernel_rfl) (fun K hK => ?_)
    rotate_left
    · (simp only [gE1, gE2, gE3]; rfl)
    go_simp
    have sa : Sat W0 _ (seg true b 0 [.slice (some ⟨hb,0,none⟩) n n, .slice (some ⟨vb,0,none⟩) n n] :: seg true hb 0 (held.map .bool) :: seg true vb 0 (tv.flatMap enc2) :: seg true rb 0 [.slice (some ⟨rhb,0,none⟩) n n, .slice (some ⟨rvb,0,none⟩) n n] :: seg true rhb 0 (held.map .bool) :: seg true rvb 0 (rv.map fun x => Value.int .i64 x) :: keptA k A B :: L) := (Sat.sub (s1d) (by with_reducible repeat first | exact Fr1 | exact Fr2 | (apply Fr3; focus ((repeat (first | exact Tk1 | apply Tk2)); done)) | apply Fr4))
    refine (len_pr HG.out.1 HG.out.2.1 h0 hsm sa).mono ?_
    rintro e w2 ⟨rfl, rfl⟩
    rw [HQ.out.1]
    go_wp2_with fail
    have hKp := (And.intro (((Sat.sub (sa) (by with_reducible repeat first | exact Fr1 | exact Fr2 | (apply Fr3; focus ((repeat (first | exact Tk1 | apply Tk2)); done)) | apply Fr4)) : Sat W0 _ (seg true rb 0 [.slice (some ⟨rhb,0,none⟩) n n, .slice (some ⟨rvb,0,none⟩) n n] :: [])).at 0 rfl) (((Sat.sub (sa) (by with_reducible repeat first | exact Fr1 | exact Fr2 | (apply Fr3; focus ((repeat (first | exact Tk1 | apply Tk2)); done)) | apply Fr4)) : Sat W0 _ (seg true rb 0 [.slice (some ⟨rhb,0,none⟩) n n, .slice (some ⟨rvb,0,none⟩) n n] :: [])).lt (by simp)))
    refine hK.out _ _ hKp ?_
    clear hK K hHeld
    have hHeld := hKp
    clear hKp
    try simp only [pA1, pA2, pA3, pA4]
    refine anyE_one (i := 3) (x := ?_) ?_ (by kernel_rfl) (fun K hK => ?_)
    rotate_left
    · (simp only [gE1, gE2, gE3]; rfl)
    go_simp
    have sb : Sat W0 _ (seg true rb 0 [.slice (some ⟨rhb,0,none⟩) n n, .slice (some ⟨rvb,0,none⟩) n n] :: seg true rhb 0 (held.map .bool) :: seg true rvb 0 (rv.map fun x => Value.int .i64 x) :: seg true b 0 [.slice (some ⟨hb,0,none⟩) n n, .slice (some ⟨vb,0,none⟩) n n] :: seg true hb 0 (held.map .bool) :: seg true vb 0 (tv.flatMap enc2) :: keptA k A B :: L) := (Sat.sub (sa) (by with_reducible repeat first | exact Fr1 | exact Fr2 | (apply Fr3; focus ((repeat (first | exact Tk1 | apply Tk2)); done)) | apply Fr4))
    refine (held_ref HG.out.1 h0 hsm sb).mono ?_
    rintro e w3 ⟨p, c, rfl, s3⟩
    rw [HQ.out.2] at s3 ⊢
    go_wp2_with fail
    have hKp := (And.intro (((Sat.sub (s3) (by with_reducible repeat first | exact Fr1 | exact Fr2 | (apply Fr3; focus ((repeat (first | exact Tk1 | apply Tk2)); done)) | apply Fr4)) : Sat W0 w3 (seg true rb 0 [.slice (some ⟨rhb,0,none⟩) n n, .slice (some ⟨rvb,0,none⟩) n n] :: [])).at 0 rfl) (((Sat.sub (s3) (by with_reducible repeat first | exact Fr1 | exact Fr2 | (apply Fr3; focus ((repeat (first | exact Tk1 | apply Tk2)); done)) | apply Fr4)) : Sat W0 w3 (seg true rb 0 [.slice (some ⟨rhb,0,none⟩) n n, .slice (some ⟨rvb,0,none⟩) n n] :: [])).lt (by simp)))
    refine hK.out _ _ hKp ?_
    clear hK K hHeld
    have hHeld := hKp
    clear hKp
    try simp only [pA1, pA2, pA3, pA4]
    iterate 5
     first | refine autoT hHeld (by rfl) (by rfl) (x := ?_) (v := ?_) ?_ (by kernel_rfl) ?_ ?_ ?_ | refine autoP (by rfl) (x := ?_) (v := ?_) ?_ (by kernel_rfl) ?_ ?_ ?_
     rotate_left 2
     · (simp only [gE1, gE2, gE3]; rfl)
     · exact fun _ _ _ h => h
     · refine Or.inl ⟨by rfl, fun w hSw => ?_⟩
       (try dsimp only at hSw)
       go_simp
       try (with_reducible rfl)
     try simp only [pA1, pA2, pA3, pA4]
    refine anyE_pure (i := 12) (x := ?_) (v := ?_) ?_ (by kernel_rfl) (by kernel_rfl) (by kernel_rfl) ?_ ?_ ?_
    rotate_left 2
    · (simp only [gE1, gE2, gE3]; rfl)
    · exact fun _ _ _ h => h
    · refine Or.inl ⟨by rfl, fun w hSw => ?_⟩
      (try dsimp only at hSw)
      go_simp
      try (with_reducible rfl)
    try simp only [pA1, pA2, pA3, pA4]
    refine anyE_pure (i := 13) (x := ?_) (v := ?_) ?_ (by kernel_rfl) (by kernel_rfl) (by kernel_rfl) ?_ ?_ ?_
    rotate_left 2
    · (simp only [gE1, gE2, gE3]; rfl)
    · exact fun _ _ _ h => h
    · refine Or.inl ⟨by rfl, fun w hSw => ?_⟩
      (try dsimp only at hSw)
      go_simp
      try (with_reducible rfl)
    try simp only [pA1, pA2, pA3, pA4]
    refine anyE_pure (i := 14) (x := ?_) (v := ?_) ?_ (by kernel_rfl) (by kernel_rfl) (by kernel_rfl) ?_ ?_ ?_
    rotate_left 2
    · (simp only [gE1, gE2, gE3]; rfl)
    · exact fun _ _ _ h => h
    · refine Or.inl ⟨by rfl, fun w hSw => ?_⟩
      (try dsimp only at hSw)
      go_simp
      try (with_reducible rfl)
    try simp only [pA1, pA2, pA3, pA4]
    refine anyE_take (i := 15) (x := ?_) (v := ?_) ?_ (by kernel_rfl) (by kernel_rfl) (by kernel_rfl) (by kernel_rfl) ?_ ?_ hHeld ?_
    rotate_left 2
    · (simp only [gE1, gE2, gE3]; rfl)
    · exact fun _ _ _ h => h
    · refine Or.inl ⟨by rfl, fun w hSw => ?_⟩
      (try dsimp only at hSw)
      go_simp
      try (with_reducible rfl)
    try simp only [pA1, pA2, pA3, pA4]
    refine anyE_pure (i := 16) (x := ?_) (v := ?_) ?_ (by kernel_rfl) (by kernel_rfl) (by kernel_rfl) ?_ ?_ ?_
    rotate_left 2
    · (simp only [gE1, gE2, gE3]; rfl)
    · exact fun _ _ _ h => h
    · refine Or.inl ⟨by rfl, fun w hSw => ?_⟩
      (try dsimp only at hSw)
      go_simp
      try (with_reducible rfl)
    try simp only [pA1, pA2, pA3, pA4]
    refine anyE_one (i := 8) (x := ?_) ?_ (by kernel_rfl) (fun K hK => ?_)
    rotate_left
    · (simp only [gE1, gE2, gE3]; rfl)
    go_simp
    have sa : Sat W0 w3 (seg true b 0 [.slice (some ⟨hb,0,none⟩) n n, .slice (some ⟨vb,0,none⟩) n n] :: seg true hb 0 (held.map .bool) :: seg true vb 0 (tv.flatMap enc2) :: seg true rb 0 [.slice (some ⟨rhb,0,none⟩) n n, .slice (some ⟨rvb,0,none⟩) n n] :: seg true rhb 0 (held.map .bool) :: seg true rvb 0 (rv.map fun x => Value.int .i64 x) :: keptA k A B :: L) := (Sat.sub (s3) (by with_reducible repeat first | exact Fr1 | exact Fr2 | (apply Fr3; focus ((repeat (first | exact Tk1 | apply Tk2)); done)) | apply Fr4))
    refine (full_pr HG.out.1 HG.out.2.1 h0 hsm sa).mono ?_
    rintro e w4 ⟨rfl, kk, hw4⟩
    have s4 := sa.drewN kk
    rw [← hw4] at s4
    clear hw4
    rw [HQ.out.1]
    rw [HE.out.2]
    go_wp2_with fail
    have hKp := (And.intro (((Sat.sub (s4) (by with_reducible repeat first | exact Fr1 | exact Fr2 | (apply Fr3; focus ((repeat (first | exact Tk1 | apply Tk2)); done)) | apply Fr4)) : Sat W0 w4 (seg true rb 0 [.slice (some ⟨rhb,0,none⟩) n n, .slice (some ⟨rvb,0,none⟩) n n] :: [])).at 0 rfl) (((Sat.sub (s4) (by with_reducible repeat first | exact Fr1 | exact Fr2 | (apply Fr3; focus ((repeat (first | exact Tk1 | apply Tk2)); done)) | apply Fr4)) : Sat W0 w4 (seg true rb 0 [.slice (some ⟨rhb,0,none⟩) n n, .slice (some ⟨rvb,0,none⟩) n n] :: [])).lt (by simp)))
    refine hK.out _ _ hKp ?_
    clear hK K hHeld
    have hHeld := hKp
    clear hKp
    try simp only [pA1, pA2, pA3, pA4]
    refine anyE_one (i := 10) (x := ?_) ?_ (by kernel_rfl) (fun K hK => ?_)
    rotate_left
    · (simp only [gE1, gE2, gE3]; rfl)
    go_simp
    have sb : Sat W0 w4 (seg true rb 0 [.slice (some ⟨rhb,0,none⟩) n n, .slice (some ⟨rvb,0,none⟩) n n] :: seg true rhb 0 (held.map .bool) :: seg true rvb 0 (rv.map fun x => Value.int .i64 x) :: seg true b 0 [.slice (some ⟨hb,0,none⟩) n n, .slice (some ⟨vb,0,none⟩) n n] :: seg true hb 0 (held.map .bool) :: seg true vb 0 (tv.flatMap enc2) :: keptA k A B :: L) := (Sat.sub (s4) (by with_reducible repeat first | exact Fr1 | exact Fr2 | (apply Fr3; focus ((repeat (first | exact Tk1 | apply Tk2)); done)) | apply Fr4))
    refine (held_ref HG.out.1 h0 hsm sb).mono ?_
    rintro e w5 ⟨p, c, rfl, s5⟩
    rw [HQ.out.2] at s5 ⊢
    go_wp2_with fail
    have hKp := (And.intro (((Sat.sub (s5) (by with_reducible repeat first | exact Fr1 | exact Fr2 | (apply Fr3; focus ((repeat (first | exact Tk1 | apply Tk2)); done)) | apply Fr4)) : Sat W0 w5 (seg true rb 0 [.slice (some ⟨rhb,0,none⟩) n n, .slice (some ⟨rvb,0,none⟩) n n] :: [])).at 0 rfl) (((Sat.sub (s5) (by with_reducible repeat first | exact Fr1 | exact Fr2 | (apply Fr3; focus ((repeat (first | exact Tk1 | apply Tk2)); done)) | apply Fr4)) : Sat W0 w5 (seg true rb 0 [.slice (some ⟨rhb,0,none⟩) n n, .slice (some ⟨rvb,0,none⟩) n n] :: [])).lt (by simp)))
    refine hK.out _ _ hKp ?_
    clear hK K hHeld
    have hHeld := hKp
    clear hKp
    try simp only [pA1, pA2, pA3, pA4]
    iterate 5
     first | refine autoT hHeld (by rfl) (by rfl) (x := ?_) (v := ?_) ?_ (by kernel_rfl) ?_ ?_ ?_ | refine autoP (by rfl) (x := ?_) (v := ?_) ?_ (by kernel_rfl) ?_ ?_ ?_
     rotate_left 2
     · (simp only [gE1, gE2, gE3]; rfl)
     · exact fun _ _ _ h => h
     · refine Or.inl ⟨by rfl, fun w hSw => ?_⟩
       (try dsimp only at hSw)
       go_simp
       try (with_reducible rfl)
     try simp only [pA1, pA2, pA3, pA4]
    refine anyE_done (by kernel_rfl) ?_ _
    go_wp2_with fail
    go_ret
    exact ⟨(by show Ending.returned (.bool (!((q : Int) == (n : Int)))) = _; rw [HE.out.2]; rfl), B, held, tv, rv, by omega, HG.out, (Sat.sub (s5) (by with_reducible repeat first | exact Fr1 | exact Fr2 | (apply Fr3; focus ((repeat (first | exact Tk1 | apply Tk2)); done)) | apply Fr4))⟩
theorem Try.infoSeqP : (Try.prog.info? 75).map (fun i => (i.zero, i.size, i.bytes)) = some (some .nilFunc, 1, 8) := by kernel_rfl
theorem Try.infoPairs : (Try.prog.info? 53).map (fun i => (i.zero, i.size, i.bytes)) = some (some (.slice none 0 0), 1, 24) := by kernel_rfl
theorem ag_at {n : Nat} {held : List Bool} {tv : List A2} {rv : List Int} (h : agG (0, 0) prT n held tv rv) {i j : Nat} (hj : (idxT held n)[i]? = some j) : pX tv j = rv.getD j 0 ∧ pY tv j = bits .xor .i64 (rv.getD j 0) 5 := by
  have hm := List.mem_of_getElem? hj
  unfold idxT at hm
  rw [List.mem_filter] at hm
  have := h.2.2.2 j hm.2
  unfold pX pY
  rw [this]
  exact ⟨rfl, rfl⟩
theorem valsP_up {vals : List A2} {I : List Nat} {i j : Nat} (hj : I[i]? = some j) : valsP vals (I.take (i + 1)) = valsP vals (I.take i) ++ [.int .i64 (pX vals j), .int .i64 (pY vals j)] := by
  rw [List.take_add_one, hj]
  unfold valsP
  rw [List.flatMap_append]
  rfl
set_option maxRecDepth 100000 in
set_option maxHeartbeats 4000000 in
theorem ap_all {W0 w : World} {L : List Assn} {k b hb vb rb rhb rvb n : Nat} {A : List KI} {B : List KP} {held : List Bool} {tv : List A2} {rv : List Int} (hag : agG (0, 0) prT n held tv rv) (h0 : 0 < n) (hsm : n ≤ 64) (hA : B.length ≤ 100000) (on h v : Int) (hs : Sat W0 w (keptA k A B :: tP b hb vb rb rhb rvb n held tv rv L)) :
    Calls Try.prog 9 #[.pointer (some ⟨k,0,none⟩), .pointer (some ⟨b,0,none⟩), .pointer (some ⟨rb,0,none⟩), .agg #[.int .i64 on, .int .i64 5, .int .i64 h, .int .i64 v]] w (postP W0 L k b hb vb rb rhb rvb n A B) := by
  have HG := Lib.hid hag; clear hag
  go_enter Try.func9, Try.ntmps9
  go_wp2_with (refine wpl_box rfl 44 (.tmp 3) rfl [.int .i64 on, .int .i64 5, .int .i64 h, .int .i64 v] rfl hs ?_; intro w1 g s1 _; clear hs; have g1 := s1.at 1 rfl; have g2 := s1.at 2 rfl; have g3 := s1.at 3 rfl; have gz := s1.lt (by simp))
  have sa : Sat W0 w1 (seg true b 0 [.slice (some ⟨hb,0,none⟩) n n, .slice (some ⟨vb,0,none⟩) n n] :: seg true hb 0 (held.map .bool) :: seg true vb 0 (tv.flatMap enc2) :: seg true rb 0 [.slice (some ⟨rhb,0,none⟩) n n, .slice (some ⟨rvb,0,none⟩) n n] :: seg true rhb 0 (held.map .bool) :: seg true rvb 0 (rv.map fun x => Value.int .i64 x) :: seg true g 0 [.int .i64 on, .int .i64 5, .int .i64 h, .int .i64 v] :: keptA k A B :: L) := (Sat.sub (s1) (by with_reducible repeat first | exact Fr1 | exact Fr2 | (apply Fr3; focus ((repeat (first | exact Tk1 | apply Tk2)); done)) | apply Fr4))
  refine (all_pr HG.out.1 HG.out.2.1 h0 hsm sa).mono ?_
  rintro e w2 ⟨gi, p1, c1x, p2, c2x, rfl, s2⟩
  clear s1 sa g1 g2 g3 gz
  have g1 := ((Sat.sub (s2) (by with_reducible repeat first | exact Fr1 | exact Fr2 | (apply Fr3; focus ((repeat (first | exact Tk1 | apply Tk2)); done)) | apply Fr4)) : Sat W0 w2 (seg true g 0 [.int .i64 on, .int .i64 5, .int .i64 h, .int .i64 v] :: [])).at 1 rfl
  have g2 := ((Sat.sub (s2) (by with_reducible repeat first | exact Fr1 | exact Fr2 | (apply Fr3; focus ((repeat (first | exact Tk1 | apply Tk2)); done)) | apply Fr4)) : Sat W0 w2 (seg true g 0 [.int .i64 on, .int .i64 5, .int .i64 h, .int .i64 v] :: [])).at 2 rfl
  have g3 := ((Sat.sub (s2) (by with_reducible repeat first | exact Fr1 | exact Fr2 | (apply Fr3; focus ((repeat (first | exact Tk1 | apply Tk2)); done)) | apply Fr4)) : Sat W0 w2 (seg true g 0 [.int .i64 on, .int .i64 5, .int .i64 h, .int .i64 v] :: [])).at 3 rfl
  have gz := ((Sat.sub (s2) (by with_reducible repeat first | exact Fr1 | exact Fr2 | (apply Fr3; focus ((repeat (first | exact Tk1 | apply Tk2)); done)) | apply Fr4)) : Sat W0 w2 (seg true g 0 [.int .i64 on, .int .i64 5, .int .i64 h, .int .i64 v] :: [])).lt (by simp)
  go_wp2_with fail
  have sb : Sat W0 w2 (seg true rb 0 [.slice (some ⟨rhb,0,none⟩) n n, .slice (some ⟨rvb,0,none⟩) n n] :: seg true rhb 0 (held.map .bool) :: seg true rvb 0 (rv.map fun x => Value.int .i64 x) :: seg true b 0 [.slice (some ⟨hb,0,none⟩) n n, .slice (some ⟨vb,0,none⟩) n n] :: seg true hb 0 (held.map .bool) :: seg true vb 0 (tv.flatMap enc2) :: seg true g 0 [.int .i64 on, .int .i64 5, .int .i64 h, .int .i64 v] :: seg true gi 0 [.slice p1 n c1x, .slice p2 n c2x] :: row p1 c1x 1 n (held.map .bool) :: row p2 c2x 2 n (tv.flatMap enc2) :: keptA k A B :: L) := (Sat.sub (s2) (by with_reducible repeat first | exact Fr1 | exact Fr2 | (apply Fr3; focus ((repeat (first | exact Tk1 | apply Tk2)); done)) | apply Fr4))
  refine (held19 HG.out.1 HG.out.2.2.1 h0 hsm sb).mono ?_
  rintro e w3 ⟨m, hp, hc, vp, vc, hm, rfl, s3⟩
  clear s2 sb g1 g2 g3 gz
  obtain ⟨i1, hi1, hz1, hs1, hb1⟩ := info_parts Try.infoSeqP
  obtain ⟨i3, hi3, hz3, hs3, hb3⟩ := info_parts Try.infoInts
  obtain ⟨i5, hi5, hz5, hs5, hb5⟩ := info_parts Try.infoPairs
  obtain ⟨i7, hi7, hz7, hs7, hb7⟩ := info_parts Try.info_pr
  have I1 := Lib.hid (And.intro hi1 (And.intro hz1 (And.intro hs1 hb1))); clear hi1 hz1 hs1 hb1
  have I3 := Lib.hid (And.intro hi3 (And.intro hz3 (And.intro hs3 hb3))); clear hi3 hz3 hs3 hb3
  have I5 := Lib.hid (And.intro hi5 (And.intro hz5 (And.intro hs5 hb5))); clear hi5 hz5 hs5 hb5
  have I7 := Lib.hid (And.intro hi7 (And.intro hz7 (And.intro hs7 hb7))); clear hi7 hz7 hs7 hb7
  have hm64 : m ≤ 64 := by have := idxT_len held n; omega
  have HM := Lib.hid hm; clear hm
  have s4 : Sat W0 w3 (row none 0 2 0 (valsP tv ((idxT held n).take 0)) :: row vp vc 1 m (valsT rv (idxT held n)) :: seg true g 0 [.int .i64 on, .int .i64 5, .int .i64 h, .int .i64 v] :: seg true gi 0 [.slice p1 n c1x, .slice p2 n c2x] :: row p1 c1x 1 n (held.map .bool) :: row p2 c2x 2 n (tv.flatMap enc2) :: row hp hc 1 m (ints (idxT held n)) :: keptA k A B :: seg true b 0 [.slice (some ⟨hb,0,none⟩) n n, .slice (some ⟨vb,0,none⟩) n n] :: seg true hb 0 (held.map .bool) :: seg true vb 0 (tv.flatMap enc2) :: seg true rb 0 [.slice (some ⟨rhb,0,none⟩) n n, .slice (some ⟨rvb,0,none⟩) n n] :: seg true rhb 0 (held.map .bool) :: seg true rvb 0 (rv.map fun x => Value.int .i64 x) :: L) := Sat.rowNil (Sat.sub (s3) (by with_reducible repeat first | exact Fr1 | exact Fr2 | (apply Fr3; focus ((repeat (first | exact Tk1 | apply Tk2)); done)) | apply Fr4)) 2
  clear s3
  have HS4 := Lib.hid s4; clear s4
  go_wp2_with fail
  go_loopw [24, 25] (fun t24 t25 wr => ∃ (i : Nat) (q : Option Addr) (d : Nat), i ≤ m ∧ t25 = .int .i64 (i : Int) ∧ t24 = .slice q i d ∧ Sat W0 wr (row q d 2 i (valsP tv ((idxT held n).take i)) :: row vp vc 1 m (valsT rv (idxT held n)) :: seg true g 0 [.int .i64 on, .int .i64 5, .int .i64 h, .int .i64 v] :: seg true gi 0 [.slice p1 n c1x, .slice p2 n c2x] :: row p1 c1x 1 n (held.map .bool) :: row p2 c2x 2 n (tv.flatMap enc2) :: row hp hc 1 m (ints (idxT held n)) :: keptA k A B :: seg true b 0 [.slice (some ⟨hb,0,none⟩) n n, .slice (some ⟨vb,0,none⟩) n n] :: seg true hb 0 (held.map .bool) :: seg true vb 0 (tv.flatMap enc2) :: seg true rb 0 [.slice (some ⟨rhb,0,none⟩) n n, .slice (some ⟨rvb,0,none⟩) n n] :: seg true rhb 0 (held.map .bool) :: seg true rvb 0 (rv.map fun x => Value.int .i64 x) :: L)) (fun _ t25 _ => m - (intOf t25).toNat)
  case atStart => exact ⟨0, none, 0, Nat.zero_le _, rfl, rfl, HS4.out⟩
  case round =>
    clear HS4
    obtain ⟨i, q, d, hi, rfl, rfl, s⟩ := hrel
    by_cases hlt : i < m
    · obtain ⟨j, hj⟩ : ∃ j, (idxT held n)[i]? = some j := ⟨_, List.getElem?_eq_getElem (by rw [← HM.out]; exact hlt)⟩
      have hup := valsP_up (vals := tv) hj
      have hxy := ag_at HG.out hj
      rw [hxy.1, hxy.2] at hup
      obtain ⟨z, hz⟩ : ∃ z, z = rv.getD j 0 := ⟨_, rfl⟩
      rw [← hz] at hup
      have hr : Sat W0 wr (row vp vc 1 m (valsT rv (idxT held n)) :: row q d 2 i (valsP tv ((idxT held n).take i)) :: seg true g 0 [.int .i64 on, .int .i64 5, .int .i64 h, .int .i64 v] :: seg true gi 0 [.slice p1 n c1x, .slice p2 n c2x] :: row p1 c1x 1 n (held.map .bool) :: row p2 c2x 2 n (tv.flatMap enc2) :: row hp hc 1 m (ints (idxT held n)) :: keptA k A B :: seg true b 0 [.slice (some ⟨hb,0,none⟩) n n, .slice (some ⟨vb,0,none⟩) n n] :: seg true hb 0 (held.map .bool) :: seg true vb 0 (tv.flatMap enc2) :: seg true rb 0 [.slice (some ⟨rhb,0,none⟩) n n, .slice (some ⟨rvb,0,none⟩) n n] :: seg true rhb 0 (held.map .bool) :: seg true rvb 0 (rv.map fun x => Value.int .i64 x) :: L) := s.pull 1
      obtain ⟨hrl, ⟨-, -, h00, -, -⟩ | ⟨g7, r7, rfl, hcap, hmx, hcl, s2⟩⟩ := hr.rowOpen
      · omega
      have hcz : (valsT rv (idxT held n) ++ r7)[i]? = some (.int .i64 z) := by rw [hz]; exact vals_at (vals := rv) (rest := r7) hj
      have v0 := s2.at i hcz
      have vz := s2.lt (Nat.lt_of_le_of_lt (Nat.zero_le _) (List.getElem?_eq_some_iff.1 hcz).1)
      have HR := Lib.hid (And.intro hup (And.intro hrl hcl)); clear hup hrl hcl hz hj hxy hr s hcz
      have hlt' : (i : Int) < (m : Int) := by omega
      go_wp2_with fail
      refine (pair19 z s2).mono ?_
      rintro e w5 ⟨rfl, s5⟩
      clear s2 v0 vz
      have s6 : Sat W0 w5 (row q d 2 i (valsP tv ((idxT held n).take i)) :: seg true g7 0 (valsT rv (idxT held n) ++ r7) :: seg true g 0 [.int .i64 on, .int .i64 5, .int .i64 h, .int .i64 v] :: seg true gi 0 [.slice p1 n c1x, .slice p2 n c2x] :: row p1 c1x 1 n (held.map .bool) :: row p2 c2x 2 n (tv.flatMap enc2) :: row hp hc 1 m (ints (idxT held n)) :: keptA k A B :: seg true b 0 [.slice (some ⟨hb,0,none⟩) n n, .slice (some ⟨vb,0,none⟩) n n] :: seg true hb 0 (held.map .bool) :: seg true vb 0 (tv.flatMap enc2) :: seg true rb 0 [.slice (some ⟨rhb,0,none⟩) n n, .slice (some ⟨rvb,0,none⟩) n n] :: seg true rhb 0 (held.map .bool) :: seg true rvb 0 (rv.map fun x => Value.int .i64 x) :: L) := s5.pull 1
      clear s5
      go_wp2_with (at_builtin; refine wpl_append rfl (.tmp 182) (.tmp 188) 53 rfl Try.underlying53 I7.out.1 I7.out.2.1 I7.out.2.2.1 I7.out.2.2.2 rfl (by decide) (s6.alloc' _) rfl (some _) 1 1 rfl [.int .i64 z, .int .i64 (bits .xor .i64 z 5)] rfl ((s6.alloc #[.int .i64 z, .int .i64 (bits .xor .i64 z 5)] 31).news) (fun h => by cases h) (pair_one _ _) (by unfold maxLen; omega) (by omega) ?_; intro p9 c9 w9 s9 _ _)
      rw [← HR.out.1] at s9
      have s10 := (s9.pull 1 : Sat W0 w9 (seg true g7 0 (valsT rv (idxT held n) ++ r7) :: _)).rowMade HR.out.2.1 HR.out.2.2 hcap hmx
      have HS := Lib.hid (s10.pull 1); clear s9 s10 s6
      go_wp2_with fail
      exact ⟨⟨i + 1, p9, c9, by omega, by go_num, rfl, HS.out⟩, by simp [intOf]; omega⟩
    · obtain rfl : i = m := by omega
      have e1 : (idxT held n).take i = idxT held n := List.take_of_length_le (by rw [← HM.out]; exact Nat.le_refl _)
      rw [e1] at s
      obtain ⟨m, hmi⟩ : ∃ m, m = i := ⟨_, rfl⟩
      rw [← hmi] at s HM hm64 ⊢
      clear e1 hlt hi hmi
      obtain ⟨a1, c1, a2, c2, a3, c3, a4, c4, a5, c5, a6, c6, s4⟩ := keptOpen ((Sat.sub (s) (by with_reducible repeat first | exact Fr1 | exact Fr2 | (apply Fr3; focus ((repeat (first | exact Tk1 | apply Tk2)); done)) | apply Fr4)) : Sat W0 wr (keptA k A B :: seg true gi 0 [.slice p1 n c1x, .slice p2 n c2x] :: row p1 c1x 1 n (held.map .bool) :: row p2 c2x 2 n (tv.flatMap enc2) :: row hp hc 1 m (ints (idxT held n)) :: row q d 2 m (valsP tv (idxT held n)) :: seg true g 0 [.int .i64 on, .int .i64 5, .int .i64 h, .int .i64 v] :: seg true b 0 [.slice (some ⟨hb,0,none⟩) n n, .slice (some ⟨vb,0,none⟩) n n] :: seg true hb 0 (held.map .bool) :: seg true vb 0 (tv.flatMap enc2) :: seg true rb 0 [.slice (some ⟨rhb,0,none⟩) n n, .slice (some ⟨rvb,0,none⟩) n n] :: seg true rhb 0 (held.map .bool) :: seg true rvb 0 (rv.map fun x => Value.int .i64 x) :: L))
      clear s
      have k1 := s4.at 1 rfl; have k2 := s4.at 3 rfl; have k3 := s4.at 5 rfl
      have kf1 := s4.fr 1 (by simp); have kf2 := s4.fr 3 (by simp); have kf3 := s4.fr 5 (by simp)
      have kz := s4.lt (by simp)
      go_wp2_with (first | (at_builtin; refine wpl_append rfl (.tmp 194) (.tmp 196) 37 rfl Try.underlying37 I1.out.1 I1.out.2.1 I1.out.2.2.1 I1.out.2.2.2 rfl (by decide) (p := a2) (cp := c2) (n := B.length) (xs := B.map KP.fv) (L := seg true k 0 [.slice a1 A.length c1, .slice a2 B.length c2, .slice a3 A.length c3, .slice a4 B.length c4, .slice a5 A.length c5, .slice a6 B.length c6] :: row a1 c1 1 A.length (A.map KI.fv) :: row a3 c3 1 A.length (A.map KI.lv) :: row a4 c4 1 B.length (B.map KP.lv) :: row a5 c5 1 A.length (A.map KI.vv) :: row a6 c6 1 B.length (B.map KP.vv) :: stars (A.map KI.a) :: stars (B.map KP.a) :: seg true gi 0 [.slice p1 n c1x, .slice p2 n c2x] :: row p1 c1x 1 n (held.map .bool) :: row p2 c2x 2 n (tv.flatMap enc2) :: row hp hc 1 m (ints (idxT held n)) :: row q d 2 m (valsP tv (idxT held n)) :: seg true g 0 [.int .i64 on, .int .i64 5, .int .i64 h, .int .i64 v] :: seg true b 0 [.slice (some ⟨hb,0,none⟩) n n, .slice (some ⟨vb,0,none⟩) n n] :: seg true hb 0 (held.map .bool) :: seg true vb 0 (tv.flatMap enc2) :: seg true rb 0 [.slice (some ⟨rhb,0,none⟩) n n, .slice (some ⟨rvb,0,none⟩) n n] :: seg true rhb 0 (held.map .bool) :: seg true rvb 0 (rv.map fun x => Value.int .i64 x) :: L) (by have h9 := s4.alloc' (.cells #[.func (.func 40) #[] #[.pointer (some ⟨gi, 0, none⟩)]] 75); exact (Sat.sub (h9) (by with_reducible repeat first | exact Fr1 | exact Fr2 | (apply Fr3; focus ((repeat (first | exact Tk1 | apply Tk2)); done)) | apply Fr4))) rfl (some _) 1 1 rfl [.func (.func 40) #[] #[.pointer (some ⟨gi, 0, none⟩)]] rfl ((s4.alloc #[.func (.func 40) #[] #[.pointer (some ⟨gi, 0, none⟩)]] 75).news) (fun h => by cases h) (by intro u hu; simp only [List.mem_singleton] at hu; subst hu; rfl) (by unfold maxLen; omega) (by omega) ?_; intro b2 d2 wy2 sx2 _ _; have sy2 : Sat W0 wy2 (seg true k 0 [.slice a1 A.length c1, .slice a2 B.length c2, .slice a3 A.length c3, .slice a4 B.length c4, .slice a5 A.length c5, .slice a6 B.length c6] :: row a1 c1 1 A.length (A.map KI.fv) :: row b2 d2 1 (B.length + 1) (B.map KP.fv ++ [.func (.func 40) #[] #[.pointer (some ⟨gi, 0, none⟩)]]) :: row a3 c3 1 A.length (A.map KI.lv) :: row a4 c4 1 B.length (B.map KP.lv) :: row a5 c5 1 A.length (A.map KI.vv) :: row a6 c6 1 B.length (B.map KP.vv) :: stars (A.map KI.a) :: stars (B.map KP.a) :: seg true gi 0 [.slice p1 n c1x, .slice p2 n c2x] :: row p1 c1x 1 n (held.map .bool) :: row p2 c2x 2 n (tv.flatMap enc2) :: row hp hc 1 m (ints (idxT held n)) :: row q d 2 m (valsP tv (idxT held n)) :: seg true g 0 [.int .i64 on, .int .i64 5, .int .i64 h, .int .i64 v] :: seg true b 0 [.slice (some ⟨hb,0,none⟩) n n, .slice (some ⟨vb,0,none⟩) n n] :: seg true hb 0 (held.map .bool) :: seg true vb 0 (tv.flatMap enc2) :: seg true rb 0 [.slice (some ⟨rhb,0,none⟩) n n, .slice (some ⟨rvb,0,none⟩) n n] :: seg true rhb 0 (held.map .bool) :: seg true rvb 0 (rv.map fun x => Value.int .i64 x) :: L) := (Sat.sub (sx2) (by with_reducible repeat first | exact Fr1 | exact Fr2 | (apply Fr3; focus ((repeat (first | exact Tk1 | apply Tk2)); done)) | apply Fr4)); clear sx2 k1 k2 k3 kf1 kf2 kf3 kz s4; have k1 := sy2.at 1 rfl; have k2 := sy2.at 3 rfl; have k3 := sy2.at 5 rfl; have kf1 := sy2.fr 1 (by simp); have kf2 := sy2.fr 3 (by simp); have kf3 := sy2.fr 5 (by simp); have kz := sy2.lt (by simp); have st2 : Sat W0 _ (seg true k 0 [.slice a1 A.length c1, .slice b2 (B.length + 1) d2, .slice a3 A.length c3, .slice a4 B.length c4, .slice a5 A.length c5, .slice a6 B.length c6] :: row a1 c1 1 A.length (A.map KI.fv) :: row b2 d2 1 (B.length + 1) (B.map KP.fv ++ [.func (.func 40) #[] #[.pointer (some ⟨gi, 0, none⟩)]]) :: row a3 c3 1 A.length (A.map KI.lv) :: row a4 c4 1 B.length (B.map KP.lv) :: row a5 c5 1 A.length (A.map KI.vv) :: row a6 c6 1 B.length (B.map KP.vv) :: stars (A.map KI.a) :: stars (B.map KP.a) :: seg true gi 0 [.slice p1 n c1x, .slice p2 n c2x] :: row p1 c1x 1 n (held.map .bool) :: row p2 c2x 2 n (tv.flatMap enc2) :: row hp hc 1 m (ints (idxT held n)) :: row q d 2 m (valsP tv (idxT held n)) :: seg true g 0 [.int .i64 on, .int .i64 5, .int .i64 h, .int .i64 v] :: seg true b 0 [.slice (some ⟨hb,0,none⟩) n n, .slice (some ⟨vb,0,none⟩) n n] :: seg true hb 0 (held.map .bool) :: seg true vb 0 (tv.flatMap enc2) :: seg true rb 0 [.slice (some ⟨rhb,0,none⟩) n n, .slice (some ⟨rvb,0,none⟩) n n] :: seg true rhb 0 (held.map .bool) :: seg true rvb 0 (rv.map fun x => Value.int .i64 x) :: L) := sy2.store (i := 1) (by simp) (.slice b2 (B.length + 1) d2) (q := 1) rfl; clear sy2) | (at_builtin; refine wpl_append rfl (.tmp 204) (.tmp 206) 38 rfl Try.underlying38 I3.out.1 I3.out.2.1 I3.out.2.2.1 I3.out.2.2.2 rfl (by decide) (p := a4) (cp := c4) (n := B.length) (xs := B.map KP.lv) (L := seg true k 0 [.slice a1 A.length c1, .slice b2 (B.length + 1) d2, .slice a3 A.length c3, .slice a4 B.length c4, .slice a5 A.length c5, .slice a6 B.length c6] :: row a1 c1 1 A.length (A.map KI.fv) :: row b2 d2 1 (B.length + 1) (B.map KP.fv ++ [.func (.func 40) #[] #[.pointer (some ⟨gi, 0, none⟩)]]) :: row a3 c3 1 A.length (A.map KI.lv) :: row a5 c5 1 A.length (A.map KI.vv) :: row a6 c6 1 B.length (B.map KP.vv) :: stars (A.map KI.a) :: stars (B.map KP.a) :: seg true gi 0 [.slice p1 n c1x, .slice p2 n c2x] :: row p1 c1x 1 n (held.map .bool) :: row p2 c2x 2 n (tv.flatMap enc2) :: row hp hc 1 m (ints (idxT held n)) :: row q d 2 m (valsP tv (idxT held n)) :: seg true g 0 [.int .i64 on, .int .i64 5, .int .i64 h, .int .i64 v] :: seg true b 0 [.slice (some ⟨hb,0,none⟩) n n, .slice (some ⟨vb,0,none⟩) n n] :: seg true hb 0 (held.map .bool) :: seg true vb 0 (tv.flatMap enc2) :: seg true rb 0 [.slice (some ⟨rhb,0,none⟩) n n, .slice (some ⟨rvb,0,none⟩) n n] :: seg true rhb 0 (held.map .bool) :: seg true rvb 0 (rv.map fun x => Value.int .i64 x) :: L) (by have h9 := st2.alloc' (.cells #[.slice hp m hc] 50); exact (Sat.sub (h9) (by with_reducible repeat first | exact Fr1 | exact Fr2 | (apply Fr3; focus ((repeat (first | exact Tk1 | apply Tk2)); done)) | apply Fr4))) rfl (some _) 1 1 rfl [.slice hp m hc] rfl (by rw [← (by simp : (wy2.setCell ⟨k, 1, none⟩ (.slice b2 (B.length + 1) d2)).heap.size = wy2.heap.size)]; exact (st2.alloc #[.slice hp m hc] 50).news) (fun h => by cases h) (by intro u hu; simp only [List.mem_singleton] at hu; subst hu; rfl) (by unfold maxLen; omega) (by omega) ?_; intro b4 d4 wy4 sx4 _ _; have sy4 : Sat W0 wy4 (seg true k 0 [.slice a1 A.length c1, .slice b2 (B.length + 1) d2, .slice a3 A.length c3, .slice a4 B.length c4, .slice a5 A.length c5, .slice a6 B.length c6] :: row a1 c1 1 A.length (A.map KI.fv) :: row b2 d2 1 (B.length + 1) (B.map KP.fv ++ [.func (.func 40) #[] #[.pointer (some ⟨gi, 0, none⟩)]]) :: row a3 c3 1 A.length (A.map KI.lv) :: row b4 d4 1 (B.length + 1) (B.map KP.lv ++ [.slice hp m hc]) :: row a5 c5 1 A.length (A.map KI.vv) :: row a6 c6 1 B.length (B.map KP.vv) :: stars (A.map KI.a) :: stars (B.map KP.a) :: seg true gi 0 [.slice p1 n c1x, .slice p2 n c2x] :: row p1 c1x 1 n (held.map .bool) :: row p2 c2x 2 n (tv.flatMap enc2) :: row hp hc 1 m (ints (idxT held n)) :: row q d 2 m (valsP tv (idxT held n)) :: seg true g 0 [.int .i64 on, .int .i64 5, .int .i64 h, .int .i64 v] :: seg true b 0 [.slice (some ⟨hb,0,none⟩) n n, .slice (some ⟨vb,0,none⟩) n n] :: seg true hb 0 (held.map .bool) :: seg true vb 0 (tv.flatMap enc2) :: seg true rb 0 [.slice (some ⟨rhb,0,none⟩) n n, .slice (some ⟨rvb,0,none⟩) n n] :: seg true rhb 0 (held.map .bool) :: seg true rvb 0 (rv.map fun x => Value.int .i64 x) :: L) := (Sat.sub (sx4) (by with_reducible repeat first | exact Fr1 | exact Fr2 | (apply Fr3; focus ((repeat (first | exact Tk1 | apply Tk2)); done)) | apply Fr4)); clear sx4 k1 k2 k3 kf1 kf2 kf3 kz st2; have k1 := sy4.at 1 rfl; have k2 := sy4.at 3 rfl; have k3 := sy4.at 5 rfl; have kf1 := sy4.fr 1 (by simp); have kf2 := sy4.fr 3 (by simp); have kf3 := sy4.fr 5 (by simp); have kz := sy4.lt (by simp); have st4 : Sat W0 _ (seg true k 0 [.slice a1 A.length c1, .slice b2 (B.length + 1) d2, .slice a3 A.length c3, .slice b4 (B.length + 1) d4, .slice a5 A.length c5, .slice a6 B.length c6] :: row a1 c1 1 A.length (A.map KI.fv) :: row b2 d2 1 (B.length + 1) (B.map KP.fv ++ [.func (.func 40) #[] #[.pointer (some ⟨gi, 0, none⟩)]]) :: row a3 c3 1 A.length (A.map KI.lv) :: row b4 d4 1 (B.length + 1) (B.map KP.lv ++ [.slice hp m hc]) :: row a5 c5 1 A.length (A.map KI.vv) :: row a6 c6 1 B.length (B.map KP.vv) :: stars (A.map KI.a) :: stars (B.map KP.a) :: seg true gi 0 [.slice p1 n c1x, .slice p2 n c2x] :: row p1 c1x 1 n (held.map .bool) :: row p2 c2x 2 n (tv.flatMap enc2) :: row hp hc 1 m (ints (idxT held n)) :: row q d 2 m (valsP tv (idxT held n)) :: seg true g 0 [.int .i64 on, .int .i64 5, .int .i64 h, .int .i64 v] :: seg true b 0 [.slice (some ⟨hb,0,none⟩) n n, .slice (some ⟨vb,0,none⟩) n n] :: seg true hb 0 (held.map .bool) :: seg true vb 0 (tv.flatMap enc2) :: seg true rb 0 [.slice (some ⟨rhb,0,none⟩) n n, .slice (some ⟨rvb,0,none⟩) n n] :: seg true rhb 0 (held.map .bool) :: seg true rvb 0 (rv.map fun x => Value.int .i64 x) :: L) := sy4.store (i := 3) (by simp) (.slice b4 (B.length + 1) d4) (q := 3) rfl; clear sy4) | (at_builtin; refine wpl_append rfl (.tmp 214) (.tmp 216) 39 rfl Try.underlying39 I5.out.1 I5.out.2.1 I5.out.2.2.1 I5.out.2.2.2 rfl (by decide) (p := a6) (cp := c6) (n := B.length) (xs := B.map KP.vv) (L := seg true k 0 [.slice a1 A.length c1, .slice b2 (B.length + 1) d2, .slice a3 A.length c3, .slice b4 (B.length + 1) d4, .slice a5 A.length c5, .slice a6 B.length c6] :: row a1 c1 1 A.length (A.map KI.fv) :: row b2 d2 1 (B.length + 1) (B.map KP.fv ++ [.func (.func 40) #[] #[.pointer (some ⟨gi, 0, none⟩)]]) :: row a3 c3 1 A.length (A.map KI.lv) :: row b4 d4 1 (B.length + 1) (B.map KP.lv ++ [.slice hp m hc]) :: row a5 c5 1 A.length (A.map KI.vv) :: stars (A.map KI.a) :: stars (B.map KP.a) :: seg true gi 0 [.slice p1 n c1x, .slice p2 n c2x] :: row p1 c1x 1 n (held.map .bool) :: row p2 c2x 2 n (tv.flatMap enc2) :: row hp hc 1 m (ints (idxT held n)) :: row q d 2 m (valsP tv (idxT held n)) :: seg true g 0 [.int .i64 on, .int .i64 5, .int .i64 h, .int .i64 v] :: seg true b 0 [.slice (some ⟨hb,0,none⟩) n n, .slice (some ⟨vb,0,none⟩) n n] :: seg true hb 0 (held.map .bool) :: seg true vb 0 (tv.flatMap enc2) :: seg true rb 0 [.slice (some ⟨rhb,0,none⟩) n n, .slice (some ⟨rvb,0,none⟩) n n] :: seg true rhb 0 (held.map .bool) :: seg true rvb 0 (rv.map fun x => Value.int .i64 x) :: L) (by have h9 := st4.alloc' (.cells #[.slice q m d] 53); exact (Sat.sub (h9) (by with_reducible repeat first | exact Fr1 | exact Fr2 | (apply Fr3; focus ((repeat (first | exact Tk1 | apply Tk2)); done)) | apply Fr4))) rfl (some _) 1 1 rfl [.slice q m d] rfl (by rw [← (by simp : (wy4.setCell ⟨k, 3, none⟩ (.slice b4 (B.length + 1) d4)).heap.size = wy4.heap.size)]; exact (st4.alloc #[.slice q m d] 53).news) (fun h => by cases h) (by intro u hu; simp only [List.mem_singleton] at hu; subst hu; rfl) (by unfold maxLen; omega) (by omega) ?_; intro b6 d6 wy6 sx6 _ _; have sy6 : Sat W0 wy6 (seg true k 0 [.slice a1 A.length c1, .slice b2 (B.length + 1) d2, .slice a3 A.length c3, .slice b4 (B.length + 1) d4, .slice a5 A.length c5, .slice a6 B.length c6] :: row a1 c1 1 A.length (A.map KI.fv) :: row b2 d2 1 (B.length + 1) (B.map KP.fv ++ [.func (.func 40) #[] #[.pointer (some ⟨gi, 0, none⟩)]]) :: row a3 c3 1 A.length (A.map KI.lv) :: row b4 d4 1 (B.length + 1) (B.map KP.lv ++ [.slice hp m hc]) :: row a5 c5 1 A.length (A.map KI.vv) :: row b6 d6 1 (B.length + 1) (B.map KP.vv ++ [.slice q m d]) :: stars (A.map KI.a) :: stars (B.map KP.a) :: seg true gi 0 [.slice p1 n c1x, .slice p2 n c2x] :: row p1 c1x 1 n (held.map .bool) :: row p2 c2x 2 n (tv.flatMap enc2) :: row hp hc 1 m (ints (idxT held n)) :: row q d 2 m (valsP tv (idxT held n)) :: seg true g 0 [.int .i64 on, .int .i64 5, .int .i64 h, .int .i64 v] :: seg true b 0 [.slice (some ⟨hb,0,none⟩) n n, .slice (some ⟨vb,0,none⟩) n n] :: seg true hb 0 (held.map .bool) :: seg true vb 0 (tv.flatMap enc2) :: seg true rb 0 [.slice (some ⟨rhb,0,none⟩) n n, .slice (some ⟨rvb,0,none⟩) n n] :: seg true rhb 0 (held.map .bool) :: seg true rvb 0 (rv.map fun x => Value.int .i64 x) :: L) := (Sat.sub (sx6) (by with_reducible repeat first | exact Fr1 | exact Fr2 | (apply Fr3; focus ((repeat (first | exact Tk1 | apply Tk2)); done)) | apply Fr4)); clear sx6 k1 k2 k3 kf1 kf2 kf3 kz st4; have k1 := sy6.at 1 rfl; have k2 := sy6.at 3 rfl; have k3 := sy6.at 5 rfl; have kf1 := sy6.fr 1 (by simp); have kf2 := sy6.fr 3 (by simp); have kf3 := sy6.fr 5 (by simp); have kz := sy6.lt (by simp); have st6 : Sat W0 _ (seg true k 0 [.slice a1 A.length c1, .slice b2 (B.length + 1) d2, .slice a3 A.length c3, .slice b4 (B.length + 1) d4, .slice a5 A.length c5, .slice b6 (B.length + 1) d6] :: row a1 c1 1 A.length (A.map KI.fv) :: row b2 d2 1 (B.length + 1) (B.map KP.fv ++ [.func (.func 40) #[] #[.pointer (some ⟨gi, 0, none⟩)]]) :: row a3 c3 1 A.length (A.map KI.lv) :: row b4 d4 1 (B.length + 1) (B.map KP.lv ++ [.slice hp m hc]) :: row a5 c5 1 A.length (A.map KI.vv) :: row b6 d6 1 (B.length + 1) (B.map KP.vv ++ [.slice q m d]) :: stars (A.map KI.a) :: stars (B.map KP.a) :: seg true gi 0 [.slice p1 n c1x, .slice p2 n c2x] :: row p1 c1x 1 n (held.map .bool) :: row p2 c2x 2 n (tv.flatMap enc2) :: row hp hc 1 m (ints (idxT held n)) :: row q d 2 m (valsP tv (idxT held n)) :: seg true g 0 [.int .i64 on, .int .i64 5, .int .i64 h, .int .i64 v] :: seg true b 0 [.slice (some ⟨hb,0,none⟩) n n, .slice (some ⟨vb,0,none⟩) n n] :: seg true hb 0 (held.map .bool) :: seg true vb 0 (tv.flatMap enc2) :: seg true rb 0 [.slice (some ⟨rhb,0,none⟩) n n, .slice (some ⟨rvb,0,none⟩) n n] :: seg true rhb 0 (held.map .bool) :: seg true rvb 0 (rv.map fun x => Value.int .i64 x) :: L) := sy6.store (i := 5) (by simp) (.slice b6 (B.length + 1) d6) (q := 5) rfl; have g3 := ((Sat.sub (sy6) (by with_reducible repeat first | exact Fr1 | exact Fr2 | (apply Fr3; focus ((repeat (first | exact Tk1 | apply Tk2)); done)) | apply Fr4)) : Sat W0 _ (seg true g 0 [.int .i64 on, .int .i64 5, .int .i64 h, .int .i64 v] :: [])).at 3 rfl; have gz := ((Sat.sub (sy6) (by with_reducible repeat first | exact Fr1 | exact Fr2 | (apply Fr3; focus ((repeat (first | exact Tk1 | apply Tk2)); done)) | apply Fr4)) : Sat W0 _ (seg true g 0 [.int .i64 on, .int .i64 5, .int .i64 h, .int .i64 v] :: [])).lt (by simp); have hgk := ((Sat.sub (sy6) (by with_reducible repeat first | exact Fr1 | exact Fr2 | (apply Fr3; focus ((repeat (first | exact Tk1 | apply Tk2)); done)) | apply Fr4)) : Sat W0 _ (seg true g 0 [.int .i64 on, .int .i64 5, .int .i64 h, .int .i64 v] :: seg true k 0 [.slice a1 A.length c1, .slice b2 (B.length + 1) d2, .slice a3 A.length c3, .slice b4 (B.length + 1) d4, .slice a5 A.length c5, .slice a6 B.length c6] :: [])).ne' (by simp) (by simp); have hkg := Ne.symm hgk; clear sy6))
      have sw : Sat W0 _ (seg true gi 0 [.slice p1 n c1x, .slice p2 n c2x] :: row p1 c1x 1 n (held.map .bool) :: row p2 c2x 2 n (tv.flatMap enc2) :: row hp hc 1 m (ints (idxT held n)) :: row q d 2 m (valsP tv (idxT held n)) :: seg true k 0 [.slice a1 A.length c1, .slice b2 (B.length + 1) d2, .slice a3 A.length c3, .slice b4 (B.length + 1) d4, .slice a5 A.length c5, .slice b6 (B.length + 1) d6] :: row a1 c1 1 A.length (A.map KI.fv) :: row b2 d2 1 (B.length + 1) (B.map KP.fv ++ [.func (.func 40) #[] #[.pointer (some ⟨gi, 0, none⟩)]]) :: row a3 c3 1 A.length (A.map KI.lv) :: row b4 d4 1 (B.length + 1) (B.map KP.lv ++ [.slice hp m hc]) :: row a5 c5 1 A.length (A.map KI.vv) :: row b6 d6 1 (B.length + 1) (B.map KP.vv ++ [.slice q m d]) :: stars (A.map KI.a) :: stars (B.map KP.a) :: seg true b 0 [.slice (some ⟨hb,0,none⟩) n n, .slice (some ⟨vb,0,none⟩) n n] :: seg true hb 0 (held.map .bool) :: seg true vb 0 (tv.flatMap enc2) :: seg true rb 0 [.slice (some ⟨rhb,0,none⟩) n n, .slice (some ⟨rvb,0,none⟩) n n] :: seg true rhb 0 (held.map .bool) :: seg true rvb 0 (rv.map fun x => Value.int .i64 x) :: L) := (Sat.sub (st6) (by with_reducible repeat first | exact Fr1 | exact Fr2 | (apply Fr3; focus ((repeat (first | exact Tk1 | apply Tk2)); done)) | apply Fr4))
      clear st6
      refine (walk_pr held tv HG.out.1 HG.out.2.1 h0 hsm HM.out v sw).mono ?_
      rintro e w9 ⟨rfl, s9⟩
      clear sw g3 gz k1 k2 k3 kf1 kf2 kf3 kz
      obtain ⟨K, hK⟩ : ∃ K : KP, K = ⟨n, gi, m, c1x, c2x, hc, d, p1, p2, hp, q, held, tv, HG.out.1, HG.out.2.1, h0, hsm, HM.out⟩ := ⟨_, rfl⟩
      have sk : Sat W0 w9 (K.a :: stars (B.map KP.a) :: stars (A.map KI.a) :: seg true k 0 [.slice a1 A.length c1, .slice b2 (B.length + 1) d2, .slice a3 A.length c3, .slice b4 (B.length + 1) d4, .slice a5 A.length c5, .slice b6 (B.length + 1) d6] :: row a1 c1 1 A.length (A.map KI.fv) :: row b2 d2 1 (B.length + 1) (B.map KP.fv ++ [.func (.func 40) #[] #[.pointer (some ⟨gi, 0, none⟩)]]) :: row a3 c3 1 A.length (A.map KI.lv) :: row b4 d4 1 (B.length + 1) (B.map KP.lv ++ [.slice hp m hc]) :: row a5 c5 1 A.length (A.map KI.vv) :: row b6 d6 1 (B.length + 1) (B.map KP.vv ++ [.slice q m d]) :: seg true b 0 [.slice (some ⟨hb,0,none⟩) n n, .slice (some ⟨vb,0,none⟩) n n] :: seg true hb 0 (held.map .bool) :: seg true vb 0 (tv.flatMap enc2) :: seg true rb 0 [.slice (some ⟨rhb,0,none⟩) n n, .slice (some ⟨rvb,0,none⟩) n n] :: seg true rhb 0 (held.map .bool) :: seg true rvb 0 (rv.map fun x => Value.int .i64 x) :: L) := by
        subst hK
        exact KP.shut ((Sat.sub (s9) (by with_reducible repeat first | exact Fr1 | exact Fr2 | (apply Fr3; focus ((repeat (first | exact Tk1 | apply Tk2)); done)) | apply Fr4)))
      have hrw : (B.map KP.fv ++ [.func (.func 40) #[] #[.pointer (some ⟨gi, 0, none⟩)]] = (B ++ [K]).map KP.fv) ∧ (B.map KP.lv ++ [.slice hp m hc] = (B ++ [K]).map KP.lv) ∧ (B.map KP.vv ++ [.slice q m d] = (B ++ [K]).map KP.vv) ∧ (B.map KP.a ++ [K.a] = (B ++ [K]).map KP.a) := by
        subst hK
        exact ⟨by simp [KP.fv], by simp [KP.lv], by simp [KP.vv], by simp⟩
      have sm := sk.starsSnoc
      rw [hrw.1, hrw.2.1, hrw.2.2.1, hrw.2.2.2] at sm
      have se : Sat W0 w9 (keptA k A (B ++ [K]) :: tP b hb vb rb rhb rvb n held tv rv L) := keptShut (nA := A.length) (nB := B.length + 1) rfl (by simp) ((Sat.sub (sm) (by with_reducible repeat first | exact Fr1 | exact Fr2 | (apply Fr3; focus ((repeat (first | exact Tk1 | apply Tk2)); done)) | apply Fr4)))
      have HS := Lib.hid se
      clear s9 sk sm se hrw hK
      go_wp2_with fail
      go_ret
      exact ⟨rfl, B ++ [K], held, tv, rv, by simp, HG.out, HS.out⟩
end Go.Proofs.Ytpiiklfnakkdiaa
