
/- All iterators that were kept, once more; under the conditions that each names. -/
import Derived.Test.YtpiiklfnakkdiaaTap
namespace Go.Sep
open Go.RowKit
/-- A row that is read: what lies where a slice points. -/
def rd (p : Option Addr) (xs : List Value) : Assn := fun h => ∀ i v, xs[i]? = some v → ∃ b, p = some ⟨b, 0, none⟩ ∧ h b i = some (true, v)
theorem Sat.rowRd {W0 w : World} {L : List Assn} {p : Option Addr} {c n : Nat} {xs : List Value} (h : Sat W0 w (row p c 1 n xs :: L)) : Sat W0 w (rd p xs :: L) := h.imp fun x hx i v hv => by
  obtain ⟨hl, hA⟩ := hx
  have hi : i < xs.length := (List.getElem?_eq_some_iff.1 hv).1
  rcases hA with ⟨rfl, rfl, rfl⟩ | ⟨g, rest, rfl, hn, hm, hc, hx⟩
  · omega
  · refine ⟨g, rfl, ?_⟩
    have := hx i v (by rw [List.getElem?_append_left hi]; exact hv)
    rw [Nat.zero_add] at this
    exact this
theorem Sat.rdAt {W0 w : World} {L : List Assn} {p : Option Addr} {xs : List Value} (h : Sat W0 w (rd p xs :: L)) {i : Nat} {v : Value} (hv : xs[i]? = some v) : ∃ b, p = some ⟨b, 0, none⟩ ∧ w.cell? ⟨b, i, none⟩ = some v ∧ b < w.heap.size := by
  obtain ⟨_, hs, hf⟩ := h
  obtain ⟨x, t, rfl, hA, ok, _, _⟩ := hf.head
  obtain ⟨b, rfl, hb⟩ := hA i v hv
  have := (ok.1 _ _ _ _ hb).1
  exact ⟨b, rfl, this, World.block_lt_of_cell? w _ this⟩
theorem Sat.rdCell {W0 w : World} {L : List Assn} {b : Nat} {xs : List Value} (h : Sat W0 w (rd (some ⟨b, 0, none⟩) xs :: L)) {i : Nat} {v : Value} (hv : xs[i]? = some v) : w.cell? ⟨b, i, none⟩ = some v ∧ b < w.heap.size := by
  obtain ⟨b', e, h1, h2⟩ := h.rdAt hv
  cases e
  exact ⟨h1, h2⟩
end Go.Sep
namespace Go.Proofs.Ytpiiklfnakkdiaa
open Go.RowKit Go.Sep
set_option linter.unusedVariables false
set_option linter.unusedSimpArgs false
set_option maxRecDepth 100000 in
set_option maxHeartbeats 4000000 in
theorem again_any {W0 w : World} {L : List Assn} {k : Nat} {A : List KI} {B : List KP} (hA : A.length ≤ 200000) (hB : B.length ≤ 200000) (hs : Sat W0 w (keptA k A B :: L)) :
    Calls Try.prog 10 #[.pointer (some ⟨k,0,none⟩)] w fun e w' => e = .returned (.bool true) ∧ Sat W0 w' [] := by
  obtain ⟨a1, c1, a2, c2, a3, c3, a4, c4, a5, c5, a6, c6, s1⟩ := keptOpen hs
  clear hs
  have s2 := ((Sat.sub (s1) (by with_reducible repeat first | exact Fr1 | exact Fr2 | (apply Fr3; focus ((repeat (first | exact Tk1 | apply Tk2)); done)) | apply Fr4)) : Sat W0 w (row a1 c1 1 A.length (A.map KI.fv) :: seg true k 0 [.slice a1 A.length c1, .slice a2 B.length c2, .slice a3 A.length c3, .slice a4 B.length c4, .slice a5 A.length c5, .slice a6 B.length c6] :: row a2 c2 1 B.length (B.map KP.fv) :: row a3 c3 1 A.length (A.map KI.lv) :: row a4 c4 1 B.length (B.map KP.lv) :: row a5 c5 1 A.length (A.map KI.vv) :: row a6 c6 1 B.length (B.map KP.vv) :: stars (A.map KI.a) :: stars (B.map KP.a) :: [])).rowRd
  have s3 := ((Sat.sub (s2) (by with_reducible repeat first | exact Fr1 | exact Fr2 | (apply Fr3; focus ((repeat (first | exact Tk1 | apply Tk2)); done)) | apply Fr4)) : Sat W0 w (row a2 c2 1 B.length (B.map KP.fv) :: seg true k 0 [.slice a1 A.length c1, .slice a2 B.length c2, .slice a3 A.length c3, .slice a4 B.length c4, .slice a5 A.length c5, .slice a6 B.length c6] :: rd a1 (A.map KI.fv) :: row a3 c3 1 A.length (A.map KI.lv) :: row a4 c4 1 B.length (B.map KP.lv) :: row a5 c5 1 A.length (A.map KI.vv) :: row a6 c6 1 B.length (B.map KP.vv) :: stars (A.map KI.a) :: stars (B.map KP.a) :: [])).rowRd
  have s4 := ((Sat.sub (s3) (by with_reducible repeat first | exact Fr1 | exact Fr2 | (apply Fr3; focus ((repeat (first | exact Tk1 | apply Tk2)); done)) | apply Fr4)) : Sat W0 w (row a3 c3 1 A.length (A.map KI.lv) :: seg true k 0 [.slice a1 A.length c1, .slice a2 B.length c2, .slice a3 A.length c3, .slice a4 B.length c4, .slice a5 A.length c5, .slice a6 B.length c6] :: rd a1 (A.map KI.fv) :: rd a2 (B.map KP.fv) :: row a4 c4 1 B.length (B.map KP.lv) :: row a5 c5 1 A.length (A.map KI.vv) :: row a6 c6 1 B.length (B.map KP.vv) :: stars (A.map KI.a) :: stars (B.map KP.a) :: [])).rowRd
  have s5 := ((Sat.sub (s4) (by with_reducible repeat first | exact Fr1 | exact Fr2 | (apply Fr3; focus ((repeat (first | exact Tk1 | apply Tk2)); done)) | apply Fr4)) : Sat W0 w (row a4 c4 1 B.length (B.map KP.lv) :: seg true k 0 [.slice a1 A.length c1, .slice a2 B.length c2, .slice a3 A.length c3, .slice a4 B.length c4, .slice a5 A.length c5, .slice a6 B.length c6] :: rd a1 (A.map KI.fv) :: rd a2 (B.map KP.fv) :: rd a3 (A.map KI.lv) :: row a5 c5 1 A.length (A.map KI.vv) :: row a6 c6 1 B.length (B.map KP.vv) :: stars (A.map KI.a) :: stars (B.map KP.a) :: [])).rowRd
  have s6 := ((Sat.sub (s5) (by with_reducible repeat first | exact Fr1 | exact Fr2 | (apply Fr3; focus ((repeat (first | exact Tk1 | apply Tk2)); done)) | apply Fr4)) : Sat W0 w (row a5 c5 1 A.length (A.map KI.vv) :: seg true k 0 [.slice a1 A.length c1, .slice a2 B.length c2, .slice a3 A.length c3, .slice a4 B.length c4, .slice a5 A.length c5, .slice a6 B.length c6] :: rd a1 (A.map KI.fv) :: rd a2 (B.map KP.fv) :: rd a3 (A.map KI.lv) :: rd a4 (B.map KP.lv) :: row a6 c6 1 B.length (B.map KP.vv) :: stars (A.map KI.a) :: stars (B.map KP.a) :: [])).rowRd
  have s7 := ((Sat.sub (s6) (by with_reducible repeat first | exact Fr1 | exact Fr2 | (apply Fr3; focus ((repeat (first | exact Tk1 | apply Tk2)); done)) | apply Fr4)) : Sat W0 w (row a6 c6 1 B.length (B.map KP.vv) :: seg true k 0 [.slice a1 A.length c1, .slice a2 B.length c2, .slice a3 A.length c3, .slice a4 B.length c4, .slice a5 A.length c5, .slice a6 B.length c6] :: rd a1 (A.map KI.fv) :: rd a2 (B.map KP.fv) :: rd a3 (A.map KI.lv) :: rd a4 (B.map KP.lv) :: rd a5 (A.map KI.vv) :: stars (A.map KI.a) :: stars (B.map KP.a) :: [])).rowRd
  have s8 : Sat W0 w (seg true k 0 [.slice a1 A.length c1, .slice a2 B.length c2, .slice a3 A.length c3, .slice a4 B.length c4, .slice a5 A.length c5, .slice a6 B.length c6] :: rd a1 (A.map KI.fv) :: rd a2 (B.map KP.fv) :: rd a3 (A.map KI.lv) :: rd a4 (B.map KP.lv) :: rd a5 (A.map KI.vv) :: rd a6 (B.map KP.vv) :: stars (A.map KI.a) :: stars (B.map KP.a) :: []) := (Sat.sub (s7) (by with_reducible repeat first | exact Fr1 | exact Fr2 | (apply Fr3; focus ((repeat (first | exact Tk1 | apply Tk2)); done)) | apply Fr4))
  clear s1 s2 s3 s4 s5 s6 s7
  obtain ⟨NA, hNA⟩ : ∃ x, x = A.length := ⟨_, rfl⟩
  obtain ⟨NB, hNB⟩ : ∃ x, x = B.length := ⟨_, rfl⟩
  rw [← hNA, ← hNB] at s8
  rw [← hNA] at hA
  rw [← hNB] at hB
  have HN := Lib.hid (And.intro hNA hNB); clear hNA hNB
  go_enter Try.func10, Try.ntmps10
  go_wp2
  go_loopw [3] (fun t3 wr => ∃ i : Nat, i ≤ NA ∧ t3 = .int .i64 (i : Int) ∧ Sat W0 wr (seg true k 0 [.slice a1 NA c1, .slice a2 NB c2, .slice a3 NA c3, .slice a4 NB c4, .slice a5 NA c5, .slice a6 NB c6] :: rd a1 (A.map KI.fv) :: rd a2 (B.map KP.fv) :: rd a3 (A.map KI.lv) :: rd a4 (B.map KP.lv) :: rd a5 (A.map KI.vv) :: rd a6 (B.map KP.vv) :: stars ((A.drop i).map KI.a) :: stars (B.map KP.a) :: [])) (fun t3 _ => NA - (intOf t3).toNat)
  case atStart => exact ⟨0, Nat.zero_le _, rfl, s8⟩
  case round =>
    clear s8
    obtain ⟨i, hi, rfl, s⟩ := hrel
    have kc := s.at 0 rfl
    have kz := s.lt (by simp)
    by_cases hlt : i < NA
    · obtain ⟨Kx, hK⟩ : ∃ K, A[i]? = some K := ⟨_, List.getElem?_eq_getElem (by rw [← HN.out.1]; exact hlt)⟩
      have hdrop : A.drop i = Kx :: A.drop (i + 1) := by
        obtain ⟨hb, rfl⟩ := List.getElem?_eq_some_iff.1 hK
        exact List.drop_eq_getElem_cons hb
      rw [hdrop, List.map_cons] at s
      have v1 : (A.map KI.fv)[i]? = some (.func (.func 37) #[] #[.pointer (some ⟨Kx.g, 0, none⟩)]) := by rw [List.getElem?_map, hK]; rfl
      have v2 : (A.map KI.lv)[i]? = some (.slice Kx.hp Kx.m Kx.hc) := by rw [List.getElem?_map, hK]; rfl
      have v3 : (A.map KI.vv)[i]? = some (.slice Kx.vp Kx.m Kx.vc) := by rw [List.getElem?_map, hK]; rfl
      obtain ⟨x1, rfl, -, -⟩ := ((Sat.sub (s) (by with_reducible repeat first | exact Fr1 | exact Fr2 | (apply Fr3; focus ((repeat (first | exact Tk1 | apply Tk2)); done)) | apply Fr4)) : Sat W0 wr (rd a1 (A.map KI.fv) :: [])).rdAt v1
      obtain ⟨x3, rfl, -, -⟩ := ((Sat.sub (s) (by with_reducible repeat first | exact Fr1 | exact Fr2 | (apply Fr3; focus ((repeat (first | exact Tk1 | apply Tk2)); done)) | apply Fr4)) : Sat W0 wr (rd a3 (A.map KI.lv) :: [])).rdAt v2
      obtain ⟨x5, rfl, -, -⟩ := ((Sat.sub (s) (by with_reducible repeat first | exact Fr1 | exact Fr2 | (apply Fr3; focus ((repeat (first | exact Tk1 | apply Tk2)); done)) | apply Fr4)) : Sat W0 wr (rd a5 (A.map KI.vv) :: [])).rdAt v3
      have hkeep : ∀ w', Sat W0 w' (seg true k 0 [.slice (some ⟨x1, 0, none⟩) NA c1, .slice a2 NB c2, .slice (some ⟨x3, 0, none⟩) NA c3, .slice a4 NB c4, .slice (some ⟨x5, 0, none⟩) NA c5, .slice a6 NB c6] :: rd (some ⟨x1, 0, none⟩) (A.map KI.fv) :: rd (some ⟨x3, 0, none⟩) (A.map KI.lv) :: rd (some ⟨x5, 0, none⟩) (A.map KI.vv) :: []) →  w'.cell? ⟨k, 0, none⟩ = some (.slice (some ⟨x1,0,none⟩) NA c1) ∧ w'.cell? ⟨k, 2, none⟩ = some (.slice (some ⟨x3,0,none⟩) NA c3) ∧ w'.cell? ⟨k, 4, none⟩ = some (.slice (some ⟨x5,0,none⟩) NA c5) ∧ k < w'.heap.size ∧ w'.cell? ⟨x1, i, none⟩ = some (.func (.func 37) #[] #[.pointer (some ⟨Kx.g, 0, none⟩)]) ∧ x1 < w'.heap.size ∧ w'.cell? ⟨x3, i, none⟩ = some (.slice Kx.hp Kx.m Kx.hc) ∧ x3 < w'.heap.size ∧ w'.cell? ⟨x5, i, none⟩ = some (.slice Kx.vp Kx.m Kx.vc) ∧ x5 < w'.heap.size := fun w' h => by
        have h1 := Sat.rdCell ((Sat.sub (h) (by with_reducible repeat first | exact Fr1 | exact Fr2 | (apply Fr3; focus ((repeat (first | exact Tk1 | apply Tk2)); done)) | apply Fr4)) : Sat W0 w' (rd (some ⟨x1, 0, none⟩) (A.map KI.fv) :: [])) v1
        have h2 := Sat.rdCell ((Sat.sub (h) (by with_reducible repeat first | exact Fr1 | exact Fr2 | (apply Fr3; focus ((repeat (first | exact Tk1 | apply Tk2)); done)) | apply Fr4)) : Sat W0 w' (rd (some ⟨x3, 0, none⟩) (A.map KI.lv) :: [])) v2
        have h3 := Sat.rdCell ((Sat.sub (h) (by with_reducible repeat first | exact Fr1 | exact Fr2 | (apply Fr3; focus ((repeat (first | exact Tk1 | apply Tk2)); done)) | apply Fr4)) : Sat W0 w' (rd (some ⟨x5, 0, none⟩) (A.map KI.vv) :: [])) v3
        exact ⟨h.at 0 rfl, h.at 2 rfl, h.at 4 rfl, h.lt (by simp), h1.1, h1.2, h2.1, h2.2, h3.1, h3.2⟩
      have HKEEP := Lib.hid hkeep; clear hkeep v1 v2 v3 hdrop hK
      have so := KI.open (Sat.starsPop ((Sat.sub (s) (by with_reducible repeat first | exact Fr1 | exact Fr2 | (apply Fr3; focus ((repeat (first | exact Tk1 | apply Tk2)); done)) | apply Fr4)) : Sat W0 wr (stars (Kx.a :: (A.drop (i + 1)).map KI.a) :: seg true k 0 [.slice (some ⟨x1, 0, none⟩) NA c1, .slice a2 NB c2, .slice (some ⟨x3, 0, none⟩) NA c3, .slice a4 NB c4, .slice (some ⟨x5, 0, none⟩) NA c5, .slice a6 NB c6] :: rd (some ⟨x1, 0, none⟩) (A.map KI.fv) :: rd a2 (B.map KP.fv) :: rd (some ⟨x3, 0, none⟩) (A.map KI.lv) :: rd a4 (B.map KP.lv) :: rd (some ⟨x5, 0, none⟩) (A.map KI.vv) :: rd a6 (B.map KP.vv) :: stars (B.map KP.a) :: [])))
      have sod := so.drew
      clear s so
      have hlt' : (i : Int) < (NA : Int) := by omega
      go_wp2_with fail
      clear kc kz
      refine region_E (fun w' => w'.cell? ⟨k, 0, none⟩ = some (.slice (some ⟨x1,0,none⟩) NA c1) ∧ w'.cell? ⟨k, 2, none⟩ = some (.slice (some ⟨x3,0,none⟩) NA c3) ∧ w'.cell? ⟨k, 4, none⟩ = some (.slice (some ⟨x5,0,none⟩) NA c5) ∧ k < w'.heap.size ∧ w'.cell? ⟨x1, i, none⟩ = some (.func (.func 37) #[] #[.pointer (some ⟨Kx.g, 0, none⟩)]) ∧ x1 < w'.heap.size ∧ w'.cell? ⟨x3, i, none⟩ = some (.slice Kx.hp Kx.m Kx.hc) ∧ x3 < w'.heap.size ∧ w'.cell? ⟨x5, i, none⟩ = some (.slice Kx.vp Kx.m Kx.vc) ∧ x5 < w'.heap.size) [3, 6, 10, 13, 17, 20, 27, 30, 34, 37, 41, 44] (by kernel_rfl) ?_
      have hHeld := (HKEEP.out _ (Sat.sub (sod) (by with_reducible repeat first | exact Fr1 | exact Fr2 | (apply Fr3; focus ((repeat (first | exact Tk1 | apply Tk2)); done)) | apply Fr4)))
      iterate 21
       first | refine autoT hHeld (by rfl) (by rfl) (x := ?_) (v := ?_) ?_ (by kernel_rfl) ?_ ?_ ?_ | refine autoP (by rfl) (x := ?_) (v := ?_) ?_ (by kernel_rfl) ?_ ?_ ?_
       rotate_left 2
       · (simp only [gE1, gE2, gE3]; rfl)
       · exact fun _ _ _ h => h
       · refine Or.inl ⟨by rfl, fun w hSw => ?_⟩
         (try dsimp only at hSw)
         go_simp
         try (with_reducible rfl)
       try simp only [pA1, pA2, pA3, pA4]
      refine anyE_one (i := 21) (x := ?_) ?_ (by kernel_rfl) (fun K hK => ?_)
      rotate_left
      · (simp only [gE1, gE2, gE3]; rfl)
      go_simp
      refine (walk_int Kx.held Kx.vals Kx.hn Kx.hv Kx.h0 Kx.hsm Kx.hm 0 ((Sat.sub (sod) (by with_reducible repeat first | exact Fr1 | exact Fr2 | (apply Fr3; focus ((repeat (first | exact Tk1 | apply Tk2)); done)) | apply Fr4)) : Sat W0 _ (seg true Kx.g 0 [.slice Kx.p1 Kx.n Kx.c1, .slice Kx.p2 Kx.n Kx.c2] :: row Kx.p1 Kx.c1 1 Kx.n (Kx.held.map .bool) :: row Kx.p2 Kx.c2 1 Kx.n (Kx.vals.map fun x => Value.int .i64 x) :: row Kx.hp Kx.hc 1 Kx.m (ints (idxT Kx.held Kx.n)) :: row Kx.vp Kx.vc 1 Kx.m (valsT Kx.vals (idxT Kx.held Kx.n)) :: seg true k 0 [.slice (some ⟨x1, 0, none⟩) NA c1, .slice a2 NB c2, .slice (some ⟨x3, 0, none⟩) NA c3, .slice a4 NB c4, .slice (some ⟨x5, 0, none⟩) NA c5, .slice a6 NB c6] :: rd (some ⟨x1, 0, none⟩) (A.map KI.fv) :: rd a2 (B.map KP.fv) :: rd (some ⟨x3, 0, none⟩) (A.map KI.lv) :: rd a4 (B.map KP.lv) :: rd (some ⟨x5, 0, none⟩) (A.map KI.vv) :: rd a6 (B.map KP.vv) :: stars ((A.drop (i + 1)).map KI.a) :: stars (B.map KP.a) :: []))).mono ?_
      rintro e w5 ⟨rfl, s5⟩
      go_wp2_with fail
      have hKp := (HKEEP.out _ (Sat.sub (s5) (by with_reducible repeat first | exact Fr1 | exact Fr2 | (apply Fr3; focus ((repeat (first | exact Tk1 | apply Tk2)); done)) | apply Fr4)))
      refine hK.out _ _ hKp ?_
      clear hK K hHeld
      have hHeld := hKp
      clear hKp
      try simp only [pA1, pA2, pA3, pA4]
      iterate 23
       first | refine autoT hHeld (by rfl) (by rfl) (x := ?_) (v := ?_) ?_ (by kernel_rfl) ?_ ?_ ?_ | refine autoP (by rfl) (x := ?_) (v := ?_) ?_ (by kernel_rfl) ?_ ?_ ?_
       rotate_left 2
       · (simp only [gE1, gE2, gE3]; rfl)
       · exact fun _ _ _ h => h
       · refine Or.inl ⟨by rfl, fun w hSw => ?_⟩
         (try dsimp only at hSw)
         go_simp
         try (with_reducible rfl)
       try simp only [pA1, pA2, pA3, pA4]
      refine anyE_one (i := 45) (x := ?_) ?_ (by kernel_rfl) (fun K hK => ?_)
      rotate_left
      · (simp only [gE1, gE2, gE3]; rfl)
      go_simp
      refine (walk_int Kx.held Kx.vals Kx.hn Kx.hv Kx.h0 Kx.hsm Kx.hm 1 s5).mono ?_
      rintro e w6 ⟨rfl, s6⟩
      go_wp2_with fail
      have hKp := (HKEEP.out _ (Sat.sub (s6) (by with_reducible repeat first | exact Fr1 | exact Fr2 | (apply Fr3; focus ((repeat (first | exact Tk1 | apply Tk2)); done)) | apply Fr4)))
      refine hK.out _ _ hKp ?_
      clear hK K hHeld
      have hHeld := hKp
      clear hKp
      try simp only [pA1, pA2, pA3, pA4]
      iterate 2
       first | refine autoT hHeld (by rfl) (by rfl) (x := ?_) (v := ?_) ?_ (by kernel_rfl) ?_ ?_ ?_ | refine autoP (by rfl) (x := ?_) (v := ?_) ?_ (by kernel_rfl) ?_ ?_ ?_
       rotate_left 2
       · (simp only [gE1, gE2, gE3]; rfl)
       · exact fun _ _ _ h => h
       · refine Or.inl ⟨by rfl, fun w hSw => ?_⟩
         (try dsimp only at hSw)
         go_simp
         try (with_reducible rfl)
       try simp only [pA1, pA2, pA3, pA4]
      refine anyE_done (by kernel_rfl) ?_ _
      have HS := Lib.hid s6; clear s5 s6 sod
      go_wp2_with fail
      exact ⟨⟨i + 1, by omega, by go_num, (Sat.sub (HS.out) (by with_reducible repeat first | exact Fr1 | exact Fr2 | (apply Fr3; focus ((repeat (first | exact Tk1 | apply Tk2)); done)) | apply Fr4))⟩, by simp [intOf]; omega⟩
    · obtain rfl : i = NA := by omega
      have s8 : Sat W0 wr (seg true k 0 [.slice a1 i c1, .slice a2 NB c2, .slice a3 i c3, .slice a4 NB c4, .slice a5 i c5, .slice a6 NB c6] :: rd a1 (A.map KI.fv) :: rd a2 (B.map KP.fv) :: rd a3 (A.map KI.lv) :: rd a4 (B.map KP.lv) :: rd a5 (A.map KI.vv) :: rd a6 (B.map KP.vv) :: stars (B.map KP.a) :: []) := (Sat.sub (s) (by with_reducible repeat first | exact Fr1 | exact Fr2 | (apply Fr3; focus ((repeat (first | exact Tk1 | apply Tk2)); done)) | apply Fr4))
      clear s
      obtain ⟨NA, hNA⟩ : ∃ x, x = i := ⟨_, rfl⟩
      rw [← hNA] at s8 hA HN kc ⊢
      clear hi hlt hNA
      have HS8 := Lib.hid s8; clear s8
      go_wp2_with fail
      have s8 := HS8.out
      go_loopw [4] (fun t4 wr => ∃ i : Nat, i ≤ NB ∧ t4 = .int .i64 (i : Int) ∧ Sat W0 wr (seg true k 0 [.slice a1 NA c1, .slice a2 NB c2, .slice a3 NA c3, .slice a4 NB c4, .slice a5 NA c5, .slice a6 NB c6] :: rd a1 (A.map KI.fv) :: rd a2 (B.map KP.fv) :: rd a3 (A.map KI.lv) :: rd a4 (B.map KP.lv) :: rd a5 (A.map KI.vv) :: rd a6 (B.map KP.vv) :: stars ((B.drop i).map KP.a) :: [])) (fun t4 _ => NB - (intOf t4).toNat)
      case atStart => exact ⟨0, Nat.zero_le _, rfl, s8⟩
      case round =>
        clear s8
        obtain ⟨i, hi, rfl, s⟩ := hrel
        have kc := s.at 1 rfl
        have kz := s.lt (by simp)
        by_cases hlt : i < NB
        · obtain ⟨Kx, hK⟩ : ∃ K, B[i]? = some K := ⟨_, List.getElem?_eq_getElem (by rw [← HN.out.2]; exact hlt)⟩
          have hdrop : B.drop i = Kx :: B.drop (i + 1) := by
            obtain ⟨hb, rfl⟩ := List.getElem?_eq_some_iff.1 hK
            exact List.drop_eq_getElem_cons hb
          rw [hdrop, List.map_cons] at s
          have v1 : (B.map KP.fv)[i]? = some (.func (.func 40) #[] #[.pointer (some ⟨Kx.g, 0, none⟩)]) := by rw [List.getElem?_map, hK]; rfl
          have v2 : (B.map KP.lv)[i]? = some (.slice Kx.hp Kx.m Kx.hc) := by rw [List.getElem?_map, hK]; rfl
          have v3 : (B.map KP.vv)[i]? = some (.slice Kx.vp Kx.m Kx.vc) := by rw [List.getElem?_map, hK]; rfl
          obtain ⟨x2, rfl, -, -⟩ := ((Sat.sub (s) (by with_reducible repeat first | exact Fr1 | exact Fr2 | (apply Fr3; focus ((repeat (first | exact Tk1 | apply Tk2)); done)) | apply Fr4)) : Sat W0 wr (rd a2 (B.map KP.fv) :: [])).rdAt v1
          obtain ⟨x4, rfl, -, -⟩ := ((Sat.sub (s) (by with_reducible repeat first | exact Fr1 | exact Fr2 | (apply Fr3; focus ((repeat (first | exact Tk1 | apply Tk2)); done)) | apply Fr4)) : Sat W0 wr (rd a4 (B.map KP.lv) :: [])).rdAt v2
          obtain ⟨x6, rfl, -, -⟩ := ((Sat.sub (s) (by with_reducible repeat first | exact Fr1 | exact Fr2 | (apply Fr3; focus ((repeat (first | exact Tk1 | apply Tk2)); done)) | apply Fr4)) : Sat W0 wr (rd a6 (B.map KP.vv) :: [])).rdAt v3
          have hkeep : ∀ w', Sat W0 w' (seg true k 0 [.slice a1 NA c1, .slice (some ⟨x2, 0, none⟩) NB c2, .slice a3 NA c3, .slice (some ⟨x4, 0, none⟩) NB c4, .slice a5 NA c5, .slice (some ⟨x6, 0, none⟩) NB c6] :: rd (some ⟨x2, 0, none⟩) (B.map KP.fv) :: rd (some ⟨x4, 0, none⟩) (B.map KP.lv) :: rd (some ⟨x6, 0, none⟩) (B.map KP.vv) :: []) →  w'.cell? ⟨k, 1, none⟩ = some (.slice (some ⟨x2,0,none⟩) NB c2) ∧ w'.cell? ⟨k, 3, none⟩ = some (.slice (some ⟨x4,0,none⟩) NB c4) ∧ w'.cell? ⟨k, 5, none⟩ = some (.slice (some ⟨x6,0,none⟩) NB c6) ∧ k < w'.heap.size ∧ w'.cell? ⟨x2, i, none⟩ = some (.func (.func 40) #[] #[.pointer (some ⟨Kx.g, 0, none⟩)]) ∧ x2 < w'.heap.size ∧ w'.cell? ⟨x4, i, none⟩ = some (.slice Kx.hp Kx.m Kx.hc) ∧ x4 < w'.heap.size ∧ w'.cell? ⟨x6, i, none⟩ = some (.slice Kx.vp Kx.m Kx.vc) ∧ x6 < w'.heap.size := fun w' h => by
            have h1 := Sat.rdCell ((Sat.sub (h) (by with_reducible repeat first | exact Fr1 | exact Fr2 | (apply Fr3; focus ((repeat (first | exact Tk1 | apply Tk2)); done)) | apply Fr4)) : Sat W0 w' (rd (some ⟨x2, 0, none⟩) (B.map KP.fv) :: [])) v1
            have h2 := Sat.rdCell ((Sat.sub (h) (by with_reducible repeat first | exact Fr1 | exact Fr2 | (apply Fr3; focus ((repeat (first | exact Tk1 | apply Tk2)); done)) | apply Fr4)) : Sat W0 w' (rd (some ⟨x4, 0, none⟩) (B.map KP.lv) :: [])) v2
            have h3 := Sat.rdCell ((Sat.sub (h) (by with_reducible repeat first | exact Fr1 | exact Fr2 | (apply Fr3; focus ((repeat (first | exact Tk1 | apply Tk2)); done)) | apply Fr4)) : Sat W0 w' (rd (some ⟨x6, 0, none⟩) (B.map KP.vv) :: [])) v3
            exact ⟨h.at 1 rfl, h.at 3 rfl, h.at 5 rfl, h.lt (by simp), h1.1, h1.2, h2.1, h2.2, h3.1, h3.2⟩
          have HKEEP := Lib.hid hkeep; clear hkeep v1 v2 v3 hdrop hK
          have so := KP.open (Sat.starsPop ((Sat.sub (s) (by with_reducible repeat first | exact Fr1 | exact Fr2 | (apply Fr3; focus ((repeat (first | exact Tk1 | apply Tk2)); done)) | apply Fr4)) : Sat W0 wr (stars (Kx.a :: (B.drop (i + 1)).map KP.a) :: seg true k 0 [.slice a1 NA c1, .slice (some ⟨x2, 0, none⟩) NB c2, .slice a3 NA c3, .slice (some ⟨x4, 0, none⟩) NB c4, .slice a5 NA c5, .slice (some ⟨x6, 0, none⟩) NB c6] :: rd a1 (A.map KI.fv) :: rd (some ⟨x2, 0, none⟩) (B.map KP.fv) :: rd a3 (A.map KI.lv) :: rd (some ⟨x4, 0, none⟩) (B.map KP.lv) :: rd a5 (A.map KI.vv) :: rd (some ⟨x6, 0, none⟩) (B.map KP.vv) :: [])))
          have sod := so.drew
          clear s so
          have hlt' : (i : Int) < (NB : Int) := by omega
          go_wp2_with fail
          clear kc kz
          refine region_E (fun w' => w'.cell? ⟨k, 1, none⟩ = some (.slice (some ⟨x2,0,none⟩) NB c2) ∧ w'.cell? ⟨k, 3, none⟩ = some (.slice (some ⟨x4,0,none⟩) NB c4) ∧ w'.cell? ⟨k, 5, none⟩ = some (.slice (some ⟨x6,0,none⟩) NB c6) ∧ k < w'.heap.size ∧ w'.cell? ⟨x2, i, none⟩ = some (.func (.func 40) #[] #[.pointer (some ⟨Kx.g, 0, none⟩)]) ∧ x2 < w'.heap.size ∧ w'.cell? ⟨x4, i, none⟩ = some (.slice Kx.hp Kx.m Kx.hc) ∧ x4 < w'.heap.size ∧ w'.cell? ⟨x6, i, none⟩ = some (.slice Kx.vp Kx.m Kx.vc) ∧ x6 < w'.heap.size) [3, 6, 10, 13, 17, 20, 27, 30, 34, 37, 41, 44] (by kernel_rfl) ?_
          have hHeld := (HKEEP.out _ (Sat.sub (sod) (by with_reducible repeat first | exact Fr1 | exact Fr2 | (apply Fr3; focus ((repeat (first | exact Tk1 | apply Tk2)); done)) | apply Fr4)))
          iterate 21
           first | refine autoT hHeld (by rfl) (by rfl) (x := ?_) (v := ?_) ?_ (by kernel_rfl) ?_ ?_ ?_ | refine autoP (by rfl) (x := ?_) (v := ?_) ?_ (by kernel_rfl) ?_ ?_ ?_
           rotate_left 2
           · (simp only [gE1, gE2, gE3]; rfl)
           · exact fun _ _ _ h => h
           · refine Or.inl ⟨by rfl, fun w hSw => ?_⟩
             (try dsimp only at hSw)
             go_simp
             try (with_reducible rfl)
           try simp only [pA1, pA2, pA3, pA4]
          refine anyE_one (i := 21) (x := ?_) ?_ (by kernel_rfl) (fun K hK => ?_)
          rotate_left
          · (simp only [gE1, gE2, gE3]; rfl)
          go_simp
          refine (walk_pr Kx.held Kx.vals Kx.hn Kx.hv Kx.h0 Kx.hsm Kx.hm 0 ((Sat.sub (sod) (by with_reducible repeat first | exact Fr1 | exact Fr2 | (apply Fr3; focus ((repeat (first | exact Tk1 | apply Tk2)); done)) | apply Fr4)) : Sat W0 _ (seg true Kx.g 0 [.slice Kx.p1 Kx.n Kx.c1, .slice Kx.p2 Kx.n Kx.c2] :: row Kx.p1 Kx.c1 1 Kx.n (Kx.held.map .bool) :: row Kx.p2 Kx.c2 2 Kx.n (Kx.vals.flatMap enc2) :: row Kx.hp Kx.hc 1 Kx.m (ints (idxT Kx.held Kx.n)) :: row Kx.vp Kx.vc 2 Kx.m (valsP Kx.vals (idxT Kx.held Kx.n)) :: seg true k 0 [.slice a1 NA c1, .slice (some ⟨x2, 0, none⟩) NB c2, .slice a3 NA c3, .slice (some ⟨x4, 0, none⟩) NB c4, .slice a5 NA c5, .slice (some ⟨x6, 0, none⟩) NB c6] :: rd a1 (A.map KI.fv) :: rd (some ⟨x2, 0, none⟩) (B.map KP.fv) :: rd a3 (A.map KI.lv) :: rd (some ⟨x4, 0, none⟩) (B.map KP.lv) :: rd a5 (A.map KI.vv) :: rd (some ⟨x6, 0, none⟩) (B.map KP.vv) :: stars ((B.drop (i + 1)).map KP.a) :: []))).mono ?_
          rintro e w5 ⟨rfl, s5⟩
          go_wp2_with fail
          have hKp := (HKEEP.out _ (Sat.sub (s5) (by with_reducible repeat first | exact Fr1 | exact Fr2 | (apply Fr3; focus ((repeat (first | exact Tk1 | apply Tk2)); done)) | apply Fr4)))
          refine hK.out _ _ hKp ?_
          clear hK K hHeld
          have hHeld := hKp
          clear hKp
          try simp only [pA1, pA2, pA3, pA4]
          iterate 23
           first | refine autoT hHeld (by rfl) (by rfl) (x := ?_) (v := ?_) ?_ (by kernel_rfl) ?_ ?_ ?_ | refine autoP (by rfl) (x := ?_) (v := ?_) ?_ (by kernel_rfl) ?_ ?_ ?_
           rotate_left 2
           · (simp only [gE1, gE2, gE3]; rfl)
           · exact fun _ _ _ h => h
           · refine Or.inl ⟨by rfl, fun w hSw => ?_⟩
             (try dsimp only at hSw)
             go_simp
             try (with_reducible rfl)
           try simp only [pA1, pA2, pA3, pA4]
          refine anyE_one (i := 45) (x := ?_) ?_ (by kernel_rfl) (fun K hK => ?_)
          rotate_left
          · (simp only [gE1, gE2, gE3]; rfl)
          go_simp
          refine (walk_pr Kx.held Kx.vals Kx.hn Kx.hv Kx.h0 Kx.hsm Kx.hm 0 s5).mono ?_
          rintro e w6 ⟨rfl, s6⟩
          go_wp2_with fail
          have hKp := (HKEEP.out _ (Sat.sub (s6) (by with_reducible repeat first | exact Fr1 | exact Fr2 | (apply Fr3; focus ((repeat (first | exact Tk1 | apply Tk2)); done)) | apply Fr4)))
          refine hK.out _ _ hKp ?_
          clear hK K hHeld
          have hHeld := hKp
          clear hKp
          try simp only [pA1, pA2, pA3, pA4]
          iterate 2
           first | refine autoT hHeld (by rfl) (by rfl) (x := ?_) (v := ?_) ?_ (by kernel_rfl) ?_ ?_ ?_ | refine autoP (by rfl) (x := ?_) (v := ?_) ?_ (by kernel_rfl) ?_ ?_ ?_
           rotate_left 2
           · (simp only [gE1, gE2, gE3]; rfl)
           · exact fun _ _ _ h => h
           · refine Or.inl ⟨by rfl, fun w hSw => ?_⟩
             (try dsimp only at hSw)
             go_simp
             try (with_reducible rfl)
           try simp only [pA1, pA2, pA3, pA4]
          refine anyE_done (by kernel_rfl) ?_ _
          have HS := Lib.hid s6; clear s5 s6 sod
          go_wp2_with fail
          exact ⟨⟨i + 1, by omega, by go_num, (Sat.sub (HS.out) (by with_reducible repeat first | exact Fr1 | exact Fr2 | (apply Fr3; focus ((repeat (first | exact Tk1 | apply Tk2)); done)) | apply Fr4))⟩, by simp [intOf]; omega⟩
        · obtain rfl : i = NB := by omega
          have s8 : Sat W0 wr (seg true k 0 [.slice a1 NA c1, .slice a2 i c2, .slice a3 NA c3, .slice a4 i c4, .slice a5 NA c5, .slice a6 i c6] :: rd a1 (A.map KI.fv) :: rd a2 (B.map KP.fv) :: rd a3 (A.map KI.lv) :: rd a4 (B.map KP.lv) :: rd a5 (A.map KI.vv) :: rd a6 (B.map KP.vv) :: []) := (Sat.sub (s) (by with_reducible repeat first | exact Fr1 | exact Fr2 | (apply Fr3; focus ((repeat (first | exact Tk1 | apply Tk2)); done)) | apply Fr4))
          clear s
          have HS := Lib.hid s8; clear s8
          go_wp2_with fail
          go_ret
          exact ⟨rfl, (Sat.sub (HS.out) (by with_reducible repeat first | exact Fr1 | exact Fr2 | (apply Fr3; focus ((repeat (first | exact Tk1 | apply Tk2)); done)) | apply Fr4))⟩
end Go.Proofs.Ytpiiklfnakkdiaa
