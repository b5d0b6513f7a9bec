
/- PairNames: numbers and examples of layer 26; a closed statement. -/
import Derived.Test.YtbefjaodpbgpcaaGreatPn3
import Derived.Test.YtbefjaodpbgpcaaGreatVdp
namespace Go.Proofs.YtbefjaodpbgpcaaGreat
open Go.RowKit Go.Sep Go.Bv
set_option linter.unusedVariables false
set_option linter.unusedSimpArgs false
abbrev b16 : List Byte := [48, 49, 50, 51, 52, 53, 54, 55, 56, 57, 97, 98, 99, 100, 101, 102]
abbrev b15 : List Byte := [48, 49, 50, 51, 52, 53, 54, 55, 56, 57, 97, 98, 99, 100, 101]
set_option maxRecDepth 100000 in
theorem part_a (g1 g2 g3 g4 c1 c2 c3 c4 : Nat) : partAt 0 (seenL doP ([putM g1 2 c1 [97, 98], putM g2 2 c2 [99, 100]].map OpM.c) (List.replicate 64 none) []) (seenL doP ([putM g3 2 c3 [120, 121], putM g4 2 c4 [122, 119]].map OpM.c) (List.replicate 64 none) []) = -1 := by kernel_rfl
set_option maxRecDepth 100000 in
theorem part_b (g1 g2 c1 c2 : Nat) : partAt 0 (seenL doP ([putM g1 16 c1 b16, cbM].map OpM.c) (List.replicate 64 none) []) (seenL doP ([putM g2 15 c2 b15, cbM].map OpM.c) (List.replicate 64 none) []) = 1 := by kernel_rfl
set_option maxRecDepth 100000 in
theorem part_c (g1 c1 : Nat) : partAt 0 (seenL doP (([] : List OpM).map OpM.c) (List.replicate 64 none) []) (seenL doP ([putM g1 0 c1 []].map OpM.c) (List.replicate 64 none) []) = 0 := by kernel_rfl
theorem starsShut {W0 w : World} : ∀ {K L : List Assn}, Sat W0 w (K ++ L) → Sat W0 w (stars K :: L)
 | [], L, h => h.addEmp
 | A :: K, L, h => by
  have h0 : Sat W0 w (A :: (K ++ L)) := h
  have h2 : Sat W0 w (stars K :: A :: L) := starsShut (h0.sub (Fr.rot K))
  exact Sat.sepShut (h2.pull 1)
theorem opsMk2 {W0 w : World} {L : List Assn} {g : Nat} {x y : OpM} (hx : x.fine) (hy : y.fine) (h : Sat W0 w (seg true g 0 (x.cells ++ y.cells) :: opB x :: opB y :: L)) : Sat W0 w (opsR (some ⟨g, 0, none⟩) [x, y] :: L) := by
 have h1 : Sat W0 w ([opB x, opB y] ++ (seg true g 0 (x.cells ++ y.cells) :: L)) := (h.f : Sat W0 w (opB x :: opB y :: seg true g 0 (x.cells ++ y.cells) :: L))
 have h2 := (starsShut h1).pull 1
 refine opsMk (xs := [x, y]) (fun z hz => ?_) h2
 simp only [List.mem_cons, List.not_mem_nil, or_false] at hz
 rcases hz with rfl | rfl
 ·exact hx
 ·exact hy
theorem opsMk1 {W0 w : World} {L : List Assn} {g : Nat} {x : OpM} (hx : x.fine) (h : Sat W0 w (seg true g 0 x.cells :: opB x :: L)) : Sat W0 w (opsR (some ⟨g, 0, none⟩) [x] :: L) := by
 have h1 : Sat W0 w ([opB x] ++ (seg true g 0 x.cells :: L)) := (h.f : Sat W0 w (opB x :: seg true g 0 x.cells :: L))
 have h2 := (starsShut h1).pull 1
 refine opsMk (xs := [x]) (fun z hz => ?_) h2
 simp only [List.mem_cons, List.not_mem_nil, or_false] at hz
 subst hz; exact hx
/-- The second: what is told of both scripts. -/
theorem splitV {W0 w : World} {L : List Assn} {n m c d : Nat} {p q : Option Addr} (xs ys : List OpM) (r : Int) (hx : xs.length = n) (hy : ys.length = m) (hn : n ≤ 4096) (hm : m ≤ 4096) (hg : ∀ x ∈ xs, goodP x.c) (hg2 : ∀ x ∈ ys, goodP x.c) (hr : partAt 0 (seenL doP (xs.map OpM.c) (List.replicate 64 none) []) (seenL doP (ys.map OpM.c) (List.replicate 64 none) []) = r) (hs : Sat W0 w (opsR p xs :: opsR q ys :: L)) :
  Calls Tryz.prog 6 #[.slice p n c, .slice q m d] w fun e w' => e = .returned (.tuple #[.int .i64 r, .int .i64 0]) ∧ Sat W0 w' L := by
 refine (splitW doesP xs ys hx hy (by omega) (by omega) (by decide) hn hm hg hg2 hs).mono ?_
 rintro e w' ⟨rfl, s⟩
 rw [hr]
 exact ⟨rfl, s.tail.tail⟩
set_option maxRecDepth 100000 in
set_option maxHeartbeats 8000000 in
theorem names_walk (W : World) : Calls Tryz.prog 5 #[] W fun e W' => e = .returned (.bool true) ∧ Below W.heap.size W W' := by
 have hs := Sat.nil W
 go_enter Tryz.func5, Tryz.ntmps5
 go_wp2_with (first | (refine wpl_build rfl 27 rfl (.agg cbC.toArray) (by simp only [List.map_toArray, List.map_cons, List.map_nil]; exact build_cb _) ?_) | (refine wpl_alloc_agg rfl 27 rfl hs _ (zero_op _) ?_; intro w1 gc s1 _; clear hs) | (refine wpl_stOp rfl rfl (.tmp 2) (.tmp 10) rfl (kd := 2) (ag := 3) s1 rfl rfl ?_; intro w2 s2x; have s2 : Sat W w2 (seg true gc 0 cbC :: []) := s2x; clear s1 s2x))
 refine (putU ⟨[97, 98].toArray⟩ [97, 98] 2 rfl (by decide) (by rfl) s2).mono ?_
 rintro e w3 ⟨g1, c1, rfl, h11, h12, s1p⟩
 have HF1 := Lib.hid (putM_fine (g := g1) (bs := [97, 98]) rfl h11 h12 (by decide)); clear h11 h12 s2
 go_wp2_with fail
 refine (putU ⟨[99, 100].toArray⟩ [99, 100] 2 rfl (by decide) (by rfl) s1p).mono ?_
 rintro e w4 ⟨g2, c2, rfl, h21, h22, s2p⟩
 have HF2 := Lib.hid (putM_fine (g := g2) (bs := [99, 100]) rfl h21 h22 (by decide)); clear h21 h22 s1p
 have s5 : Sat W _ (seg true w4.heap.size 0 (puC g1 2 c1 ++ puC g2 2 c2) :: bytes true (some ⟨g2, 0, none⟩) [99, 100] :: bytes true (some ⟨g1, 0, none⟩) [97, 98] :: seg true gc 0 cbC :: []) := s2p.alloc (puC g1 2 c1 ++ puC g2 2 c2).toArray 27
 clear s2p
 obtain ⟨k1, hk1⟩ : ∃ k, k = w4.heap.size := ⟨_, rfl⟩
 rw [← hk1] at s5
 go_wp2_with fail
 rw [← hk1]
 clear hk1
 refine (putU ⟨[120, 121].toArray⟩ [120, 121] 2 rfl (by decide) (by rfl) s5).mono ?_
 rintro e w5 ⟨g3, c3, rfl, h31, h32, s3p⟩
 have HF3 := Lib.hid (putM_fine (g := g3) (bs := [120, 121]) rfl h31 h32 (by decide)); clear h31 h32 s5
 go_wp2_with fail
 refine (putU ⟨[122, 119].toArray⟩ [122, 119] 2 rfl (by decide) (by rfl) s3p).mono ?_
 rintro e w6 ⟨g4, c4, rfl, h41, h42, s4p⟩
 have HF4 := Lib.hid (putM_fine (g := g4) (bs := [122, 119]) rfl h41 h42 (by decide)); clear h41 h42 s3p
 have s7 : Sat W _ (seg true w6.heap.size 0 (puC g3 2 c3 ++ puC g4 2 c4) :: bytes true (some ⟨g4, 0, none⟩) [122, 119] :: bytes true (some ⟨g3, 0, none⟩) [120, 121] :: seg true k1 0 (puC g1 2 c1 ++ puC g2 2 c2) :: bytes true (some ⟨g2, 0, none⟩) [99, 100] :: bytes true (some ⟨g1, 0, none⟩) [97, 98] :: seg true gc 0 cbC :: []) := s4p.alloc (puC g3 2 c3 ++ puC g4 2 c4).toArray 27
 clear s4p
 go_wp2_with fail
 have s8 := putB (n := 2) (c := c1) (s7.f : Sat W _ (bytes true (some ⟨g1, 0, none⟩) [97, 98] :: seg true w6.heap.size 0 (puC g3 2 c3 ++ puC g4 2 c4) :: bytes true (some ⟨g4, 0, none⟩) [122, 119] :: bytes true (some ⟨g3, 0, none⟩) [120, 121] :: seg true k1 0 (puC g1 2 c1 ++ puC g2 2 c2) :: bytes true (some ⟨g2, 0, none⟩) [99, 100] :: seg true gc 0 cbC :: []))
 have s9 := putB (n := 2) (c := c2) (s8.f : Sat W _ (bytes true (some ⟨g2, 0, none⟩) [99, 100] :: opB (putM g1 2 c1 [97, 98]) :: seg true w6.heap.size 0 (puC g3 2 c3 ++ puC g4 2 c4) :: bytes true (some ⟨g4, 0, none⟩) [122, 119] :: bytes true (some ⟨g3, 0, none⟩) [120, 121] :: seg true k1 0 (puC g1 2 c1 ++ puC g2 2 c2) :: seg true gc 0 cbC :: []))
 have s10 := opsMk2 (x := putM g1 2 c1 [97, 98]) (y := putM g2 2 c2 [99, 100]) HF1.out HF2.out (s9.f : Sat W _ (seg true k1 0 (puC g1 2 c1 ++ puC g2 2 c2) :: opB (putM g1 2 c1 [97, 98]) :: opB (putM g2 2 c2 [99, 100]) :: seg true w6.heap.size 0 (puC g3 2 c3 ++ puC g4 2 c4) :: bytes true (some ⟨g4, 0, none⟩) [122, 119] :: bytes true (some ⟨g3, 0, none⟩) [120, 121] :: seg true gc 0 cbC :: []))
 have s11 := putB (n := 2) (c := c3) (s10.f : Sat W _ (bytes true (some ⟨g3, 0, none⟩) [120, 121] :: opsR (some ⟨k1, 0, none⟩) [putM g1 2 c1 [97, 98], putM g2 2 c2 [99, 100]] :: seg true w6.heap.size 0 (puC g3 2 c3 ++ puC g4 2 c4) :: bytes true (some ⟨g4, 0, none⟩) [122, 119] :: seg true gc 0 cbC :: []))
 have s12 := putB (n := 2) (c := c4) (s11.f : Sat W _ (bytes true (some ⟨g4, 0, none⟩) [122, 119] :: opB (putM g3 2 c3 [120, 121]) :: opsR (some ⟨k1, 0, none⟩) [putM g1 2 c1 [97, 98], putM g2 2 c2 [99, 100]] :: seg true w6.heap.size 0 (puC g3 2 c3 ++ puC g4 2 c4) :: seg true gc 0 cbC :: []))
 have s13 := opsMk2 (x := putM g3 2 c3 [120, 121]) (y := putM g4 2 c4 [122, 119]) HF3.out HF4.out (s12.f : Sat W _ (seg true w6.heap.size 0 (puC g3 2 c3 ++ puC g4 2 c4) :: opB (putM g3 2 c3 [120, 121]) :: opB (putM g4 2 c4 [122, 119]) :: opsR (some ⟨k1, 0, none⟩) [putM g1 2 c1 [97, 98], putM g2 2 c2 [99, 100]] :: seg true gc 0 cbC :: []))
 clear s7 s8 s9 s10 s11 s12
 refine (splitV (n := 2) (m := 2) _ _ (-1) rfl rfl (by decide) (by decide) (by simp [goodP, OpM.c, putM, cbM]) (by simp [goodP, OpM.c, putM, cbM]) (part_a _ _ _ _ _ _ _ _) (s13.f : Sat W _ (opsR (some ⟨k1, 0, none⟩) [putM g1 2 c1 [97, 98], putM g2 2 c2 [99, 100]] :: opsR (some ⟨w6.heap.size, 0, none⟩) [putM g3 2 c3 [120, 121], putM g4 2 c4 [122, 119]] :: seg true gc 0 cbC :: []))).mono ?_
 rintro e w7 ⟨rfl, s14⟩
 clear s13 HF1 HF2 HF3 HF4
 have hend : ∀ (w : World), Sat W w [] → True := fun _ _ => trivial
 go_wp2_with fail
 have sd := s14.drew
 clear s14
 have hk0 : ((fun w' : World => w'.rangeAt gc 0 cbC ∧ gc < w'.heap.size)) _ := ⟨Sat.rangeAt (sd.f : Sat W _ (seg true gc 0 cbC :: [])), Sat.lt (sd.f : Sat W _ (seg true gc 0 cbC :: [])) (by simp)⟩
 refine region_E (fun w' : World => w'.rangeAt gc 0 cbC ∧ gc < w'.heap.size) [2, 6] (by kernel_rfl) ?_
 have hHeld := hk0
 iterate 1
  first | refine autoT hHeld (by rfl) (by rfl) (x := ?_) (v := ?_) ?_ (by kernel_rfl) ?_ ?_ ?_ | refine autoP (by rfl) (x := ?_) (v := ?_) ?_ (by kernel_rfl) ?_ ?_ ?_
  rotate_left 2
  ·(simp only [gE1, gE2, gE3]; rfl)
  ·exact fun _ _ _ h => h
  ·refine Or.inl ⟨by rfl, fun w hSw => ?_⟩
   (try dsimp only at hSw)
   go_simp
   try (with_reducible rfl)
  try simp only [pA1, pA2, pA3, pA4]
 refine anyE_take (i := 2) (x := ?_) (v := ?_) ?_ (by kernel_rfl) (by kernel_rfl) (by kernel_rfl) (by kernel_rfl) ?_ ?_ hHeld ?_
 rotate_left 2
 ·(simp only [gE1, gE2, gE3]; rfl)
 ·exact fun _ _ _ h => h
 ·refine yieldsIf_load_mid ?_ 27 (.tmp 2) ?_ gc 0 ?_ cbC _ ?_ Tryz.underlying27 rfl Tryz.size_op
  ·rfl
  ·rfl
  ·rfl
  ·intro w hSw
   exact hSw.1
 try simp only [pA1, pA2, pA3, pA4]
 iterate 1
  first | refine autoT hHeld (by rfl) (by rfl) (x := ?_) (v := ?_) ?_ (by kernel_rfl) ?_ ?_ ?_ | refine autoP (by rfl) (x := ?_) (v := ?_) ?_ (by kernel_rfl) ?_ ?_ ?_
  rotate_left 2
  ·(simp only [gE1, gE2, gE3]; rfl)
  ·exact fun _ _ _ h => h
  ·refine Or.inl ⟨by rfl, fun w hSw => ?_⟩
   (try dsimp only at hSw)
   go_simp
   try (with_reducible rfl)
  try simp only [pA1, pA2, pA3, pA4]
 refine anyE_take (i := 6) (x := ?_) (v := ?_) ?_ (by kernel_rfl) (by kernel_rfl) (by kernel_rfl) (by kernel_rfl) ?_ ?_ hHeld ?_
 rotate_left 2
 ·(simp only [gE1, gE2, gE3]; rfl)
 ·exact fun _ _ _ h => h
 ·refine yieldsIf_load_mid ?_ 27 (.tmp 2) ?_ gc 0 ?_ cbC _ ?_ Tryz.underlying27 rfl Tryz.size_op
  ·rfl
  ·rfl
  ·rfl
  ·intro w hSw
   exact hSw.1
 try simp only [pA1, pA2, pA3, pA4]
 refine anyE_one (i := 1) (x := ?_) ?_ (by kernel_rfl) (fun K hK => ?_)
 rotate_left
 ·(simp only [gE1, gE2, gE3]; rfl)
 go_simp
 refine (putU ⟨[48, 49, 50, 51, 52, 53, 54, 55, 56, 57, 97, 98, 99, 100, 101, 102].toArray⟩ [48, 49, 50, 51, 52, 53, 54, 55, 56, 57, 97, 98, 99, 100, 101, 102] 16 rfl (by decide) (by rfl) sd).mono ?_
 rintro e wa ⟨g1, c1, rfl, h11, h12, s1p⟩
 have HF1 := Lib.hid (putM_fine (g := g1) (bs := [48, 49, 50, 51, 52, 53, 54, 55, 56, 57, 97, 98, 99, 100, 101, 102]) rfl h11 h12 (by decide)); clear h11 h12 sd

 go_wp2_with fail
 have hKp : ((fun w' : World => w'.rangeAt gc 0 cbC ∧ gc < w'.heap.size)) _ := ⟨Sat.rangeAt (s1p.f : Sat W _ (seg true gc 0 cbC :: [])), Sat.lt (s1p.f : Sat W _ (seg true gc 0 cbC :: [])) (by simp)⟩
 refine hK.out _ _ hKp ?_
 clear hK K hHeld
 have hHeld := hKp
 clear hKp
 try simp only [pA1, pA2, pA3, pA4]
 refine anyE_two (i := 3) (j := 5) (x := ?_) (y := ?_) ?_ ?_ (by kernel_rfl) (fun K hK => ?_) (fun K hK => ?_)
 rotate_left 2
 ·(simp only [gE1, gE2, gE3]; rfl)
 ·(simp only [gE1, gE2, gE3]; rfl)
 ·go_simp
  have sA : Sat W _ (seg true wa.heap.size 0 (puC g1 16 c1 ++ cbC) :: bytes true (some ⟨g1, 0, none⟩) [48, 49, 50, 51, 52, 53, 54, 55, 56, 57, 97, 98, 99, 100, 101, 102] :: seg true gc 0 cbC :: []) := s1p.alloc (puC g1 16 c1 ++ cbC).toArray 27
  clear s1p
  obtain ⟨k1, hk1⟩ : ∃ k, k = wa.heap.size := ⟨_, rfl⟩
  rw [← hk1] at sA ⊢
  clear hk1
  have hKp : ((fun w' : World => w'.rangeAt gc 0 cbC ∧ gc < w'.heap.size)) _ := ⟨Sat.rangeAt (sA.f : Sat W _ (seg true gc 0 cbC :: [])), Sat.lt (sA.f : Sat W _ (seg true gc 0 cbC :: [])) (by simp)⟩
  refine hK.out _ _ hKp ?_
  clear hK K hHeld
  have hHeld := hKp
  clear hKp
  try simp only [pA1, pA2, pA3, pA4]
  refine anyE_one (i := 5) (x := ?_) ?_ (by kernel_rfl) (fun K hK => ?_)
  rotate_left
  ·(simp only [gE1, gE2, gE3]; rfl)
  go_simp
  refine (putU ⟨[48, 49, 50, 51, 52, 53, 54, 55, 56, 57, 97, 98, 99, 100, 101].toArray⟩ [48, 49, 50, 51, 52, 53, 54, 55, 56, 57, 97, 98, 99, 100, 101] 15 rfl (by decide) (by rfl) sA).mono ?_
  rintro e wb ⟨g2, c2, rfl, h21, h22, s2p⟩
  have HF2 := Lib.hid (putM_fine (g := g2) (bs := [48, 49, 50, 51, 52, 53, 54, 55, 56, 57, 97, 98, 99, 100, 101]) rfl h21 h22 (by decide)); clear h21 h22 sA

  go_wp2_with fail
  have hKp : ((fun w' : World => w'.rangeAt gc 0 cbC ∧ gc < w'.heap.size)) _ := ⟨Sat.rangeAt (s2p.f : Sat W _ (seg true gc 0 cbC :: [])), Sat.lt (s2p.f : Sat W _ (seg true gc 0 cbC :: [])) (by simp)⟩
  refine hK.out _ _ hKp ?_
  clear hK K hHeld
  have hHeld := hKp
  clear hKp
  try simp only [pA1, pA2, pA3, pA4]
  refine anyE_one (i := 7) (x := ?_) ?_ (by kernel_rfl) (fun K hK => ?_)
  rotate_left
  ·(simp only [gE1, gE2, gE3]; rfl)
  go_simp
  have sB : Sat W _ (seg true wb.heap.size 0 (puC g2 15 c2 ++ cbC) :: bytes true (some ⟨g2, 0, none⟩) [48, 49, 50, 51, 52, 53, 54, 55, 56, 57, 97, 98, 99, 100, 101] :: seg true k1 0 (puC g1 16 c1 ++ cbC) :: bytes true (some ⟨g1, 0, none⟩) [48, 49, 50, 51, 52, 53, 54, 55, 56, 57, 97, 98, 99, 100, 101, 102] :: seg true gc 0 cbC :: []) := s2p.alloc (puC g2 15 c2 ++ cbC).toArray 27
  clear s2p
  obtain ⟨k2, hk2⟩ : ∃ k, k = wb.heap.size := ⟨_, rfl⟩
  rw [← hk2] at sB ⊢
  clear hk2
  have hKp : ((fun w' : World => w'.rangeAt gc 0 cbC ∧ gc < w'.heap.size)) _ := ⟨Sat.rangeAt (sB.f : Sat W _ (seg true gc 0 cbC :: [])), Sat.lt (sB.f : Sat W _ (seg true gc 0 cbC :: [])) (by simp)⟩
  refine hK.out _ _ hKp ?_
  clear hK K hHeld
  have hHeld := hKp
  clear hKp
  try simp only [pA1, pA2, pA3, pA4]
  refine anyE_one (i := 8) (x := ?_) ?_ (by kernel_rfl) (fun K hK => ?_)
  rotate_left
  ·(simp only [gE1, gE2, gE3]; rfl)
  go_simp
  have t1 := cbB (putB (n := 16) (c := c1) (sB.f : Sat W _ (bytes true (some ⟨g1, 0, none⟩) [48, 49, 50, 51, 52, 53, 54, 55, 56, 57, 97, 98, 99, 100, 101, 102] :: bytes true (some ⟨g2, 0, none⟩) [48, 49, 50, 51, 52, 53, 54, 55, 56, 57, 97, 98, 99, 100, 101] :: seg true k1 0 (puC g1 16 c1 ++ cbC) :: seg true k2 0 (puC g2 15 c2 ++ cbC) :: seg true gc 0 cbC :: [])))
  have t2 := opsMk2 (x := putM g1 16 c1 [48, 49, 50, 51, 52, 53, 54, 55, 56, 57, 97, 98, 99, 100, 101, 102]) (y := cbM) HF1.out cbM_fine (t1.f : Sat W _ (seg true k1 0 (puC g1 16 c1 ++ cbC) :: opB (putM g1 16 c1 [48, 49, 50, 51, 52, 53, 54, 55, 56, 57, 97, 98, 99, 100, 101, 102]) :: opB cbM :: bytes true (some ⟨g2, 0, none⟩) [48, 49, 50, 51, 52, 53, 54, 55, 56, 57, 97, 98, 99, 100, 101] :: seg true k2 0 (puC g2 15 c2 ++ cbC) :: seg true gc 0 cbC :: []))
  have t3 := cbB (putB (n := 15) (c := c2) (t2.f : Sat W _ (bytes true (some ⟨g2, 0, none⟩) [48, 49, 50, 51, 52, 53, 54, 55, 56, 57, 97, 98, 99, 100, 101] :: opsR (some ⟨k1, 0, none⟩) [putM g1 16 c1 [48, 49, 50, 51, 52, 53, 54, 55, 56, 57, 97, 98, 99, 100, 101, 102], cbM] :: seg true k2 0 (puC g2 15 c2 ++ cbC) :: seg true gc 0 cbC :: [])))
  have t4 := opsMk2 (x := putM g2 15 c2 [48, 49, 50, 51, 52, 53, 54, 55, 56, 57, 97, 98, 99, 100, 101]) (y := cbM) HF2.out cbM_fine (t3.f : Sat W _ (seg true k2 0 (puC g2 15 c2 ++ cbC) :: opB (putM g2 15 c2 [48, 49, 50, 51, 52, 53, 54, 55, 56, 57, 97, 98, 99, 100, 101]) :: opB cbM :: opsR (some ⟨k1, 0, none⟩) [putM g1 16 c1 [48, 49, 50, 51, 52, 53, 54, 55, 56, 57, 97, 98, 99, 100, 101, 102], cbM] :: seg true gc 0 cbC :: []))
  refine (splitV (n := 2) (m := 2) _ _ 1 rfl rfl (by decide) (by decide) (by simp [goodP, OpM.c, putM, cbM]) (by simp [goodP, OpM.c, putM, cbM]) (part_b _ _ _ _) (t4.f : Sat W _ (opsR (some ⟨k1, 0, none⟩) [putM g1 16 c1 [48, 49, 50, 51, 52, 53, 54, 55, 56, 57, 97, 98, 99, 100, 101, 102], cbM] :: opsR (some ⟨k2, 0, none⟩) [putM g2 15 c2 [48, 49, 50, 51, 52, 53, 54, 55, 56, 57, 97, 98, 99, 100, 101], cbM] :: seg true gc 0 cbC :: []))).mono ?_
  rintro e wz ⟨rfl, sz⟩
  clear sB t1 t2 t3 t4 HF1 HF2
  go_wp2_with fail
  have hKp : ((fun w' : World => w'.rangeAt gc 0 cbC ∧ gc < w'.heap.size)) _ := ⟨Sat.rangeAt (sz.f : Sat W _ (seg true gc 0 cbC :: [])), Sat.lt (sz.f : Sat W _ (seg true gc 0 cbC :: [])) (by simp)⟩
  refine hK.out _ _ hKp ?_
  clear hK K hHeld
  have hHeld := hKp
  clear hKp
  try simp only [pA1, pA2, pA3, pA4]
  iterate 5
   first | refine autoT hHeld (by rfl) (by rfl) (x := ?_) (v := ?_) ?_ (by kernel_rfl) ?_ ?_ ?_ | refine autoP (by rfl) (x := ?_) (v := ?_) ?_ (by kernel_rfl) ?_ ?_ ?_
   rotate_left 2
   ·(simp only [gE1, gE2, gE3]; rfl)
   ·exact fun _ _ _ h => h
   ·refine Or.inl ⟨by rfl, fun w hSw => ?_⟩
    (try dsimp only at hSw)
    go_simp
    try (with_reducible rfl)
   try simp only [pA1, pA2, pA3, pA4]
  refine anyE_done (by kernel_rfl) ?_ _
  clear hHeld hk0
  go_wp2_with fail
  refine (putU ⟨[].toArray⟩ [] 0 rfl (by decide) (by rfl) sz).mono ?_
  rintro e w8 ⟨g5, c5, rfl, h51, h52, s5p⟩
  have HF5 := Lib.hid (putM_fine (g := g5) (bs := []) rfl h51 h52 (by decide)); clear h51 h52 sz
  have t1 : Sat W _ (seg true w8.heap.size 0 (puC g5 0 c5) :: bytes true (some ⟨g5, 0, none⟩) [] :: seg true gc 0 cbC :: []) := s5p.alloc (puC g5 0 c5).toArray 27
  have t2 := putB (n := 0) (c := c5) (t1.f : Sat W _ (bytes true (some ⟨g5, 0, none⟩) [] :: seg true w8.heap.size 0 (puC g5 0 c5) :: []))
  have t3 := opsNil (opsMk1 (x := putM g5 0 c5 []) HF5.out (t2.f : Sat W _ (seg true w8.heap.size 0 (puC g5 0 c5) :: opB (putM g5 0 c5 []) :: [])))
  clear s5p t1 t2 HF5
  go_wp2_with fail
  refine (splitV (n := 0) (m := 1) [] [putM g5 0 c5 []] 0 rfl rfl (by decide) (by decide) (by simp [goodP, OpM.c, putM, cbM]) (by simp [goodP, OpM.c, putM, cbM]) (part_c _ _) t3).mono ?_
  rintro e w9 ⟨rfl, u1⟩
  clear t3
  have u2 : Sat W _ (seg true w9.heap.size 0 (u8s [7, 8]) :: []) := u1.alloc (u8s [7, 8]).toArray 5
  have u3 : Sat W _ (seg true (w9.heap.size + 1) 0 (opU3 (some ⟨w9.heap.size, 0, none⟩) 2 2) :: seg true w9.heap.size 0 (u8s [7, 8]) :: []) := allocAt' u2 (opU3 (some ⟨w9.heap.size, 0, none⟩) 2 2).toArray 27 (by simp)
  have u4 : Sat W _ (seg true (w9.heap.size + 1) 0 (opU3 (some ⟨w9.heap.size, 0, none⟩) 2 2) :: bytes true (some ⟨w9.heap.size, 0, none⟩) [7, 8] :: []) := (bytesOf (u3.pull 1)).pull 1
  clear u1 u2 u3
  go_wp2_with (refine wpl_build rfl 27 rfl (.agg (opU3 (some ⟨w9.heap.size, 0, none⟩) 2 2).toArray) (by simp only [List.map_toArray, List.map_cons, List.map_nil]; exact build_up _ _ _ _) ?_)
  refine (maskedU u4).mono ?_
  rintro e wc ⟨qm, cm, gm, dm, rfl, v1⟩
  clear u4
  go_wp2_with fail
  refine (livesP v1).mono ?_
  rintro e wd ⟨rfl, v2⟩
  clear v1
  obtain ⟨-, ⟨-, -, h0, -, -⟩ | ⟨m, rst, rfl, -, -, -, v3⟩⟩ := v2.rowOpen
  ·exact absurd h0 (by decide)
  have v4 : Sat W wd (seg true m 0 (plU3 3 (some ⟨gm, 0, none⟩) 2 dm) :: seg true gm 0 (u8s [0, 0]) :: []) := v3.imp fun x hx i v hv => hx i v (by rw [List.getElem?_append_left (List.getElem?_eq_some_iff.1 hv).1]; exact hv)
  clear v2 v3
  have y2 : Sat W _ (seg true wd.heap.size 0 (u8s [0, 0]) :: seg true m 0 (plU3 3 (some ⟨gm, 0, none⟩) 2 dm) :: seg true gm 0 (u8s [0, 0]) :: []) := v4.alloc (u8s [0, 0]).toArray 5
  have y3 : Sat W _ (seg true (wd.heap.size + 1) 0 (plU3 3 (some ⟨wd.heap.size, 0, none⟩) 2 2) :: seg true wd.heap.size 0 (u8s [0, 0]) :: seg true m 0 (plU3 3 (some ⟨gm, 0, none⟩) 2 dm) :: seg true gm 0 (u8s [0, 0]) :: []) := allocAt' y2 (plU3 3 (some ⟨wd.heap.size, 0, none⟩) 2 2).toArray 27 (by simp)
  have y4 := bytesOf (y3.f : Sat W _ (seg true wd.heap.size 0 (u8s [0, 0]) :: seg true (wd.heap.size + 1) 0 (plU3 3 (some ⟨wd.heap.size, 0, none⟩) 2 2) :: seg true m 0 (plU3 3 (some ⟨gm, 0, none⟩) 2 dm) :: seg true gm 0 (u8s [0, 0]) :: []))
  have y5 := bytesOf (y4.f : Sat W _ (seg true gm 0 (u8s [0, 0]) :: bytes true (some ⟨wd.heap.size, 0, none⟩) [0, 0] :: seg true (wd.heap.size + 1) 0 (plU3 3 (some ⟨wd.heap.size, 0, none⟩) 2 2) :: seg true m 0 (plU3 3 (some ⟨gm, 0, none⟩) 2 dm) :: []))
  have y6 : Sat W _ (seg true m 0 (plU3 3 (some ⟨gm, 0, none⟩) 2 dm) :: seg true (wd.heap.size + 1) 0 (plU3 3 (some ⟨wd.heap.size, 0, none⟩) 2 2) :: bytes true (some ⟨gm, 0, none⟩) [0, 0] :: bytes true (some ⟨wd.heap.size, 0, none⟩) [0, 0] :: []) := y5.f
  clear y2 y3 y4 y5 v4
  go_wp2_with (refine wpl_build rfl 27 rfl (.agg (plU3 3 (some ⟨wd.heap.size, 0, none⟩) 2 2).toArray) (by simp only [List.map_toArray, List.map_cons, List.map_nil]; exact build_pl _ _ _ _) ?_)
  refine (sameOpsU y6).mono ?_
  rintro e we ⟨rfl, yz⟩
  clear y6
  have HB := Lib.hid yz.below; clear yz
  go_wp2
  go_ret
  exact ⟨rfl, HB.out⟩
 ·go_simp
  refine (putU ⟨[48, 49, 50, 51, 52, 53, 54, 55, 56, 57, 97, 98, 99, 100, 101].toArray⟩ [48, 49, 50, 51, 52, 53, 54, 55, 56, 57, 97, 98, 99, 100, 101] 15 rfl (by decide) (by rfl) s1p).mono ?_
  rintro e wb ⟨g2, c2, rfl, h21, h22, s2p⟩
  have HF2 := Lib.hid (putM_fine (g := g2) (bs := [48, 49, 50, 51, 52, 53, 54, 55, 56, 57, 97, 98, 99, 100, 101]) rfl h21 h22 (by decide)); clear h21 h22 s1p

  go_wp2_with fail
  have hKp : ((fun w' : World => w'.rangeAt gc 0 cbC ∧ gc < w'.heap.size)) _ := ⟨Sat.rangeAt (s2p.f : Sat W _ (seg true gc 0 cbC :: [])), Sat.lt (s2p.f : Sat W _ (seg true gc 0 cbC :: [])) (by simp)⟩
  refine hK.out _ _ hKp ?_
  clear hK K hHeld
  have hHeld := hKp
  clear hKp
  try simp only [pA1, pA2, pA3, pA4]
  refine anyE_two (i := 3) (j := 7) (x := ?_) (y := ?_) ?_ ?_ (by kernel_rfl) (fun K hK => ?_) (fun K hK => ?_)
  rotate_left 2
  ·(simp only [gE1, gE2, gE3]; rfl)
  ·(simp only [gE1, gE2, gE3]; rfl)
  ·go_simp
   have sA : Sat W _ (seg true wb.heap.size 0 (puC g1 16 c1 ++ cbC) :: bytes true (some ⟨g2, 0, none⟩) [48, 49, 50, 51, 52, 53, 54, 55, 56, 57, 97, 98, 99, 100, 101] :: bytes true (some ⟨g1, 0, none⟩) [48, 49, 50, 51, 52, 53, 54, 55, 56, 57, 97, 98, 99, 100, 101, 102] :: seg true gc 0 cbC :: []) := s2p.alloc (puC g1 16 c1 ++ cbC).toArray 27
   clear s2p
   obtain ⟨k1, hk1⟩ : ∃ k, k = wb.heap.size := ⟨_, rfl⟩
   rw [← hk1] at sA ⊢
   clear hk1
   have hKp : ((fun w' : World => w'.rangeAt gc 0 cbC ∧ gc < w'.heap.size)) _ := ⟨Sat.rangeAt (sA.f : Sat W _ (seg true gc 0 cbC :: [])), Sat.lt (sA.f : Sat W _ (seg true gc 0 cbC :: [])) (by simp)⟩
   refine hK.out _ _ hKp ?_
   clear hK K hHeld
   have hHeld := hKp
   clear hKp
   try simp only [pA1, pA2, pA3, pA4]
   refine anyE_one (i := 7) (x := ?_) ?_ (by kernel_rfl) (fun K hK => ?_)
   rotate_left
   ·(simp only [gE1, gE2, gE3]; rfl)
   go_simp
   obtain ⟨k2, hk2⟩ : ∃ k, k = wb.heap.size + 1 := ⟨_, rfl⟩
   have sB : Sat W _ (seg true k2 0 (puC g2 15 c2 ++ cbC) :: seg true k1 0 (puC g1 16 c1 ++ cbC) :: bytes true (some ⟨g2, 0, none⟩) [48, 49, 50, 51, 52, 53, 54, 55, 56, 57, 97, 98, 99, 100, 101] :: bytes true (some ⟨g1, 0, none⟩) [48, 49, 50, 51, 52, 53, 54, 55, 56, 57, 97, 98, 99, 100, 101, 102] :: seg true gc 0 cbC :: []) := allocAt' sA (puC g2 15 c2 ++ cbC).toArray 27 (by rw [hk2]; simp)
   clear sA
   rw [← hk2]
   clear hk2
   have hKp : ((fun w' : World => w'.rangeAt gc 0 cbC ∧ gc < w'.heap.size)) _ := ⟨Sat.rangeAt (sB.f : Sat W _ (seg true gc 0 cbC :: [])), Sat.lt (sB.f : Sat W _ (seg true gc 0 cbC :: [])) (by simp)⟩
   refine hK.out _ _ hKp ?_
   clear hK K hHeld
   have hHeld := hKp
   clear hKp
   try simp only [pA1, pA2, pA3, pA4]
   refine anyE_one (i := 8) (x := ?_) ?_ (by kernel_rfl) (fun K hK => ?_)
   rotate_left
   ·(simp only [gE1, gE2, gE3]; rfl)
   go_simp
   have t1 := cbB (putB (n := 16) (c := c1) (sB.f : Sat W _ (bytes true (some ⟨g1, 0, none⟩) [48, 49, 50, 51, 52, 53, 54, 55, 56, 57, 97, 98, 99, 100, 101, 102] :: bytes true (some ⟨g2, 0, none⟩) [48, 49, 50, 51, 52, 53, 54, 55, 56, 57, 97, 98, 99, 100, 101] :: seg true k1 0 (puC g1 16 c1 ++ cbC) :: seg true k2 0 (puC g2 15 c2 ++ cbC) :: seg true gc 0 cbC :: [])))
   have t2 := opsMk2 (x := putM g1 16 c1 [48, 49, 50, 51, 52, 53, 54, 55, 56, 57, 97, 98, 99, 100, 101, 102]) (y := cbM) HF1.out cbM_fine (t1.f : Sat W _ (seg true k1 0 (puC g1 16 c1 ++ cbC) :: opB (putM g1 16 c1 [48, 49, 50, 51, 52, 53, 54, 55, 56, 57, 97, 98, 99, 100, 101, 102]) :: opB cbM :: bytes true (some ⟨g2, 0, none⟩) [48, 49, 50, 51, 52, 53, 54, 55, 56, 57, 97, 98, 99, 100, 101] :: seg true k2 0 (puC g2 15 c2 ++ cbC) :: seg true gc 0 cbC :: []))
   have t3 := cbB (putB (n := 15) (c := c2) (t2.f : Sat W _ (bytes true (some ⟨g2, 0, none⟩) [48, 49, 50, 51, 52, 53, 54, 55, 56, 57, 97, 98, 99, 100, 101] :: opsR (some ⟨k1, 0, none⟩) [putM g1 16 c1 [48, 49, 50, 51, 52, 53, 54, 55, 56, 57, 97, 98, 99, 100, 101, 102], cbM] :: seg true k2 0 (puC g2 15 c2 ++ cbC) :: seg true gc 0 cbC :: [])))
   have t4 := opsMk2 (x := putM g2 15 c2 [48, 49, 50, 51, 52, 53, 54, 55, 56, 57, 97, 98, 99, 100, 101]) (y := cbM) HF2.out cbM_fine (t3.f : Sat W _ (seg true k2 0 (puC g2 15 c2 ++ cbC) :: opB (putM g2 15 c2 [48, 49, 50, 51, 52, 53, 54, 55, 56, 57, 97, 98, 99, 100, 101]) :: opB cbM :: opsR (some ⟨k1, 0, none⟩) [putM g1 16 c1 [48, 49, 50, 51, 52, 53, 54, 55, 56, 57, 97, 98, 99, 100, 101, 102], cbM] :: seg true gc 0 cbC :: []))
   refine (splitV (n := 2) (m := 2) _ _ 1 rfl rfl (by decide) (by decide) (by simp [goodP, OpM.c, putM, cbM]) (by simp [goodP, OpM.c, putM, cbM]) (part_b _ _ _ _) (t4.f : Sat W _ (opsR (some ⟨k1, 0, none⟩) [putM g1 16 c1 [48, 49, 50, 51, 52, 53, 54, 55, 56, 57, 97, 98, 99, 100, 101, 102], cbM] :: opsR (some ⟨k2, 0, none⟩) [putM g2 15 c2 [48, 49, 50, 51, 52, 53, 54, 55, 56, 57, 97, 98, 99, 100, 101], cbM] :: seg true gc 0 cbC :: []))).mono ?_
   rintro e wz ⟨rfl, sz⟩
   clear sB t1 t2 t3 t4 HF1 HF2
   go_wp2_with fail
   have hKp : ((fun w' : World => w'.rangeAt gc 0 cbC ∧ gc < w'.heap.size)) _ := ⟨Sat.rangeAt (sz.f : Sat W _ (seg true gc 0 cbC :: [])), Sat.lt (sz.f : Sat W _ (seg true gc 0 cbC :: [])) (by simp)⟩
   refine hK.out _ _ hKp ?_
   clear hK K hHeld
   have hHeld := hKp
   clear hKp
   try simp only [pA1, pA2, pA3, pA4]
   iterate 5
    first | refine autoT hHeld (by rfl) (by rfl) (x := ?_) (v := ?_) ?_ (by kernel_rfl) ?_ ?_ ?_ | refine autoP (by rfl) (x := ?_) (v := ?_) ?_ (by kernel_rfl) ?_ ?_ ?_
    rotate_left 2
    ·(simp only [gE1, gE2, gE3]; rfl)
    ·exact fun _ _ _ h => h
    ·refine Or.inl ⟨by rfl, fun w hSw => ?_⟩
     (try dsimp only at hSw)
     go_simp
     try (with_reducible rfl)
    try simp only [pA1, pA2, pA3, pA4]
   refine anyE_done (by kernel_rfl) ?_ _
   clear hHeld hk0
   go_wp2_with fail
   refine (putU ⟨[].toArray⟩ [] 0 rfl (by decide) (by rfl) sz).mono ?_
   rintro e w8 ⟨g5, c5, rfl, h51, h52, s5p⟩
   have HF5 := Lib.hid (putM_fine (g := g5) (bs := []) rfl h51 h52 (by decide)); clear h51 h52 sz
   have t1 : Sat W _ (seg true w8.heap.size 0 (puC g5 0 c5) :: bytes true (some ⟨g5, 0, none⟩) [] :: seg true gc 0 cbC :: []) := s5p.alloc (puC g5 0 c5).toArray 27
   have t2 := putB (n := 0) (c := c5) (t1.f : Sat W _ (bytes true (some ⟨g5, 0, none⟩) [] :: seg true w8.heap.size 0 (puC g5 0 c5) :: []))
   have t3 := opsNil (opsMk1 (x := putM g5 0 c5 []) HF5.out (t2.f : Sat W _ (seg true w8.heap.size 0 (puC g5 0 c5) :: opB (putM g5 0 c5 []) :: [])))
   clear s5p t1 t2 HF5
   go_wp2_with fail
   refine (splitV (n := 0) (m := 1) [] [putM g5 0 c5 []] 0 rfl rfl (by decide) (by decide) (by simp [goodP, OpM.c, putM, cbM]) (by simp [goodP, OpM.c, putM, cbM]) (part_c _ _) t3).mono ?_
   rintro e w9 ⟨rfl, u1⟩
   clear t3
   have u2 : Sat W _ (seg true w9.heap.size 0 (u8s [7, 8]) :: []) := u1.alloc (u8s [7, 8]).toArray 5
   have u3 : Sat W _ (seg true (w9.heap.size + 1) 0 (opU3 (some ⟨w9.heap.size, 0, none⟩) 2 2) :: seg true w9.heap.size 0 (u8s [7, 8]) :: []) := allocAt' u2 (opU3 (some ⟨w9.heap.size, 0, none⟩) 2 2).toArray 27 (by simp)
   have u4 : Sat W _ (seg true (w9.heap.size + 1) 0 (opU3 (some ⟨w9.heap.size, 0, none⟩) 2 2) :: bytes true (some ⟨w9.heap.size, 0, none⟩) [7, 8] :: []) := (bytesOf (u3.pull 1)).pull 1
   clear u1 u2 u3
   go_wp2_with (refine wpl_build rfl 27 rfl (.agg (opU3 (some ⟨w9.heap.size, 0, none⟩) 2 2).toArray) (by simp only [List.map_toArray, List.map_cons, List.map_nil]; exact build_up _ _ _ _) ?_)
   refine (maskedU u4).mono ?_
   rintro e wc ⟨qm, cm, gm, dm, rfl, v1⟩
   clear u4
   go_wp2_with fail
   refine (livesP v1).mono ?_
   rintro e wd ⟨rfl, v2⟩
   clear v1
   obtain ⟨-, ⟨-, -, h0, -, -⟩ | ⟨m, rst, rfl, -, -, -, v3⟩⟩ := v2.rowOpen
   ·exact absurd h0 (by decide)
   have v4 : Sat W wd (seg true m 0 (plU3 3 (some ⟨gm, 0, none⟩) 2 dm) :: seg true gm 0 (u8s [0, 0]) :: []) := v3.imp fun x hx i v hv => hx i v (by rw [List.getElem?_append_left (List.getElem?_eq_some_iff.1 hv).1]; exact hv)
   clear v2 v3
   have y2 : Sat W _ (seg true wd.heap.size 0 (u8s [0, 0]) :: seg true m 0 (plU3 3 (some ⟨gm, 0, none⟩) 2 dm) :: seg true gm 0 (u8s [0, 0]) :: []) := v4.alloc (u8s [0, 0]).toArray 5
   have y3 : Sat W _ (seg true (wd.heap.size + 1) 0 (plU3 3 (some ⟨wd.heap.size, 0, none⟩) 2 2) :: seg true wd.heap.size 0 (u8s [0, 0]) :: seg true m 0 (plU3 3 (some ⟨gm, 0, none⟩) 2 dm) :: seg true gm 0 (u8s [0, 0]) :: []) := allocAt' y2 (plU3 3 (some ⟨wd.heap.size, 0, none⟩) 2 2).toArray 27 (by simp)
   have y4 := bytesOf (y3.f : Sat W _ (seg true wd.heap.size 0 (u8s [0, 0]) :: seg true (wd.heap.size + 1) 0 (plU3 3 (some ⟨wd.heap.size, 0, none⟩) 2 2) :: seg true m 0 (plU3 3 (some ⟨gm, 0, none⟩) 2 dm) :: seg true gm 0 (u8s [0, 0]) :: []))
   have y5 := bytesOf (y4.f : Sat W _ (seg true gm 0 (u8s [0, 0]) :: bytes true (some ⟨wd.heap.size, 0, none⟩) [0, 0] :: seg true (wd.heap.size + 1) 0 (plU3 3 (some ⟨wd.heap.size, 0, none⟩) 2 2) :: seg true m 0 (plU3 3 (some ⟨gm, 0, none⟩) 2 dm) :: []))
   have y6 : Sat W _ (seg true m 0 (plU3 3 (some ⟨gm, 0, none⟩) 2 dm) :: seg true (wd.heap.size + 1) 0 (plU3 3 (some ⟨wd.heap.size, 0, none⟩) 2 2) :: bytes true (some ⟨gm, 0, none⟩) [0, 0] :: bytes true (some ⟨wd.heap.size, 0, none⟩) [0, 0] :: []) := y5.f
   clear y2 y3 y4 y5 v4
   go_wp2_with (refine wpl_build rfl 27 rfl (.agg (plU3 3 (some ⟨wd.heap.size, 0, none⟩) 2 2).toArray) (by simp only [List.map_toArray, List.map_cons, List.map_nil]; exact build_pl _ _ _ _) ?_)
   refine (sameOpsU y6).mono ?_
   rintro e we ⟨rfl, yz⟩
   clear y6
   have HB := Lib.hid yz.below; clear yz
   go_wp2
   go_ret
   exact ⟨rfl, HB.out⟩
  ·go_simp
   have sA : Sat W _ (seg true wb.heap.size 0 (puC g2 15 c2 ++ cbC) :: bytes true (some ⟨g2, 0, none⟩) [48, 49, 50, 51, 52, 53, 54, 55, 56, 57, 97, 98, 99, 100, 101] :: bytes true (some ⟨g1, 0, none⟩) [48, 49, 50, 51, 52, 53, 54, 55, 56, 57, 97, 98, 99, 100, 101, 102] :: seg true gc 0 cbC :: []) := s2p.alloc (puC g2 15 c2 ++ cbC).toArray 27
   clear s2p
   obtain ⟨k2, hk2⟩ : ∃ k, k = wb.heap.size := ⟨_, rfl⟩
   rw [← hk2] at sA ⊢
   clear hk2
   have hKp : ((fun w' : World => w'.rangeAt gc 0 cbC ∧ gc < w'.heap.size)) _ := ⟨Sat.rangeAt (sA.f : Sat W _ (seg true gc 0 cbC :: [])), Sat.lt (sA.f : Sat W _ (seg true gc 0 cbC :: [])) (by simp)⟩
   refine hK.out _ _ hKp ?_
   clear hK K hHeld
   have hHeld := hKp
   clear hKp
   try simp only [pA1, pA2, pA3, pA4]
   refine anyE_one (i := 3) (x := ?_) ?_ (by kernel_rfl) (fun K hK => ?_)
   rotate_left
   ·(simp only [gE1, gE2, gE3]; rfl)
   go_simp
   obtain ⟨k1, hk1⟩ : ∃ k, k = wb.heap.size + 1 := ⟨_, rfl⟩
   have sB : Sat W _ (seg true k1 0 (puC g1 16 c1 ++ cbC) :: seg true k2 0 (puC g2 15 c2 ++ cbC) :: bytes true (some ⟨g2, 0, none⟩) [48, 49, 50, 51, 52, 53, 54, 55, 56, 57, 97, 98, 99, 100, 101] :: bytes true (some ⟨g1, 0, none⟩) [48, 49, 50, 51, 52, 53, 54, 55, 56, 57, 97, 98, 99, 100, 101, 102] :: seg true gc 0 cbC :: []) := allocAt' sA (puC g1 16 c1 ++ cbC).toArray 27 (by rw [hk1]; simp)
   clear sA
   rw [← hk1]
   clear hk1
   have hKp : ((fun w' : World => w'.rangeAt gc 0 cbC ∧ gc < w'.heap.size)) _ := ⟨Sat.rangeAt (sB.f : Sat W _ (seg true gc 0 cbC :: [])), Sat.lt (sB.f : Sat W _ (seg true gc 0 cbC :: [])) (by simp)⟩
   refine hK.out _ _ hKp ?_
   clear hK K hHeld
   have hHeld := hKp
   clear hKp
   try simp only [pA1, pA2, pA3, pA4]
   refine anyE_one (i := 8) (x := ?_) ?_ (by kernel_rfl) (fun K hK => ?_)
   rotate_left
   ·(simp only [gE1, gE2, gE3]; rfl)
   go_simp
   have t1 := cbB (putB (n := 16) (c := c1) (sB.f : Sat W _ (bytes true (some ⟨g1, 0, none⟩) [48, 49, 50, 51, 52, 53, 54, 55, 56, 57, 97, 98, 99, 100, 101, 102] :: bytes true (some ⟨g2, 0, none⟩) [48, 49, 50, 51, 52, 53, 54, 55, 56, 57, 97, 98, 99, 100, 101] :: seg true k1 0 (puC g1 16 c1 ++ cbC) :: seg true k2 0 (puC g2 15 c2 ++ cbC) :: seg true gc 0 cbC :: [])))
   have t2 := opsMk2 (x := putM g1 16 c1 [48, 49, 50, 51, 52, 53, 54, 55, 56, 57, 97, 98, 99, 100, 101, 102]) (y := cbM) HF1.out cbM_fine (t1.f : Sat W _ (seg true k1 0 (puC g1 16 c1 ++ cbC) :: opB (putM g1 16 c1 [48, 49, 50, 51, 52, 53, 54, 55, 56, 57, 97, 98, 99, 100, 101, 102]) :: opB cbM :: bytes true (some ⟨g2, 0, none⟩) [48, 49, 50, 51, 52, 53, 54, 55, 56, 57, 97, 98, 99, 100, 101] :: seg true k2 0 (puC g2 15 c2 ++ cbC) :: seg true gc 0 cbC :: []))
   have t3 := cbB (putB (n := 15) (c := c2) (t2.f : Sat W _ (bytes true (some ⟨g2, 0, none⟩) [48, 49, 50, 51, 52, 53, 54, 55, 56, 57, 97, 98, 99, 100, 101] :: opsR (some ⟨k1, 0, none⟩) [putM g1 16 c1 [48, 49, 50, 51, 52, 53, 54, 55, 56, 57, 97, 98, 99, 100, 101, 102], cbM] :: seg true k2 0 (puC g2 15 c2 ++ cbC) :: seg true gc 0 cbC :: [])))
   have t4 := opsMk2 (x := putM g2 15 c2 [48, 49, 50, 51, 52, 53, 54, 55, 56, 57, 97, 98, 99, 100, 101]) (y := cbM) HF2.out cbM_fine (t3.f : Sat W _ (seg true k2 0 (puC g2 15 c2 ++ cbC) :: opB (putM g2 15 c2 [48, 49, 50, 51, 52, 53, 54, 55, 56, 57, 97, 98, 99, 100, 101]) :: opB cbM :: opsR (some ⟨k1, 0, none⟩) [putM g1 16 c1 [48, 49, 50, 51, 52, 53, 54, 55, 56, 57, 97, 98, 99, 100, 101, 102], cbM] :: seg true gc 0 cbC :: []))
   refine (splitV (n := 2) (m := 2) _ _ 1 rfl rfl (by decide) (by decide) (by simp [goodP, OpM.c, putM, cbM]) (by simp [goodP, OpM.c, putM, cbM]) (part_b _ _ _ _) (t4.f : Sat W _ (opsR (some ⟨k1, 0, none⟩) [putM g1 16 c1 [48, 49, 50, 51, 52, 53, 54, 55, 56, 57, 97, 98, 99, 100, 101, 102], cbM] :: opsR (some ⟨k2, 0, none⟩) [putM g2 15 c2 [48, 49, 50, 51, 52, 53, 54, 55, 56, 57, 97, 98, 99, 100, 101], cbM] :: seg true gc 0 cbC :: []))).mono ?_
   rintro e wz ⟨rfl, sz⟩
   clear sB t1 t2 t3 t4 HF1 HF2
   go_wp2_with fail
   have hKp : ((fun w' : World => w'.rangeAt gc 0 cbC ∧ gc < w'.heap.size)) _ := ⟨Sat.rangeAt (sz.f : Sat W _ (seg true gc 0 cbC :: [])), Sat.lt (sz.f : Sat W _ (seg true gc 0 cbC :: [])) (by simp)⟩
   refine hK.out _ _ hKp ?_
   clear hK K hHeld
   have hHeld := hKp
   clear hKp
   try simp only [pA1, pA2, pA3, pA4]
   iterate 5
    first | refine autoT hHeld (by rfl) (by rfl) (x := ?_) (v := ?_) ?_ (by kernel_rfl) ?_ ?_ ?_ | refine autoP (by rfl) (x := ?_) (v := ?_) ?_ (by kernel_rfl) ?_ ?_ ?_
    rotate_left 2
    ·(simp only [gE1, gE2, gE3]; rfl)
    ·exact fun _ _ _ h => h
    ·refine Or.inl ⟨by rfl, fun w hSw => ?_⟩
     (try dsimp only at hSw)
     go_simp
     try (with_reducible rfl)
    try simp only [pA1, pA2, pA3, pA4]
   refine anyE_done (by kernel_rfl) ?_ _
   clear hHeld hk0
   go_wp2_with fail
   refine (putU ⟨[].toArray⟩ [] 0 rfl (by decide) (by rfl) sz).mono ?_
   rintro e w8 ⟨g5, c5, rfl, h51, h52, s5p⟩
   have HF5 := Lib.hid (putM_fine (g := g5) (bs := []) rfl h51 h52 (by decide)); clear h51 h52 sz
   have t1 : Sat W _ (seg true w8.heap.size 0 (puC g5 0 c5) :: bytes true (some ⟨g5, 0, none⟩) [] :: seg true gc 0 cbC :: []) := s5p.alloc (puC g5 0 c5).toArray 27
   have t2 := putB (n := 0) (c := c5) (t1.f : Sat W _ (bytes true (some ⟨g5, 0, none⟩) [] :: seg true w8.heap.size 0 (puC g5 0 c5) :: []))
   have t3 := opsNil (opsMk1 (x := putM g5 0 c5 []) HF5.out (t2.f : Sat W _ (seg true w8.heap.size 0 (puC g5 0 c5) :: opB (putM g5 0 c5 []) :: [])))
   clear s5p t1 t2 HF5
   go_wp2_with fail
   refine (splitV (n := 0) (m := 1) [] [putM g5 0 c5 []] 0 rfl rfl (by decide) (by decide) (by simp [goodP, OpM.c, putM, cbM]) (by simp [goodP, OpM.c, putM, cbM]) (part_c _ _) t3).mono ?_
   rintro e w9 ⟨rfl, u1⟩
   clear t3
   have u2 : Sat W _ (seg true w9.heap.size 0 (u8s [7, 8]) :: []) := u1.alloc (u8s [7, 8]).toArray 5
   have u3 : Sat W _ (seg true (w9.heap.size + 1) 0 (opU3 (some ⟨w9.heap.size, 0, none⟩) 2 2) :: seg true w9.heap.size 0 (u8s [7, 8]) :: []) := allocAt' u2 (opU3 (some ⟨w9.heap.size, 0, none⟩) 2 2).toArray 27 (by simp)
   have u4 : Sat W _ (seg true (w9.heap.size + 1) 0 (opU3 (some ⟨w9.heap.size, 0, none⟩) 2 2) :: bytes true (some ⟨w9.heap.size, 0, none⟩) [7, 8] :: []) := (bytesOf (u3.pull 1)).pull 1
   clear u1 u2 u3
   go_wp2_with (refine wpl_build rfl 27 rfl (.agg (opU3 (some ⟨w9.heap.size, 0, none⟩) 2 2).toArray) (by simp only [List.map_toArray, List.map_cons, List.map_nil]; exact build_up _ _ _ _) ?_)
   refine (maskedU u4).mono ?_
   rintro e wc ⟨qm, cm, gm, dm, rfl, v1⟩
   clear u4
   go_wp2_with fail
   refine (livesP v1).mono ?_
   rintro e wd ⟨rfl, v2⟩
   clear v1
   obtain ⟨-, ⟨-, -, h0, -, -⟩ | ⟨m, rst, rfl, -, -, -, v3⟩⟩ := v2.rowOpen
   ·exact absurd h0 (by decide)
   have v4 : Sat W wd (seg true m 0 (plU3 3 (some ⟨gm, 0, none⟩) 2 dm) :: seg true gm 0 (u8s [0, 0]) :: []) := v3.imp fun x hx i v hv => hx i v (by rw [List.getElem?_append_left (List.getElem?_eq_some_iff.1 hv).1]; exact hv)
   clear v2 v3
   have y2 : Sat W _ (seg true wd.heap.size 0 (u8s [0, 0]) :: seg true m 0 (plU3 3 (some ⟨gm, 0, none⟩) 2 dm) :: seg true gm 0 (u8s [0, 0]) :: []) := v4.alloc (u8s [0, 0]).toArray 5
   have y3 : Sat W _ (seg true (wd.heap.size + 1) 0 (plU3 3 (some ⟨wd.heap.size, 0, none⟩) 2 2) :: seg true wd.heap.size 0 (u8s [0, 0]) :: seg true m 0 (plU3 3 (some ⟨gm, 0, none⟩) 2 dm) :: seg true gm 0 (u8s [0, 0]) :: []) := allocAt' y2 (plU3 3 (some ⟨wd.heap.size, 0, none⟩) 2 2).toArray 27 (by simp)
   have y4 := bytesOf (y3.f : Sat W _ (seg true wd.heap.size 0 (u8s [0, 0]) :: seg true (wd.heap.size + 1) 0 (plU3 3 (some ⟨wd.heap.size, 0, none⟩) 2 2) :: seg true m 0 (plU3 3 (some ⟨gm, 0, none⟩) 2 dm) :: seg true gm 0 (u8s [0, 0]) :: []))
   have y5 := bytesOf (y4.f : Sat W _ (seg true gm 0 (u8s [0, 0]) :: bytes true (some ⟨wd.heap.size, 0, none⟩) [0, 0] :: seg true (wd.heap.size + 1) 0 (plU3 3 (some ⟨wd.heap.size, 0, none⟩) 2 2) :: seg true m 0 (plU3 3 (some ⟨gm, 0, none⟩) 2 dm) :: []))
   have y6 : Sat W _ (seg true m 0 (plU3 3 (some ⟨gm, 0, none⟩) 2 dm) :: seg true (wd.heap.size + 1) 0 (plU3 3 (some ⟨wd.heap.size, 0, none⟩) 2 2) :: bytes true (some ⟨gm, 0, none⟩) [0, 0] :: bytes true (some ⟨wd.heap.size, 0, none⟩) [0, 0] :: []) := y5.f
   clear y2 y3 y4 y5 v4
   go_wp2_with (refine wpl_build rfl 27 rfl (.agg (plU3 3 (some ⟨wd.heap.size, 0, none⟩) 2 2).toArray) (by simp only [List.map_toArray, List.map_cons, List.map_nil]; exact build_pl _ _ _ _) ?_)
   refine (sameOpsU y6).mono ?_
   rintro e we ⟨rfl, yz⟩
   clear y6
   have HB := Lib.hid yz.below; clear yz
   go_wp2
   go_ret
   exact ⟨rfl, HB.out⟩
end Go.Proofs.YtbefjaodpbgpcaaGreat
