
/- A slot's memory: made, put, looked at, wiped; bytes wiped; under the conditions that each names. -/
import Derived.Test.YtbefjaodpbgpcaaGreatGG
import Derived.Test.YtbefjaodpbgpcaaGreatGI
namespace Go.Proofs.YtbefjaodpbgpcaaGreat
open Go.RowKit Go.Sep Go.Bv
set_option linter.unusedVariables false
set_option linter.unusedSimpArgs false
theorem noteL {W0 w : World} {L : List Assn} {pv : Value} (p : Option Nat) (rs : List Run3) (k n : Int) (hp : pv = ptrO p) (hb : tot rs + 1 ≤ 4611686018427387904) (hl : rs.length ≤ 4294967296) (hs : Sat W0 w (ledO p rs :: L)) :
  Calls Tryz.prog 113 #[pv, .int .u8 k, .int .i64 n] w fun e w' => e = .returned (.tuple #[]) ∧ Sat W0 w' (ledO p (note rs k n 1) :: L) := by
 subst hp
 have hn := noteOne p rs k n hs hb hl
 have HN := Lib.hid hn; clear hn hs hb hl
 go_enter Tryz.func113, Tryz.ntmps113
 go_wp2_with fail
 refine HN.out.mono ?_
 rintro e w1 ⟨rfl, s1⟩
 have HS := Lib.hid s1; clear s1
 go_wp2_with fail
 exact bodyPost_end (results_none rfl _ _ _) rfl ⟨rfl, HS.out⟩
theorem wipe_step (B : List Byte) (i n : Nat) (hB : B.length = n) (hi : i < n) : (u8s (List.replicate i 0 ++ B.drop i)).set i (.int .u8 0) = u8s (List.replicate (i + 1) 0 ++ B.drop (i + 1)) := by
 have e1 : B.drop i = B[i]'(by omega) :: B.drop (i + 1) := List.drop_eq_getElem_cons (by omega)
 rw [e1, u8s_append, List.set_append_right _ _ (by rw [u8s_len, List.length_replicate]; exact Nat.le_refl _), u8s_len, List.length_replicate, Nat.sub_self, List.replicate_succ', List.append_assoc, u8s_append]
 rfl
set_option maxRecDepth 100000 in
set_option maxHeartbeats 1000000 in
theorem wipeL {W0 w : World} {L : List Assn} {b o n c : Nat} {pv : Value} (p : Option Nat) (rs : List Run3) (B : List Byte) (hp : pv = ptrO p) (hB : B.length = n) (hn : n ≤ 1000000) (hb : tot rs + 1 ≤ 4611686018427387904) (hl : rs.length ≤ 4294967296) (hs : Sat W0 w (ledO p rs :: seg true b o (u8s B) :: L)) :
  Calls Tryz.prog 93 #[pv, .slice (some ⟨b, o, none⟩) n c] w fun e w' => e = .returned (.tuple #[]) ∧ Sat W0 w' (ledO p (note rs 8 (n : Int) 1) :: seg true b o (u8s (List.replicate n 0)) :: L) := by
 subst hp
 have hnt := fun (w : World) (s : Sat W0 w (ledO p rs :: seg true b o (u8s (List.replicate n 0)) :: L)) => noteL p rs 8 (n : Int) rfl hb hl s
 have HN := Lib.hid (And.intro hnt (And.intro hB hs)); clear hnt hB hb hl hs
 go_enter Tryz.func93, Tryz.ntmps93
 go_wp2
 go_loopw [7] (fun t7 wr => ∃ i : Nat, i ≤ n ∧ t7 = .int .i64 (i : Int) ∧ Sat W0 wr (seg true b o (u8s (List.replicate i 0 ++ B.drop i)) :: ledO p rs :: L)) (fun t7 _ => n - (intOf t7).toNat)
 case atStart => exact ⟨0, Nat.zero_le _, rfl, by rw [List.replicate_zero, List.nil_append, List.drop_zero]; exact HN.out.2.2.pull 1⟩
 case round =>
  obtain ⟨i, hi, rfl, s⟩ := hrel
  by_cases hlt : i < n
  ·have hil : i < (u8s (List.replicate i 0 ++ B.drop i)).length := by rw [u8s_len, List.length_append, List.length_replicate, List.length_drop, HN.out.2.1]; omega
   have hst := s.store hil (.int .u8 0) (q := o + i) rfl
   rw [wipe_step B i n HN.out.2.1 hlt] at hst
   obtain ⟨x, hx⟩ : ∃ x, (u8s (List.replicate i 0 ++ B.drop i))[i]? = some x := ⟨_, List.getElem?_eq_getElem hil⟩
   have hc := s.cell hx
   have hf := (s.free hil).1
   have hz := World.block_lt_of_cell? _ _ hc
   have HS := Lib.hid hst; clear s hil hst hx
   go_wp2
   go_roundw
   case rel => exact ⟨i + 1, by omega, by go_num, HS.out⟩
   case measure => simp [intOf]; omega
  ·obtain rfl : i = n := by omega
   rw [List.drop_eq_nil_of_le (by rw [HN.out.2.1]; exact Nat.le_refl _), List.append_nil] at s
   have HS := Lib.hid s; clear s
   go_wp2_with fail
   refine (HN.out.1 _ (HS.out.pull 1)).mono ?_
   rintro e w1 ⟨rfl, s1⟩
   have HS1 := Lib.hid s1; clear s1
   go_wp2_with fail
   exact bodyPost_end (results_none rfl _ _ _) rfl ⟨rfl, HS1.out⟩
/-- Bytes, and noughts behind them: a memory. -/
def memB (bs : List Byte) : List Byte := bs ++ List.replicate (1024 - bs.length) 0
theorem memB_len {bs : List Byte} (h : bs.length ≤ 1024) : (memB bs).length = 1024 := by unfold memB; rw [List.length_append, List.length_replicate]; omega
/-- A slot's memory, as a struct and its bytes. -/
abbrev memL (m g k : Nat) (bs : List Byte) (L : List Assn) : List Assn := seg true m 0 [.pointer (some ⟨g, 0, none⟩), .int .i64 (k : Int)] :: seg true g 0 (u8s (memB bs)) :: L
def memA (m : Nat) (bs : List Byte) : Assn := fun h => ∃ q : Nat × Nat, bs.length ≤ 1024 ∧ sep (seg true m 0 [.pointer (some ⟨q.1, 0, none⟩), .int .i64 (q.2 : Int)]) (seg true q.1 0 (u8s (memB bs))) h
theorem memOpen {W0 w : World} {L : List Assn} {m : Nat} {bs : List Byte} (h : Sat W0 w (memA m bs :: L)) : ∃ g k, bs.length ≤ 1024 ∧ Sat W0 w (memL m g k bs L) := by
 obtain ⟨q, h1⟩ := Sat.exOpen h
 have h2 := h1.fact fun x hx => hx.1
 exact ⟨q.1, q.2, h2, Sat.sepOpen (h1.imp fun x hx => hx.2)⟩
theorem memShut {W0 w : World} {L : List Assn} {m g k : Nat} {bs : List Byte} (hb : bs.length ≤ 1024) (h : Sat W0 w (memL m g k bs L)) : Sat W0 w (memA m bs :: L) :=
 (Sat.sepShut h).imp fun x hx => ⟨(g, k), hb, hx⟩
theorem zero_slot (w : World) : (zeroValue 110).run Tryz.prog w = .ok (.agg (u8s (List.replicate 1024 0)).toArray) w := by kernel_rfl
theorem Tryz.size_slot : (Tryz.prog.info? 110).map (·.size) = some 1024 := by kernel_rfl
set_option maxRecDepth 100000 in
set_option maxHeartbeats 1000000 in
theorem memNew {W0 w : World} {L : List Assn} (hs : Sat W0 w L) :
  Calls Tryz.prog 30 #[] w fun e w' => ∃ m, e = .returned (.pointer (some ⟨m, 0, none⟩)) ∧ Sat W0 w' (memA m [] :: L) := by
 go_enter Tryz.func30, Tryz.ntmps30
 go_wp2_with (first | (refine wpl_al8 (n := 1024) rfl rfl hs (zero_slot _) ?_; intro w1 g s1 _; clear hs) | (refine wpl_box rfl 112 (.tmp 2) rfl [.pointer (some ⟨g, 0, none⟩), .int .i64 0] rfl s1 ?_; intro w2 m s2 _; clear s1))
 have HS := Lib.hid s2; clear s2
 go_ret
 exact ⟨m, rfl, memShut (g := g) (k := 0) (by simp) HS.out⟩
set_option maxHeartbeats 1000000 in
theorem memIs {W0 w : World} {L : List Assn} {m g : Nat} {v : Value} (hs : Sat W0 w (seg true m 0 [.pointer (some ⟨g, 0, none⟩), v] :: L)) :
  Calls Tryz.prog 92 #[.pointer (some ⟨m, 0, none⟩)] w fun e w' => e = .returned (.bool true) ∧ w = w' := by
 have c0 := hs.at 0 rfl
 have z0 := hs.lt (by simp)
 go_enter Tryz.func92, Tryz.ntmps92
 go_wp2
 go_ret
 exact ⟨rfl, rfl⟩
set_option maxRecDepth 100000 in
set_option maxHeartbeats 2000000 in
theorem memPut {W0 w : World} {L : List Assn} {m n cap : Nat} {md : Bool} {pp : Option Addr} {old : List Byte} (bs : List Byte) (hn : bs.length = n) (hb : n ≤ 1024) (hs : Sat W0 w (memA m old :: bytes md pp bs :: L)) :
  Calls Tryz.prog 77 #[.pointer (some ⟨m, 0, none⟩), .slice pp n cap] w fun e w' => e = .returned (.int .i64 0) ∧ Sat W0 w' (memA m bs :: bytes md pp bs :: L) := by
 obtain ⟨g, k, ho, s0⟩ := memOpen hs
 clear hs
 have hsl := fun w => run_sliceAll (P := Tryz.prog) (T := 110) (U := 5) (n := 1024) Tryz.underlying110 (by kernel_rfl) g 0 w
 have him := memIs s0
 have hwi := fun (w : World) (X : List Assn) (s : Sat W0 w (ledO none [] :: seg true g 0 (u8s (memB old)) :: X)) => wipeL (c := 1024) (pv := .pointer none) none [] (memB old) rfl (memB_len ho) (by omega) (by simp only [tot]; omega) (by simp) s
 have hnn : (bs.length : Nat) = Nat.min n 1024 := by rw [hn]; exact (Nat.min_eq_left hb).symm
 have HN := Lib.hid (And.intro him (And.intro hwi (And.intro hn hnn))); clear him hwi hn hnn ho
 have c0 := s0.at 0 rfl
 have z0 := s0.lt (by simp)
 have hbI : ¬ (1024 : Int) < (n : Int) := by omega
 go_enter Tryz.func77, Tryz.ntmps77
 go_wp2_with fail
 refine HN.out.1.mono ?_
 rintro e w1 ⟨rfl, rfl⟩
 go_wp2_with fail
 refine (HN.out.2.1 _ (seg true m 0 [.pointer (some ⟨g, 0, none⟩), .int .i64 (k : Int)] :: bytes md pp bs :: L) (by have h1 := ledNone s0; exact h1.f)).mono ?_
 rintro e w2 ⟨rfl, s2'⟩
 have s2 : Sat W0 w2 (seg true g 0 (u8s (List.replicate 1024 0)) :: bytes md pp bs :: seg true m 0 [.pointer (some ⟨g, 0, none⟩), .int .i64 (k : Int)] :: L) := s2'.f
 clear s0 s2' c0 z0
 have sm := s2.pull 2
 have c0 := sm.at 0 rfl
 have z0 := sm.lt (by simp)
 have hsr := bytesNews (s2.f : Sat W0 w2 (bytes md pp bs :: []))
 have HSR := Lib.hid hsr; clear sm hsr
 go_wp2_with (refine wpl_copy rfl (.tmp 24) (.tmp 25) 25 25 rfl Tryz.underlying25 (by kernel_rfl) s2 0 0 1024 1024 n cap pp (u8s bs) rfl rfl rfl (by rw [u8s_len]; exact HN.out.2.2.2) (by rw [u8s_len, u8s_len, List.length_replicate, HN.out.2.2.1]; omega) HSR.out (u8s_one _) ?_; intro w3 s3; clear s2; rw [u8s_len, HN.out.2.2.1]; have s3m := s3.pull 2; have c1 := s3m.at 1 rfl; have f1 := s3m.fr 1 (by simp); have z1 := s3m.lt (by simp))
 have s4 := s3m.store (i := 1) (by simp) (.int .i64 (n : Int)) (q := 1) rfl
 have HS := Lib.hid s4; clear s3 s3m s4 HSR
 go_ret
 refine ⟨rfl, ?_⟩
 have e1 : setL (u8s (List.replicate 1024 0)) 0 (u8s bs) = u8s (memB bs) := by
  rw [setL_u8s _ _ _ (by rw [List.length_replicate, HN.out.2.2.1]; omega)]
  unfold putB memB
  rw [List.take_zero, List.nil_append, Nat.zero_add, List.drop_replicate]
 have s5 := HS.out
 rw [e1] at s5
 refine memShut (g := g) (k := n) (by rw [HN.out.2.2.1]; exact hb) ?_
 exact s5
set_option maxRecDepth 100000 in
set_option maxHeartbeats 2000000 in
theorem memWipe {W0 w : World} {L : List Assn} {m : Nat} {old : List Byte} {pv : Value} (p : Option Nat) (rs : List Run3) (hp : pv = ptrO p) (hb : tot rs + 1 ≤ 4611686018427387904) (hl : rs.length ≤ 4294967296) (hs : Sat W0 w (ledO p rs :: memA m old :: L)) :
  Calls Tryz.prog 96 #[.pointer (some ⟨m, 0, none⟩), pv] w fun e w' => e = .returned (.int .i64 0) ∧ Sat W0 w' (ledO p (note rs 8 1024 1) :: memA m [] :: L) := by
 subst hp
 obtain ⟨g, k, ho, s0'⟩ := memOpen (show Sat W0 w (memA m old :: ledO p rs :: L) from hs.pull 1)
 clear hs
 have s0 : Sat W0 w (seg true m 0 [.pointer (some ⟨g, 0, none⟩), .int .i64 (k : Int)] :: ledO p rs :: seg true g 0 (u8s (memB old)) :: L) := s0'.f
 clear s0'
 have hsl := fun w => run_sliceAll (P := Tryz.prog) (T := 110) (U := 5) (n := 1024) Tryz.underlying110 (by kernel_rfl) g 0 w
 have him := memIs s0
 have hwi := fun (w : World) (X : List Assn) (s : Sat W0 w (ledO p rs :: seg true g 0 (u8s (memB old)) :: X)) => wipeL (c := 1024) (pv := ptrO p) p rs (memB old) rfl (memB_len ho) (by omega) hb hl s
 have HN := Lib.hid (And.intro him hwi); clear him hwi ho hb hl
 have c0 := s0.at 0 rfl
 have z0 := s0.lt (by simp)
 go_enter Tryz.func96, Tryz.ntmps96
 go_wp2_with fail
 refine HN.out.1.mono ?_
 rintro e w1 ⟨rfl, rfl⟩
 go_wp2_with fail
 refine (HN.out.2 _ (seg true m 0 [.pointer (some ⟨g, 0, none⟩), .int .i64 (k : Int)] :: L) s0.f).mono ?_
 rintro e w2 ⟨rfl, s2'⟩
 have s2 : Sat W0 w2 (seg true m 0 [.pointer (some ⟨g, 0, none⟩), .int .i64 (k : Int)] :: seg true g 0 (u8s (List.replicate 1024 0)) :: ledO p (note rs 8 ((1024 : Nat) : Int) 1) :: L) := s2'.f
 clear s0 s2' c0 z0
 have c1 := s2.at 1 rfl
 have f1 := s2.fr 1 (by simp)
 have z1 := s2.lt (by simp)
 have s4 := s2.store (i := 1) (by simp) (.int .i64 0) (q := 1) rfl
 have HS := Lib.hid s4; clear s2 s4
 go_wp2_with fail
 go_ret
 refine ⟨rfl, ?_⟩
 have s5 : Sat W0 _ (memL m g 0 [] (ledO p (note rs 8 1024 1) :: L)) := HS.out
 exact (memShut (by simp) s5).pull 1
end Go.Proofs.YtbefjaodpbgpcaaGreat
