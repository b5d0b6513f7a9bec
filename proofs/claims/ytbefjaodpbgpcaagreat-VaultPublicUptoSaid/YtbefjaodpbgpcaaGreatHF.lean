/- Vsl, Vlt: texts that lie apart elsewhere, as one; each under the conditions that it names. -/
import Derived.Test.YtbefjaodpbgpcaaGreatGG
import Derived.Test.YtbefjaodpbgpcaaGreatGI
import Derived.Test.YtbefjaodpbgpcaaGreatTbt
import Derived.Test.YtbefjaodpbgpcaaGreatHE
set_option linter.unusedVariables false
set_option linter.unusedSimpArgs false
set_option maxRecDepth 100000
set_option maxHeartbeats 16000000
namespace Go.Proofs.YtbefjaodpbgpcaaGreat
open Go.RowKit Go.Sep Go.Bv
theorem noteL {W0 w : World} {L : List Assn} {pv : Value} (p : Option Nat) (rs : List Run3) (k n : Int) (hp : pv = ptrO p) (hb : tot rs + 1 ≤ 4611686018427387904) (hl : rs.length ≤ 4294967296) (hs : Sat W0 w (ledO p rs :: L)) :
  Calls Tryz.prog 113 #[pv, .int .u8 k, .int .i64 n] w fun e w' => e = .returned (.tuple #[]) ∧ Sat W0 w' (ledO p (note rs k n 1) :: L) := by
 subst hp
 have hn := noteOne p rs k n hs hb hl
 have HN := Lib.hid hn; clear hn hs hb hl
 go_enter Tryz.func113, Tryz.ntmps113
 go_wp2_with fail
 refine HN.out.mono ?_
 rintro e w1 ⟨rfl, s1⟩
 have HS := Lib.hid s1; clear s1
 go_wp2_with fail
 exact bodyPost_end (results_none rfl _ _ _) rfl ⟨rfl, HS.out⟩
theorem wipe_step (B : List Byte) (i n : Nat) (hB : B.length = n) (hi : i < n) : (u8s (List.replicate i 0 ++ B.drop i)).set i (.int .u8 0) = u8s (List.replicate (i + 1) 0 ++ B.drop (i + 1)) := by
 have e1 : B.drop i = B[i]'(by omega) :: B.drop (i + 1) := List.drop_eq_getElem_cons (by omega)
 rw [e1, u8s_append, List.set_append_right _ _ (by rw [u8s_len, List.length_replicate]; exact Nat.le_refl _), u8s_len, List.length_replicate, Nat.sub_self, List.replicate_succ', List.append_assoc, u8s_append]
 rfl
theorem wipeL {W0 w : World} {L : List Assn} {b o n c : Nat} {pv : Value} (p : Option Nat) (rs : List Run3) (B : List Byte) (hp : pv = ptrO p) (hB : B.length = n) (hn : n ≤ 1000000) (hb : tot rs + 1 ≤ 4611686018427387904) (hl : rs.length ≤ 4294967296) (hs : Sat W0 w (ledO p rs :: seg true b o (u8s B) :: L)) :
  Calls Tryz.prog 93 #[pv, .slice (some ⟨b, o, none⟩) n c] w fun e w' => e = .returned (.tuple #[]) ∧ Sat W0 w' (ledO p (note rs 8 (n : Int) 1) :: seg true b o (u8s (List.replicate n 0)) :: L) := by
 subst hp
 have hnt := fun (w : World) (s : Sat W0 w (ledO p rs :: seg true b o (u8s (List.replicate n 0)) :: L)) => noteL p rs 8 (n : Int) rfl hb hl s
 have HN := Lib.hid (And.intro hnt (And.intro hB hs)); clear hnt hB hb hl hs
 go_enter Tryz.func93, Tryz.ntmps93
 go_wp2
 go_loopw [7] (fun t7 wr => ∃ i : Nat, i ≤ n ∧ t7 = .int .i64 (i : Int) ∧ Sat W0 wr (seg true b o (u8s (List.replicate i 0 ++ B.drop i)) :: ledO p rs :: L)) (fun t7 _ => n - (intOf t7).toNat)
 case atStart => exact ⟨0, Nat.zero_le _, rfl, by rw [List.replicate_zero, List.nil_append, List.drop_zero]; exact HN.out.2.2.pull 1⟩
 case round =>
  obtain ⟨i, hi, rfl, s⟩ := hrel
  by_cases hlt : i < n
  ·have hil : i < (u8s (List.replicate i 0 ++ B.drop i)).length := by rw [u8s_len, List.length_append, List.length_replicate, List.length_drop, HN.out.2.1]; omega
   have hst := s.store hil (.int .u8 0) (q := o + i) rfl
   rw [wipe_step B i n HN.out.2.1 hlt] at hst
   obtain ⟨x, hx⟩ : ∃ x, (u8s (List.replicate i 0 ++ B.drop i))[i]? = some x := ⟨_, List.getElem?_eq_getElem hil⟩
   have hc := s.cell hx
   have hf := (s.free hil).1
   have hz := World.block_lt_of_cell? _ _ hc
   have HS := Lib.hid hst; clear s hil hst hx
   go_wp2
   go_roundw
   case rel => exact ⟨i + 1, by omega, by go_num, HS.out⟩
   case measure => simp [intOf]; omega
  ·obtain rfl : i = n := by omega
   rw [List.drop_eq_nil_of_le (by rw [HN.out.2.1]; exact Nat.le_refl _), List.append_nil] at s
   have HS := Lib.hid s; clear s
   go_wp2_with fail
   refine (HN.out.1 _ (HS.out.pull 1)).mono ?_
   rintro e w1 ⟨rfl, s1⟩
   have HS1 := Lib.hid s1; clear s1
   go_wp2_with fail
   exact bodyPost_end (results_none rfl _ _ _) rfl ⟨rfl, HS1.out⟩
def memB (bs : List Byte) : List Byte := bs ++ List.replicate (1024 - bs.length) 0
theorem memB_len {bs : List Byte} (h : bs.length ≤ 1024) : (memB bs).length = 1024 := by unfold memB; rw [List.length_append, List.length_replicate]; omega
abbrev memL (m g k : Nat) (bs : List Byte) (L : List Assn) : List Assn := seg true m 0 [.pointer (some ⟨g, 0, none⟩), .int .i64 (k : Int)] :: seg true g 0 (u8s (memB bs)) :: L
def memA (m : Nat) (bs : List Byte) : Assn := fun h => ∃ q : Nat × Nat, bs.length ≤ 1024 ∧ sep (seg true m 0 [.pointer (some ⟨q.1, 0, none⟩), .int .i64 (q.2 : Int)]) (seg true q.1 0 (u8s (memB bs))) h
theorem memOpen {W0 w : World} {L : List Assn} {m : Nat} {bs : List Byte} (h : Sat W0 w (memA m bs :: L)) : ∃ g k, bs.length ≤ 1024 ∧ Sat W0 w (memL m g k bs L) := by
 obtain ⟨q, h1⟩ := Sat.exOpen h
 have h2 := h1.fact fun x hx => hx.1
 exact ⟨q.1, q.2, h2, Sat.sepOpen (h1.imp fun x hx => hx.2)⟩
theorem memShut {W0 w : World} {L : List Assn} {m g k : Nat} {bs : List Byte} (hb : bs.length ≤ 1024) (h : Sat W0 w (memL m g k bs L)) : Sat W0 w (memA m bs :: L) :=
 (Sat.sepShut h).imp fun x hx => ⟨(g, k), hb, hx⟩
theorem zero_slot (w : World) : (zeroValue 110).run Tryz.prog w = .ok (.agg (u8s (List.replicate 1024 0)).toArray) w := by kernel_rfl
theorem Tryz.size_slot : (Tryz.prog.info? 110).map (·.size) = some 1024 := by kernel_rfl
theorem memNew {W0 w : World} {L : List Assn} (hs : Sat W0 w L) :
  Calls Tryz.prog 30 #[] w fun e w' => ∃ m, e = .returned (.pointer (some ⟨m, 0, none⟩)) ∧ Sat W0 w' (memA m [] :: L) := by
 go_enter Tryz.func30, Tryz.ntmps30
 go_wp2_with (first | (refine wpl_al8 (n := 1024) rfl rfl hs (zero_slot _) ?_; intro w1 g s1 _; clear hs) | (refine wpl_box rfl 112 (.tmp 2) rfl [.pointer (some ⟨g, 0, none⟩), .int .i64 0] rfl s1 ?_; intro w2 m s2 _; clear s1))
 have HS := Lib.hid s2; clear s2
 go_ret
 exact ⟨m, rfl, memShut (g := g) (k := 0) (by simp) HS.out⟩
theorem memIs {W0 w : World} {L : List Assn} {m g : Nat} {v : Value} (hs : Sat W0 w (seg true m 0 [.pointer (some ⟨g, 0, none⟩), v] :: L)) :
  Calls Tryz.prog 92 #[.pointer (some ⟨m, 0, none⟩)] w fun e w' => e = .returned (.bool true) ∧ w = w' := by
 have c0 := hs.at 0 rfl
 have z0 := hs.lt (by simp)
 go_enter Tryz.func92, Tryz.ntmps92
 go_wp2
 go_ret
 exact ⟨rfl, rfl⟩
theorem memPut {W0 w : World} {L : List Assn} {m n cap : Nat} {md : Bool} {pp : Option Addr} {old : List Byte} (bs : List Byte) (hn : bs.length = n) (hb : n ≤ 1024) (hs : Sat W0 w (memA m old :: bytes md pp bs :: L)) :
  Calls Tryz.prog 77 #[.pointer (some ⟨m, 0, none⟩), .slice pp n cap] w fun e w' => e = .returned (.int .i64 0) ∧ Sat W0 w' (memA m bs :: bytes md pp bs :: L) := by
 obtain ⟨g, k, ho, s0⟩ := memOpen hs
 clear hs
 have hsl := fun w => run_sliceAll (P := Tryz.prog) (T := 110) (U := 5) (n := 1024) Tryz.underlying110 (by kernel_rfl) g 0 w
 have him := memIs s0
 have hwi := fun (w : World) (X : List Assn) (s : Sat W0 w (ledO none [] :: seg true g 0 (u8s (memB old)) :: X)) => wipeL (c := 1024) (pv := .pointer none) none [] (memB old) rfl (memB_len ho) (by omega) (by simp only [tot]; omega) (by simp) s
 have hnn : (bs.length : Nat) = Nat.min n 1024 := by rw [hn]; exact (Nat.min_eq_left hb).symm
 have HN := Lib.hid (And.intro him (And.intro hwi (And.intro hn hnn))); clear him hwi hn hnn ho
 have c0 := s0.at 0 rfl
 have z0 := s0.lt (by simp)
 have hbI : ¬ (1024 : Int) < (n : Int) := by omega
 go_enter Tryz.func77, Tryz.ntmps77
 go_wp2_with fail
 refine HN.out.1.mono ?_
 rintro e w1 ⟨rfl, rfl⟩
 go_wp2_with fail
 refine (HN.out.2.1 _ (seg true m 0 [.pointer (some ⟨g, 0, none⟩), .int .i64 (k : Int)] :: bytes md pp bs :: L) (by have h1 := ledNone s0; exact h1.f)).mono ?_
 rintro e w2 ⟨rfl, s2'⟩
 have s2 : Sat W0 w2 (seg true g 0 (u8s (List.replicate 1024 0)) :: bytes md pp bs :: seg true m 0 [.pointer (some ⟨g, 0, none⟩), .int .i64 (k : Int)] :: L) := s2'.f
 clear s0 s2' c0 z0
 have sm := s2.pull 2
 have c0 := sm.at 0 rfl
 have z0 := sm.lt (by simp)
 have hsr := bytesNews (s2.f : Sat W0 w2 (bytes md pp bs :: []))
 have HSR := Lib.hid hsr; clear sm hsr
 go_wp2_with (refine wpl_copy rfl (.tmp 24) (.tmp 25) 25 25 rfl Tryz.underlying25 (by kernel_rfl) s2 0 0 1024 1024 n cap pp (u8s bs) rfl rfl rfl (by rw [u8s_len]; exact HN.out.2.2.2) (by rw [u8s_len, u8s_len, List.length_replicate, HN.out.2.2.1]; omega) HSR.out (u8s_one _) ?_; intro w3 s3; clear s2; rw [u8s_len, HN.out.2.2.1]; have s3m := s3.pull 2; have c1 := s3m.at 1 rfl; have f1 := s3m.fr 1 (by simp); have z1 := s3m.lt (by simp))
 have s4 := s3m.store (i := 1) (by simp) (.int .i64 (n : Int)) (q := 1) rfl
 have HS := Lib.hid s4; clear s3 s3m s4 HSR
 go_ret
 refine ⟨rfl, ?_⟩
 have e1 : setL (u8s (List.replicate 1024 0)) 0 (u8s bs) = u8s (memB bs) := by
  rw [setL_u8s _ _ _ (by rw [List.length_replicate, HN.out.2.2.1]; omega)]
  unfold putB memB
  rw [List.take_zero, List.nil_append, Nat.zero_add, List.drop_replicate]
 have s5 := HS.out
 rw [e1] at s5
 refine memShut (g := g) (k := n) (by rw [HN.out.2.2.1]; exact hb) ?_
 exact s5
theorem memWipe {W0 w : World} {L : List Assn} {m : Nat} {old : List Byte} {pv : Value} (p : Option Nat) (rs : List Run3) (hp : pv = ptrO p) (hb : tot rs + 1 ≤ 4611686018427387904) (hl : rs.length ≤ 4294967296) (hs : Sat W0 w (ledO p rs :: memA m old :: L)) :
  Calls Tryz.prog 96 #[.pointer (some ⟨m, 0, none⟩), pv] w fun e w' => e = .returned (.int .i64 0) ∧ Sat W0 w' (ledO p (note rs 8 1024 1) :: memA m [] :: L) := by
 subst hp
 obtain ⟨g, k, ho, s0'⟩ := memOpen (show Sat W0 w (memA m old :: ledO p rs :: L) from hs.pull 1)
 clear hs
 have s0 : Sat W0 w (seg true m 0 [.pointer (some ⟨g, 0, none⟩), .int .i64 (k : Int)] :: ledO p rs :: seg true g 0 (u8s (memB old)) :: L) := s0'.f
 clear s0'
 have hsl := fun w => run_sliceAll (P := Tryz.prog) (T := 110) (U := 5) (n := 1024) Tryz.underlying110 (by kernel_rfl) g 0 w
 have him := memIs s0
 have hwi := fun (w : World) (X : List Assn) (s : Sat W0 w (ledO p rs :: seg true g 0 (u8s (memB old)) :: X)) => wipeL (c := 1024) (pv := ptrO p) p rs (memB old) rfl (memB_len ho) (by omega) hb hl s
 have HN := Lib.hid (And.intro him hwi); clear him hwi ho hb hl
 have c0 := s0.at 0 rfl
 have z0 := s0.lt (by simp)
 go_enter Tryz.func96, Tryz.ntmps96
 go_wp2_with fail
 refine HN.out.1.mono ?_
 rintro e w1 ⟨rfl, rfl⟩
 go_wp2_with fail
 refine (HN.out.2 _ (seg true m 0 [.pointer (some ⟨g, 0, none⟩), .int .i64 (k : Int)] :: L) s0.f).mono ?_
 rintro e w2 ⟨rfl, s2'⟩
 have s2 : Sat W0 w2 (seg true m 0 [.pointer (some ⟨g, 0, none⟩), .int .i64 (k : Int)] :: seg true g 0 (u8s (List.replicate 1024 0)) :: ledO p (note rs 8 ((1024 : Nat) : Int) 1) :: L) := s2'.f
 clear s0 s2' c0 z0
 have c1 := s2.at 1 rfl
 have f1 := s2.fr 1 (by simp)
 have z1 := s2.lt (by simp)
 have s4 := s2.store (i := 1) (by simp) (.int .i64 0) (q := 1) rfl
 have HS := Lib.hid s4; clear s2 s4
 go_wp2_with fail
 go_ret
 refine ⟨rfl, ?_⟩
 have s5 : Sat W0 _ (memL m g 0 [] (ledO p (note rs 8 1024 1) :: L)) := HS.out
 exact (memShut (by simp) s5).pull 1
end Go.Proofs.YtbefjaodpbgpcaaGreat
namespace Go.Sep
open Go.RowKit
theorem Sat.swap {W0 w : World} {A B : Assn} {L : List Assn} (h : Sat W0 w (A :: B :: L)) : Sat W0 w (B :: A :: L) := h.pull 1
def stars : List Assn → Assn
 | [] => emp
 | A :: l => sep A (stars l)
theorem Sat.starsOut {W0 w : World} {A : Assn} : ∀ {l L : List Assn} {k : Nat}, l[k]? = some A → Sat W0 w (stars l :: L) → Sat W0 w (A :: stars (l.eraseIdx k) :: L)
 | [], _, _, hk, _ => by cases hk
 | B :: l, L, 0, hk, h => by
  simp only [List.getElem?_cons_zero, Option.some.injEq] at hk
  subst hk
  exact h.sepOpen
 | B :: l, L, k + 1, hk, h => by
  have h1 : Sat W0 w (stars l :: B :: L) := (Sat.sepOpen h).pull 1
  have h2 := Sat.starsOut (k := k) (by simpa using hk) h1
  have h3 : Sat W0 w (B :: stars (l.eraseIdx k) :: A :: L) := h2.f
  have h4 : Sat W0 w (stars ((B :: l).eraseIdx (k + 1)) :: A :: L) := h3.sepShut
  exact h4.pull 1
theorem Sat.starsIn {W0 w : World} {A : Assn} : ∀ {l L : List Assn} {k : Nat}, k < l.length → Sat W0 w (A :: stars (l.eraseIdx k) :: L) → Sat W0 w (stars (l.set k A) :: L)
 | [], _, _, hk, _ => absurd hk (by simp)
 | B :: l, L, 0, hk, h => h.sepShut
 | B :: l, L, k + 1, hk, h => by
  have h1 : Sat W0 w (B :: stars (l.eraseIdx k) :: A :: L) := Sat.sepOpen ((h.pull 1 : Sat W0 w (stars ((B :: l).eraseIdx (k + 1)) :: A :: L)))
  have h2 : Sat W0 w (A :: stars (l.eraseIdx k) :: B :: L) := h1.f
  have h3 := Sat.starsIn (k := k) (by simpa using hk) h2
  exact (h3.pull 1 : Sat W0 w (B :: stars (l.set k A) :: L)).sepShut
end Go.Sep
namespace Go.Proofs.YtbefjaodpbgpcaaGreat
open Go.RowKit Go.Sep Go.Bv
theorem set_same {α : Type} : ∀ {l : List α} {k : Nat} {x : α}, l[k]? = some x → l.set k x = l
 | [], _, _, h => by cases h
 | y :: l, 0, x, h => by simp only [List.getElem?_cons_zero, Option.some.injEq] at h; subst h; rfl
 | y :: l, k + 1, x, h => by rw [List.set_cons_succ, set_same (l := l) (by simpa using h)]
inductive Th (σ : Type) where
 | key (k : List Byte)
 | ses (x : σ)
structure SesI (σ : Type) where
 A : σ → Nat → Assn
 form : σ → List Byte
inductive Loc (σ : Type) where
 | key (k : List Byte) (p : Option Addr) (c : Nat)
 | ses (x : σ) (s : Nat)
section
variable {σ : Type}
def Loc.th : Loc σ → Th σ
 | .key k _ _ => .key k
 | .ses x _ => .ses x
def Loc.tid : Loc σ → TypeId
 | .key .. => 128
 | .ses .. => 136
def Loc.val : Loc σ → Value
 | .key k p c => .agg #[.slice p k.length c]
 | .ses _ s => .agg #[.pointer (some ⟨s, 0, none⟩)]
def Loc.A (I : SesI σ) : Loc σ → Assn
 | .key k p c => fun h => (k.length ≤ c ∧ c ≤ maxLen) ∧ bytes true p k h
 | .ses x s => I.A x s
def Th.form (I : SesI σ) : Th σ → List Byte
 | .key k => k
 | .ses x => I.form x
structure Slt (σ : Type) where
 m : Nat
 o : Option (Loc σ)
def formO (I : SesI σ) : Option (Th σ) → List Byte
 | none => []
 | some t => t.form I
def locO (I : SesI σ) : Option (Loc σ) → Assn
 | none => emp
 | some l => l.A I
def Slt.th (s : Slt σ) : Option (Th σ) := s.o.map Loc.th
def Slt.A (I : SesI σ) (s : Slt σ) : Assn := sep (memA s.m (formO I s.th)) (locO I s.o)
def Slt.v (s : Slt σ) : Value := match s.o with
 | none => .nilIface
 | some l => .iface l.tid l.val
abbrev Sts (σ : Type) := List (Option (Th σ))
def vlC (t : Nat) (l : Option Nat) (T : List (Slt σ)) : List Value := .pointer (some ⟨t, 0, none⟩) :: ptrO l :: T.map fun s => Value.pointer (some ⟨s.m, 0, none⟩)
def heldC (T : List (Slt σ)) : List Bool := T.map fun s => s.o.isSome
def valsC (T : List (Slt σ)) : List Value := T.map Slt.v
abbrev tabC (t hb vb : Nat) (held : List Bool) (vals : List Value) (L : List Assn) : List Assn :=
 seg true t 0 [.slice (some ⟨hb, 0, none⟩) 64 64, .slice (some ⟨vb, 0, none⟩) 64 64] :: seg true hb 0 (held.map .bool) :: seg true vb 0 vals :: L
abbrev vltL (I : SesI σ) (v : Nat) (l : Option Nat) (t hb vb : Nat) (T : List (Slt σ)) (L : List Assn) : List Assn :=
 seg true v 0 (vlC t l T) :: tabC t hb vb (heldC T) (valsC T) (stars (T.map (Slt.A I)) :: L)
def vlt (I : SesI σ) (v : Nat) (l : Option Nat) (S : Sts σ) : Assn := fun h => ∃ q : Nat × Nat × Nat × List (Slt σ), (q.2.2.2.map Slt.th = S ∧ S.length = 64) ∧
 sep (seg true v 0 (vlC q.1 l q.2.2.2)) (sep (seg true q.1 0 [.slice (some ⟨q.2.1, 0, none⟩) 64 64, .slice (some ⟨q.2.2.1, 0, none⟩) 64 64]) (sep (seg true q.2.1 0 ((heldC q.2.2.2).map .bool)) (sep (seg true q.2.2.1 0 (valsC q.2.2.2)) (stars (q.2.2.2.map (Slt.A I)))))) h
theorem vltOpen {W0 w : World} {L : List Assn} {I : SesI σ} {v : Nat} {l : Option Nat} {S : Sts σ} (h : Sat W0 w (vlt I v l S :: L)) : ∃ t hb vb T, T.map Slt.th = S ∧ S.length = 64 ∧ T.length = 64 ∧ Sat W0 w (vltL I v l t hb vb T L) := by
 obtain ⟨⟨t, hb, vb, T⟩, h1⟩ := Sat.exOpen h
 obtain ⟨h2, h3⟩ := h1.fact fun x hx => hx.1
 have h4 := Sat.sepOpen (h1.imp fun x hx => hx.2)
 have h5 := Sat.sepOpen (h4.swap)
 have h6 := Sat.sepOpen (h5.swap)
 have h7 := Sat.sepOpen (h6.swap)
 exact ⟨t, hb, vb, T, h2, h3, by rw [← h3, ← h2, List.length_map], h7.f⟩
theorem vltShut {W0 w : World} {L : List Assn} {I : SesI σ} {v : Nat} {l : Option Nat} {S : Sts σ} {t hb vb : Nat} {T : List (Slt σ)} (hT : T.map Slt.th = S) (hS : S.length = 64) (h : Sat W0 w (vltL I v l t hb vb T L)) : Sat W0 w (vlt I v l S :: L) := by
 have h1 : Sat W0 w (seg true vb 0 (valsC T) :: stars (T.map (Slt.A I)) :: seg true hb 0 ((heldC T).map .bool) :: seg true t 0 [.slice (some ⟨hb, 0, none⟩) 64 64, .slice (some ⟨vb, 0, none⟩) 64 64] :: seg true v 0 (vlC t l T) :: L) := h.f
 have h2 := (Sat.sepShut h1).swap
 have h3 := (Sat.sepShut h2).swap
 have h4 := (Sat.sepShut h3).swap
 have h5 := Sat.sepShut h4
 exact h5.imp fun x hx => ⟨(t, hb, vb, T), ⟨hT, hS⟩, hx⟩
theorem vlC_slot {t : Nat} {l : Option Nat} {T : List (Slt σ)} {k : Nat} {s : Slt σ} (h : T[k]? = some s) : (vlC t l T)[k + 2]? = some (.pointer (some ⟨s.m, 0, none⟩)) := by simp [vlC, h]
theorem vlC_set {t : Nat} {l : Option Nat} {T : List (Slt σ)} {k : Nat} {s s' : Slt σ} (h : T[k]? = some s) (hm : s'.m = s.m) : vlC t l (T.set k s') = vlC t l T := by
 have e : (T.set k s').map (fun s => Value.pointer (some ⟨s.m, 0, none⟩)) = T.map fun s => Value.pointer (some ⟨s.m, 0, none⟩) := by
  rw [List.map_set, hm]
  exact set_same (by rw [List.getElem?_map, h]; rfl)
 unfold vlC
 rw [e]
theorem heldC_len {T : List (Slt σ)} (hT : T.length = 64) : (heldC T).length = 64 := by simp [heldC, hT]
theorem valsC_len {T : List (Slt σ)} (hT : T.length = 64) : (valsC T).length = 64 := by simp [valsC, hT]
theorem heldC_get {T : List (Slt σ)} {k : Nat} {s : Slt σ} (h : T[k]? = some s) : (heldC T).getD k false = s.o.isSome := by simp [heldC, h]
theorem valsC_get {T : List (Slt σ)} {k : Nat} {s : Slt σ} (h : T[k]? = some s) : (valsC T)[k]? = some s.v := by simp [valsC, h]
theorem heldC_set (T : List (Slt σ)) (k m : Nat) (o : Option (Loc σ)) : heldC (T.set k ⟨m, o⟩) = (heldC T).set k o.isSome := by simp [heldC, List.map_set]
theorem valsC_set (T : List (Slt σ)) (k : Nat) (s : Slt σ) : valsC (T.set k s) = (valsC T).set k s.v := by simp [valsC, List.map_set]
theorem sltOut {W0 w : World} {L : List Assn} {I : SesI σ} {T : List (Slt σ)} {k : Nat} {s : Slt σ} (h : T[k]? = some s) (hs : Sat W0 w (stars (T.map (Slt.A I)) :: L)) : Sat W0 w (memA s.m (formO I s.th) :: locO I s.o :: stars ((T.map (Slt.A I)).eraseIdx k) :: L) :=
 Sat.sepOpen (hs.starsOut (k := k) (A := s.A I) (by rw [List.getElem?_map, h]; rfl))
theorem sltIn {W0 w : World} {L : List Assn} {I : SesI σ} {T : List (Slt σ)} {k : Nat} {s s' : Slt σ} (h : T[k]? = some s) (hs : Sat W0 w (memA s'.m (formO I s'.th) :: locO I s'.o :: stars ((T.map (Slt.A I)).eraseIdx k) :: L)) : Sat W0 w (stars ((T.set k s').map (Slt.A I)) :: L) := by
 rw [List.map_set]
 exact Sat.starsIn (by rw [List.length_map]; exact (List.getElem?_eq_some_iff.1 h).1) (Sat.sepShut hs)
def ansV (I : SesI σ) (W0 : World) (v : Nat) (l : Option Nat) (r : Sts σ × Ans × List Run3) (R : List Assn) (e : Ending) (w' : World) : Prop :=
 ∃ (q : Option Addr) (c : Nat), e = .returned (.agg #[.int .i64 r.2.1.code, .int .i64 (r.2.1.handle : Int), .bool r.2.1.same, .slice q r.2.1.bytes.length c]) ∧ r.2.1.bytes.length ≤ c ∧ c ≤ maxLen ∧ Sat W0 w' (ledO l r.2.2 :: vlt I v l r.1 :: bytes true q r.2.1.bytes :: R)
theorem ansV_no {I : SesI σ} {W0 w' : World} {v : Nat} {l : Option Nat} {S : Sts σ} {rs : List Run3} {R : List Assn} {c : Int} (h : Sat W0 w' (ledO l rs :: vlt I v l S :: R)) : ansV I W0 v l (S, noA c, rs) R (.returned (.agg #[.int .i64 c, .int .i64 0, .bool false, .slice none 0 0])) w' := by
 have h2 := bytesNil true none h
 have h3 : Sat W0 w' (ledO l rs :: vlt I v l S :: bytes true none [] :: R) := h2.f
 exact ⟨none, 0, rfl, Nat.le_refl _, Nat.zero_le _, h3⟩
theorem ansV_h {I : SesI σ} {W0 w' : World} {v i : Nat} {l : Option Nat} {S : Sts σ} {rs : List Run3} {R : List Assn} (h : Sat W0 w' (ledO l rs :: vlt I v l S :: R)) : ansV I W0 v l (S, ⟨0, i, false, []⟩, rs) R (.returned (.agg #[.int .i64 0, .int .i64 (i : Int), .bool false, .slice none 0 0])) w' := by
 have h2 := bytesNil true none h
 have h3 : Sat W0 w' (ledO l rs :: vlt I v l S :: bytes true none [] :: R) := h2.f
 exact ⟨none, 0, rfl, Nat.le_refl _, Nat.zero_le _, h3⟩
theorem ansV_s {I : SesI σ} {W0 w' : World} {v : Nat} {b : Bool} {l : Option Nat} {S : Sts σ} {rs : List Run3} {R : List Assn} (h : Sat W0 w' (ledO l rs :: vlt I v l S :: R)) : ansV I W0 v l (S, ⟨0, 0, b, []⟩, rs) R (.returned (.agg #[.int .i64 0, .int .i64 0, .bool b, .slice none 0 0])) w' := by
 have h2 := bytesNil true none h
 have h3 : Sat W0 w' (ledO l rs :: vlt I v l S :: bytes true none [] :: R) := h2.f
 exact ⟨none, 0, rfl, Nat.le_refl _, Nat.zero_le _, h3⟩
theorem ansV_b {I : SesI σ} {W0 w' : World} {v n c : Nat} {q : Option Addr} {bs : List Byte} {l : Option Nat} {S : Sts σ} {rs : List Run3} {R : List Assn} (hn : bs.length = n) (hc : n ≤ c) (hm : c ≤ maxLen) (h : Sat W0 w' (ledO l rs :: vlt I v l S :: bytes true q bs :: R)) : ansV I W0 v l (S, ⟨0, 0, false, bs⟩, rs) R (.returned (.agg #[.int .i64 0, .int .i64 0, .bool false, .slice q n c])) w' := by
 subst hn
 exact ⟨q, c, rfl, hc, hm, h⟩
end
end Go.Proofs.YtbefjaodpbgpcaaGreat
