/- Spg, Spg2, Spg3: texts that lie apart elsewhere, as one; each under the conditions that it names. -/
import Derived.Test.YtbefjaodpbgpcaaGreatGM
import Derived.Test.YtbefjaodpbgpcaaGreatGJ
import Derived.Test.YtbefjaodpbgpcaaGreatGG
import Derived.Test.YtbefjaodpbgpcaaGreatGK
set_option linter.unusedVariables false
set_option linter.unusedSimpArgs false
set_option maxRecDepth 100000
set_option maxHeartbeats 16000000
namespace Go.Kec
open Go.Bv Go.Sep
def perm (B : List Byte) : List Byte := laneBytes (kecF (lanes B))
theorem lanes_len (B : List Byte) : (lanes B).length = 25 := by unfold lanes; exact lanesTo_len B 25
theorem perm_len (B : List Byte) : (perm B).length = 200 := by unfold perm; rw [laneBytes_len, kecF_len, lanes_len]
abbrev SpSt := List Byte × Nat
def spStep (r : Nat) (s : SpSt) (x : Byte) : SpSt :=
 if s.2 + 1 = r then (perm (s.1.set s.2 (s.1.getD s.2 0 ^^^ x)), 0) else (s.1.set s.2 (s.1.getD s.2 0 ^^^ x), s.2 + 1)
def spFold (r : Nat) (s : SpSt) (p : List Byte) : SpSt := p.foldl (spStep r) s
theorem spFold_append (r : Nat) (s : SpSt) (p q : List Byte) : spFold r s (p ++ q) = spFold r (spFold r s p) q := by simp [spFold]
theorem spFold_next (r : Nat) (s : SpSt) (p : List Byte) (i : Nat) (h : i < p.length) : spFold r s (p.take (i + 1)) = spStep r (spFold r s (p.take i)) (p.getD i 0) := by
 rw [List.take_succ_eq_append_getElem h, spFold_append]
 simp [spFold, h]
theorem modNext (m r : Nat) (hr : 0 < r) : (m % r + 1 = r → (m + 1) % r = 0 ∧ (m + 1) / r = m / r + 1) ∧ (m % r + 1 ≠ r → (m + 1) % r = m % r + 1 ∧ (m + 1) / r = m / r) := by
 have hd := Nat.div_add_mod m r
 have hl := Nat.mod_lt m hr
 refine ⟨fun h => ?_, fun h => ?_⟩
 ·have e : m + 1 = r * (m / r + 1) := by rw [Nat.mul_add, Nat.mul_one]; omega
  rw [e]
  exact ⟨Nat.mul_mod_right _ _, Nat.mul_div_cancel_left _ hr⟩
 ·have e : m + 1 = (m % r + 1) + r * (m / r) := by omega
  rw [e, Nat.add_mul_mod_self_left, Nat.add_mul_div_left _ _ hr, Nat.mod_eq_of_lt (by omega), Nat.div_eq_of_lt (by omega)]
  exact ⟨rfl, by omega⟩
theorem spStep_inv (r : Nat) (s : SpSt) (x : Byte) (m : Nat) (hr : 0 < r) (hB : s.1.length = 200) (hk : s.2 = m % r) : (spStep r s x).1.length = 200 ∧ (spStep r s x).2 = (m + 1) % r := by
 unfold spStep
 rw [hk]
 by_cases h : m % r + 1 = r
 ·rw [if_pos h, ((modNext m r hr).1 h).1]
  have hp := perm_len (s.1.set (m % r) (s.1.getD (m % r) 0 ^^^ x))
  generalize perm (s.1.set (m % r) (s.1.getD (m % r) 0 ^^^ x)) = Y at hp ⊢
  exact ⟨hp, rfl⟩
 ·rw [if_neg h, ((modNext m r hr).2 h).1]
  exact ⟨by rw [List.length_set]; exact hB, rfl⟩
theorem spFold_inv (r : Nat) (hr : 0 < r) : ∀ (p : List Byte) (s : SpSt) (m : Nat), s.1.length = 200 → s.2 = m % r → (spFold r s p).1.length = 200 ∧ (spFold r s p).2 = (m + p.length) % r
 | [], s, m, hB, hk => ⟨hB, hk⟩
 | x :: p, s, m, hB, hk => by
  have h := spStep_inv r s x m hr hB hk
  have := spFold_inv r hr p (spStep r s x) (m + 1) h.1 h.2
  rw [List.length_cons, show m + (p.length + 1) = m + 1 + p.length by omega]
  exact this
end Go.Kec
namespace Go.Proofs.YtbefjaodpbgpcaaGreat
open Go.RowKit Go.Sep Go.Bv Go.Kec
abbrev spS (g : Nat) (B : List Byte) (r : Nat) (suf : Int) (k : Nat) (shut : Bool) (L : List Assn) : List Assn :=
 seg true g 0 (u8s B) :: seg true g 200 [.int .i64 (r : Int), .int .u8 suf, .int .i64 (k : Int), .bool shut] :: L
theorem arrayAt200 (a : Addr) (w : World) : (Instr.arrayAt 251 (.slice (some a) 200 200)).run Tryz.prog w = .ok (.pointer (some a)) w := by
 simp [Instr.arrayAt, run_underlying Tryz.underlying251]
theorem spNone {W0 w : World} {L : List Assn} {g r : Nat} {x y z : Value} (hr : 0 < r) (hs : Sat W0 w (seg true g 200 [.int .i64 (r : Int), x, y, z] :: L)) :
  Calls Tryz.prog 174 #[.pointer (some ⟨g, 0, none⟩)] w fun e w' => e = .returned (.bool false) ∧ w' = w := by
 have c0 : w.cell? ⟨g, 200, none⟩ = some (.int .i64 (r : Int)) := hs.cell (i := 0) rfl
 have z0 := satLt hs (by simp)
 have e0 : ((r : Int) == 0) = false := by rw [beq_eq_false_iff_ne]; omega
 go_enter Tryz.func174, Tryz.ntmps174
 go_wp2
 go_ret
 exact ⟨rfl, rfl⟩
theorem spPermute {W0 w : World} {L : List Assn} {g : Nat} {r suf k : Int} {shut : Bool} {pv : Value} (p : Option Nat) (rs : List Run3) (B : List Byte) (hp : pv = ptrO p) (hB : B.length = 200) (hb : tot rs + 1 ≤ 4611686018427387904) (hl : rs.length ≤ 4294967296)
  (hs : Sat W0 w (ledO p rs :: seg true g 0 (u8s B) :: seg true g 200 [.int .i64 r, .int .u8 suf, .int .i64 k, .bool shut] :: L)) :
  Calls Tryz.prog 175 #[.pointer (some ⟨g, 0, none⟩), pv] w fun e w' => e = .returned (.tuple #[]) ∧ Sat W0 w' (ledO p (note rs 3 200 1) :: seg true g 0 (u8s (perm B)) :: seg true g 200 [.int .i64 r, .int .u8 suf, .int .i64 ((0 : Nat) : Int), .bool shut] :: L) := by
 subst hp
 have hpl := perm_len B
 have hFl := lanes_len B
 have hGl := kecF_len (lanes B)
 have e : laneBytes (kecF (lanes B)) = perm B := by unfold perm; rfl
 have hfr := fun (w : World) (s : Sat W0 w (seg true g 0 (u8s B) :: ledO p rs :: seg true g 200 [.int .i64 r, .int .u8 suf, .int .i64 k, .bool shut] :: L)) => kecFrom B hB s
 obtain ⟨F, hF⟩ : ∃ F, F = lanes B := ⟨_, rfl⟩
 rw [← hF] at hFl hGl e hfr
 obtain ⟨G, hG⟩ : ∃ G, G = kecF F := ⟨_, rfl⟩
 rw [hFl, ← hG] at hGl
 have hpe := fun (w : World) (s : Sat W0 w (ledO p rs :: seg true g 0 (u8s B) :: seg true g 200 [.int .i64 r, .int .u8 suf, .int .i64 k, .bool shut] :: L)) => kecPermute (pv := ptrO p) p rs F rfl hFl hb hl s
 rw [← hG] at hpe e
 have hby := fun (w : World) (s : Sat W0 w (ledO p (note rs 3 200 1) :: seg true g 0 (u8s B) :: seg true g 200 [.int .i64 r, .int .u8 suf, .int .i64 k, .bool shut] :: L)) => kecBytes G hGl s
 obtain ⟨R, hR⟩ : ∃ R, R = perm B := ⟨_, rfl⟩
 rw [← hR] at hpl e ⊢
 rw [e] at hby
 have s0 : Sat W0 w (seg true g 0 (u8s B) :: ledO p rs :: seg true g 200 [.int .i64 r, .int .u8 suf, .int .i64 k, .bool shut] :: L) := hs.f
 have z0 := s0.lt (by rw [u8s_len, hB]; decide)
 have sl := fun w => run_sliceAll (P := Tryz.prog) (T := 251) (U := 5) Tryz.underlying251 (by kernel_rfl) g 0 w
 have ar := fun w => arrayAt200 ⟨g, 0, none⟩ w
 have HN := Lib.hid (And.intro hfr (And.intro hpe (And.intro hby (And.intro hB hpl)))); clear hfr hpe hby hB hpl hF hG hR e hs hb hl hFl hGl
 go_enter Tryz.func175, Tryz.ntmps175
 go_wp2_with (refine wpl_ld8a rfl (.tmp 12) rfl Tryz.underlying251 Tryz.size_b200 s0 rfl HN.out.2.2.2.1 ?_)
 refine (HN.out.1 _ s0).mono ?_
 rintro e w1 ⟨rfl, s1⟩
 clear s0 z0
 go_wp2_with fail
 refine (HN.out.2.1 _ s1.f).mono ?_
 rintro e w2 ⟨rfl, s2⟩
 clear s1
 go_wp2_with fail
 refine (HN.out.2.2.1 _ s2).mono ?_
 rintro e w3 ⟨rfl, s3'⟩
 clear s2
 have s3 : Sat W0 w3 (seg true g 0 (u8s B) :: ledO p (note rs 3 200 1) :: seg true g 200 [.int .i64 r, .int .u8 suf, .int .i64 k, .bool shut] :: L) := s3'.f
 have z3 := s3.lt (by rw [u8s_len, HN.out.2.2.2.1]; decide)
 clear s3'
 go_wp2_with (refine wpl_st8a rfl rfl (.tmp 18) (.tmp 16) rfl s3 Tryz.size_b200 rfl rfl HN.out.2.2.2.2 HN.out.2.2.2.1 ?_; intro w4 s4; clear s3 z3; have z4 := s4.lt (by rw [u8s_len, HN.out.2.2.2.2]; decide); have s5 : Sat W0 w4 (seg true g 200 [.int .i64 r, .int .u8 suf, .int .i64 k, .bool shut] :: ledO p (note rs 3 200 1) :: seg true g 0 (u8s R) :: L) := s4.f; have c5 : w4.cell? ⟨g, 202, none⟩ = some (.int .i64 k) := s5.cell (i := 2) rfl; have f5 : w4.frozen? ⟨g, 202, none⟩ = false := (s5.free (i := 2) (by simp)).1)
 refine bodyPost_end (results_none rfl _ _ _) rfl ⟨rfl, ?_⟩
 have st := s5.store (i := 2) (by simp) (.int .i64 ((0 : Nat) : Int)) (q := 202) rfl
 have st2 : Sat W0 _ (seg true g 200 [.int .i64 r, .int .u8 suf, .int .i64 ((0 : Nat) : Int), .bool shut] :: ledO p (note rs 3 200 1) :: seg true g 0 (u8s R) :: L) := st
 exact st2.f
theorem spWrite {W0 w : World} {L : List Assn} {m : Bool} {g n cap r k : Nat} {suf : Int} {pp : Option Addr} {pv : Value} (p : Option Nat) (rs : List Run3) (B P : List Byte) (hp : pv = ptrO p) (hP : P.length = n) (hB : B.length = 200) (hr : 0 < r) (hr2 : r ≤ 200) (hk : k < r) (hcap : n ≤ cap) (hcm : cap ≤ maxLen) (hb : tot rs + k + n + 1 ≤ 4611686018427387904) (hl : rs.length + 1 ≤ 4294967296)
  (hs : Sat W0 w (ledO p rs :: bytes m pp P :: spS g B r suf k false L)) :
  Calls Tryz.prog 141 #[.pointer (some ⟨g, 0, none⟩), pv, .slice pp n cap] w fun e w' => e = .returned (.int .i64 0) ∧ Sat W0 w' (ledO p (noteN rs 3 200 ((k + n) / r)) :: bytes m pp P :: spS g (spFold r (B, k) P).1 r suf (spFold r (B, k) P).2 false L) := by
 subst hp
 unfold maxLen at hcm
 have hno := spNone hr (hs.f : Sat W0 w (seg true g 200 [.int .i64 (r : Int), .int .u8 suf, .int .i64 (k : Int), .bool false] :: []))
 have s0 : Sat W0 w (seg true g 200 [.int .i64 (r : Int), .int .u8 suf, .int .i64 (k : Int), .bool false] :: []) := hs.f
 have z0 := satLt s0 (by simp)
 have c0 : w.cell? ⟨g, 203, none⟩ = some (.bool false) := s0.cell (i := 3) rfl
 clear s0
 have hk0 : k % r = k := Nat.mod_eq_of_lt hk
 have hkr : k / r = 0 := Nat.div_eq_of_lt hk
 have hn63 : n ≤ 9223372036854775807 := by omega
 have sI : Sat W0 w (ledO p (noteN rs 3 200 ((k + 0) / r)) :: bytes m pp P :: spS g (spFold r (B, k) (P.take 0)).1 r suf (spFold r (B, k) (P.take 0)).2 false L) := by rw [Nat.add_zero, hkr]; exact hs
 have HN := Lib.hid (And.intro hno (And.intro hP (And.intro hB (And.intro hr (And.intro hr2 (And.intro hk0 (And.intro hb hl))))))); clear hno hP hB hr hr2 hk0 hb hl hkr hk hs hcap hcm
 go_enter Tryz.func141, Tryz.ntmps141
 go_wp2_with fail
 refine HN.out.1.mono ?_
 rintro e w1 ⟨rfl, rfl⟩
 go_wp2_with fail
 clear z0 c0
 go_loopw [19] (fun t19 wr => ∃ i : Nat, i ≤ n ∧ t19 = .int .i64 (i : Int) ∧ Sat W0 wr (ledO p (noteN rs 3 200 ((k + i) / r)) :: bytes m pp P :: spS g (spFold r (B, k) (P.take i)).1 r suf (spFold r (B, k) (P.take i)).2 false L)) (fun t19 _ => n - (intOf t19).toNat)
 case atStart => exact ⟨0, by omega, rfl, sI⟩
 case round =>
  clear sI
  obtain ⟨i, hi, rfl, s⟩ := hrel
  by_cases hlt : i < n
  ·obtain ⟨hno, hP, hB, hr, hr2, hk0, hb, hl⟩ := HN.out
   have hip : i < P.length := by rw [hP]; exact hlt
   have hinv := spFold_inv r hr (P.take i) (B, k) k hB hk0.symm
   rw [List.length_take, Nat.min_eq_left (by omega)] at hinv
   have hnx := spFold_next r (B, k) P i hip
   have sp : Sat W0 wr (bytes m pp P :: []) := s.f
   obtain ⟨bp, op, rfl, h1⟩ := bytesCell sp (by rintro rfl; simp at hip)
   have zp := satLt h1 (by rw [u8s_len]; omega)
   have cp := h1.cell (u8s_get P i hip)
   obtain ⟨x, hx⟩ : ∃ x, x = P.getD i 0 := ⟨_, rfl⟩
   rw [← hx] at cp hnx
   obtain ⟨⟨C, q⟩, hst⟩ : ∃ st, st = spFold r (B, k) (P.take i) := ⟨_, rfl⟩
   rw [← hst] at hinv hnx s
   simp only at hinv s
   obtain ⟨hCl, hq⟩ := hinv
   have hqr : q < r := by rw [hq]; exact Nat.mod_lt _ hr
   have hq2 : q < 200 := by omega
   have sB : Sat W0 wr (seg true g 0 (u8s C) :: ledO p (noteN rs 3 200 ((k + i) / r)) :: bytes m (some ⟨bp, op, none⟩) P :: seg true g 200 [.int .i64 (r : Int), .int .u8 suf, .int .i64 (q : Int), .bool false] :: L) := s.f
   have sT : Sat W0 wr (seg true g 200 [.int .i64 (r : Int), .int .u8 suf, .int .i64 (q : Int), .bool false] :: []) := s.f
   have zg := sB.lt (by rw [u8s_len, hCl]; decide)
   have cq : wr.cell? ⟨g, 202, none⟩ = some (.int .i64 (q : Int)) := sT.cell (i := 2) rfl
   have fq : wr.frozen? ⟨g, 202, none⟩ = false := (sT.free (i := 2) (by simp)).1
   have cr : wr.cell? ⟨g, 200, none⟩ = some (.int .i64 (r : Int)) := sT.cell (i := 0) rfl
   have cb := sB.at q (u8s_get C q (by rw [hCl]; exact hq2))
   have fb := sB.fr q (by rw [u8s_len, hCl]; exact hq2)
   obtain ⟨y, hy⟩ : ∃ y, y = C.getD q 0 := ⟨_, rfl⟩
   rw [← hy] at cb
   have hset : spStep r (C, q) x = if q + 1 = r then (perm (C.set q (y ^^^ x)), 0) else (C.set q (y ^^^ x), q + 1) := by rw [hy]; rfl
   have hdiv := modNext (k + i) r hr
   rw [← hq] at hdiv
   rw [hset] at hnx
   have hxor : IntKind.i64.wrap ((q : Int) + 1) = ((q + 1 : Nat) : Int) := by rw [IntKind.wrap_i64]; omega
   have HX := Lib.hid (And.intro hnx (And.intro hCl (And.intro hdiv (And.intro hqr hr2)))); clear hnx hCl hdiv hx hy hst hip hset hq hqr hb hl hB hP hno hk0 sp sT h1 s hr hr2
   go_wp2_with fail
   refine wp_region_quiet_tail_lit 13 (by kernel_rfl) (by kernel_rfl) ?_
   simp only [List.take_succ_cons, List.take_zero, List.drop_succ_cons, List.drop_zero]
   repeat (go_big_quiet_step (fail))
   refine wpQuiet_nil ?_
   rintro _ ⟨nr, rfl⟩
   have st1 := (sB.drewN nr).store (i := q) (by rw [u8s_len, HX.out.2.1]; exact hq2) (.int .u8 (v8 (y ^^^ x))) (q := q) (by simp)
   rw [u8s_set] at st1
   have st2 : Sat W0 _ (seg true g 200 [.int .i64 (r : Int), .int .u8 suf, .int .i64 (q : Int), .bool false] :: ledO p (noteN rs 3 200 ((k + i) / r)) :: bytes m (some ⟨bp, op, none⟩) P :: seg true g 0 (u8s (C.set q (y ^^^ x))) :: L) := st1.f
   have st3 := st2.store (i := 2) (by simp) (.int .i64 ((q : Int) + 1)) (q := 202) rfl
   have st4 : Sat W0 _ (ledO p (noteN rs 3 200 ((k + i) / r)) :: seg true g 0 (u8s (C.set q (y ^^^ x))) :: seg true g 200 [.int .i64 (r : Int), .int .u8 suf, .int .i64 ((q : Int) + 1), .bool false] :: bytes m (some ⟨bp, op, none⟩) P :: L) := ((show Sat W0 _ (seg true g 200 [.int .i64 (r : Int), .int .u8 suf, .int .i64 ((q : Int) + 1), .bool false] :: _) from st3)).f
   clear st1 st2 st3
   have hCs : (C.set q (y ^^^ x)).length = 200 := by rw [List.length_set]; exact HX.out.2.1
   have htn := tot_noteN rs 3 200 ((k + i) / r)
   have hln := noteN_len rs 3 200 ((k + i) / r)
   have hdl : (k + i) / r ≤ k + i := Nat.div_le_self _ _
   have hb1 : tot (noteN rs 3 200 ((k + i) / r)) + 1 ≤ 4611686018427387904 := by have := HN.out.2.2.2.2.2.2.1; omega
   have hb2 : (noteN rs 3 200 ((k + i) / r)).length ≤ 4294967296 := by have := HN.out.2.2.2.2.2.2.2; omega
   have HB := Lib.hid (And.intro hCs (And.intro hb1 hb2)); clear hCs htn hln hdl hb1 hb2
   by_cases hqe : q + 1 = r
   ·have e1 : ((q : Int) + 1 == (r : Int)) = true := by rw [beq_iff_eq]; omega
    have HQ := Lib.hid hqe; clear hqe
    go_wp2_with fail
    go_quiet (fail)
    go_wp2_with fail
    rw [vxor8]
    refine (spPermute p _ (C.set q (y ^^^ x)) rfl HB.out.1 HB.out.2.1 HB.out.2.2 (st4.drewN nq)).mono ?_
    rintro e w5 ⟨rfl, s5⟩
    clear st4
    have HS := Lib.hid s5; clear s5
    go_wp2_with fail
    go_roundw
    case rel =>
     refine ⟨i + 1, by omega, by go_num, ?_⟩
     have s6 := HS.out
     obtain ⟨hnx, _, hdiv, _⟩ := HX.out
     rw [noteN_note, ((hdiv.1 HQ.out).2).symm] at s6
     rw [← Nat.add_assoc, hnx, if_pos HQ.out]
     exact s6.f
    case measure => simp [intOf]; omega
   ·have e1 : ((q : Int) + 1 == (r : Int)) = false := by rw [beq_eq_false_iff_ne]; omega
    have HQ := Lib.hid hqe; clear hqe
    go_wp2_with fail
    go_quiet (fail)
    go_wp2_with fail
    rw [vxor8]
    have HS := Lib.hid (st4.drewN nq); clear st4
    go_roundw
    case rel =>
     refine ⟨i + 1, by omega, by go_num, ?_⟩
     have s6 := HS.out
     obtain ⟨hnx, _, hdiv, _⟩ := HX.out
     rw [← Nat.add_assoc, hnx, if_neg HQ.out, (hdiv.2 HQ.out).2]
     have s7 : Sat W0 _ (ledO p (noteN rs 3 200 ((k + i) / r)) :: seg true g 0 (u8s (C.set q (y ^^^ x))) :: seg true g 200 [.int .i64 (r : Int), .int .u8 suf, .int .i64 ((q + 1 : Nat) : Int), .bool false] :: bytes m (some ⟨bp, op, none⟩) P :: L) := s6
     exact s7.f
    case measure => simp [intOf]; omega
  ·obtain rfl : i = n := by omega
   have ht : P.take i = P := List.take_of_length_le (by rw [HN.out.2.1]; exact Nat.le_refl _)
   rw [ht] at s
   have HS := Lib.hid s; clear s ht
   go_wp2
   go_ret
   exact ⟨rfl, HS.out⟩
end Go.Proofs.YtbefjaodpbgpcaaGreat
namespace Go.Sep
open Go.RowKit Go.Bv
section
variable {P : Program} {o : Oper} {a : Act} {K : Act → World → Prop} {Q : Exit → Act → World → Prop} {W0 w : World} {L : List Assn}
theorem op_grow8 (s x : Operand) (t e : TypeId) (ho : o.op = .call { callee := .builtin .append, args := #[s, x], argTypes := #[t, t] }) {i : TypeInfo} {z : Value} (ht : P.underlying t = some (.slice e)) (hi : P.info? e = some i) (hz : i.zero = some z) (hsize : i.size = 1) (hby : i.bytes = 1) (hzs : z.cells.size = 1)
  {m m2 : Bool} {b o1 n k c2 : Nat} {xs ys : List Byte} {b2 o2 : Nat} (hv : a.eval s = .slice (some ⟨b, o1, none⟩) n n) (hx : a.eval x = .slice (some ⟨b2, o2, none⟩) k c2) (hs : Sat W0 w (seg m b o1 (u8s xs) :: seg m2 b2 o2 (u8s ys) :: L)) (hn : xs.length = n) (hk : ys.length = k) (hk0 : 0 < k) (hb : n + k ≤ 140737488355328)
  (h : ∀ g' c' w', Sat W0 w' (row (some ⟨g', 0, none⟩) c' 1 (n + k) (u8s (xs ++ ys)) :: seg m b o1 (u8s xs) :: seg m2 b2 o2 (u8s ys) :: L) → K (a.put o.dst (.slice (some ⟨g', 0, none⟩) (n + k) c')) w') : Oper.wp P o a w K Q := by
 have h1 : ∀ j v, (u8s xs)[j]? = some v → w.cell? ((⟨b, o1, none⟩ : Addr).add j) = some v := fun j v hv => by rw [add_lit']; exact hs.cell hv
 have h2 : ∀ j v, (u8s ys)[j]? = some v → w.cell? ((⟨b2, o2, none⟩ : Addr).add j) = some v := fun j v hv => by rw [add_lit']; exact (hs.pull 1 : Sat W0 w (seg m2 b2 o2 (u8s ys) :: _)).cell hv
 have hr := run_append_grow (P := P) w t o.type e i z ht hi hz ⟨b, o1, none⟩ n n (u8s xs) (by rw [u8s_len, hsize, hn, Nat.mul_one]) h1 ⟨b2, o2, none⟩ k c2 (u8s ys) (by rw [u8s_len, hsize, hk, Nat.mul_one]) h2 (by omega) (by omega) (growslice_fits (by omega) (by rw [hby, Nat.mul_one]; exact hb))
 have hge := grownCap_ge w (n + k) n e
 have hal := hs.drew.alloc ((u8s xs).toArray ++ (u8s ys).toArray ++ Builtin.zeroCells z.cells (grownCap w (n + k) n e - (n + k))) e
 simp only [Array.toList_append] at hal
 have hfin := hal.rowMade (sz := 1) (n := n + k) (cap := grownCap w (n + k) n e) (xs := u8s xs ++ u8s ys) (by rw [List.length_append, u8s_len, u8s_len, hn, hk, Nat.mul_one]) (by
  rw [List.length_append, List.length_append, u8s_len, u8s_len, hn, hk, Array.length_toList, size_zeroCells, hzs, Nat.mul_one, Nat.mul_one]; omega) hge (grownCap_le_maxLen w _ _ e (by unfold maxLen; omega))
 rw [← u8s_append] at hfin
 unfold Oper.wp execOp
 simp only [ho, resolve, invoke, builtin, Sem.run_bind, Sem.run_pure, Result.andThen_ok, List.map_toArray, List.map_cons, List.map_nil, hv, hx, hr]
 exact h _ _ _ hfin
end
end Go.Sep
namespace Go.Proofs.YtbefjaodpbgpcaaGreat
open Go.RowKit Go.Sep Go.Bv Go.Kec
theorem Tryz.size_sp : (Tryz.prog.info? 253).map (·.size) = some 204 := by kernel_rfl
def spTail (r suf k : Int) (shut : Bool) : List Value := [.int .i64 r, .int .u8 suf, .int .i64 k, .bool shut]
def spAll (B : List Byte) (r suf k : Int) (shut : Bool) : List Value := u8s B ++ spTail r suf k shut
theorem spAll_len (B : List Byte) (r suf k : Int) (shut : Bool) (h : B.length = 200) : (spAll B r suf k shut).length = 204 := by unfold spAll; rw [List.length_append, u8s_len, h]; rfl
theorem spAll_one (B : List Byte) (r suf k : Int) (shut : Bool) : ∀ u ∈ spAll B r suf k shut, u.oneCell' = true := by
 intro u hu
 unfold spAll at hu
 rcases List.mem_append.1 hu with h | h
 ·exact u8s_one _ u h
 ·unfold spTail at h
  simp only [List.mem_cons, List.not_mem_nil, or_false] at h
  rcases h with rfl | rfl | rfl | rfl <;> rfl
theorem spPart {W0 w : World} {L : List Assn} {g r k : Nat} {suf : Int} {shut : Bool} {B : List Byte} (hB : B.length = 200) (h : Sat W0 w (seg true g 0 (spAll B (r : Int) suf (k : Int) shut) :: L)) : Sat W0 w (spS g B r suf k shut L) :=
 Sat.part (xs := u8s B) (ys := spTail (r : Int) suf (k : Int) shut) h (by rw [u8s_len, hB])
theorem spJoin {W0 w : World} {L : List Assn} {g r k : Nat} {suf : Int} {shut : Bool} {B : List Byte} (hB : B.length = 200) (h : Sat W0 w (spS g B r suf k shut L)) : Sat W0 w (seg true g 0 (spAll B (r : Int) suf (k : Int) shut) :: L) :=
 Sat.join (xs := u8s B) (ys := spTail (r : Int) suf (k : Int) shut) h (by rw [u8s_len, hB])
theorem build_sp (r suf : Int) (w : World) : (Instr.build 253 #[(1, .int .i64 r), (2, .int .u8 suf)]).run Tryz.prog w = .ok (.agg (spAll nought200 r suf 0 false).toArray) w := by kernel_rfl
theorem build_sp0 (w : World) : (Instr.build 253 #[]).run Tryz.prog w = .ok (.agg (spAll nought200 0 0 0 false).toArray) w := by kernel_rfl
theorem zero_sp (w : World) : (zeroValue 253).run Tryz.prog w = .ok (.agg (spAll nought200 0 0 0 false).toArray) w := by kernel_rfl
theorem spNew {W0 w : World} {L : List Assn} {rv : Int} (r : Nat) (suf : Int) (hr : r = 168 ∨ r = 136) (hv : rv = (r : Int)) (hs : Sat W0 w L) :
  Calls Tryz.prog 172 #[.int .i64 rv, .int .u8 suf] w fun e w' => ∃ g, e = .returned (.tuple #[.pointer (some ⟨g, 0, none⟩), .int .i64 0]) ∧ Sat W0 w' (spS g nought200 r suf 0 false L) := by
 subst hv
 rcases hr with rfl | rfl
 all_goals
  have hbd := fun w r => build_sp r suf w
  go_enter Tryz.func172, Tryz.ntmps172
  go_wp2_with (first | (refine wpl_build rfl 253 rfl (.agg (spAll nought200 _ suf 0 false).toArray) (by simp only [List.map_toArray, List.map_cons, List.map_nil]; exact hbd _ _) ?_) | (refine wpl_box rfl 253 (.tmp 19) rfl (spAll nought200 _ suf 0 false) rfl hs ?_; intro w2 g s2 _))
  have s3 := spPart (k := 0) rfl s2
  have HS := Lib.hid s3; clear s3 s2 hs
  exact bodyPost_ret (v := .tuple #[.pointer (some ⟨g, 0, none⟩), .int .i64 0]) (by simp [results, Tryz.results172, go_sem]) rfl ⟨g, rfl, HS.out⟩
theorem spRate {W0 w : World} {L : List Assn} {g r : Nat} {x y z : Value} (hs : Sat W0 w (seg true g 200 [.int .i64 (r : Int), x, y, z] :: L)) :
  Calls Tryz.prog 140 #[.pointer (some ⟨g, 0, none⟩)] w fun e w' => e = .returned (.int .i64 (r : Int)) ∧ w' = w := by
 have c0 : w.cell? ⟨g, 200, none⟩ = some (.int .i64 (r : Int)) := hs.cell (i := 0) rfl
 have z0 := satLt hs (by simp)
 go_enter Tryz.func140, Tryz.ntmps140
 go_wp2
 go_ret
 exact ⟨rfl, rfl⟩
def spPad (r : Nat) (sf : Byte) (s : SpSt) : List Byte :=
 (s.1.set s.2 (s.1.getD s.2 0 ^^^ sf)).set (r - 1) ((s.1.set s.2 (s.1.getD s.2 0 ^^^ sf)).getD (r - 1) 0 ^^^ 128)
def spEnd (r : Nat) (sf : Byte) (s : SpSt) : List Byte := perm (spPad r sf s)
theorem spClose {W0 w : World} {L : List Assn} {g r k : Nat} {pv : Value} (p : Option Nat) (rs : List Run3) (B : List Byte) (sf : Byte) (hp : pv = ptrO p) (hB : B.length = 200) (hr : 0 < r) (hr2 : r ≤ 200) (hk : k < r) (hb : tot rs + 1 ≤ 4611686018427387904) (hl : rs.length ≤ 4294967296)
  (hs : Sat W0 w (ledO p rs :: spS g B r (v8 sf) k false L)) :
  Calls Tryz.prog 195 #[.pointer (some ⟨g, 0, none⟩), pv] w fun e w' => e = .returned (.int .i64 0) ∧ Sat W0 w' (ledO p (note rs 3 200 1) :: spS g (spEnd r sf (B, k)) r (v8 sf) 0 true L) := by
 subst hp
 have hno := spNone hr (hs.f : Sat W0 w (seg true g 200 [.int .i64 (r : Int), .int .u8 (v8 sf), .int .i64 (k : Int), .bool false] :: []))
 have sT : Sat W0 w (seg true g 200 [.int .i64 (r : Int), .int .u8 (v8 sf), .int .i64 (k : Int), .bool false] :: []) := hs.f
 have z0 := satLt sT (by simp)
 have c0 : w.cell? ⟨g, 203, none⟩ = some (.bool false) := sT.cell (i := 3) rfl
 have c1 : w.cell? ⟨g, 202, none⟩ = some (.int .i64 (k : Int)) := sT.cell (i := 2) rfl
 have c2 : w.cell? ⟨g, 201, none⟩ = some (.int .u8 (v8 sf)) := sT.cell (i := 1) rfl
 have c3 : w.cell? ⟨g, 200, none⟩ = some (.int .i64 (r : Int)) := sT.cell (i := 0) rfl
 clear sT
 have sB : Sat W0 w (seg true g 0 (u8s B) :: ledO p rs :: seg true g 200 [.int .i64 (r : Int), .int .u8 (v8 sf), .int .i64 (k : Int), .bool false] :: L) := hs.f
 have hk2 : k < 200 := by omega
 obtain ⟨q, hq⟩ : ∃ q, q = r - 1 := ⟨_, rfl⟩
 have hq2 : q < 200 := by omega
 have hq3 : IntKind.i64.wrap ((r : Int) - 1) = (q : Int) := by rw [IntKind.wrap_i64]; omega
 have ck := sB.at k (u8s_get B k (by rw [hB]; exact hk2))
 have fk := sB.fr k (by rw [u8s_len, hB]; exact hk2)
 obtain ⟨x, hx⟩ : ∃ x, x = B.getD k 0 := ⟨_, rfl⟩
 rw [← hx] at ck
 obtain ⟨C, hC⟩ : ∃ C, C = B.set k (x ^^^ sf) := ⟨_, rfl⟩
 have hCl : C.length = 200 := by rw [hC, List.length_set]; exact hB
 obtain ⟨y, hy⟩ : ∃ y, y = C.getD q 0 := ⟨_, rfl⟩
 have hpad : spPad r sf (B, k) = C.set q (y ^^^ 128) := by rw [hy, hC, hx, hq]; rfl
 have hend : spEnd r sf (B, k) = perm (C.set q (y ^^^ 128)) := by unfold spEnd; rw [hpad]
 obtain ⟨E, hE⟩ : ∃ E, E = spEnd r sf (B, k) := ⟨_, rfl⟩
 rw [← hE] at hend ⊢
 have hpm := fun (w : World) (s : Sat W0 w (ledO p rs :: seg true g 0 (u8s (C.set q (y ^^^ 128))) :: seg true g 200 [.int .i64 (r : Int), .int .u8 (v8 sf), .int .i64 (k : Int), .bool false] :: L)) => spPermute (pv := ptrO p) p rs _ rfl (by rw [List.length_set]; exact hCl) hb hl s
 rw [← hend] at hpm
 have hC0 : B.length = 200 := hB
 have HN := Lib.hid (And.intro hno (And.intro hB (And.intro hCl (And.intro hy (And.intro hC hpm))))); clear hno hB hCl hy hC hpm hpad hend hE hs hx hC0 hr hr2 hk hb hl hq
 go_enter Tryz.func195, Tryz.ntmps195
 go_wp2_with fail
 refine HN.out.1.mono ?_
 rintro e w1 ⟨rfl, rfl⟩
 go_wp2_with fail
 refine wp_region_quiet_tail_lit 16 (by kernel_rfl) (by kernel_rfl) ?_
 simp only [List.take_succ_cons, List.take_zero, List.drop_succ_cons, List.drop_zero]
 repeat (go_big_quiet_step (fail))
 refine wpQuiet_nil ?_
 rintro _ ⟨nr, rfl⟩
 go_wp2_with fail
 rw [vxor8]
 have st := (sB.drewN nr).store (i := k) (by rw [u8s_len, HN.out.2.1]; exact hk2) (.int .u8 (v8 (x ^^^ sf))) (q := k) (by simp)
 rw [u8s_set, ← HN.out.2.2.2.2.1] at st
 clear sB ck fk c0 c1 c2 c3 z0
 obtain ⟨w2, hw2⟩ : ∃ w2, w2 = (w1.drewN nr).setCell ⟨g, k, none⟩ (.int .u8 (v8 (x ^^^ sf))) := ⟨_, rfl⟩
 rw [← hw2] at st ⊢
 clear hw2
 have sT : Sat W0 w2 (seg true g 200 [.int .i64 (r : Int), .int .u8 (v8 sf), .int .i64 (k : Int), .bool false] :: []) := st.f
 have z0 := satLt sT (by simp)
 have c3 : w2.cell? ⟨g, 200, none⟩ = some (.int .i64 (r : Int)) := sT.cell (i := 0) rfl
 clear sT
 have cq := st.at q (u8s_get C q (by rw [HN.out.2.2.1]; exact hq2))
 have fq := st.fr q (by rw [u8s_len, HN.out.2.2.1]; exact hq2)
 rw [← HN.out.2.2.2.1] at cq
 refine wp_region_quiet_tail_lit 13 (by kernel_rfl) (by kernel_rfl) ?_
 simp only [List.take_succ_cons, List.take_zero, List.drop_succ_cons, List.drop_zero]
 repeat (go_big_quiet_step (fail))
 refine wpQuiet_nil ?_
 rintro _ ⟨nt, rfl⟩
 go_wp2_with fail
 have h128 : bits .xor .u8 (v8 y) 128 = v8 (y ^^^ 128) := vxor8 y 128
 rw [h128]
 have st2 := (st.drewN nt).store (i := q) (by rw [u8s_len, HN.out.2.2.1]; exact hq2) (.int .u8 (v8 (y ^^^ 128))) (q := q) (by simp)
 rw [u8s_set] at st2
 clear st cq fq c3 z0
 refine (HN.out.2.2.2.2.2 _ st2.f).mono ?_
 rintro e w3 ⟨rfl, s3⟩
 clear st2
 have s4 : Sat W0 w3 (seg true g 200 [.int .i64 (r : Int), .int .u8 (v8 sf), .int .i64 ((0 : Nat) : Int), .bool false] :: ledO p (note rs 3 200 1) :: seg true g 0 (u8s E) :: L) := s3.f
 have z0 := satLt s4 (by simp)
 have c3 : w3.cell? ⟨g, 203, none⟩ = some (.bool false) := s4.cell (i := 3) rfl
 have f3 : w3.frozen? ⟨g, 203, none⟩ = false := (s4.free (i := 3) (by simp)).1
 have s5 := s4.store (i := 3) (by simp) (.bool true) (q := 203) rfl
 have s6 : Sat W0 (w3.setCell ⟨g, 203, none⟩ (.bool true)) (seg true g 200 [.int .i64 (r : Int), .int .u8 (v8 sf), .int .i64 ((0 : Nat) : Int), .bool true] :: ledO p (note rs 3 200 1) :: seg true g 0 (u8s E) :: L) := s5
 have HS := Lib.hid (s6.f : Sat W0 (w3.setCell ⟨g, 203, none⟩ (.bool true)) (ledO p (note rs 3 200 1) :: spS g E r (v8 sf) 0 true L)); clear s3 s4 s5 s6
 go_wp2_with fail
 go_ret
 exact ⟨rfl, HS.out⟩
theorem spClone {W0 w : World} {L : List Assn} {g r k : Nat} {suf : Int} {shut : Bool} (B : List Byte) (hB : B.length = 200) (hr : 0 < r) (hs : Sat W0 w (spS g B r suf k shut L)) :
  Calls Tryz.prog 179 #[.pointer (some ⟨g, 0, none⟩)] w fun e w' => ∃ d, e = .returned (.tuple #[.pointer (some ⟨d, 0, none⟩), .int .i64 0]) ∧ Sat W0 w' (spS d B r suf k shut (spS g B r suf k shut L)) := by
 have hno := spNone hr (hs.f : Sat W0 w (seg true g 200 [.int .i64 (r : Int), .int .u8 suf, .int .i64 (k : Int), .bool shut] :: []))
 have sj := spJoin hB hs
 clear hs
 have hcl := spAll_len B (r : Int) suf (k : Int) shut hB
 have h1 := spAll_one B (r : Int) suf (k : Int) shut
 have hbk := fun (w : World) (L : List Assn) (g : Nat) (h : Sat W0 w (seg true g 0 (spAll B (r : Int) suf (k : Int) shut) :: L)) => spPart hB h
 obtain ⟨cs, hcs⟩ : ∃ cs, cs = spAll B (r : Int) suf (k : Int) shut := ⟨_, rfl⟩
 rw [← hcs] at sj hcl h1 hbk
 have ht : (cs.drop 0).take 204 = cs := by rw [List.drop_zero]; exact List.take_of_length_le (by omega)
 have hzl : (spAll nought200 0 0 0 false).length = 204 := spAll_len _ _ _ _ _ rfl
 have z0 := satLt sj (by rw [hcl]; decide)
 have HN := Lib.hid (And.intro hno (And.intro hcl (And.intro h1 (And.intro ht (And.intro hzl hbk))))); clear hno hcl h1 ht hzl hbk hcs hB hr
 go_enter Tryz.func179, Tryz.ntmps179
 go_wp2_with fail
 refine HN.out.1.mono ?_
 rintro e w1 ⟨rfl, rfl⟩
 go_wp2_with (first | (refine wpl_load_agg rfl 253 (.tmp 8) rfl Tryz.underlying253 rfl Tryz.size_sp sj 0 0 rfl rfl (by rw [HN.out.2.1]; exact Nat.le_refl _) ?_; rw [HN.out.2.2.2.1]) | (refine wpl_alloc_agg rfl 253 rfl sj _ (zero_sp _) ?_; intro w2 d s2 _) | (refine wpl_store_agg rfl rfl 253 (.tmp 4) (.tmp 9) rfl (cs := cs) s2 0 0 (by rw [HN.out.2.1]; exact Tryz.size_sp) rfl rfl rfl (by rw [HN.out.2.1, HN.out.2.2.2.2.1]; decide) HN.out.2.2.1 ?_; intro w3 s3; rw [setL_all _ _ (by rw [HN.out.2.1, HN.out.2.2.2.2.1])] at s3))
 have s4 := HN.out.2.2.2.2.2 _ _ _ s3
 have s5 := HN.out.2.2.2.2.2 _ _ _ (show Sat W0 w3 (seg true g 0 cs :: spS d B r suf k shut L) from s4.f)
 have HS := Lib.hid (s5.f : Sat W0 w3 (spS d B r suf k shut (spS g B r suf k shut L))); clear s4 s5 s3 s2 sj
 exact bodyPost_ret (v := .tuple #[.pointer (some ⟨d, 0, none⟩), .int .i64 0]) (by simp [results, Tryz.results179, go_sem]) rfl ⟨d, rfl, HS.out⟩
theorem spWipe {W0 w : World} {L : List Assn} {g r k : Nat} {suf : Int} {shut : Bool} {pv : Value} (p : Option Nat) (rs : List Run3) (B : List Byte) (hp : pv = ptrO p) (hB : B.length = 200) (hr : 0 < r) (hb : tot rs + 1 ≤ 4611686018427387904) (hl : rs.length ≤ 4294967296)
  (hs : Sat W0 w (ledO p rs :: spS g B r suf k shut L)) :
  Calls Tryz.prog 177 #[.pointer (some ⟨g, 0, none⟩), pv] w fun e w' => e = .returned (.int .i64 0) ∧ Sat W0 w' (ledO p (note rs 8 203 1) :: L) := by
 subst hp
 have hno := spNone hr (hs.f : Sat W0 w (seg true g 200 [.int .i64 (r : Int), .int .u8 suf, .int .i64 (k : Int), .bool shut] :: []))
 have hnt := fun (w : World) (X : List Assn) (s : Sat W0 w (ledO p rs :: X)) => noteOne p rs 8 203 s hb hl
 have sj : Sat W0 w (seg true g 0 (spAll B (r : Int) suf (k : Int) shut) :: ledO p rs :: L) := spJoin hB hs.f
 clear hs
 have hcl := spAll_len B (r : Int) suf (k : Int) shut hB
 obtain ⟨cs, hcs⟩ : ∃ cs, cs = spAll B (r : Int) suf (k : Int) shut := ⟨_, rfl⟩
 rw [← hcs] at sj hcl
 have hzl : (spAll nought200 0 0 0 false).length = 204 := spAll_len _ _ _ _ _ rfl
 have HN := Lib.hid (And.intro hno (And.intro hnt (And.intro hcl hzl))); clear hno hnt hcl hzl hcs hB hr
 go_enter Tryz.func177, Tryz.ntmps177
 go_wp2_with fail
 refine HN.out.1.mono ?_
 rintro e w1 ⟨rfl, rfl⟩
 go_wp2_with fail
 refine (HN.out.2.1 _ (seg true g 0 cs :: L) (sj.pull 1)).mono ?_
 rintro e w2 ⟨rfl, s2'⟩
 have s2 : Sat W0 w2 (seg true g 0 cs :: ledO p (note rs 8 203 1) :: L) := s2'.f
 clear s2' sj
 have z0 := satLt s2 (by rw [HN.out.2.2.1]; decide)
 go_wp2_with (first | (refine wpl_build rfl 253 rfl (.agg (spAll nought200 0 0 0 false).toArray) (build_sp0 _) ?_) | (refine wpl_store_agg rfl rfl 253 (.tmp 12) (.tmp 11) rfl (cs := spAll nought200 0 0 0 false) s2 0 0 (by rw [HN.out.2.2.2]; exact Tryz.size_sp) rfl rfl rfl (by rw [HN.out.2.2.2, HN.out.2.2.1]; decide) (spAll_one _ _ _ _ _) ?_; intro w3 s3))
 exact bodyPost_ret (v := .int .i64 0) (by simp [results, Tryz.results177, go_sem]) rfl ⟨rfl, s3.tail⟩
end Go.Proofs.YtbefjaodpbgpcaaGreat
namespace Go.Sep
open Go.RowKit Go.Bv
section
variable {P : Program} {T U : TypeId} {n : Nat}
theorem run_sliceBoth (hu : P.underlying T = some (.array n U)) (hz : (P.info? U).map (·.size) = some 1) (b o i j : Nat) (hi : i < n) (hij : i ≤ j) (hj : j ≤ n) (w : World) :
  (Instr.sliceAt T (.pointer (some ⟨b, o, none⟩)) (some (.int .i64 (i : Int))) (some (.int .i64 (j : Int))) none).run P w = .ok (.slice (some ⟨b, o + i, none⟩) (j - i) (n - i)) w := by
 cases hq : P.info? U with
 | none => simp [hq] at hz
 | some inf =>
  have hz' : inf.size = 1 := by simpa [hq] using hz
  have h2 : i ≤ n := by omega
  have h3 : ¬ n = i := by omega
  simp [Instr.sliceAt, Instr.sliceBounds, Instr.sliceBound, asIntOf, Instr.sureAddr, run_underlying hu, h2, h3, hij, hj, sizeOf, typeInfo, hq, hz', Addr.add]
theorem run_sliceCap (hu : P.underlying T = some (.array n U)) (hz : (P.info? U).map (·.size) = some 1) (b o : Nat) (hn : 0 < n) (w : World) :
  (Instr.sliceAt T (.pointer (some ⟨b, o, none⟩)) none (some (.int .i64 (n : Int))) (some (.int .i64 (n : Int)))).run P w = .ok (.slice (some ⟨b, o, none⟩) n n) w := by
 cases hq : P.info? U with
 | none => simp [hq] at hz
 | some inf =>
  have hz' : inf.size = 1 := by simpa [hq] using hz
  have h3 : ¬ n = 0 := by omega
  simp [Instr.sliceAt, Instr.sliceBounds, Instr.sliceBound, asIntOf, Instr.sureAddr, run_underlying hu, h3, sizeOf, typeInfo, hq, hz', Addr.add]
end
end Go.Sep
namespace Go.Proofs.YtbefjaodpbgpcaaGreat
open Go.RowKit Go.Sep Go.Bv Go.Kec
theorem spRead {W0 w : World} {L : List Assn} {g r k : Nat} {pv : Value} (p : Option Nat) (rs : List Run3) (B : List Byte) (sf : Byte) (n : Nat) (hp : pv = ptrO p) (hB : B.length = 200) (hr : 0 < r) (hr2 : r ≤ 200) (hk : k < r) (hn0 : 0 < n) (hn : n ≤ r) (hb : tot rs + 1 ≤ 4611686018427387904) (hl : rs.length ≤ 4294967296)
  (hs : Sat W0 w (ledO p rs :: spS g B r (v8 sf) k false L)) :
  Calls Tryz.prog 181 #[.pointer (some ⟨g, 0, none⟩), pv, .int .i64 (n : Int)] w fun e w' => ∃ q, e = .returned (.tuple #[.slice (some ⟨q, 0, none⟩) n n, .int .i64 0]) ∧ Sat W0 w' (seg true q 0 (u8s ((spEnd r sf (B, k)).take n)) :: ledO p (note rs 3 200 1) :: L) := by
 subst hp
 obtain ⟨i3, hi3, hz3, hs3, hb3⟩ := info_parts Tryz.info_u8
 have hno := spNone hr (hs.f : Sat W0 w (seg true g 200 [.int .i64 (r : Int), .int .u8 (v8 sf), .int .i64 (k : Int), .bool false] :: []))
 have sT : Sat W0 w (seg true g 200 [.int .i64 (r : Int), .int .u8 (v8 sf), .int .i64 (k : Int), .bool false] :: []) := hs.f
 have z0 := satLt sT (by simp)
 have c0 : w.cell? ⟨g, 203, none⟩ = some (.bool false) := sT.cell (i := 3) rfl
 clear sT
 have hcl := spClose (pv := ptrO p) p rs B sf rfl hB hr hr2 hk hb hl hs
 have hEl : (spEnd r sf (B, k)).length = 200 := by unfold spEnd; exact perm_len _
 obtain ⟨E, hE⟩ : ∃ E, E = spEnd r sf (B, k) := ⟨_, rfl⟩
 rw [← hE] at hcl hEl ⊢
 have hTl : (E.take n).length = n := by rw [List.length_take, hEl]; omega
 have hput : putB (List.replicate n 0) 0 (E.take n) = E.take n := by
  unfold putB
  rw [List.take_zero, List.nil_append, hTl, List.drop_eq_nil_of_le (by simp), List.append_nil]
 obtain ⟨F, hF⟩ : ∃ F, F = E.take n := ⟨_, rfl⟩
 rw [← hF] at hTl hput ⊢
 have hsrc : ∀ (j : Nat) (v : Value), (u8s F)[j]? = some v → (u8s E)[j]? = some v := by
  intro j v hv
  rw [hF, ← u8s_take, List.getElem?_take] at hv
  split at hv
  ·exact hv
  ·cases hv
 have e0 : ((0 : Int) == (r : Int)) = false := by rw [beq_eq_false_iff_ne]; omega
 have hmin : F.length = Nat.min r n := by rw [hTl]; exact (Nat.min_eq_right hn).symm
 have hn2 : n ≤ 200 := by omega
 have hsl : ∀ w, (Instr.sliceAt 251 (.pointer (some ⟨g, 0, none⟩)) (some (.int .i64 0)) (some (.int .i64 (r : Int))) none).run Tryz.prog w = .ok (.slice (some ⟨g, 0, none⟩) r 200) w := fun w => run_sliceBoth (P := Tryz.prog) (T := 251) (U := 5) Tryz.underlying251 (by kernel_rfl) g 0 0 r (by decide) (by omega) hr2 w
 have HN := Lib.hid (And.intro hno (And.intro hcl (And.intro hEl (And.intro hTl (And.intro hput (And.intro hsrc hmin)))))); clear hno hcl hEl hTl hput hsrc hmin hE hF hs hB hk hb hl
 go_enter Tryz.func181, Tryz.ntmps181
 go_wp2_with fail
 refine HN.out.1.mono ?_
 rintro e w1 ⟨rfl, rfl⟩
 go_wp2_with fail
 refine HN.out.2.1.mono ?_
 rintro e w2 ⟨rfl, s2⟩
 clear c0 z0
 have s3 : Sat W0 w2 (spS g E r (v8 sf) 0 true (ledO p (note rs 3 200 1) :: L)) := s2.f
 clear s2
 go_wp2_with (refine wpl_make rfl 25 5 (.tmp 29) (.tmp 29) rfl Tryz.underlying25 hi3 hz3 hs3 hb3 rfl n rfl rfl (by omega) (by omega) s3 ?_; intro w4 q s4 _; rw [u8s_zero] at s4; clear s3)
 clear hi3 hz3 hs3 hb3
 go_loopw [9] (fun t9 wr => (t9 = .int .i64 0 ∧ Sat W0 wr (seg true q 0 (u8s (List.replicate n 0)) :: spS g E r (v8 sf) 0 true (ledO p (note rs 3 200 1) :: L))) ∨ (t9 = .int .i64 (n : Int) ∧ Sat W0 wr (seg true q 0 (u8s F) :: ledO p (note rs 3 200 1) :: L))) (fun t9 _ => n - (intOf t9).toNat)
 case atStart => exact .inl ⟨rfl, s4⟩
 case round =>
  clear s4
  rcases hrel with ⟨rfl, s⟩ | ⟨rfl, s⟩
  ·have sT : Sat W0 wr (seg true g 200 [.int .i64 (r : Int), .int .u8 (v8 sf), .int .i64 0, .bool true] :: seg true g 0 (u8s E) :: seg true q 0 (u8s (List.replicate n 0)) :: ledO p (note rs 3 200 1) :: L) := by
    have sT' : Sat W0 wr (seg true g 200 [.int .i64 (r : Int), .int .u8 (v8 sf), .int .i64 ((0 : Nat) : Int), .bool true] :: seg true g 0 (u8s E) :: seg true q 0 (u8s (List.replicate n 0)) :: ledO p (note rs 3 200 1) :: L) := s.f
    exact sT'
   clear s
   have hfact : ∀ wx X, Sat W0 wx (seg true g 200 [.int .i64 (r : Int), .int .u8 (v8 sf), .int .i64 0, .bool true] :: X) → (wx.cell? ⟨g, 202, none⟩ = some (.int .i64 0) ∧ wx.cell? ⟨g, 200, none⟩ = some (.int .i64 (r : Int)) ∧ g < wx.heap.size) := fun wx X h => ⟨h.cell (i := 2) rfl, h.cell (i := 0) rfl, satLt h (by simp)⟩
   obtain ⟨cp, cr, zg⟩ := hfact _ _ sT
   have HF := Lib.hid hfact; clear hfact
   have hlt : ((0 : Int) < (n : Int)) := by omega
   go_wp2_with fail
   go_quiet (fail)
   go_wp2_with fail
   have sQ := sT.drewN nq
   clear sT cp cr zg
   obtain ⟨w5, hw5⟩ : ∃ w5, w5 = wr.drewN nq := ⟨_, rfl⟩
   rw [← hw5] at sQ ⊢
   clear hw5
   refine region_E (fun w' => w'.cell? ⟨g, 202, none⟩ = some (.int .i64 0) ∧ w'.cell? ⟨g, 200, none⟩ = some (.int .i64 (r : Int)) ∧ g < w'.heap.size) [9, 13] (by kernel_rfl) ?_
   have hHeld := HF.out _ _ sQ.drew
   iterate 15
    first | refine autoT' hHeld (h := ?_) | refine autoP' (h := ?_)
    try simp only [pA1, pA2, pA3, pA4]
   refine anyE_one' (i := 15) (h := fun K hK => ?_)
   rw [if_pos (by rfl)]
   have sR : Sat W0 w5.drew (seg true q 0 (u8s (List.replicate n 0)) :: seg true g 0 (u8s E) :: seg true g 200 [.int .i64 (r : Int), .int .u8 (v8 sf), .int .i64 0, .bool true] :: ledO p (note rs 3 200 1) :: L) := sQ.drew.f
   have hnews := (sR.pull 1 : Sat W0 _ (seg true g 0 (u8s E) :: _)).news
   refine op_copy (.tmp 48) (.tmp 60) 25 25 rfl Tryz.underlying25 (by kernel_rfl) sR 0 0 n n r 200 (some ⟨g, 0, none⟩) (u8s F) (by first | rfl | (simp; done)) (by first | rfl | (simp; done)) (by omega) (by rw [u8s_len]; exact HN.out.2.2.2.2.2.2) (by rw [u8s_len, u8s_len, HN.out.2.2.2.1, List.length_replicate]; omega) (fun j v hv => hnews j v (HN.out.2.2.2.2.2.1 j v hv)) (u8s_one _) ?_
   intro w6 s6
   rw [setL_u8s _ _ _ (by rw [HN.out.2.2.2.1, List.length_replicate]; omega), HN.out.2.2.2.2.1] at s6
   rw [u8s_len, HN.out.2.2.2.1]
   try simp only [Act.put, List.setIfInBounds_toArray, List.set_cons_zero, List.set_cons_succ]
   have hK6 := HF.out _ _ (s6.f : Sat W0 w6 (seg true g 200 [.int .i64 (r : Int), .int .u8 (v8 sf), .int .i64 0, .bool true] :: []))
   refine hK.out _ _ hK6 ?_
   clear hK K hHeld sQ sR hnews hK6
   try simp only [pA1, pA2, pA3, pA4]
   iterate 1
    first | refine autoT' hHeld (h := ?_) | refine autoP' (h := ?_)
    try simp only [pA1, pA2, pA3, pA4]
   refine anyE_done (by kernel_rfl) ?_ _
   have sC : Sat W0 w6 (seg true g 200 [.int .i64 (r : Int), .int .u8 (v8 sf), .int .i64 0, .bool true] :: seg true q 0 (u8s F) :: ledO p (note rs 3 200 1) :: L) := s6.f
   obtain ⟨cp, cr, zg⟩ := HF.out _ _ sC
   have fp : w6.frozen? ⟨g, 202, none⟩ = false := (sC.free (i := 2) (by simp)).1
   have sD := sC.store (i := 2) (by simp) (.int .i64 (n : Int)) (q := 202) rfl
   have hD := Lib.hid sD.tail; clear s6 sC sD
   go_wp2_with fail
   go_roundw
   case rel => exact .inr ⟨rfl, hD.out⟩
   case measure => simp [intOf]; omega
  ·have HS := Lib.hid s; clear s
   go_wp2_with fail
   exact bodyPost_ret (v := .tuple #[.slice (some ⟨q, 0, none⟩) n n, .int .i64 0]) (by simp [results, Tryz.results181, go_sem]) rfl ⟨q, rfl, HS.out⟩
def spForm (B : List Byte) (k : Nat) (shut : Bool) : List Byte := B ++ [BitVec.ofNat 8 (k / 256), BitVec.ofNat 8 k, if shut then 1 else 0]
theorem spFormOf {W0 w : World} {L : List Assn} {g r k : Nat} {suf : Int} (B : List Byte) (hB : B.length = 200) (hr : 0 < r) (hk : k < 256) (hs : Sat W0 w (spS g B r suf k false L)) :
  Calls Tryz.prog 178 #[.pointer (some ⟨g, 0, none⟩)] w fun e w' => ∃ q c, e = .returned (.slice (some ⟨q, 0, none⟩) 203 c) ∧ Sat W0 w' (row (some ⟨q, 0, none⟩) c 1 203 (u8s (spForm B k false)) :: spS g B r suf k false L) := by
 obtain ⟨i3, hi3, hz3, hs3, hb3⟩ := info_parts Tryz.info_u8
 have hno := spNone hr (hs.f : Sat W0 w (seg true g 200 [.int .i64 (r : Int), .int .u8 suf, .int .i64 (k : Int), .bool false] :: []))
 have hfact : ∀ wx X, Sat W0 wx (seg true g 200 [.int .i64 (r : Int), .int .u8 suf, .int .i64 (k : Int), .bool false] :: X) → (wx.cell? ⟨g, 202, none⟩ = some (.int .i64 (k : Int)) ∧ wx.cell? ⟨g, 203, none⟩ = some (.bool false) ∧ g < wx.heap.size) := fun wx X h => ⟨h.cell (i := 2) rfl, h.cell (i := 3) rfl, satLt h (by simp)⟩
 have hsl := fun w => run_sliceCap (P := Tryz.prog) (T := 251) (U := 5) Tryz.underlying251 (by kernel_rfl) g 0 (by decide) w
 have hsh : IntKind.u8.wrap ((k : Int) / 256) = 0 := by rw [IntKind.wrap_u8]; omega
 have hsh2 : (k : Int) / 256 = 0 := by omega
 have hk8 : IntKind.u8.wrap (k : Int) = (k : Int) := by rw [IntKind.wrap_u8]; omega
 have hb3v : u8s [BitVec.ofNat 8 (k / 256), BitVec.ofNat 8 k, 0] = [.int .u8 0, .int .u8 (k : Int), .int .u8 0] := by
  have h1 := v8_small k hk
  have h2 : k / 256 = 0 := by omega
  rw [h2]
  show [Value.int .u8 (v8 (BitVec.ofNat 8 0)), .int .u8 (v8 (BitVec.ofNat 8 k)), .int .u8 (v8 0)] = _
  rw [h1]
  rfl
 obtain ⟨T3, hT3⟩ : ∃ T3, T3 = [BitVec.ofNat 8 (k / 256), BitVec.ofNat 8 k, (0 : Byte)] := ⟨_, rfl⟩
 rw [← hT3] at hb3v
 have hT3l : T3.length = 3 := by rw [hT3]; rfl
 have hfin : spForm B k false = B ++ T3 := by rw [hT3]; rfl
 rw [hfin]
 have hs0 : Sat W0 w (spS g B r suf k false L) := hs
 have HN := Lib.hid (And.intro hno (And.intro hB (And.intro hfact (And.intro hb3v hT3l)))); clear hno hB hfact hb3v hT3l hT3 hfin hs0
 go_enter Tryz.func178, Tryz.ntmps178
 go_wp2_with fail
 refine HN.out.1.mono ?_
 rintro e w1 ⟨rfl, rfl⟩
 go_wp2_with fail
 refine region_E (fun w' => w'.cell? ⟨g, 202, none⟩ = some (.int .i64 (k : Int)) ∧ g < w'.heap.size) [7, 13] (by kernel_rfl) ?_
 have hHeld := (And.intro (HN.out.2.2.1 _ _ (hs.drew.f : Sat W0 w1.drew (seg true g 200 [.int .i64 (r : Int), .int .u8 suf, .int .i64 (k : Int), .bool false] :: []))).1 (HN.out.2.2.1 _ _ (hs.drew.f : Sat W0 w1.drew (seg true g 200 [.int .i64 (r : Int), .int .u8 suf, .int .i64 (k : Int), .bool false] :: []))).2.2)
 iterate 15
  first | refine autoT' hHeld (h := ?_) | refine autoP' (h := ?_)
  try simp only [pA1, pA2, pA3, pA4]
 have sA : Sat W0 (w1.drew.alloc (.cells #[.int .u8 0, .int .u8 (k : Int), .int .u8 0] 5)) (seg true w1.drew.heap.size 0 (u8s T3) :: spS g B r suf k false L) := by rw [HN.out.2.2.2.1]; exact hs.drew.alloc #[.int .u8 0, .int .u8 (k : Int), .int .u8 0] 5
 refine anyE_one' (i := 15) (h := fun K hK => ?_)
 go_simp
 skip
 go_wp2_with fail
 have hKp := (And.intro (HN.out.2.2.1 _ _ (sA.f : Sat W0 _ (seg true g 200 [.int .i64 (r : Int), .int .u8 suf, .int .i64 (k : Int), .bool false] :: []))).1 (HN.out.2.2.1 _ _ (sA.f : Sat W0 _ (seg true g 200 [.int .i64 (r : Int), .int .u8 suf, .int .i64 (k : Int), .bool false] :: []))).2.2)
 refine hK.out _ _ hKp ?_
 clear hK K hHeld
 have hHeld := hKp
 clear hKp
 try simp only [pA1, pA2, pA3, pA4]
 refine anyE_one' (i := 16) (h := fun K hK => ?_)
 rw [if_pos (by rfl)]
 have sB : Sat W0 (w1.drew.alloc (.cells #[.int .u8 0, .int .u8 (k : Int), .int .u8 0] 5)) (seg true g 0 (u8s B) :: seg true w1.drew.heap.size 0 (u8s T3) :: seg true g 200 [.int .i64 (r : Int), .int .u8 suf, .int .i64 (k : Int), .bool false] :: L) := sA.f
 clear sA hs
 refine op_grow8 (.tmp 9) (.tmp 21) 25 5 rfl Tryz.underlying25 hi3 hz3 hs3 hb3 rfl (by first | rfl | (simp; done)) (by first | rfl | (simp; done)) sB HN.out.2.1 HN.out.2.2.2.2 (by decide) (by decide) ?_
 intro g7 c7 w7 s7
 try simp only [Act.put, List.setIfInBounds_toArray, List.set_cons_zero, List.set_cons_succ]
 have hK7 := HN.out.2.2.1 _ _ (s7.f : Sat W0 w7 (seg true g 200 [.int .i64 (r : Int), .int .u8 suf, .int .i64 (k : Int), .bool false] :: []))
 refine hK.out _ _ (And.intro hK7.1 hK7.2.2) ?_
 clear hK K sB hK7
 try simp only [pA1, pA2, pA3, pA4]
 iterate 1
  first | refine autoT' hHeld (h := ?_) | refine autoP' (h := ?_)
  try simp only [pA1, pA2, pA3, pA4]
 refine anyE_done (by kernel_rfl) ?_ _
 have sZ : Sat W0 w7 (seg true g 200 [.int .i64 (r : Int), .int .u8 suf, .int .i64 (k : Int), .bool false] :: seg true g 0 (u8s B) :: row (some ⟨g7, 0, none⟩) c7 1 203 (u8s (B ++ T3)) :: L) := s7.f
 obtain ⟨cp, cs, zg⟩ := HN.out.2.2.1 _ _ sZ
 clear s7
 go_wp2_with fail
 have HS := Lib.hid sZ; clear sZ
 go_ret
 have sF := HS.out
 exact ⟨g7, c7, rfl, sF.f⟩
end Go.Proofs.YtbefjaodpbgpcaaGreat
