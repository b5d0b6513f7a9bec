
/- The sponge: worked over, told bytes; under the conditions that each names. -/
import Derived.Test.YtbefjaodpbgpcaaGreatGM
import Derived.Test.YtbefjaodpbgpcaaGreatGJ
namespace Go.Kec
open Go.Bv Go.Sep
set_option linter.unusedVariables false
def perm (B : List Byte) : List Byte := laneBytes (kecF (lanes B))
theorem lanes_len (B : List Byte) : (lanes B).length = 25 := by unfold lanes; exact lanesTo_len B 25
theorem perm_len (B : List Byte) : (perm B).length = 200 := by unfold perm; rw [laneBytes_len, kecF_len, lanes_len]
abbrev SpSt := List Byte × Nat
def spStep (r : Nat) (s : SpSt) (x : Byte) : SpSt :=
 if s.2 + 1 = r then (perm (s.1.set s.2 (s.1.getD s.2 0 ^^^ x)), 0) else (s.1.set s.2 (s.1.getD s.2 0 ^^^ x), s.2 + 1)
def spFold (r : Nat) (s : SpSt) (p : List Byte) : SpSt := p.foldl (spStep r) s
theorem spFold_nil (r : Nat) (s : SpSt) : spFold r s [] = s := rfl
theorem spFold_append (r : Nat) (s : SpSt) (p q : List Byte) : spFold r s (p ++ q) = spFold r (spFold r s p) q := by simp [spFold]
theorem spFold_next (r : Nat) (s : SpSt) (p : List Byte) (i : Nat) (h : i < p.length) : spFold r s (p.take (i + 1)) = spStep r (spFold r s (p.take i)) (p.getD i 0) := by
 rw [List.take_succ_eq_append_getElem h, spFold_append]
 simp [spFold, h]
theorem modNext (m r : Nat) (hr : 0 < r) : (m % r + 1 = r → (m + 1) % r = 0 ∧ (m + 1) / r = m / r + 1) ∧ (m % r + 1 ≠ r → (m + 1) % r = m % r + 1 ∧ (m + 1) / r = m / r) := by
 have hd := Nat.div_add_mod m r
 have hl := Nat.mod_lt m hr
 refine ⟨fun h => ?_, fun h => ?_⟩
 ·have e : m + 1 = r * (m / r + 1) := by rw [Nat.mul_add, Nat.mul_one]; omega
  rw [e]
  exact ⟨Nat.mul_mod_right _ _, Nat.mul_div_cancel_left _ hr⟩
 ·have e : m + 1 = (m % r + 1) + r * (m / r) := by omega
  rw [e, Nat.add_mul_mod_self_left, Nat.add_mul_div_left _ _ hr, Nat.mod_eq_of_lt (by omega), Nat.div_eq_of_lt (by omega)]
  exact ⟨rfl, by omega⟩
theorem spStep_inv (r : Nat) (s : SpSt) (x : Byte) (m : Nat) (hr : 0 < r) (hB : s.1.length = 200) (hk : s.2 = m % r) : (spStep r s x).1.length = 200 ∧ (spStep r s x).2 = (m + 1) % r := by
 unfold spStep
 rw [hk]
 by_cases h : m % r + 1 = r
 ·rw [if_pos h, ((modNext m r hr).1 h).1]
  have hp := perm_len (s.1.set (m % r) (s.1.getD (m % r) 0 ^^^ x))
  generalize perm (s.1.set (m % r) (s.1.getD (m % r) 0 ^^^ x)) = Y at hp ⊢
  exact ⟨hp, rfl⟩
 ·rw [if_neg h, ((modNext m r hr).2 h).1]
  exact ⟨by rw [List.length_set]; exact hB, rfl⟩
theorem spFold_inv (r : Nat) (hr : 0 < r) : ∀ (p : List Byte) (s : SpSt) (m : Nat), s.1.length = 200 → s.2 = m % r → (spFold r s p).1.length = 200 ∧ (spFold r s p).2 = (m + p.length) % r
 | [], s, m, hB, hk => ⟨hB, hk⟩
 | x :: p, s, m, hB, hk => by
  have h := spStep_inv r s x m hr hB hk
  have := spFold_inv r hr p (spStep r s x) (m + 1) h.1 h.2
  rw [List.length_cons, show m + (p.length + 1) = m + 1 + p.length by omega]
  exact this
end Go.Kec
namespace Go.Proofs.YtbefjaodpbgpcaaGreat
open Go.RowKit Go.Sep Go.Bv Go.Kec
set_option linter.unusedVariables false
set_option linter.unusedSimpArgs false
/-- A sponge. -/
abbrev spS (g : Nat) (B : List Byte) (r : Nat) (suf : Int) (k : Nat) (shut : Bool) (L : List Assn) : List Assn :=
 seg true g 0 (u8s B) :: seg true g 200 [.int .i64 (r : Int), .int .u8 suf, .int .i64 (k : Int), .bool shut] :: L
theorem arrayAt200 (a : Addr) (w : World) : (Instr.arrayAt 251 (.slice (some a) 200 200)).run Tryz.prog w = .ok (.pointer (some a)) w := by
 simp [Instr.arrayAt, run_underlying Tryz.underlying251]
set_option maxHeartbeats 1000000 in
theorem spNone {W0 w : World} {L : List Assn} {g r : Nat} {x y z : Value} (hr : 0 < r) (hs : Sat W0 w (seg true g 200 [.int .i64 (r : Int), x, y, z] :: L)) :
  Calls Tryz.prog 174 #[.pointer (some ⟨g, 0, none⟩)] w fun e w' => e = .returned (.bool false) ∧ w' = w := by
 have c0 : w.cell? ⟨g, 200, none⟩ = some (.int .i64 (r : Int)) := hs.cell (i := 0) rfl
 have z0 := satLt hs (by simp)
 have e0 : ((r : Int) == 0) = false := by rw [beq_eq_false_iff_ne]; omega
 go_enter Tryz.func174, Tryz.ntmps174
 go_wp2
 go_ret
 exact ⟨rfl, rfl⟩
set_option maxRecDepth 100000 in
set_option maxHeartbeats 2000000 in
theorem spPermute {W0 w : World} {L : List Assn} {g : Nat} {r suf k : Int} {shut : Bool} {pv : Value} (p : Option Nat) (rs : List Run3) (B : List Byte) (hp : pv = ptrO p) (hB : B.length = 200) (hb : tot rs + 1 ≤ 4611686018427387904) (hl : rs.length ≤ 4294967296)
  (hs : Sat W0 w (ledO p rs :: seg true g 0 (u8s B) :: seg true g 200 [.int .i64 r, .int .u8 suf, .int .i64 k, .bool shut] :: L)) :
  Calls Tryz.prog 175 #[.pointer (some ⟨g, 0, none⟩), pv] w fun e w' => e = .returned (.tuple #[]) ∧ Sat W0 w' (ledO p (note rs 3 200 1) :: seg true g 0 (u8s (perm B)) :: seg true g 200 [.int .i64 r, .int .u8 suf, .int .i64 ((0 : Nat) : Int), .bool shut] :: L) := by
 subst hp
 have hpl := perm_len B
 have hFl := lanes_len B
 have hGl := kecF_len (lanes B)
 have e : laneBytes (kecF (lanes B)) = perm B := by unfold perm; rfl
 have hfr := fun (w : World) (s : Sat W0 w (seg true g 0 (u8s B) :: ledO p rs :: seg true g 200 [.int .i64 r, .int .u8 suf, .int .i64 k, .bool shut] :: L)) => kecFrom B hB s
 obtain ⟨F, hF⟩ : ∃ F, F = lanes B := ⟨_, rfl⟩
 rw [← hF] at hFl hGl e hfr
 obtain ⟨G, hG⟩ : ∃ G, G = kecF F := ⟨_, rfl⟩
 rw [hFl, ← hG] at hGl
 have hpe := fun (w : World) (s : Sat W0 w (ledO p rs :: seg true g 0 (u8s B) :: seg true g 200 [.int .i64 r, .int .u8 suf, .int .i64 k, .bool shut] :: L)) => kecPermute (pv := ptrO p) p rs F rfl hFl hb hl s
 rw [← hG] at hpe e
 have hby := fun (w : World) (s : Sat W0 w (ledO p (note rs 3 200 1) :: seg true g 0 (u8s B) :: seg true g 200 [.int .i64 r, .int .u8 suf, .int .i64 k, .bool shut] :: L)) => kecBytes G hGl s
 obtain ⟨R, hR⟩ : ∃ R, R = perm B := ⟨_, rfl⟩
 rw [← hR] at hpl e ⊢
 rw [e] at hby
 have s0 : Sat W0 w (seg true g 0 (u8s B) :: ledO p rs :: seg true g 200 [.int .i64 r, .int .u8 suf, .int .i64 k, .bool shut] :: L) := hs.f
 have z0 := s0.lt (by rw [u8s_len, hB]; decide)
 have sl := fun w => run_sliceAll (P := Tryz.prog) (T := 251) (U := 5) Tryz.underlying251 (by kernel_rfl) g 0 w
 have ar := fun w => arrayAt200 ⟨g, 0, none⟩ w
 have HN := Lib.hid (And.intro hfr (And.intro hpe (And.intro hby (And.intro hB hpl)))); clear hfr hpe hby hB hpl hF hG hR e hs hb hl hFl hGl
 go_enter Tryz.func175, Tryz.ntmps175
 go_wp2_with (refine wpl_ld8a rfl (.tmp 12) rfl Tryz.underlying251 Tryz.size_b200 s0 rfl HN.out.2.2.2.1 ?_)
 refine (HN.out.1 _ s0).mono ?_
 rintro e w1 ⟨rfl, s1⟩
 clear s0 z0
 go_wp2_with fail
 refine (HN.out.2.1 _ s1.f).mono ?_
 rintro e w2 ⟨rfl, s2⟩
 clear s1
 go_wp2_with fail
 refine (HN.out.2.2.1 _ s2).mono ?_
 rintro e w3 ⟨rfl, s3'⟩
 clear s2
 have s3 : Sat W0 w3 (seg true g 0 (u8s B) :: ledO p (note rs 3 200 1) :: seg true g 200 [.int .i64 r, .int .u8 suf, .int .i64 k, .bool shut] :: L) := s3'.f
 have z3 := s3.lt (by rw [u8s_len, HN.out.2.2.2.1]; decide)
 clear s3'
 go_wp2_with (refine wpl_st8a rfl rfl (.tmp 18) (.tmp 16) rfl s3 Tryz.size_b200 rfl rfl HN.out.2.2.2.2 HN.out.2.2.2.1 ?_; intro w4 s4; clear s3 z3; have z4 := s4.lt (by rw [u8s_len, HN.out.2.2.2.2]; decide); have s5 : Sat W0 w4 (seg true g 200 [.int .i64 r, .int .u8 suf, .int .i64 k, .bool shut] :: ledO p (note rs 3 200 1) :: seg true g 0 (u8s R) :: L) := s4.f; have c5 : w4.cell? ⟨g, 202, none⟩ = some (.int .i64 k) := s5.cell (i := 2) rfl; have f5 : w4.frozen? ⟨g, 202, none⟩ = false := (s5.free (i := 2) (by simp)).1)
 refine bodyPost_end (results_none rfl _ _ _) rfl ⟨rfl, ?_⟩
 have st := s5.store (i := 2) (by simp) (.int .i64 ((0 : Nat) : Int)) (q := 202) rfl
 have st2 : Sat W0 _ (seg true g 200 [.int .i64 r, .int .u8 suf, .int .i64 ((0 : Nat) : Int), .bool shut] :: ledO p (note rs 3 200 1) :: seg true g 0 (u8s R) :: L) := st
 exact st2.f
set_option maxRecDepth 100000 in
set_option maxHeartbeats 4000000 in
theorem spWrite {W0 w : World} {L : List Assn} {m : Bool} {g n cap r k : Nat} {suf : Int} {pp : Option Addr} {pv : Value} (p : Option Nat) (rs : List Run3) (B P : List Byte) (hp : pv = ptrO p) (hP : P.length = n) (hB : B.length = 200) (hr : 0 < r) (hr2 : r ≤ 200) (hk : k < r) (hcap : n ≤ cap) (hcm : cap ≤ maxLen) (hb : tot rs + k + n + 1 ≤ 4611686018427387904) (hl : rs.length + 1 ≤ 4294967296)
  (hs : Sat W0 w (ledO p rs :: bytes m pp P :: spS g B r suf k false L)) :
  Calls Tryz.prog 141 #[.pointer (some ⟨g, 0, none⟩), pv, .slice pp n cap] w fun e w' => e = .returned (.int .i64 0) ∧ Sat W0 w' (ledO p (noteN rs 3 200 ((k + n) / r)) :: bytes m pp P :: spS g (spFold r (B, k) P).1 r suf (spFold r (B, k) P).2 false L) := by
 subst hp
 unfold maxLen at hcm
 have hno := spNone hr (hs.f : Sat W0 w (seg true g 200 [.int .i64 (r : Int), .int .u8 suf, .int .i64 (k : Int), .bool false] :: []))
 have s0 : Sat W0 w (seg true g 200 [.int .i64 (r : Int), .int .u8 suf, .int .i64 (k : Int), .bool false] :: []) := hs.f
 have z0 := satLt s0 (by simp)
 have c0 : w.cell? ⟨g, 203, none⟩ = some (.bool false) := s0.cell (i := 3) rfl
 clear s0
 have hk0 : k % r = k := Nat.mod_eq_of_lt hk
 have hkr : k / r = 0 := Nat.div_eq_of_lt hk
 have hn63 : n ≤ 9223372036854775807 := by omega
 have sI : Sat W0 w (ledO p (noteN rs 3 200 ((k + 0) / r)) :: bytes m pp P :: spS g (spFold r (B, k) (P.take 0)).1 r suf (spFold r (B, k) (P.take 0)).2 false L) := by rw [Nat.add_zero, hkr]; exact hs
 have HN := Lib.hid (And.intro hno (And.intro hP (And.intro hB (And.intro hr (And.intro hr2 (And.intro hk0 (And.intro hb hl))))))); clear hno hP hB hr hr2 hk0 hb hl hkr hk hs hcap hcm
 go_enter Tryz.func141, Tryz.ntmps141
 go_wp2_with fail
 refine HN.out.1.mono ?_
 rintro e w1 ⟨rfl, rfl⟩
 go_wp2_with fail
 clear z0 c0
 go_loopw [19] (fun t19 wr => ∃ i : Nat, i ≤ n ∧ t19 = .int .i64 (i : Int) ∧ Sat W0 wr (ledO p (noteN rs 3 200 ((k + i) / r)) :: bytes m pp P :: spS g (spFold r (B, k) (P.take i)).1 r suf (spFold r (B, k) (P.take i)).2 false L)) (fun t19 _ => n - (intOf t19).toNat)
 case atStart => exact ⟨0, by omega, rfl, sI⟩
 case round =>
  clear sI
  obtain ⟨i, hi, rfl, s⟩ := hrel
  by_cases hlt : i < n
  ·obtain ⟨hno, hP, hB, hr, hr2, hk0, hb, hl⟩ := HN.out
   have hip : i < P.length := by rw [hP]; exact hlt
   have hinv := spFold_inv r hr (P.take i) (B, k) k hB hk0.symm
   rw [List.length_take, Nat.min_eq_left (by omega)] at hinv
   have hnx := spFold_next r (B, k) P i hip
   have sp : Sat W0 wr (bytes m pp P :: []) := s.f
   obtain ⟨bp, op, rfl, h1⟩ := bytesCell sp (by rintro rfl; simp at hip)
   have zp := satLt h1 (by rw [u8s_len]; omega)
   have cp := h1.cell (u8s_get P i hip)
   obtain ⟨x, hx⟩ : ∃ x, x = P.getD i 0 := ⟨_, rfl⟩
   rw [← hx] at cp hnx
   obtain ⟨⟨C, q⟩, hst⟩ : ∃ st, st = spFold r (B, k) (P.take i) := ⟨_, rfl⟩
   rw [← hst] at hinv hnx s
   simp only at hinv s
   obtain ⟨hCl, hq⟩ := hinv
   have hqr : q < r := by rw [hq]; exact Nat.mod_lt _ hr
   have hq2 : q < 200 := by omega
   have sB : Sat W0 wr (seg true g 0 (u8s C) :: ledO p (noteN rs 3 200 ((k + i) / r)) :: bytes m (some ⟨bp, op, none⟩) P :: seg true g 200 [.int .i64 (r : Int), .int .u8 suf, .int .i64 (q : Int), .bool false] :: L) := s.f
   have sT : Sat W0 wr (seg true g 200 [.int .i64 (r : Int), .int .u8 suf, .int .i64 (q : Int), .bool false] :: []) := s.f
   have zg := sB.lt (by rw [u8s_len, hCl]; decide)
   have cq : wr.cell? ⟨g, 202, none⟩ = some (.int .i64 (q : Int)) := sT.cell (i := 2) rfl
   have fq : wr.frozen? ⟨g, 202, none⟩ = false := (sT.free (i := 2) (by simp)).1
   have cr : wr.cell? ⟨g, 200, none⟩ = some (.int .i64 (r : Int)) := sT.cell (i := 0) rfl
   have cb := sB.at q (u8s_get C q (by rw [hCl]; exact hq2))
   have fb := sB.fr q (by rw [u8s_len, hCl]; exact hq2)
   obtain ⟨y, hy⟩ : ∃ y, y = C.getD q 0 := ⟨_, rfl⟩
   rw [← hy] at cb
   have hset : spStep r (C, q) x = if q + 1 = r then (perm (C.set q (y ^^^ x)), 0) else (C.set q (y ^^^ x), q + 1) := by rw [hy]; rfl
   have hdiv := modNext (k + i) r hr
   rw [← hq] at hdiv
   rw [hset] at hnx
   have hxor : IntKind.i64.wrap ((q : Int) + 1) = ((q + 1 : Nat) : Int) := by rw [IntKind.wrap_i64]; omega
   have HX := Lib.hid (And.intro hnx (And.intro hCl (And.intro hdiv (And.intro hqr hr2)))); clear hnx hCl hdiv hx hy hst hip hset hq hqr hb hl hB hP hno hk0 sp sT h1 s hr hr2
   go_wp2_with fail
   refine wp_region_quiet_tail_lit 13 (by kernel_rfl) (by kernel_rfl) ?_
   simp only [List.take_succ_cons, List.take_zero, List.drop_succ_cons, List.drop_zero]
   repeat (go_big_quiet_step (fail))
   refine wpQuiet_nil ?_
   rintro _ ⟨nr, rfl⟩
   have st1 := (sB.drewN nr).store (i := q) (by rw [u8s_len, HX.out.2.1]; exact hq2) (.int .u8 (v8 (y ^^^ x))) (q := q) (by simp)
   rw [u8s_set] at st1
   have st2 : Sat W0 _ (seg true g 200 [.int .i64 (r : Int), .int .u8 suf, .int .i64 (q : Int), .bool false] :: ledO p (noteN rs 3 200 ((k + i) / r)) :: bytes m (some ⟨bp, op, none⟩) P :: seg true g 0 (u8s (C.set q (y ^^^ x))) :: L) := st1.f
   have st3 := st2.store (i := 2) (by simp) (.int .i64 ((q : Int) + 1)) (q := 202) rfl
   have st4 : Sat W0 _ (ledO p (noteN rs 3 200 ((k + i) / r)) :: seg true g 0 (u8s (C.set q (y ^^^ x))) :: seg true g 200 [.int .i64 (r : Int), .int .u8 suf, .int .i64 ((q : Int) + 1), .bool false] :: bytes m (some ⟨bp, op, none⟩) P :: L) := ((show Sat W0 _ (seg true g 200 [.int .i64 (r : Int), .int .u8 suf, .int .i64 ((q : Int) + 1), .bool false] :: _) from st3)).f
   clear st1 st2 st3
   have hCs : (C.set q (y ^^^ x)).length = 200 := by rw [List.length_set]; exact HX.out.2.1
   have htn := tot_noteN rs 3 200 ((k + i) / r)
   have hln := noteN_len rs 3 200 ((k + i) / r)
   have hdl : (k + i) / r ≤ k + i := Nat.div_le_self _ _
   have hb1 : tot (noteN rs 3 200 ((k + i) / r)) + 1 ≤ 4611686018427387904 := by have := HN.out.2.2.2.2.2.2.1; omega
   have hb2 : (noteN rs 3 200 ((k + i) / r)).length ≤ 4294967296 := by have := HN.out.2.2.2.2.2.2.2; omega
   have HB := Lib.hid (And.intro hCs (And.intro hb1 hb2)); clear hCs htn hln hdl hb1 hb2
   by_cases hqe : q + 1 = r
   ·have e1 : ((q : Int) + 1 == (r : Int)) = true := by rw [beq_iff_eq]; omega
    have HQ := Lib.hid hqe; clear hqe
    go_wp2_with fail
    go_quiet (fail)
    go_wp2_with fail
    rw [vxor8]
    refine (spPermute p _ (C.set q (y ^^^ x)) rfl HB.out.1 HB.out.2.1 HB.out.2.2 (st4.drewN nq)).mono ?_
    rintro e w5 ⟨rfl, s5⟩
    clear st4
    have HS := Lib.hid s5; clear s5
    go_wp2_with fail
    go_roundw
    case rel =>
     refine ⟨i + 1, by omega, by go_num, ?_⟩
     have s6 := HS.out
     obtain ⟨hnx, _, hdiv, _⟩ := HX.out
     rw [noteN_note, ((hdiv.1 HQ.out).2).symm] at s6
     rw [← Nat.add_assoc, hnx, if_pos HQ.out]
     exact s6.f
    case measure => simp [intOf]; omega
   ·have e1 : ((q : Int) + 1 == (r : Int)) = false := by rw [beq_eq_false_iff_ne]; omega
    have HQ := Lib.hid hqe; clear hqe
    go_wp2_with fail
    go_quiet (fail)
    go_wp2_with fail
    rw [vxor8]
    have HS := Lib.hid (st4.drewN nq); clear st4
    go_roundw
    case rel =>
     refine ⟨i + 1, by omega, by go_num, ?_⟩
     have s6 := HS.out
     obtain ⟨hnx, _, hdiv, _⟩ := HX.out
     rw [← Nat.add_assoc, hnx, if_neg HQ.out, (hdiv.2 HQ.out).2]
     have s7 : Sat W0 _ (ledO p (noteN rs 3 200 ((k + i) / r)) :: seg true g 0 (u8s (C.set q (y ^^^ x))) :: seg true g 200 [.int .i64 (r : Int), .int .u8 suf, .int .i64 ((q + 1 : Nat) : Int), .bool false] :: bytes m (some ⟨bp, op, none⟩) P :: L) := s6
     exact s7.f
    case measure => simp [intOf]; omega
  ·obtain rfl : i = n := by omega
   have ht : P.take i = P := List.take_of_length_le (by rw [HN.out.2.1]; exact Nat.le_refl _)
   rw [ht] at s
   have HS := Lib.hid s; clear s ht
   go_wp2
   go_ret
   exact ⟨rfl, HS.out⟩
end Go.Proofs.YtbefjaodpbgpcaaGreat
