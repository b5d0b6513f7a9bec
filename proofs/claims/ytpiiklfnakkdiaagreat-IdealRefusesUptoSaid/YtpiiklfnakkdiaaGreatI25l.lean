
/- Layer 25's statements: what is refused is nothing; one handle at a time (plain laws); any list too heavy; under the conditions that each names. -/
import Derived.Test.YtpiiklfnakkdiaaGreatI25j
import Derived.Test.YtpiiklfnakkdiaaGreatI25k
namespace Go.Proofs.YtpiiklfnakkdiaaGreat
open Go.RowKit Go.Sep Go.Bv Go.Kec Go.Aes Go.Sha
set_option linter.unusedVariables false
set_option linter.unusedSimpArgs false
/-- Refused is nothing; else all but one handle is as it was. -/
def fine (S : Slots) (one : Nat → Int) (r : Slots × Ans) : Prop :=
 (r.2.code ≠ 0 → r = (S, noA r.2.code)) ∧ (r.2.code = 0 → ∀ h : Nat, h < 64 → (h : Int) ≠ one r.2.handle → r.1[h]? = S[h]?)
theorem fine_no (S : Slots) (one : Nat → Int) (e : Int) : fine S one (S, noA e) := ⟨fun _ => rfl, fun _ h _ _ => rfl⟩
theorem fine_take (S : Slots) (H : Hold) : fine S (fun n => (n : Int)) (iTake S H) := by
 unfold iTake
 split
 ·rename_i i hi
  refine ⟨fun h => absurd rfl h, fun _ h _ hne => ?_⟩
  have hh : i ≠ h := fun e => hne (by rw [e])
  exact List.getElem?_set_ne hh
 ·exact fine_no _ _ _
theorem fine_set (S : Slots) (z : Int) (hz : 0 ≤ z) (x : Option Hold) (a : Ans) (ha : a.code = 0) : fine S (fun _ => z) (S.set z.toNat x, a) := by
 refine ⟨fun h => absurd ha h, fun _ h _ hne => ?_⟩
 have hh : z.toNat ≠ h := fun e => hne (by rw [← e]; show ((z.toNat : Nat) : Int) = z; omega)
 exact List.getElem?_set_ne hh
theorem iAt_nn {S : Slots} {h : Int} {sess : Bool} {e : Int} {H : Hold} (hx : iAt S h sess = (e, some H)) : 0 ≤ h := by
 unfold iAt at hx
 split at hx
 ·cases hx
 ·rename_i h1
  omega
theorem fine_put (S : Slots) (o : OpC) : fine S (fun n => (n : Int)) (iPut S o) := by
 unfold iPut
 split
 ·exact fine_no _ _ _
 ·exact fine_take _ _
theorem fine_begin (S : Slots) (o : OpC) : fine S (fun n => (n : Int)) (iBegin S o) := by
 unfold iBegin
 repeat' split
 all_goals first | exact fine_no _ _ _ | exact fine_take _ _
theorem fine_update (S : Slots) (o : OpC) : fine S (fun _ => o.handle) (iUpdate S o) := by
 unfold iUpdate
 split
 ·exact fine_no _ _ _
 ·rename_i e H hx
  split
  ·exact fine_no _ _ _
  ·exact fine_set S _ (iAt_nn hx) _ _ rfl
theorem fine_end (S : Slots) (o : OpC) : fine S (fun _ => o.handle) (iEnd S o) := by
 unfold iEnd
 split
 ·exact fine_no _ _ _
 ·rename_i e H hx
  split
  ·split
   ·exact fine_set S _ (iAt_nn hx) _ _ rfl
   ·exact fine_no _ _ _
  ·exact fine_set S _ (iAt_nn hx) _ _ rfl
theorem iAny_nn {S : Slots} {h : Int} {e : Int} {H : Hold} (hx : iAny S h = (e, some H)) : 0 ≤ h := by
 unfold iAny at hx
 split at hx
 ·exact iAt_nn hx
 ·exact iAt_nn hx
theorem simp_nn {S : Slots} {o : OpC} {e : Int} {H : Hold} (hx : (if o.kind = 9 then iAt S o.handle false else iAny S o.handle) = (e, some H)) : 0 ≤ o.handle := by
 split at hx
 ·exact iAt_nn hx
 ·exact iAny_nn hx
theorem fine_clone (S : Slots) (o : OpC) (h : o.kind = 6) : fine S (fun n => (n : Int)) (iSimple S o) := by
 unfold iSimple
 split
 ·exact fine_no _ _ _
 ·rw [if_neg (by omega), if_pos h]
  exact fine_take _ _
theorem fine_simple (S : Slots) (o : OpC) (h : o.kind ≠ 6) : fine S (fun _ => o.handle) (iSimple S o) := by
 unfold iSimple
 split
 ·exact fine_no _ _ _
 ·rename_i e H hx
  split
  ·exact ⟨fun h => absurd rfl h, fun _ _ _ _ => rfl⟩
  ·try rw [if_neg h]
   exact fine_set S _ (simp_nn hx) _ _ rfl
theorem fine_hkdf (S : Slots) (o : OpC) : fine S (fun n => (n : Int)) (iHkdf S o) := by
 unfold iHkdf
 repeat' split
 all_goals first | exact fine_no _ _ _ | exact fine_take _ _
theorem fine_pbkdf (S : Slots) (o : OpC) : fine S (fun n => (n : Int)) (iPbkdf S o) := by
 unfold iPbkdf
 repeat' split
 all_goals first | exact fine_no _ _ _ | exact fine_take _ _
/-- Which handle an operation may change. -/
def oneHnd (kd : Nat) (hd : Int) (n : Nat) : Int := if kd = 1 ∨ kd = 2 ∨ kd = 6 ∨ kd = 7 ∨ kd = 8 then (n : Int) else hd
theorem fine_do (S : Slots) (o : OpC) : fine S (oneHnd o.kind o.handle) (iDo S o) := by
 obtain ⟨kd, hd, ag, ct, ot, data, more⟩ := o
 rcases (by omega : kd = 1 ∨ kd = 2 ∨ kd = 3 ∨ kd = 4 ∨ kd = 5 ∨ kd = 6 ∨ kd = 7 ∨ kd = 8 ∨ kd = 9 ∨ kd = 10 ∨ (kd = 0 ∨ 10 < kd)) with h | h | h | h | h | h | h | h | h | h | h
 ·subst h; exact fine_put S _
 ·subst h; exact fine_begin S _
 ·subst h; exact fine_update S ⟨3, hd, ag, ct, ot, data, more⟩
 ·subst h; exact fine_end S ⟨4, hd, ag, ct, ot, data, more⟩
 ·subst h; exact fine_end S ⟨5, hd, ag, ct, ot, data, more⟩
 ·subst h; exact fine_clone S ⟨6, hd, ag, ct, ot, data, more⟩ rfl
 ·subst h; exact fine_hkdf S _
 ·subst h; exact fine_pbkdf S _
 ·subst h; exact fine_simple S ⟨9, hd, ag, ct, ot, data, more⟩ (show (9 : Nat) ≠ 6 by decide)
 ·subst h; exact fine_simple S ⟨10, hd, ag, ct, ot, data, more⟩ (show (10 : Nat) ≠ 6 by decide)
 ·have e0 : iDo S ⟨kd, hd, ag, ct, ot, data, more⟩ = (S, noA 3) := by
   unfold iDo
   simp only
   rcases h with rfl | h
   ·rfl
   ·obtain ⟨n, rfl⟩ : ∃ n, kd = n + 11 := ⟨kd - 11, by omega⟩
    rfl
  rw [e0]
  exact fine_no _ _ _
/-- One operation of the list, as it lies. -/
theorem opAt {W w : World} {L : List Assn} {p : Option Addr} {xs : List OpX} (hx : IsOps W p xs) {i : Nat} {x : OpX} (hi : xs[i]? = some x) (hs : Sat W w L) : ∃ b o, p = some ⟨b, o, none⟩ ∧ Sat W w (seg false b (o + i * 7) (encO x.1) :: L) := by
 obtain ⟨h1, h2, b, o, rfl, h3⟩ := hx i x hi
 exact ⟨b, o, rfl, hs.argW h3⟩
set_option maxRecDepth 100000 in
set_option maxHeartbeats 16000000 in
theorem heavyW {W w : World} {L : List Assn} {p : Option Addr} {n c : Nat} (xs : List OpX) (hx : IsOps W p xs) (hn : xs.length = n) (hnc : n ≤ c) (hcm : c ≤ maxLen) (hs : Sat W w L) :
  Calls Tryz.prog 20 #[.slice p n c] w fun e w' => (saysB W L e w' ∧ (120 < n → e = .returned (.bool true))) := by
 have hnb : n ≤ 9223372036854775807 := Nat.le_trans hnc hcm
 have hcb : c ≤ 9223372036854775807 := hcm
 have HN := Lib.hid (And.intro hx hn); clear hx hn hcm
 by_cases hbig : 120 < n
 ·have hbI : (120 : Int) < (n : Int) := by omega
  have HS := Lib.hid hs; clear hs
  go_enter Tryz.func20, Tryz.ntmps20
  go_wp2_with fail
  go_ret
  exact ⟨⟨true, rfl, HS.out⟩, fun _ => rfl⟩
 ·have hbI : ¬ (120 : Int) < (n : Int) := by omega
  go_enter Tryz.func20, Tryz.ntmps20
  go_wp2_with fail
  go_loopw [3, 4] (fun t3 t4 wr => ∃ (i : Nat) (z : Int), i ≤ n ∧ t4 = .int .i64 (i : Int) ∧ t3 = .int .i64 z ∧ Sat W wr L) (fun _ t4 _ => n - (intOf t4).toNat)
  case atStart => exact ⟨0, 0, Nat.zero_le _, rfl, rfl, hs⟩
  case round =>
   clear hs
   obtain ⟨i, z, hi, rfl, rfl, s⟩ := hrel
   by_cases hlt : i < n
   ·obtain ⟨x, hxi⟩ : ∃ x, xs[i]? = some x := ⟨xs[i]'(by rw [HN.out.2]; exact hlt), List.getElem?_eq_getElem _⟩
    obtain ⟨b, o, rfl, s1⟩ := opAt HN.out.1 hxi s
    obtain ⟨⟨kdz, hd, agz, ct, ot, dp, dn, dc, ep, en, ec⟩, data, more⟩ := x
    have hA := (HN.out.1 i _ hxi).1
    obtain ⟨⟨hk0, _⟩, ⟨ha0, _⟩, _⟩ := hA
    simp only at hk0 ha0
    obtain ⟨kd, rfl⟩ : ∃ k : Nat, kdz = (k : Int) := ⟨kdz.toNat, by omega⟩
    obtain ⟨ag, rfl⟩ : ∃ k : Nat, agz = (k : Int) := ⟨agz.toNat, by omega⟩
    have s2 : Sat W wr (seg false b (o + i * 7) [.int .u8 (kd : Int), .int .i64 hd, .int .u8 (ag : Int), .int .i64 ct, .int .i64 ot, .slice dp dn dc, .slice ep en ec] :: L) := s1
    have hcell : ∀ w', Sat W w' L → w'.cell? ⟨b, o + i * 7 + 5, none⟩ = some (.slice dp dn dc) ∧ w'.cell? ⟨b, o + i * 7 + 6, none⟩ = some (.slice ep en ec) ∧ b < w'.heap.size := fun w' s' => by
     obtain ⟨b2, o2, e2, s3⟩ := opAt HN.out.1 hxi s'
     cases e2
     have s4 : Sat W w' (seg false b (o + i * 7) [.int .u8 (kd : Int), .int .i64 hd, .int .u8 (ag : Int), .int .i64 ct, .int .i64 ot, .slice dp dn dc, .slice ep en ec] :: L) := s3
     exact ⟨s4.cell (i := 5) rfl, s4.cell (i := 6) rfl, World.block_lt_of_cell? w' _ (s4.cell (i := 5) rfl)⟩
    have zb := World.block_lt_of_cell? wr _ (s2.cell (i := 0) (v := .int .u8 (kd : Int)) rfl)
    have HC := Lib.hid (And.intro hcell s); clear hcell s s1 hxi hk0 ha0
    have hin : (i : Int) < (n : Int) := by omega
    go_wp2_with (refine wpl_load_agg rfl 26 (.tmp 16) rfl Tryz.underlying26 rfl Tryz.size_op s2 0 (o + i * 7) rfl (by omega) (by simp) ?_; rw [List.drop_zero, List.take_of_length_le (by simp)]; clear s2)
    refine (heavyR kd hd ag ct ot HC.out.2).mono ?_
    rintro e w1 ⟨bb, rfl, s3⟩
    obtain ⟨c5, c6, zb⟩ := HC.out.1 w1 s3
    cases bb with
    | true =>
     have HS := Lib.hid s3; clear s3
     go_wp2_with fail
     go_ret
     exact ⟨⟨true, rfl, HS.out⟩, fun h => absurd h hbig⟩
    | false =>
     have HS := Lib.hid s3; clear s3
     go_wp2_with fail
     go_quiet (fail)
     go_wp2_with fail
     go_roundw
     case rel => exact ⟨i + 1, _, by omega, by go_num, rfl, HS.out.drewN _⟩
     case measure => simp [intOf]; omega
   ·obtain rfl : i = n := by omega
    have HS := Lib.hid s; clear s
    go_wp2_with fail
    go_ret
    exact ⟨⟨_, rfl, HS.out⟩, fun h => absurd h hbig⟩
end Go.Proofs.YtpiiklfnakkdiaaGreat
