
/- The document's table: the numbers that are held; under the conditions that each names. -/
import Derived.Test.YtpiiklfnakkdiaaRef
import Derived.Test.YtpiiklfnakkdiaaWpl
namespace Go.Proofs.Ytpiiklfnakkdiaa
open Go.RowKit Go.Sep
set_option linter.unusedVariables false
set_option linter.unusedSimpArgs false
/-- The numbers that are held. -/
def idxT (held : List Bool) (i : Nat) : List Nat := (List.range i).filter fun j => held.getD j false
theorem idxT_succ (held : List Bool) (i : Nat) : idxT held (i + 1) = idxT held i ++ (if held.getD i false then [i] else []) := by
  unfold idxT
  rw [List.range_succ, List.filter_append]
  congr 1
  cases h : held.getD i false with
  | false => rw [List.filter_cons_of_neg (by rw [h]; decide)]; rfl
  | true => rw [List.filter_cons_of_pos (p := fun j => held.getD j false) h]; rfl
theorem idxT_len (held : List Bool) (i : Nat) : (idxT held i).length ≤ i := by
  have := List.length_filter_le (fun j => held.getD j false) (List.range i)
  rw [List.length_range] at this
  exact this
def ints (l : List Nat) : List Value := l.map fun j : Nat => Value.int .i64 (j : Int)
theorem ints_one (l : List Nat) : ∀ v ∈ ints l, v.oneCell' = true := by
  intro v hv
  simp only [ints, List.mem_map] at hv
  obtain ⟨x, _, rfl⟩ := hv
  rfl
set_option maxHeartbeats 4000000 in
theorem held_ref {W0 w : World} {L : List Assn} {b hb vb n : Nat} {held : List Bool} {vals : List Int} (hn : held.length = n) (hp : 0 < n) (hsm : n ≤ 64) (hs : Sat W0 w (seg true b 0 [.slice (some ⟨hb,0,none⟩) n n, .slice (some ⟨vb,0,none⟩) n n] :: seg true hb 0 (held.map .bool) :: seg true vb 0 (vals.map fun x => Value.int .i64 x) :: L)) :
    Calls Try.prog 20 #[.pointer (some ⟨b,0,none⟩)] w fun e w' => ∃ p c, e = .returned (.slice p (idxT held n).length c) ∧ Sat W0 w' (row p c 1 (idxT held n).length (ints (idxT held n)) :: seg true b 0 [.slice (some ⟨hb,0,none⟩) n n, .slice (some ⟨vb,0,none⟩) n n] :: seg true hb 0 (held.map .bool) :: seg true vb 0 (vals.map fun x => Value.int .i64 x) :: L) := by
  obtain ⟨i3, hi3, hz3, hs3, hb3⟩ := info_parts Try.info_int
  have HI := Lib.hid (And.intro hi3 (And.intro hz3 (And.intro hs3 hb3))); clear hi3 hz3 hs3 hb3
  have HN := Lib.hid hn; clear hn
  go_enter Try.func20, Try.ntmps20
  go_wp2
  go_loopw [3, 4] (fun t3 t4 wr => ∃ (i m : Nat) (p : Option Addr) (c : Nat), i ≤ n ∧ m = (idxT held i).length ∧ t4 = .int .i64 (i : Int) ∧ t3 = .slice p m c ∧ Sat W0 wr (row p c 1 m (ints (idxT held i)) :: seg true b 0 [.slice (some ⟨hb,0,none⟩) n n, .slice (some ⟨vb,0,none⟩) n n] :: seg true hb 0 (held.map .bool) :: seg true vb 0 (vals.map fun x => Value.int .i64 x) :: L)) (fun _ t4 _ => n - (intOf t4).toNat)
  case atStart => exact ⟨0, 0, none, 0, Nat.zero_le _, rfl, rfl, rfl, hs.rowNil 1⟩
  case round =>
    clear hs
    obtain ⟨i, m, p, c, hi, hm, rfl, rfl, s⟩ := hrel
    have sb : Sat W0 wr (seg true b 0 [.slice (some ⟨hb,0,none⟩) n n, .slice (some ⟨vb,0,none⟩) n n] :: _) := s.pull 1
    have c0 := sb.at 0 rfl
    have z0 := sb.lt (by simp)
    have sh : Sat W0 wr (seg true hb 0 (held.map .bool) :: _) := s.pull 2
    have zh := sh.lt (by rw [List.length_map, HN.out]; exact hp)
    clear sb
    have hmi : m ≤ i := by rw [hm]; exact idxT_len held i
    by_cases hlt : i < n
    · have e0 := sh.at i (bool_at held i (by rw [HN.out]; exact hlt))
      have hsucc := idxT_succ held i
      clear sh
      by_cases hd : held.getD i false = true
      · rw [hd] at e0
        rw [hd, if_pos rfl] at hsucc
        have HX := Lib.hid (And.intro hm hsucc); clear hm hsucc hd
        go_wp2_with (at_builtin; refine wpl_append rfl (.tmp 21) (.tmp 23) 50 rfl Try.underlying50 HI.out.1 HI.out.2.1 HI.out.2.2.1 HI.out.2.2.2 rfl (by decide) (s.alloc' _) rfl (some _) 1 1 rfl [.int .i64 (i : Int)] rfl ((s.alloc #[.int .i64 (i : Int)] 3).news) (fun h => by cases h) (by simp [Value.oneCell']) (by unfold maxLen; omega) (by omega) ?_; intro p9 c9 w9 s9 _ _)
        have HS := Lib.hid s9; clear s s9 c0 z0 zh e0
        go_wp2_with fail
        refine ⟨⟨i + 1, m + 1, p9, c9, by omega, by rw [HX.out.2, List.length_append, ← HX.out.1]; rfl, by go_num, rfl, ?_⟩, by simp [intOf]; omega⟩
        have s9 := HS.out
        rw [HX.out.2]
        unfold ints at s9 ⊢
        rw [List.map_append]
        exact s9
      · have hd2 : held.getD i false = false := by simpa using hd
        rw [hd2] at e0
        rw [hd2] at hsucc
        have hsucc2 : idxT held (i + 1) = idxT held i := by rw [hsucc]; simp
        have HX := Lib.hid (And.intro hm (And.intro hsucc2 s)); clear hm hsucc hsucc2 hd hd2 s
        go_wp2_with fail
        exact ⟨⟨i + 1, m, p, c, by omega, by rw [HX.out.2.1]; exact HX.out.1, by go_num, rfl, by rw [HX.out.2.1]; exact HX.out.2.2⟩, by simp [intOf]; omega⟩
    · obtain rfl : i = n := by omega
      have HS := Lib.hid (And.intro hm s); clear hm s sh
      go_wp2_with fail
      go_ret
      refine ⟨p, c, by rw [← HS.out.1]; rfl, ?_⟩
      rw [← HS.out.1]
      exact HS.out.2
end Go.Proofs.Ytpiiklfnakkdiaa
