
/- The lists' words of the statements' kit: SameBytes, CopyBytes; each under the conditions that it names. -/
import Derived.Test.YtlmababpmmhhoaaGreatWpm
namespace Go.Proofs.YtlmababpmmhhoaaGreat
open Go.RowKit Go.Sep Go.Bv Go.Sha
set_option linter.unusedVariables false
set_option linter.unusedSimpArgs false
/-- Are two lists of bytes one? -/
def sameB (xs ys : List Byte) : Bool := decide (xs = ys)
theorem sameB_self (xs : List Byte) : sameB xs xs = true := by simp [sameB]
theorem sameB_eq {xs ys : List Byte} (h : xs = ys) : sameB xs ys = true := by simp [sameB, h]
set_option maxRecDepth 100000 in
set_option maxHeartbeats 1000000 in
theorem sameBytes {W0 w : World} {L : List Assn} {ca cb : Nat} {m1 m2 : Bool} {pa pb : Option Addr} (xs ys : List Byte) (hx : xs.length ≤ maxLen) (hy : ys.length ≤ maxLen) (hs : Sat W0 w (bytes m1 pa xs :: bytes m2 pb ys :: L)) :
    Calls Tryz.prog 12 #[.slice pa xs.length ca, .slice pb ys.length cb] w fun e w' => e = .returned (.bool (sameB xs ys)) ∧ ∃ n, w' = w.drewN n := by
  unfold maxLen at hx hy
  by_cases hl : xs.length = ys.length
  · obtain ⟨n, hn⟩ : ∃ n, n = xs.length := ⟨_, rfl⟩
    rw [← hl, ← hn]
    have h0 : n ≠ 0 → ∃ ba oa bb ob, pa = some ⟨ba, oa, none⟩ ∧ pb = some ⟨bb, ob, none⟩ ∧ (∀ i v, (u8s xs)[i]? = some v → w.cell? ⟨ba, oa + i, none⟩ = some v) ∧ (∀ i v, (u8s ys)[i]? = some v → w.cell? ⟨bb, ob + i, none⟩ = some v) := by
      intro hne
      obtain ⟨ba, oa, rfl, h1⟩ := bytesCell hs (by rintro rfl; exact hne (by rw [hn]; rfl))
      obtain ⟨bb, ob, rfl, h2⟩ := bytesCell (hs.pull 1 : Sat W0 w (bytes m2 pb ys :: _)) (by rintro rfl; exact hne (by rw [hn, hl]; rfl))
      exact ⟨ba, oa, bb, ob, rfl, rfl, fun i v hv => h1.cell hv, fun i v hv => h2.cell hv⟩
    have HN := Lib.hid (And.intro hn (And.intro hl h0)); clear hn hl h0 hs
    have hnb : n ≤ 9223372036854775807 := by rw [HN.out.1]; exact hx
    clear hx hy
    go_enter Tryz.func12, Tryz.ntmps12
    go_wp2
    go_loopw [5] (fun t5 wr => ∃ i k : Nat, i ≤ n ∧ t5 = .int .i64 (i : Int) ∧ xs.take i = ys.take i ∧ wr = w.drewN k) (fun t5 _ => n - (intOf t5).toNat)
    case atStart => exact ⟨0, 0, Nat.zero_le _, rfl, rfl, rfl⟩
    case round =>
      obtain ⟨i, k, hi, rfl, htk, rfl⟩ := hrel
      by_cases hlt : i < n
      · obtain ⟨ba, oa, bb, ob, rfl, rfl, h1, h2⟩ := HN.out.2.2 (by omega)
        have hix : i < xs.length := by rw [← HN.out.1]; exact hlt
        have hiy : i < ys.length := by rw [← HN.out.2.1]; exact hix
        have c1 := h1 i _ (u8s_get xs i hix)
        have c2 := h2 i _ (u8s_get ys i hiy)
        obtain ⟨x, hxx⟩ : ∃ x, x = xs.getD i 0 := ⟨_, rfl⟩
        obtain ⟨y, hyy⟩ : ∃ y, y = ys.getD i 0 := ⟨_, rfl⟩
        rw [← hxx] at c1
        rw [← hyy] at c2
        have HX := Lib.hid (And.intro hxx (And.intro hyy (And.intro htk (And.intro hix hiy)))); clear hxx hyy htk h1 h2 hix hiy
        by_cases hxy : x = y
        · subst hxy
          go_wp2_with fail
          go_quiet (fail)
          go_wp2
          go_roundw
          case rel =>
            obtain ⟨hxx, hyy, htk, hix, hiy⟩ := HX.out
            refine ⟨i + 1, _, by omega, by go_num, ?_, rfl⟩
            rw [List.take_succ_eq_append_getElem hix, List.take_succ_eq_append_getElem hiy, htk]
            congr 2
            simp [List.getD_eq_getElem?_getD, hix, hiy] at hxx hyy
            rw [← hxx, ← hyy]
          case measure => simp [intOf]; omega
        · have hv : (v8 x != v8 y) = true := by
            rw [bne_iff_ne]; exact fun h => hxy (v8_inj h)
          have hfin : sameB xs ys = false := by
            unfold sameB
            rw [decide_eq_false_iff_not]
            rintro rfl
            exact hxy (by rw [HX.out.1, HX.out.2.1])
          have Hf := Lib.hid hfin; clear hfin
          go_wp2_with fail
          go_quiet (fail)
          go_wp2
          go_ret
          exact ⟨by rw [Hf.out]; rfl, k + nq, by rw [World.drewN_drewN]⟩
      · obtain rfl : i = n := by omega
        have hfin : sameB xs ys = true := sameB_eq (by
          have := htk
          rw [List.take_of_length_le (by rw [← HN.out.1]; exact Nat.le_refl _), List.take_of_length_le (by rw [← HN.out.2.1, ← HN.out.1]; exact Nat.le_refl _)] at this
          exact this)
        have Hf := Lib.hid hfin; clear hfin htk
        go_wp2
        go_ret
        exact ⟨by rw [Hf.out]; rfl, _, rfl⟩
  · have hv : ((xs.length : Int) != (ys.length : Int)) = true := by rw [bne_iff_ne]; omega
    have hfin : sameB xs ys = false := by
      unfold sameB
      rw [decide_eq_false_iff_not]
      rintro rfl
      exact hl rfl
    have Hf := Lib.hid hfin; clear hfin hl hs
    go_enter Tryz.func12, Tryz.ntmps12
    go_wp2
    go_ret
    exact ⟨by rw [Hf.out]; rfl, 0, rfl⟩
set_option maxHeartbeats 1000000 in
theorem copyBytes {W0 w : World} {L : List Assn} {ca : Nat} {m : Bool} {pa : Option Addr} (xs : List Byte) (hx : xs.length ≤ 140737488355328) (hs : Sat W0 w (bytes m pa xs :: L)) :
    Calls Tryz.prog 40 #[.slice pa xs.length ca] w fun e w' => ∃ p c, e = .returned (.slice p xs.length c) ∧ Sat W0 w' (row p c 1 xs.length (u8s xs) :: bytes m pa xs :: L) := by
  obtain ⟨i3, hi3, hz3, hs3, hb3⟩ := info_parts Tryz.info_u8
  have hn := bytesNews hs
  have s0 := hs.rowNil 1
  have hnil : pa = none → xs.length = 0 := by
    rintro rfl
    by_cases h : xs = []
    · rw [h]; rfl
    · obtain ⟨_, _, h', _⟩ := bytesCell hs h; cases h'
  have Hx := Lib.hid (And.intro hx hnil); clear hx hnil
  go_enter Tryz.func40, Tryz.ntmps40
  go_wp2_with (refine wpl_append rfl (.tmp 4) (.tmp 5) 41 rfl Tryz.underlying41 hi3 hz3 hs3 hb3 rfl (by decide) s0 rfl pa xs.length ca rfl (u8s xs) (by rw [u8s_len, Nat.mul_one]) hn Hx.out.2 (u8s_one _) (by have := Hx.out.1; unfold maxLen; omega) (by have := Hx.out.1; omega) ?_; intro p c w1 s1 _ _)
  go_ret
  exact ⟨p, c, rfl, by simpa using s1⟩
end Go.Proofs.YtlmababpmmhhoaaGreat
