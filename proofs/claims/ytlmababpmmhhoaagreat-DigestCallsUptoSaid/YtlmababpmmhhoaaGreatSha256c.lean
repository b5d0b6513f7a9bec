
/- Layer 5's program takes bytes: what waits, and the words; under the conditions that it names. -/
import Derived.Test.YtlmababpmmhhoaaGreatSha256b
namespace Go.Proofs.YtlmababpmmhhoaaGreat
open Go.RowKit Go.Sep Go.Bv Go.Sha
set_option linter.unusedVariables false
set_option linter.unusedSimpArgs false
/-- An event n times. -/
def noteN (rs : List Run3) (k s : Int) (n : Nat) : List Run3 := if n = 0 then rs else note rs k s n
theorem note_note (rs : List Run3) (k s : Int) (a b : Nat) : note (note rs k s a) k s b = note rs k s (a + b) := by
  unfold note
  rcases List.eq_nil_or_concat rs with rfl | ⟨l, ⟨r0, r1, r2⟩, hl⟩
  · simp
  · rw [List.concat_eq_append] at hl
    subst hl
    by_cases h : r0 = k ∧ r1 = s
    · simp [h, Nat.add_assoc]
    · simp [h]
theorem noteN_note (rs : List Run3) (k s : Int) (n : Nat) : note (noteN rs k s n) k s 1 = noteN rs k s (n + 1) := by
  unfold noteN
  by_cases h : n = 0
  · subst h; simp
  · rw [if_neg h, if_neg (by omega), note_note]
theorem noteN_add (rs : List Run3) (k s : Int) (a b : Nat) : noteN (noteN rs k s a) k s b = noteN rs k s (a + b) := by
  unfold noteN
  by_cases ha : a = 0
  · subst ha; simp
  · by_cases hb : b = 0
    · subst hb; simp
    · rw [if_neg ha, if_neg hb, if_neg (by omega), note_note]
theorem tot_noteN (rs : List Run3) (k s : Int) (n : Nat) : tot (noteN rs k s n) = tot rs + n := by
  unfold noteN; split
  · omega
  · exact tot_note _ _ _ _
theorem noteN_len (rs : List Run3) (k s : Int) (n : Nat) : (noteN rs k s n).length ≤ rs.length + 1 := by
  unfold noteN; split
  · omega
  · exact note_len _ _ _ _
/-- Bytes that a slice holds: none, or cells of a block. -/
def bytes (m : Bool) (p : Option Addr) (bs : List Byte) : Assn := fun h => bs = [] ∨ ∃ b o, p = some ⟨b, o, none⟩ ∧ seg m b o (u8s bs) h
theorem bytesCell {W0 w : World} {L : List Assn} {m : Bool} {p : Option Addr} {bs : List Byte} (h : Sat W0 w (bytes m p bs :: L)) (hne : bs ≠ []) : ∃ b o, p = some ⟨b, o, none⟩ ∧ Sat W0 w (seg m b o (u8s bs) :: L) := by
  obtain ⟨h0, hs, hf⟩ := h
  obtain ⟨x, t, rfl, hA, ok, hd, hf'⟩ := hf.head
  rcases hA with hA | ⟨b, o, rfl, hx⟩
  · exact absurd hA hne
  · exact ⟨b, o, rfl, h0, x :: t, .cons hx ok hd hf'⟩
/-- A state's memory behind a message: the words behind its whole blocks, its length, what waits. -/
abbrev stM256 (b : Nat) (msg : List Byte) (L : List Assn) : List Assn := st256 b (blocks256 H256 msg (msg.length / 64)) msg.length (waitOf 64 msg) L
theorem comp256_len (h : List (BitVec 32)) (b : List Byte) (hh : h.length = 8) : (comp256 h b).length = 8 := comp_len _ _ _ _ _ _ hh
theorem blocks256_len (h : List (BitVec 32)) (p : List Byte) (n : Nat) (hh : h.length = 8) : (blocks256 h p n).length = 8 := blk_len comp256_len 64 h p n hh
theorem put_wait (B : Nat) (M x : List Byte) (h : M.length % B + x.length ≤ B) : setL (u8s (waitOf B M)) (M.length % B) (u8s x) = u8s (restOf B M ++ x ++ List.replicate (B - M.length % B - x.length) 0) := by
  have e : waitOf B M = restOf B M ++ List.replicate x.length 0 ++ List.replicate (B - M.length % B - x.length) 0 := by
    unfold waitOf
    rw [List.append_assoc, List.replicate_append_replicate]
    congr 2; omega
  rw [e, u8s_append, u8s_append]
  have := setL_mid (u8s (restOf B M)) (u8s (List.replicate x.length 0)) (u8s (List.replicate (B - M.length % B - x.length) 0)) (u8s x) (by rw [u8s_len, u8s_len]; simp)
  rw [u8s_len, restOf_len] at this
  rw [this, u8s_append, u8s_append]
theorem none256 {W0 w : World} {L : List Assn} {b : Nat} (hs : Sat W0 w (seg true b 73 [.bool true] :: L)) : Calls Tryz.prog 69 #[.pointer (some ⟨b, 0, none⟩)] w fun e w' => e = .returned (.bool false) ∧ w = w' := by
  have c := hs.cell (i := 0) rfl
  go_enter Tryz.func69, Tryz.ntmps69
  go_wp2
  go_ret
  exact ⟨rfl, rfl⟩
end Go.Proofs.YtlmababpmmhhoaaGreat
