
/- The cipher: made, copied, wiped, its form; under the conditions that each names. -/
import Derived.Test.YtooolimpkafhaaaGreatAes2
import Derived.Test.YtooolimpkafhaaaGreatGG
namespace Go.Proofs.YtooolimpkafhaaaGreat
open Go.RowKit Go.Sep Go.Bv Go.Aes
set_option linter.unusedVariables false
set_option linter.unusedSimpArgs false
theorem Tryz.size_cip : (Tryz.prog.info? 204).map (·.size) = some 241 := by kernel_rfl
def cipZero : List Value := .int .i64 0 :: u8s nought240
theorem zero_cip (w : World) : (zeroValue 204).run Tryz.prog w = .ok (.agg cipZero.toArray) w := by kernel_rfl
theorem build_cip0 (w : World) : (Instr.build 204 #[]).run Tryz.prog w = .ok (.agg cipZero.toArray) w := by kernel_rfl
def cipCells (n : Int) (E : List Byte) : List Value := .int .i64 n :: u8s E
theorem build_cip (n : Int) (E : List Byte) (hE : E.length = 240) (w : World) : (Instr.build 204 #[(0, .int .i64 n), (1, .agg (u8s E).toArray)]).run Tryz.prog w = .ok (.agg (cipCells n E).toArray) w := by
  have hu : Tryz.prog.underlying 204 = _ := Tryz.underlying204
  have hf := foldl_set (u8s E) 0 1 (#[.int .i64 n] ++ (u8s nought240).toArray)
  have hs : setL (.int .i64 n :: u8s nought240) 1 (u8s E) = .int .i64 n :: u8s E := by
    have := setL_mid [.int .i64 n] (u8s nought240) [] (u8s E) (by rw [u8s_len, u8s_len, hE, nought240_len])
    simpa using this
  refine run_build_struct hu (zero_cip w) (places := #[(0, 1), (1, 240)]) (by kernel_rfl) ?_
  have hzl : cipZero.toArray.size = 241 := by rw [List.size_toArray]; unfold cipZero; rw [List.length_cons, u8s_len, nought240_len]
  rw [fill_one (off := 0) (size := 1) rfl rfl (by rw [hzl]; decide), fill_one (off := 1) (size := 240) rfl (by show (u8s E).toArray.size = 240; rw [List.size_toArray, u8s_len, hE]) (by rw [List.size_toArray, length_setL, Array.length_toList, hzl]; decide), Instr.fill]
  have e0 : setL cipZero.toArray.toList 0 (Value.int .i64 n).cells.toList = .int .i64 n :: u8s nought240 := rfl
  have e1 : (Value.agg (u8s E).toArray).cells.toList = u8s E := rfl
  rw [e0, e1]
  show some (setL (.int .i64 n :: u8s nought240) 1 (u8s E)).toArray = some (Value.int .i64 n :: u8s E).toArray
  rw [hs]
set_option maxRecDepth 100000 in
set_option maxHeartbeats 2000000 in
theorem aesNew {W0 w : World} {L : List Assn} {m : Bool} {pk : Option Addr} {n cap : Nat} {pv : Value} (p : Option Nat) (rs : List Run3) (key : List Byte) (k : Nat) (hp : pv = ptrO p) (hn : key.length = n) (hk : n = 4 * k) (hk3 : n = 16 ∨ n = 24 ∨ n = 32) (hc : n ≤ cap) (hcm : cap ≤ maxLen) (hb : tot rs + 1 ≤ 4611686018427387904) (hl : rs.length ≤ 4294967296) (hs : Sat W0 w (ledO p rs :: bytes m pk key :: L)) :
    Calls Tryz.prog 100 #[pv, .slice pk n cap] w fun e w' => ∃ c, e = .returned (.tuple #[.pointer (some ⟨c, 0, none⟩), .int .i64 0]) ∧ Sat W0 w' (cipS c n (expand key) (ledO p (note rs 4 (n : Int) 1) :: bytes m pk key :: L)) := by
  subst hp
  have hex := fun (w : World) (L : List Assn) (s : Sat W0 w (bytes m pk key :: L)) => aesExpanded (cap := cap) key k hn hk (by omega) (by omega) hc hcm s
  have hel : (expand key).length = 240 := expand_len key k (by omega) (by omega) (by omega)
  obtain ⟨E, hE⟩ : ∃ E, E = expand key := ⟨_, rfl⟩
  rw [← hE] at hex hel ⊢
  have hno := fun (w : World) (s : Sat W0 w (ledO p rs :: bytes m pk key :: L)) => noteOne p rs 4 (n : Int) s hb hl
  have HN := Lib.hid (And.intro hex (And.intro hel hno)); clear hex hel hno hE hn hk hb hl hc hcm
  have hbd := fun w => build_cip (n : Int) E HN.out.2.1 w
  have hor : (((n : Int) != 16) = false) ∨ (((n : Int) != 16) = true ∧ ((n : Int) != 24) = false) ∨ (((n : Int) != 16) = true ∧ ((n : Int) != 24) = true ∧ ((n : Int) != 32) = false) := by
    rcases hk3 with h | h | h
    · exact .inl (by simp [h])
    · exact .inr (.inl ⟨by simp [h], by simp [h]⟩)
    · exact .inr (.inr ⟨by simp [h], by simp [h], by simp [h]⟩)
  clear hk3
  rcases hor with b1 | ⟨b1, b2⟩ | ⟨b1, b2, b3⟩
  all_goals
    go_enter Tryz.func100, Tryz.ntmps100
    go_wp2_with fail
    refine (HN.out.2.2 _ hs).mono ?_
    rintro e w1 ⟨rfl, s1⟩
    clear hs
    go_wp2_with fail
    refine (HN.out.1 _ _ (by (repeat (first | with_reducible apply Sat.sub (s1) | with_reducible apply Sat.alloc' | with_reducible apply Sat.drew | with_reducible apply Sat.drewN)); (repeat (first | with_reducible exact Fr.done | with_reducible exact Fr.nil | (with_reducible apply Fr.cons; (focus ((repeat (first | with_reducible exact Take.here | with_reducible apply Take.there)); done))) | with_reducible apply Fr.skip)); done)).mono ?_
    rintro e w2 ⟨rfl, s2⟩
    clear s1
    go_wp2_with (first | (refine wpl_build rfl 204 rfl (.agg (cipCells _ E).toArray) (by simp only [List.map_toArray, List.map_cons, List.map_nil]; exact hbd _) ?_) | (refine wpl_box rfl 204 (.tmp 28) rfl (cipCells _ E) rfl s2 ?_; intro w3 c s3 _))
    have s4 := Sat.part (xs := [_]) (ys := u8s E) s3 (q := 1) rfl
    have HS := Lib.hid s4; clear s4 s3 s2
    refine bodyPost_ret (v := .tuple #[.pointer (some ⟨c, 0, none⟩), .int .i64 0]) (by simp [results, Tryz.results100, go_sem]) rfl ⟨c, rfl, ?_⟩
    have s5 := HS.out
    exact (Sat.sub (s5) (by (repeat (first | with_reducible exact Fr.done | with_reducible exact Fr.nil | (with_reducible apply Fr.cons; (focus ((repeat (first | with_reducible exact Take.here | with_reducible apply Take.there)); done))) | with_reducible apply Fr.skip))))
set_option maxHeartbeats 1000000 in
theorem aesNewBad {W0 w : World} {L : List Assn} {pk : Option Addr} {n cap : Nat} {pv : Value} (h1 : ¬ n = 16) (h2 : ¬ n = 24) (h3 : ¬ n = 32) (hs : Sat W0 w L) :
    Calls Tryz.prog 100 #[pv, .slice pk n cap] w fun e w' => e = .returned (.tuple #[.pointer none, .int .i64 7]) ∧ Sat W0 w' L := by
  have b1 : ((n : Int) != 16) = true := by rw [bne_iff_ne]; omega
  have b2 : ((n : Int) != 24) = true := by rw [bne_iff_ne]; omega
  have b3 : ((n : Int) != 32) = true := by rw [bne_iff_ne]; omega
  go_enter Tryz.func100, Tryz.ntmps100
  go_wp2
  go_ret2
  exact ⟨rfl, hs⟩
end Go.Proofs.YtooolimpkafhaaaGreat
