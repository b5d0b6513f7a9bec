
/- Layer 5's program: the package's Sum, and Wipe; under the conditions that each names. -/
import Derived.Test.YtlmababpmmhhoaaGreatSha256h
namespace Go.Proofs.YtlmababpmmhhoaaGreat
open Go.RowKit Go.Sep Go.Bv Go.Sha
set_option linter.unusedVariables false
set_option linter.unusedSimpArgs false
theorem pad256_len (bs : List Byte) : (pad256 bs).length = bs.length + (119 - bs.length % 64) % 64 + 9 := by simp [pad256, layBE_len]; omega
set_option maxRecDepth 100000 in
set_option maxHeartbeats 2000000 in
theorem whole256 {W0 w : World} {L : List Assn} {cap : Nat} {m : Bool} {sp : Option Addr} (p : Option Nat) (rs : List Run3) (bs : List Byte) (hcap : bs.length ≤ cap) (hcm : cap ≤ maxLen) (hb : tot rs + 2 * bs.length + 200 ≤ 2305843009213693952) (hl : rs.length + 1 ≤ 1048576)
    (hs : Sat W0 w (ledO p rs :: bytes m sp bs :: L)) :
    Calls Tryz.prog 34 #[ptrO p, .slice sp bs.length cap] w fun e w' => ∃ q c, e = .returned (.slice q 32 c) ∧ Sat W0 w' (row q c 1 32 (u8s (sha256 bs)) :: ledO p (noteN rs 1 64 ((pad256 bs).length / 64)) :: bytes m sp bs :: L) := by
  have hn := new256 hs
  have HB := Lib.hid (And.intro hb (And.intro hl (And.intro hcap hcm))); clear hb hl hcap hcm
  go_enter Tryz.func34, Tryz.ntmps34
  go_wp2_with fail
  refine hn.mono ?_
  rintro e w1 ⟨b, rfl, s1⟩
  have s2 : Sat W0 w1 (ledO p rs :: bytes m sp bs :: stM256 b [] L) := s1.pick [4, 5]
  have hp := put256 p rs [] bs HB.out.2.2.1 HB.out.2.2.2 (by have := HB.out.1; simp; omega) (by have := HB.out.2.1; omega) s2
  go_wp2_with fail
  refine hp.mono ?_
  rintro e w2 ⟨rfl, s3⟩
  simp only [List.nil_append, List.length_nil, Nat.zero_add, Nat.zero_div, Nat.sub_zero] at s3
  have s4 : Sat W0 w2 (ledO p (noteN rs 1 64 (bs.length / 64)) :: stM256 b bs (bytes m sp bs :: L)) := s3.pick [0, 2, 3, 4, 5]
  have hq := sum256 p _ bs (by rw [tot_noteN]; have := HB.out.1; omega) (by have := HB.out.2.1; have := noteN_len rs 1 64 (bs.length / 64); omega) s4
  go_wp2_with fail
  refine hq.mono ?_
  rintro e w3 ⟨q, c, rfl, s5⟩
  go_wp2
  go_ret
  refine ⟨q, c, rfl, ?_⟩
  rw [noteN_add, show bs.length / 64 + ((pad256 bs).length / 64 - bs.length / 64) = (pad256 bs).length / 64 by rw [pad256_len]; omega] at s5
  exact ((((s5.drop 2).drop 2).drop 2).drop 2)
theorem zeroCells256 : Tryz.zeroCells106 = (cells256 (List.replicate 8 0) 0 (List.replicate 64 0) false).toArray := by kernel_rfl
set_option maxRecDepth 100000 in
set_option maxHeartbeats 2000000 in
theorem wipe256 {W0 w : World} {L : List Assn} {b : Nat} (p : Option Nat) (rs : List Run3) (msg : List Byte) (hb : tot rs + 1 ≤ 4611686018427387904) (hl : rs.length ≤ 4294967296) (hs : Sat W0 w (ledO p rs :: stM256 b msg L)) :
    Calls Tryz.prog 126 #[.pointer (some ⟨b, 0, none⟩), ptrO p] w fun e w' => e = .returned (.int .i64 0) ∧ Sat W0 w' (seg true b 0 (cells256 (List.replicate 8 0) 0 (List.replicate 64 0) false) :: ledO p (note rs 8 104 1) :: L) := by
  have hl1 := blocks256_len H256 msg (msg.length / 64) rfl
  have hl2 := waitOf_len 64 msg (by omega)
  have hn : Sat W0 w (seg true b 73 [.bool true] :: _) := hs.pull 4
  have hc := noteOne p rs 8 104 hs hb hl
  obtain ⟨Z, hZ⟩ : ∃ Z, Z = cells256 (List.replicate 8 0) 0 (List.replicate 64 0) false := ⟨_, rfl⟩
  have hZl : Z.length = 74 := by rw [hZ, cells256_len _ _ _ _ (by simp) (by simp)]
  have hsz : (Tryz.prog.info? 106).map (·.size) = some Z.length := by rw [hZl]; exact size_st256
  have h1 : ∀ v ∈ Z, v.oneCell' = true := by rw [hZ]; exact cells256_one _ _ _ _
  have H := Lib.hid (And.intro hZ (And.intro hZl (And.intro hsz (And.intro h1 (And.intro hl1 hl2))))); clear hZl hsz h1 hl1 hl2 hb hl
  go_enter Tryz.func126, Tryz.ntmps126
  go_wp2_with fail
  refine (none256 hn).mono ?_
  rintro e w' ⟨rfl, rfl⟩
  go_wp2_with fail
  refine hc.mono ?_
  rintro e w1 ⟨rfl, s1⟩
  have s2 : Sat W0 w1 (stM256 b msg (ledO p (note rs 8 104 1) :: L)) := s1.pick [1, 2, 3, 4]
  have s3 := st256Join H.out.2.2.2.2.1 H.out.2.2.2.2.2 s2
  have hZc : Value.agg Tryz.zeroCells106 = Value.agg Z.toArray := by rw [hZ]; exact congrArg Value.agg zeroCells256
  have hzl : 0 + Z.length ≤ (cells256 (blocks256 H256 msg (msg.length / 64)) msg.length (waitOf 64 msg) true).length := by rw [cells256_len _ _ _ _ H.out.2.2.2.2.1 H.out.2.2.2.2.2, H.out.2.1]; decide
  have HZ := Lib.hid hZc; have Hzl := Lib.hid hzl; clear hZc hzl hZ
  go_wp2_with (refine wpl_store_agg rfl rfl 106 (.tmp 12) (.tmp 11) rfl (cs := Z) s3 0 0 H.out.2.2.1 rfl HZ.out rfl Hzl.out H.out.2.2.2.1 ?_; intro w2 s4)
  go_ret
  refine ⟨rfl, ?_⟩
  rw [setL_all Z _ (by rw [cells256_len _ _ _ _ H.out.2.2.2.2.1 H.out.2.2.2.2.2, H.out.2.1]), H.out.1] at s4
  exact s4
end Go.Proofs.YtlmababpmmhhoaaGreat
