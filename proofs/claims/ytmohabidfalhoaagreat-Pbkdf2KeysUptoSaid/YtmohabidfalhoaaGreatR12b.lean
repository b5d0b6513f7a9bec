
/- The document's HMAC: digests, block keys, tags; each under the conditions that it names. -/
import Derived.Test.YtmohabidfalhoaaGreatR12
namespace Go.Sha
open Go.Bv
theorem xorKey_take (wide : Bool) (k : List Byte) (x : Byte) (i : Nat) (h : i < bsz wide) : (xorKey wide k x).take (i + 1) = (xorKey wide k x).take i ++ [k.getD i 0 ^^^ x] := by
  rw [List.take_succ_eq_append_getElem (by rw [xorKey_len]; exact h)]
  simp [xorKey]
theorem xorKey_all (wide : Bool) (k : List Byte) (x : Byte) : (xorKey wide k x).take (bsz wide) = xorKey wide k x := List.take_of_length_le (by rw [xorKey_len]; exact Nat.le_refl _)
end Go.Sha
namespace Go.Proofs.YtmohabidfalhoaaGreat
open Go.RowKit Go.Sep Go.Bv Go.Sha
set_option linter.unusedVariables false
set_option linter.unusedSimpArgs false
set_option maxRecDepth 100000 in
set_option maxHeartbeats 2000000 in
theorem rwrite05 {W0 w : World} {L : List Assn} {m : Bool} {pp : Option Addr} {n cap b : Nat} {pv : Value} (p : Option Nat) (rs : List Run3) (msg P : List Byte) (hP : P.length = n) (hn : n ≤ 1000000000) (hm : msg.length ≤ 1000000000) (hp : pv = ptrO p) (hb : tot rs + msg.length + n ≤ 4611686018427387904) (hl : rs.length ≤ 4294967296) (hs : Sat W0 w (rledO p rs :: bytes m pp P :: rst b msg :: L)) :
    Calls Tryz.prog 58 #[.pointer (some ⟨b, 0, none⟩), pv, .slice pp n cap] w fun e w' => e = .returned (.int .i64 0) ∧ Sat W0 w' (rledO p (noteN rs 1 64 ((msg.length + n) / 64 - msg.length / 64)) :: bytes m pp P :: rst b (msg ++ P) :: L) := by
  obtain ⟨q, c, hqc, hqm, s1⟩ := rstOpen (show Sat W0 w (rst b msg :: rledO p rs :: bytes m pp P :: L) from hs.pull 2)
  clear hs
  obtain ⟨k, hk⟩ : ∃ k, k = msg.length := ⟨_, rfl⟩
  rw [← hk] at s1 hm hb ⊢
  have c0 := s1.at 0 rfl
  have z0 := s1.lt (by simp)
  have f0 := s1.fr 0 (by simp)
  have s2 : Sat W0 w (row none 0 1 0 (u8s []) :: bytes false q msg :: seg true b 0 [.slice q k c, .bool true] :: rledO p rs :: bytes m pp P :: L) := (s1.pick [1]).rowNil 1
  have hkd : (k : Int) / 64 = ((k / 64 : Nat) : Int) := by omega
  have hkd2 : (k : Int).tdiv 64 = ((k / 64 : Nat) : Int) := by rw [Int.tdiv_eq_ediv_of_nonneg (by omega)]; exact hkd
  have hkd3 : ((k + n : Nat) : Int) / 64 = (((k + n) / 64 : Nat) : Int) := by omega
  obtain ⟨D, hD⟩ : ∃ D, D = k / 64 := ⟨_, rfl⟩
  obtain ⟨D2, hD2⟩ : ∃ D2, D2 = (k + n) / 64 := ⟨_, rfl⟩
  have hDD : D ≤ D2 := by rw [hD, hD2]; omega
  have hDb : D2 ≤ k + n := by rw [hD2]; omega
  rw [← hD] at hkd hkd2 ⊢
  rw [← hD2] at hkd3 ⊢
  have hnv : IntKind.i64.wrap (IntKind.i64.wrap (((k : Int) + (n : Int)).tdiv 64) - (D : Int)) = ((D2 - D : Nat) : Int) := by
    rw [Int.tdiv_eq_ediv_of_nonneg (by omega), ← Int.natCast_add, hkd3]
    have h1 : IntKind.i64.wrap (D2 : Int) = (D2 : Int) := by rw [IntKind.wrap_i64]; omega
    rw [h1, show (D2 : Int) - (D : Int) = ((D2 - D : Nat) : Int) from by omega, IntKind.wrap_i64]
    omega
  have HP := Lib.hid (And.intro hP (And.intro hp (And.intro hb (And.intro hl (And.intro hk (And.intro hDD (And.intro hDb hnv))))))); clear hP hp hb hl hk hD hD2 hnv
  have hsub : (D2 : Int) - (D : Int) = ((D2 - D : Nat) : Int) := by omega
  clear hDD hDb
  go_enter Tryz.func58, Tryz.ntmps58
  go_wp2_with fail
  refine (rnone05 (by (repeat (first | with_reducible apply Sat.sub (s1) | with_reducible apply Sat.alloc' | with_reducible apply Sat.drew | with_reducible apply Sat.drewN)); (repeat (first | with_reducible exact Fr.done | with_reducible exact Fr.nil | (with_reducible apply Fr.cons; (focus ((repeat (first | with_reducible exact Take.here | with_reducible apply Take.there)); done))) | with_reducible apply Fr.skip)); done)).mono ?_
  rintro e w1 ⟨rfl, rfl⟩
  clear s1
  go_wp2_with (first | (at_builtin; refine wpl_app8 (xs := []) rfl (.const (.slice none 0 0)) (.tmp 20) rfl rfl rfl s2 HP.out.2.2.2.2.1.symm (by omega) ?_; intro pa ca wa sa; rw [Nat.zero_add, List.nil_append] at sa; clear s2 c0 z0 f0; have sb : Sat W0 wa (row pa ca 1 k (u8s msg) :: bytes m pp P :: seg true b 0 [.slice q k c, .bool true] :: rledO p rs :: L) := (by (repeat (first | with_reducible apply Sat.sub (sa) | with_reducible apply Sat.alloc' | with_reducible apply Sat.drew | with_reducible apply Sat.drewN)); (repeat (first | with_reducible exact Fr.done | with_reducible exact Fr.nil | (with_reducible apply Fr.cons; (focus ((repeat (first | with_reducible exact Take.here | with_reducible apply Take.there)); done))) | with_reducible apply Fr.skip)); done); have c0 := ((Sat.sub (sa) (by (repeat (first | with_reducible exact Fr.done | with_reducible exact Fr.nil | (with_reducible apply Fr.cons; (focus ((repeat (first | with_reducible exact Take.here | with_reducible apply Take.there)); done))) | with_reducible apply Fr.skip)))) : Sat W0 wa (seg true b 0 [.slice q k c, .bool true] :: [])).at 0 rfl; have z0 := ((Sat.sub (sa) (by (repeat (first | with_reducible exact Fr.done | with_reducible exact Fr.nil | (with_reducible apply Fr.cons; (focus ((repeat (first | with_reducible exact Take.here | with_reducible apply Take.there)); done))) | with_reducible apply Fr.skip)))) : Sat W0 wa (seg true b 0 [.slice q k c, .bool true] :: [])).lt (by simp); have f0 := ((Sat.sub (sa) (by (repeat (first | with_reducible exact Fr.done | with_reducible exact Fr.nil | (with_reducible apply Fr.cons; (focus ((repeat (first | with_reducible exact Take.here | with_reducible apply Take.there)); done))) | with_reducible apply Fr.skip)))) : Sat W0 wa (seg true b 0 [.slice q k c, .bool true] :: [])).fr 0 (by simp)) | (at_builtin; refine wpl_app8 rfl (.tmp 21) (.tmp 22) rfl rfl rfl sb HP.out.1 (by omega) ?_; intro pb cb wb sc; clear c0 z0 f0; have c0 := ((Sat.sub (sc) (by (repeat (first | with_reducible exact Fr.done | with_reducible exact Fr.nil | (with_reducible apply Fr.cons; (focus ((repeat (first | with_reducible exact Take.here | with_reducible apply Take.there)); done))) | with_reducible apply Fr.skip)))) : Sat W0 wb (seg true b 0 [.slice q k c, .bool true] :: [])).at 0 rfl; have z0 := ((Sat.sub (sc) (by (repeat (first | with_reducible exact Fr.done | with_reducible exact Fr.nil | (with_reducible apply Fr.cons; (focus ((repeat (first | with_reducible exact Take.here | with_reducible apply Take.there)); done))) | with_reducible apply Fr.skip)))) : Sat W0 wb (seg true b 0 [.slice q k c, .bool true] :: [])).lt (by simp); have f0 := ((Sat.sub (sc) (by (repeat (first | with_reducible exact Fr.done | with_reducible exact Fr.nil | (with_reducible apply Fr.cons; (focus ((repeat (first | with_reducible exact Take.here | with_reducible apply Take.there)); done))) | with_reducible apply Fr.skip)))) : Sat W0 wb (seg true b 0 [.slice q k c, .bool true] :: [])).fr 0 (by simp)))
  have sd : Sat W0 _ (seg true b 0 [.slice pb (k + n) cb, .bool true] :: row pb cb 1 (k + n) (u8s (msg ++ P)) :: bytes m pp P :: rledO p rs :: L) := ((Sat.sub (sc) (by (repeat (first | with_reducible exact Fr.done | with_reducible exact Fr.nil | (with_reducible apply Fr.cons; (focus ((repeat (first | with_reducible exact Take.here | with_reducible apply Take.there)); done))) | with_reducible apply Fr.skip)))) : Sat W0 wb (seg true b 0 [.slice q k c, .bool true] :: row pb cb 1 (k + n) (u8s (msg ++ P)) :: bytes m pp P :: rledO p rs :: L)).store (i := 0) (by simp) (.slice pb (k + n) cb) (q := 0) rfl
  obtain ⟨w5, hw5⟩ : ∃ w5, w5 = wb.setCell ⟨b, 0, none⟩ (.slice pb (k + n) cb) := ⟨_, rfl⟩
  try rw [← hw5] at sd ⊢
  clear hw5 sc sb sa c0 z0 f0
  have hK : ∀ wx X, Sat W0 wx (seg true b 0 [.slice pb (k + n) cb, .bool true] :: X) → wx.cell? ⟨b, 0, none⟩ = some (.slice pb (k + n) cb) ∧ b < wx.heap.size := fun wx X h => ⟨h.at 0 rfl, h.lt (by simp)⟩
  have HK := Lib.hid hK; clear hK
  go_region_held3 (fun w' => w'.cell? ⟨b, 0, none⟩ = some (.slice pb (k + n) cb) ∧ b < w'.heap.size) (first | exact HK.out _ _ sd | exact HK.out _ _ sd.drew | exact HK.out _ _ se | exact HK.out _ _ se.drew | exact HK.out _ _ sf | exact HK.out _ _ sf.drew) (first | (go_at_call 82; refine (revent05 (by first | exact sd | exact sd.drew)).mono ?_; rintro e w6 ⟨rfl, se⟩) | (go_at_call 81; refine (rnoteO p rs 1 64 (D2 - D) HP.out.2.1 (by first | exact HP.out.2.2.2.2.2.2.2 | omega) (by (repeat (first | with_reducible apply Sat.sub (se) | with_reducible apply Sat.alloc' | with_reducible apply Sat.drew | with_reducible apply Sat.drewN)); (repeat (first | with_reducible exact Fr.done | with_reducible exact Fr.nil | (with_reducible apply Fr.cons; (focus ((repeat (first | with_reducible exact Take.here | with_reducible apply Take.there)); done))) | with_reducible apply Fr.skip)); done) (by have := HP.out.2.2.1; have := HP.out.2.2.2.2.2.2.1; omega) HP.out.2.2.2.1).mono ?_; rintro e w7 ⟨rfl, sf'⟩; have sf : Sat W0 w7 (seg true b 0 [.slice pb (k + n) cb, .bool true] :: row pb cb 1 (k + n) (u8s (msg ++ P)) :: bytes m pp P :: rledO p (noteN rs 1 64 (D2 - D)) :: L) := (by (repeat (first | with_reducible apply Sat.sub (sf') | with_reducible apply Sat.alloc' | with_reducible apply Sat.drew | with_reducible apply Sat.drewN)); (repeat (first | with_reducible exact Fr.done | with_reducible exact Fr.nil | (with_reducible apply Fr.cons; (focus ((repeat (first | with_reducible exact Take.here | with_reducible apply Take.there)); done))) | with_reducible apply Fr.skip)); done)))
  all_goals
    go_wp2
    go_ret
    refine ⟨rfl, ?_⟩
    have sg : Sat W0 _ (seg true b 0 [.slice pb (k + n) cb, .bool true] :: row pb cb 1 (k + n) (u8s (msg ++ P)) :: rledO p (noteN rs 1 64 (D2 - D)) :: bytes m pp P :: L) := (by (repeat (first | with_reducible apply Sat.sub (sf) | with_reducible apply Sat.alloc' | with_reducible apply Sat.drew | with_reducible apply Sat.drewN)); (repeat (first | with_reducible exact Fr.done | with_reducible exact Fr.nil | (with_reducible apply Fr.cons; (focus ((repeat (first | with_reducible exact Take.here | with_reducible apply Take.there)); done))) | with_reducible apply Fr.skip)); done)
    obtain ⟨-, hx1, hx2, sh⟩ := rowBytes (show Sat W0 _ (row pb cb 1 (k + n) (u8s (msg ++ P)) :: seg true b 0 [.slice pb (k + n) cb, .bool true] :: rledO p (noteN rs 1 64 (D2 - D)) :: bytes m pp P :: L) from sg.pull 1)
    have si := rstShut (by rw [List.length_append, HP.out.1, ← HP.out.2.2.2.2.1]) hx1 hx2 (show Sat W0 _ (seg true b 0 [.slice pb (k + n) cb, .bool true] :: bytes true pb (msg ++ P) :: rledO p (noteN rs 1 64 (D2 - D)) :: bytes m pp P :: L) from sh.pull 1)
    exact (by (repeat (first | with_reducible apply Sat.sub (si) | with_reducible apply Sat.alloc' | with_reducible apply Sat.drew | with_reducible apply Sat.drewN)); (repeat (first | with_reducible exact Fr.done | with_reducible exact Fr.nil | (with_reducible apply Fr.cons; (focus ((repeat (first | with_reducible exact Take.here | with_reducible apply Take.there)); done))) | with_reducible apply Fr.skip)); done)
set_option maxRecDepth 100000 in
set_option maxHeartbeats 2000000 in
theorem rstsum05 {W0 w : World} {L : List Assn} {b n : Nat} {pv : Value} (p : Option Nat) (rs : List Run3) (msg : List Byte) (hn : msg.length = n) (hm : n ≤ 1000000000) (hp : pv = ptrO p) (hb : tot rs + n + 1000 ≤ 4611686018427387904) (hl : rs.length ≤ 4294967296) (hs : Sat W0 w (rledO p rs :: rst b msg :: L)) :
    Calls Tryz.prog 60 #[.pointer (some ⟨b, 0, none⟩), pv] w fun e w' => ∃ q c, e = .returned (.tuple #[.slice q 32 c, .int .i64 0]) ∧ Sat W0 w' (row q c 1 32 (u8s (hash false msg)) :: rledO p (noteN rs 1 64 (lastN false n)) :: rst b msg :: L) := by
  obtain ⟨q, c, hqc, hqm, s1⟩ := rstOpen (show Sat W0 w (rst b msg :: rledO p rs :: L) from hs.pull 1)
  clear hs
  have hlv : ((padN false n : Nat) : Int) - ((n / 64 : Nat) : Int) = ((lastN false n : Nat) : Int) := by simp only [lastN, padN, roomN, bsz]; omega
  have hll := lastN_le false n
  obtain ⟨N, hN⟩ : ∃ N, N = lastN false n := ⟨_, rfl⟩
  rw [hn] at s1 hqc
  rw [← hN] at hlv hll ⊢
  have HQ := Lib.hid (And.intro hn (And.intro hqc hqm)); clear hqc hqm
  have c0 := s1.at 0 rfl
  have z0 := s1.lt (by simp)
  have h5 := fun w : World => rlast05 w n hm
  rw [hlv] at h5
  have HP := Lib.hid (And.intro hn (And.intro hp (And.intro hb (And.intro hl (And.intro hll h5))))); clear hn hp hb hl hll h5 hN hlv
  have hK : ∀ wx X, Sat W0 wx (seg true b 0 [.slice q n c, .bool true] :: X) → wx.cell? ⟨b, 0, none⟩ = some (.slice q n c) ∧ b < wx.heap.size := fun wx X h => ⟨h.at 0 rfl, h.lt (by simp)⟩
  have HK := Lib.hid hK; clear hK
  go_enter Tryz.func60, Tryz.ntmps60
  go_wp2_with fail
  refine (rnone05 (by (repeat (first | with_reducible apply Sat.sub (s1) | with_reducible apply Sat.alloc' | with_reducible apply Sat.drew | with_reducible apply Sat.drewN)); (repeat (first | with_reducible exact Fr.done | with_reducible exact Fr.nil | (with_reducible apply Fr.cons; (focus ((repeat (first | with_reducible exact Take.here | with_reducible apply Take.there)); done))) | with_reducible apply Fr.skip)); done)).mono ?_
  rintro e w1 ⟨rfl, rfl⟩
  go_wp2_with fail
  go_region_held3 (fun w' => w'.cell? ⟨b, 0, none⟩ = some (.slice q n c) ∧ b < w'.heap.size) (first | exact HK.out _ _ s1 | exact HK.out _ _ s1.drew | exact HK.out _ _ se | exact HK.out _ _ se.drew | exact HK.out _ _ sf | exact HK.out _ _ sf.drew) (first | (go_at_call 82; refine (revent05 (by first | exact s1 | exact s1.drew)).mono ?_; rintro e w6 ⟨rfl, se⟩) | (go_at_call 85; refine (HP.out.2.2.2.2.2 _).mono ?_; rintro e w8 ⟨rfl, rfl⟩) | (go_at_call 81; refine (rnoteO p rs 1 64 N HP.out.2.1 rfl (by (repeat (first | with_reducible apply Sat.sub (se) | with_reducible apply Sat.alloc' | with_reducible apply Sat.drew | with_reducible apply Sat.drewN)); (repeat (first | with_reducible exact Fr.done | with_reducible exact Fr.nil | (with_reducible apply Fr.cons; (focus ((repeat (first | with_reducible exact Take.here | with_reducible apply Take.there)); done))) | with_reducible apply Fr.skip)); done) (by have := HP.out.2.2.1; have := HP.out.2.2.2.2.1; omega) HP.out.2.2.2.1).mono ?_; rintro e w7 ⟨rfl, sf'⟩; have sf : Sat W0 w7 (seg true b 0 [.slice q n c, .bool true] :: bytes false q msg :: rledO p (noteN rs 1 64 N) :: L) := (by (repeat (first | with_reducible apply Sat.sub (sf') | with_reducible apply Sat.alloc' | with_reducible apply Sat.drew | with_reducible apply Sat.drewN)); (repeat (first | with_reducible exact Fr.done | with_reducible exact Fr.nil | (with_reducible apply Fr.cons; (focus ((repeat (first | with_reducible exact Take.here | with_reducible apply Take.there)); done))) | with_reducible apply Fr.skip)); done)))
  all_goals
    obtain ⟨d0, d1⟩ := HK.out _ _ sf
    clear s1 c0 z0
    try clear se
    go_wp2_with fail
    refine (rdigest256 msg HP.out.1 hm (by (repeat (first | with_reducible apply Sat.sub (sf) | with_reducible apply Sat.alloc' | with_reducible apply Sat.drew | with_reducible apply Sat.drewN)); (repeat (first | with_reducible exact Fr.done | with_reducible exact Fr.nil | (with_reducible apply Fr.cons; (focus ((repeat (first | with_reducible exact Take.here | with_reducible apply Take.there)); done))) | with_reducible apply Fr.skip)); done)).mono ?_
    rintro e w9 ⟨q9, c9, rfl, s9⟩
    clear d0 d1 sf
    go_wp2
    refine bodyPost_ret (v := .tuple #[.slice q9 _ c9, .int .i64 0]) (by simp [results, Tryz.results60, go_sem]) rfl ⟨q9, c9, rfl, ?_⟩
    have si := rstShut HQ.out.1 HQ.out.2.1 HQ.out.2.2 (show Sat W0 _ (seg true b 0 [.slice q n c, .bool true] :: bytes false q msg :: row q9 c9 1 32 (u8s (hash false msg)) :: rledO p (noteN rs 1 64 N) :: L) from (by (repeat (first | with_reducible apply Sat.sub (s9) | with_reducible apply Sat.alloc' | with_reducible apply Sat.drew | with_reducible apply Sat.drewN)); (repeat (first | with_reducible exact Fr.done | with_reducible exact Fr.nil | (with_reducible apply Fr.cons; (focus ((repeat (first | with_reducible exact Take.here | with_reducible apply Take.there)); done))) | with_reducible apply Fr.skip)); done))
    exact (by (repeat (first | with_reducible apply Sat.sub (si) | with_reducible apply Sat.alloc' | with_reducible apply Sat.drew | with_reducible apply Sat.drewN)); (repeat (first | with_reducible exact Fr.done | with_reducible exact Fr.nil | (with_reducible apply Fr.cons; (focus ((repeat (first | with_reducible exact Take.here | with_reducible apply Take.there)); done))) | with_reducible apply Fr.skip)); done)
set_option maxHeartbeats 1000000 in
theorem rdigest12 {W0 w : World} {L : List Assn} {m : Bool} {pp : Option Addr} {n cap : Nat} {av : Value} (wide : Bool) (P : List Byte) (ha : av = .int .u8 (algN wide)) (hP : P.length = n) (hn : n ≤ 1000000000) (hs : Sat W0 w (bytes m pp P :: L)) :
    Calls Tryz.prog 130 #[av, .slice pp n cap] w fun e w' => ∃ q c, e = .returned (.slice q (hsz wide) c) ∧ Sat W0 w' (row q c 1 (hsz wide) (u8s (hash wide P)) :: bytes m pp P :: L) := by
  subst ha
  have HP := Lib.hid hP; clear hP
  cases wide
  · show Calls Tryz.prog 130 #[.int .u8 1, .slice pp n cap] w _
    go_enter Tryz.func130, Tryz.ntmps130
    go_wp2_with fail
    refine (rnew05 hs).mono ?_
    rintro e w1 ⟨b, rfl, s1⟩
    have s2 : Sat W0 w1 (rledO none [] :: bytes m pp P :: rst b [] :: L) := (s1.pull 1).emp
    clear s1 hs
    go_wp2_with fail
    refine (rwrite05 none [] [] P HP.out hn (by simp) rfl (by simp only [tot, List.length_nil]; omega) (by simp) s2).mono ?_
    rintro e w3 ⟨rfl, s3⟩
    rw [List.nil_append] at s3
    have s4 : Sat W0 w3 (rledO none [] :: rst b P :: bytes m pp P :: L) := ((s3.drop 0).pull 1).emp
    clear s3 s2
    go_wp2_with fail
    refine (rstsum05 none [] P HP.out hn rfl (by simp only [tot]; omega) (by simp) s4).mono ?_
    rintro e w5 ⟨q, c, rfl, s5⟩
    go_wp2
    go_ret
    exact ⟨q, c, rfl, (s5.drop 1).drop 1⟩
  · show Calls Tryz.prog 130 #[.int .u8 2, .slice pp n cap] w _
    go_enter Tryz.func130, Tryz.ntmps130
    go_wp2_with fail
    refine (rdigest512 P HP.out hn hs).mono ?_
    rintro e w1 ⟨q, c, rfl, s1⟩
    go_wp2
    go_ret
    exact ⟨q, c, rfl, s1⟩
set_option maxRecDepth 100000 in
set_option maxHeartbeats 2000000 in
theorem rkeyed12 {W0 w : World} {L : List Assn} {m : Bool} {sp : Option Addr} {n cap : Nat} {av : Value} {xv : Int} (wide : Bool) (key : List Byte) (x : Byte) (ha : av = .int .u8 (algN wide)) (hxv : xv = v8 x) (hn : key.length = n) (hnb : n ≤ 1000000000) (hs : Sat W0 w (bytes m sp key :: L)) :
    Calls Tryz.prog 129 #[av, .slice sp n cap, .int .u8 xv] w fun e w' => ∃ q c, e = .returned (.slice q (bsz wide) c) ∧ Sat W0 w' (row q c 1 (bsz wide) (u8s (xorKey wide (blockKey wide key) x)) :: bytes m sp key :: L) := by
  subst ha
  have hblk := fun w : World => rblock12 w wide
  have hB1 := bsz_le wide
  obtain ⟨B, hB⟩ : ∃ B, B = bsz wide := ⟨_, rfl⟩
  rw [← hB] at hblk hB1 ⊢
  have HB := Lib.hid (And.intro hB (And.intro hxv hblk)); clear hB hxv hblk
  by_cases hlong : B < n
  · have hK0 : hash wide key = blockKey wide key := by unfold blockKey; rw [if_pos (by rw [hn, ← HB.out.1]; exact hlong)]
    obtain ⟨K, hK⟩ : ∃ K, K = blockKey wide key := ⟨_, rfl⟩
    rw [← hK] at hK0 ⊢
    have hKn0 : K.length = hsz wide := by rw [← hK0]; exact hash_len _ _
    obtain ⟨kn, hkn⟩ : ∃ kn, kn = hsz wide := ⟨_, rfl⟩
    have hKn : K.length = kn := by rw [hkn]; exact hKn0
    have HK := Lib.hid (And.intro hn (And.intro hK0 hkn)); clear hn hK0 hK hKn0 hkn
    go_enter Tryz.func129, Tryz.ntmps129
    go_wp2_with fail
    refine (HB.out.2.2 _).mono ?_
    rintro e w9 ⟨rfl, rfl⟩
    go_wp2_with fail
    refine (rdigest12 wide key rfl HK.out.1 hnb hs).mono ?_
    rintro e w1 ⟨qk, ck, rfl, s1⟩
    rw [HK.out.2.1, ← HK.out.2.2] at s1
    rw [← HK.out.2.2]
    have sK : Sat W0 w1 (bytes true qk K :: bytes m sp key :: L) := (rowBytes s1).2.2.2
    clear s1 hs
    go_wp2
    go_loopw [8, 9, 10] (fun t8 t9 t10 wr => ∃ (i : Nat) (q : Option Addr) (c : Nat) (z : Value), i ≤ B ∧ t9 = .int .i64 (i : Int) ∧ t8 = .slice q i c ∧ t10 = z ∧ Sat W0 wr (row q c 1 i (u8s ((xorKey wide K x).take i)) :: bytes true qk K :: bytes m sp key :: L)) (fun _ t9 _ _ => B - (intOf t9).toNat)
    case atStart => exact ⟨0, none, 0, _, Nat.zero_le _, rfl, rfl, rfl, sK.rowNil 1⟩
    case round =>
      clear sK
      obtain ⟨i, q, c, z, hi, rfl, rfl, rfl, s⟩ := hrel
      by_cases hlt : i < B
      · have hx := xorKey_take wide K x i (by rw [← HB.out.1]; exact hlt)
        obtain ⟨y, hy⟩ : ∃ y, y = K.getD i 0 := ⟨_, rfl⟩
        rw [← hy] at hx
        by_cases hik : i < kn
        · have sb : Sat W0 wr (bytes true qk K :: []) := (Sat.sub (s) (by (repeat (first | with_reducible exact Fr.done | with_reducible exact Fr.nil | (with_reducible apply Fr.cons; (focus ((repeat (first | with_reducible exact Take.here | with_reducible apply Take.there)); done))) | with_reducible apply Fr.skip))))
          obtain ⟨bk, ok, hbk, sc⟩ := bytesCell sb (by intro h; rw [h] at hKn; simp at hKn; omega)
          subst hbk
          have ck := sc.cell (u8s_get K i (by rw [hKn]; exact hik))
          rw [← hy] at ck
          have zk := World.block_lt_of_cell? wr _ ck
          have HX := Lib.hid (And.intro hx (And.intro hy hKn)); clear hx hy hKn sc sb
          go_wp2_with fail
          refine (HB.out.2.2 _).mono ?_
          rintro e w9 ⟨rfl, rfl⟩
          go_wp2_with (at_builtin; refine wpl_app8 rfl (.tmp 34) (.tmp 38) rfl rfl rfl (byteIn (b := y ^^^ x) (by rw [HB.out.2.1, vxor8]) s) rfl (by omega) ?_; intro p9 c9 w9 s9)
          go_roundw
          case rel => exact ⟨i + 1, p9, c9, _, by omega, by go_num, rfl, rfl, by rw [HX.out.1]; exact s9.drop 1⟩
          case measure => simp [intOf]; omega
        · have hy0 : y = 0 := by rw [hy, List.getD_eq_getElem?_getD, List.getElem?_eq_none (by rw [hKn]; omega)]; rfl
          have hv0 : bits .xor .u8 0 xv = v8 (y ^^^ x) := by rw [HB.out.2.1, hy0, ← vxor8]; rfl
          have HX := Lib.hid (And.intro hx (And.intro hy (And.intro hKn hv0))); clear hx hy hKn hy0 hv0
          go_wp2_with fail
          refine (HB.out.2.2 _).mono ?_
          rintro e w9 ⟨rfl, rfl⟩
          go_wp2_with (at_builtin; refine wpl_app8 rfl (.tmp 34) (.tmp 38) rfl rfl rfl (byteIn (b := y ^^^ x) (by first | exact HX.out.2.2.2 | (simp; exact HX.out.2.2.2)) s) rfl (by omega) ?_; intro p9 c9 w9 s9)
          go_roundw
          case rel => exact ⟨i + 1, p9, c9, _, by omega, by go_num, rfl, rfl, by rw [HX.out.1]; exact s9.drop 1⟩
          case measure => simp [intOf]; omega
      · obtain rfl : i = B := by omega
        have e1 : (xorKey wide K x).take i = xorKey wide K x := by rw [HB.out.1]; exact xorKey_all wide K x
        rw [e1] at s
        clear e1
        go_wp2_with fail
        refine (HB.out.2.2 _).mono ?_
        rintro e w9 ⟨rfl, rfl⟩
        go_wp2
        go_ret
        exact ⟨q, c, rfl, s.drop 1⟩
  · have hK : key = blockKey wide key := by unfold blockKey; rw [if_neg (by rw [hn, ← HB.out.1]; exact hlong)]
    rw [← hK]
    have hKn := hn; clear hK hn
    go_enter Tryz.func129, Tryz.ntmps129
    go_wp2_with fail
    refine (HB.out.2.2 _).mono ?_
    rintro e w9 ⟨rfl, rfl⟩
    have sK := hs
    clear hs
    go_wp2
    go_loopw [8, 9, 10] (fun t8 t9 t10 wr => ∃ (i : Nat) (q : Option Addr) (c : Nat) (z : Value), i ≤ B ∧ t9 = .int .i64 (i : Int) ∧ t8 = .slice q i c ∧ t10 = z ∧ Sat W0 wr (row q c 1 i (u8s ((xorKey wide key x).take i)) :: bytes m sp key :: L)) (fun _ t9 _ _ => B - (intOf t9).toNat)
    case atStart => exact ⟨0, none, 0, _, Nat.zero_le _, rfl, rfl, rfl, sK.rowNil 1⟩
    case round =>
      clear sK
      obtain ⟨i, q, c, z, hi, rfl, rfl, rfl, s⟩ := hrel
      by_cases hlt : i < B
      · have hx := xorKey_take wide key x i (by rw [← HB.out.1]; exact hlt)
        obtain ⟨y, hy⟩ : ∃ y, y = key.getD i 0 := ⟨_, rfl⟩
        rw [← hy] at hx
        by_cases hik : i < n
        · have sb : Sat W0 wr (bytes m sp key :: []) := (Sat.sub (s) (by (repeat (first | with_reducible exact Fr.done | with_reducible exact Fr.nil | (with_reducible apply Fr.cons; (focus ((repeat (first | with_reducible exact Take.here | with_reducible apply Take.there)); done))) | with_reducible apply Fr.skip))))
          obtain ⟨bk, ok, hbk, sc⟩ := bytesCell sb (by intro h; rw [h] at hKn; simp at hKn; omega)
          subst hbk
          have ck := sc.cell (u8s_get key i (by rw [hKn]; exact hik))
          rw [← hy] at ck
          have zk := World.block_lt_of_cell? wr _ ck
          have HX := Lib.hid (And.intro hx (And.intro hy hKn)); clear hx hy hKn sc sb
          go_wp2_with fail
          refine (HB.out.2.2 _).mono ?_
          rintro e w9 ⟨rfl, rfl⟩
          go_wp2_with (at_builtin; refine wpl_app8 rfl (.tmp 34) (.tmp 38) rfl rfl rfl (byteIn (b := y ^^^ x) (by rw [HB.out.2.1, vxor8]) s) rfl (by omega) ?_; intro p9 c9 w9 s9)
          go_roundw
          case rel => exact ⟨i + 1, p9, c9, _, by omega, by go_num, rfl, rfl, by rw [HX.out.1]; exact s9.drop 1⟩
          case measure => simp [intOf]; omega
        · have hy0 : y = 0 := by rw [hy, List.getD_eq_getElem?_getD, List.getElem?_eq_none (by rw [hKn]; omega)]; rfl
          have hv0 : bits .xor .u8 0 xv = v8 (y ^^^ x) := by rw [HB.out.2.1, hy0, ← vxor8]; rfl
          have HX := Lib.hid (And.intro hx (And.intro hy (And.intro hKn hv0))); clear hx hy hKn hy0 hv0
          go_wp2_with fail
          refine (HB.out.2.2 _).mono ?_
          rintro e w9 ⟨rfl, rfl⟩
          go_wp2_with (at_builtin; refine wpl_app8 rfl (.tmp 34) (.tmp 38) rfl rfl rfl (byteIn (b := y ^^^ x) (by first | exact HX.out.2.2.2 | (simp; exact HX.out.2.2.2)) s) rfl (by omega) ?_; intro p9 c9 w9 s9)
          go_roundw
          case rel => exact ⟨i + 1, p9, c9, _, by omega, by go_num, rfl, rfl, by rw [HX.out.1]; exact s9.drop 1⟩
          case measure => simp [intOf]; omega
      · obtain rfl : i = B := by omega
        have e1 : (xorKey wide key x).take i = xorKey wide key x := by rw [HB.out.1]; exact xorKey_all wide key x
        rw [e1] at s
        clear e1
        go_wp2_with fail
        refine (HB.out.2.2 _).mono ?_
        rintro e w9 ⟨rfl, rfl⟩
        go_wp2
        go_ret
        exact ⟨q, c, rfl, s⟩
set_option maxHeartbeats 1000000 in
theorem rinner12 {W0 w : World} {L : List Assn} {m m2 : Bool} {sp sp2 : Option Addr} {n cap n2 cap2 : Nat} {av : Value} (wide : Bool) (key msg : List Byte) (ha : av = .int .u8 (algN wide)) (hn : key.length = n) (hnb : n ≤ 1000000000) (hn2 : msg.length = n2) (hnb2 : n2 ≤ 900000000) (hs : Sat W0 w (bytes m sp key :: bytes m2 sp2 msg :: L)) :
    Calls Tryz.prog 131 #[av, .slice sp n cap, .slice sp2 n2 cap2] w fun e w' => ∃ q c, e = .returned (.slice q (bsz wide + n2) c) ∧ Sat W0 w' (row q c 1 (bsz wide + n2) (u8s (xorKey wide (blockKey wide key) 54 ++ msg)) :: bytes m sp key :: bytes m2 sp2 msg :: L) := by
  subst ha
  have hB1 := bsz_le wide
  have hk := rkeyed12 (cap := cap) wide key 54 rfl (by rfl : (54 : Int) = v8 54) hn hnb hs
  obtain ⟨B, hB⟩ : ∃ B, B = bsz wide := ⟨_, rfl⟩
  rw [← hB] at hk hB1 ⊢
  have HN := Lib.hid (And.intro hk hn2); clear hk hn hn2 hB
  go_enter Tryz.func131, Tryz.ntmps131
  go_wp2_with fail
  refine HN.out.1.mono ?_
  rintro e w1 ⟨q, c, rfl, s1⟩
  have s2 : Sat W0 w1 (row q c 1 B (u8s (xorKey wide (blockKey wide key) 54)) :: bytes m2 sp2 msg :: bytes m sp key :: L) := (by (repeat (first | with_reducible apply Sat.sub (s1) | with_reducible apply Sat.alloc' | with_reducible apply Sat.drew | with_reducible apply Sat.drewN)); (repeat (first | with_reducible exact Fr.done | with_reducible exact Fr.nil | (with_reducible apply Fr.cons; (focus ((repeat (first | with_reducible exact Take.here | with_reducible apply Take.there)); done))) | with_reducible apply Fr.skip)); done)
  clear s1 hs
  go_wp2_with (at_builtin; refine wpl_app8 rfl (.tmp 11) (.tmp 12) rfl rfl rfl s2 HN.out.2 (by omega) ?_; intro p9 c9 w9 s9)
  go_ret
  exact ⟨p9, c9, rfl, (by (repeat (first | with_reducible apply Sat.sub (s9) | with_reducible apply Sat.alloc' | with_reducible apply Sat.drew | with_reducible apply Sat.drewN)); (repeat (first | with_reducible exact Fr.done | with_reducible exact Fr.nil | (with_reducible apply Fr.cons; (focus ((repeat (first | with_reducible exact Take.here | with_reducible apply Take.there)); done))) | with_reducible apply Fr.skip)); done)⟩
set_option maxHeartbeats 1000000 in
theorem rof12 {W0 w : World} {L : List Assn} {m m2 : Bool} {sp sp2 : Option Addr} {n cap n2 cap2 : Nat} {av : Value} (wide : Bool) (key msg : List Byte) (ha : av = .int .u8 (algN wide)) (hn : key.length = n) (hnb : n ≤ 1000000000) (hn2 : msg.length = n2) (hnb2 : n2 ≤ 900000000) (hs : Sat W0 w (bytes m sp key :: bytes m2 sp2 msg :: L)) :
    Calls Tryz.prog 115 #[av, .slice sp n cap, .slice sp2 n2 cap2] w fun e w' => ∃ q c, e = .returned (.slice q (hsz wide) c) ∧ Sat W0 w' (row q c 1 (hsz wide) (u8s (hmac wide key msg)) :: bytes m sp key :: bytes m2 sp2 msg :: L) := by
  subst ha
  obtain ⟨X1, hX1⟩ : ∃ X, X = xorKey wide (blockKey wide key) 92 := ⟨_, rfl⟩
  obtain ⟨X2, hX2⟩ : ∃ X, X = xorKey wide (blockKey wide key) 54 ++ msg := ⟨_, rfl⟩
  have hX2l : X2.length = bsz wide + n2 := by rw [hX2, List.length_append, xorKey_len, hn2]
  obtain ⟨D, hD⟩ : ∃ D, D = hash wide X2 := ⟨_, rfl⟩
  have hDl : D.length = hsz wide := by rw [hD]; exact hash_len _ _
  have hX1l : X1.length = bsz wide := by rw [hX1, xorKey_len]
  have hfin : hash wide (X1 ++ D) = hmac wide key msg := by rw [hX1, hD, hX2]; rfl
  have hB1 := bsz_le wide
  have hH1 : hsz wide ≤ 64 := by cases wide <;> decide
  have hk := fun (w : World) (s : Sat W0 w (bytes m sp key :: bytes m2 sp2 msg :: L)) => rkeyed12 (cap := cap) wide key 92 rfl (by rfl : (92 : Int) = v8 92) hn hnb s
  have hi := fun (w : World) (L' : List Assn) (s : Sat W0 w (bytes m sp key :: bytes m2 sp2 msg :: L')) => rinner12 (cap := cap) (cap2 := cap2) wide key msg rfl hn hnb hn2 hnb2 s
  rw [← hX1] at hk
  rw [← hX2] at hi
  rw [← hfin]
  obtain ⟨B, hB⟩ : ∃ B, B = bsz wide := ⟨_, rfl⟩
  obtain ⟨H, hH⟩ : ∃ H, H = hsz wide := ⟨_, rfl⟩
  have hd := fun (w : World) (L' : List Assn) (m' : Bool) (q : Option Addr) (k c : Nat) (Y : List Byte) (hk : Y.length = k) (hkb : k ≤ 1000000000) (s : Sat W0 w (bytes m' q Y :: L')) => rdigest12 (cap := c) wide Y rfl hk hkb s
  rw [← hB] at hk hi hX2l hX1l hB1
  rw [← hH] at hDl hH1 hd ⊢
  have HN := Lib.hid (And.intro hk (And.intro hi (And.intro hd (And.intro hX2l (And.intro hX1l (And.intro hDl hD)))))); clear hk hi hd hX2l hX1l hDl hD hX1 hX2 hfin hB hH hn hn2
  go_enter Tryz.func115, Tryz.ntmps115
  go_wp2_with fail
  refine (HN.out.1 _ hs).mono ?_
  rintro e w1 ⟨q1, c1, rfl, s1⟩
  clear hs
  go_wp2_with fail
  refine (HN.out.2.1 _ _ (by (repeat (first | with_reducible apply Sat.sub (s1) | with_reducible apply Sat.alloc' | with_reducible apply Sat.drew | with_reducible apply Sat.drewN)); (repeat (first | with_reducible exact Fr.done | with_reducible exact Fr.nil | (with_reducible apply Fr.cons; (focus ((repeat (first | with_reducible exact Take.here | with_reducible apply Take.there)); done))) | with_reducible apply Fr.skip)); done)).mono ?_
  rintro e w2 ⟨q2, c2, rfl, s2⟩
  clear s1
  have s3 := (rowBytes s2).2.2.2
  clear s2
  go_wp2_with fail
  refine (HN.out.2.2.1 _ _ _ _ _ _ X2 HN.out.2.2.2.1 (by omega) s3).mono ?_
  rintro e w4 ⟨q4, c4, rfl, s4⟩
  clear s3
  have s5 := (rowBytes s4).2.2.2
  rw [← HN.out.2.2.2.2.2.2] at s5
  have s6 : Sat W0 w4 (row q1 c1 1 B (u8s X1) :: bytes true q4 D :: bytes m sp key :: bytes m2 sp2 msg :: L) := (by (repeat (first | with_reducible apply Sat.sub (s5) | with_reducible apply Sat.alloc' | with_reducible apply Sat.drew | with_reducible apply Sat.drewN)); (repeat (first | with_reducible exact Fr.done | with_reducible exact Fr.nil | (with_reducible apply Fr.cons; (focus ((repeat (first | with_reducible exact Take.here | with_reducible apply Take.there)); done))) | with_reducible apply Fr.skip)); done)
  clear s4 s5
  go_wp2_with (at_builtin; refine wpl_app8 rfl (.tmp 12) (.tmp 18) rfl rfl rfl s6 HN.out.2.2.2.2.2.1 (by omega) ?_; intro p9 c9 w9 s9)
  have s10 := (rowBytes s9).2.2.2
  clear s9 s6
  refine (HN.out.2.2.1 _ _ _ _ _ _ (X1 ++ D) (by rw [List.length_append, HN.out.2.2.2.2.1, HN.out.2.2.2.2.2.1]) (by omega) s10).mono ?_
  rintro e w11 ⟨q11, c11, rfl, s11⟩
  go_wp2
  go_ret
  exact ⟨q11, c11, rfl, (by (repeat (first | with_reducible apply Sat.sub (s11) | with_reducible apply Sat.alloc' | with_reducible apply Sat.drew | with_reducible apply Sat.drewN)); (repeat (first | with_reducible exact Fr.done | with_reducible exact Fr.nil | (with_reducible apply Fr.cons; (focus ((repeat (first | with_reducible exact Take.here | with_reducible apply Take.there)); done))) | with_reducible apply Fr.skip)); done)⟩
set_option maxHeartbeats 1000000 in
theorem rends12 {W0 w : World} {L : List Assn} {pv av : Value} (wide : Bool) (p : Option Nat) (rs : List Run3) (n : Nat) (hp : pv = ptrO p) (ha : av = .int .u8 (algN wide)) (hn : n ≤ 1000000000) (hs : Sat W0 w (rledO p rs :: L)) (hb : tot rs + 10 ≤ 4611686018427387904) (hl : rs.length ≤ 4294967296) :
    Calls Tryz.prog 114 #[pv, av, .int .i64 (n : Int)] w fun e w' => e = .returned (.tuple #[]) ∧ Sat W0 w' (rledO p (noteN rs (evK wide) (evS wide) (endN wide n)) :: L) := by
  subst ha hp
  have he : endN wide n = lastN wide n + 1 := by cases wide <;> simp only [endN, lastN, padN, roomN, bsz] <;> omega
  have hll := lastN_le wide n
  have h12 := fun w : World => rlast12 w wide n hn
  rw [he]
  obtain ⟨N, hN⟩ : ∃ N, N = lastN wide n := ⟨_, rfl⟩
  rw [← hN] at hll h12 ⊢
  have HN := Lib.hid (And.intro h12 (And.intro hb hl)); clear h12 hb hl hN he
  go_enter Tryz.func114, Tryz.ntmps114
  go_wp2_with fail
  refine (HN.out.1 _).mono ?_
  rintro e w1 ⟨rfl, rfl⟩
  go_wp2_with fail
  refine (rblocks12 wide p rs (N + 1) rfl (by omega) hs (by have := HN.out.2.1; omega) HN.out.2.2).mono ?_
  rintro e w2 ⟨rfl, s2⟩
  go_wp2
  exact bodyPost_end (results_none rfl _ _ _) rfl ⟨rfl, s2⟩
set_option maxHeartbeats 1000000 in
theorem rbegins12 {W0 w : World} {L : List Assn} {pv av : Value} (wide : Bool) (p : Option Nat) (rs : List Run3) (n : Nat) (hp : pv = ptrO p) (ha : av = .int .u8 (algN wide)) (hn : n ≤ 1000000000) (hs : Sat W0 w (rledO p rs :: L)) (hb : tot rs + n + 10 ≤ 4611686018427387904) (hl : rs.length + 1 ≤ 4294967296) :
    Calls Tryz.prog 69 #[pv, av, .int .i64 (n : Int)] w fun e w' => e = .returned (.tuple #[]) ∧ Sat W0 w' (rledO p (noteN rs (evK wide) (evS wide) (keyN wide n)) :: L) := by
  subst ha hp
  have hll := lastN_le wide n
  have hlg := lastN_ge wide n
  have hpn : padN wide n = n / bsz wide + lastN wide n := by unfold lastN; omega
  have h12 := fun w : World => rlast12 w wide n hn
  obtain ⟨N, hN⟩ : ∃ N, N = lastN wide n := ⟨_, rfl⟩
  rw [← hN] at hll h12 hpn
  have hk : (bsz wide < n → keyN wide n = padN wide n + 2) ∧ (¬ bsz wide < n → keyN wide n = 2) := ⟨fun h => if_pos h, fun h => if_neg h⟩
  cases wide
  · skip
    have hq : (n : Int) / 64 = ((n / 64 : Nat) : Int) := by omega
    have hq2 : (n : Int).tdiv 64 = ((n / 64 : Nat) : Int) := by rw [Int.tdiv_eq_ediv_of_nonneg (by omega)]; exact hq
    have hblk := fun w : World => rblock12 w false
    simp only [bsz] at hblk hpn hk
    obtain ⟨D, hD⟩ : ∃ D, D = n / 64 := ⟨_, rfl⟩
    rw [← hD] at hq hq2 hpn
    have hDn : D ≤ n := by rw [hD]; exact Nat.div_le_self _ _
    have HN := Lib.hid (And.intro h12 (And.intro hb (And.intro hl (And.intro hblk (And.intro hpn hk))))); clear h12 hb hl hN hblk hpn hk hlg hD
    by_cases hlong : 64 < n
    · go_enter Tryz.func69, Tryz.ntmps69
      go_wp2_with fail
      refine (HN.out.2.2.2.1 _).mono ?_
      rintro e w1 ⟨rfl, rfl⟩
      go_wp2_with fail
      refine wp_region_quiet_tail_lit 10 (by kernel_rfl) (by kernel_rfl) ?_
      simp only [List.take_succ_cons, List.take_zero, List.drop_succ_cons, List.drop_zero]
      repeat (go_big_quiet_step ((first | (go_at_call 68; exact Calls.quiet_of_same (HN.out.2.2.2.1 _)) | (go_at_call 93; exact Calls.quiet_of_same (HN.out.1 _)))))
      refine wpQuiet_nil ?_
      rintro _ ⟨nq, rfl⟩
      go_wp2_with fail
      refine (rblocks12 false p rs (D + N) rfl (by first | omega | (rw [IntKind.wrap_i64]; omega)) (hs.drewN _) (by have := HN.out.2.1; omega) (by have := HN.out.2.2.1; omega)).mono ?_
      rintro e w2 ⟨rfl, s2⟩
      go_wp2_with fail
      refine (rblocks12 false p _ 2 rfl (by rfl) s2 (by rw [tot_noteN]; have := HN.out.2.1; omega) (by have := HN.out.2.2.1; have := noteN_len rs (evK false) (evS false) (D + N); omega)).mono ?_
      rintro e w3 ⟨rfl, s3⟩
      rw [noteN_add] at s3
      go_wp2
      refine bodyPost_end (results_none rfl _ _ _) rfl ⟨rfl, ?_⟩
      rw [HN.out.2.2.2.2.2.1 hlong, HN.out.2.2.2.2.1]
      exact s3
    · go_enter Tryz.func69, Tryz.ntmps69
      go_wp2_with fail
      refine (HN.out.2.2.2.1 _).mono ?_
      rintro e w1 ⟨rfl, rfl⟩
      go_wp2_with fail
      refine (rblocks12 false p rs 2 rfl (by rfl) hs (by have := HN.out.2.1; omega) (by have := HN.out.2.2.1; omega)).mono ?_
      rintro e w3 ⟨rfl, s3⟩
      go_wp2
      refine bodyPost_end (results_none rfl _ _ _) rfl ⟨rfl, ?_⟩
      rw [HN.out.2.2.2.2.2.2 hlong]
      exact s3
  · skip
    have hq : (n : Int) / 128 = ((n / 128 : Nat) : Int) := by omega
    have hq2 : (n : Int).tdiv 128 = ((n / 128 : Nat) : Int) := by rw [Int.tdiv_eq_ediv_of_nonneg (by omega)]; exact hq
    have hblk := fun w : World => rblock12 w true
    simp only [bsz] at hblk hpn hk
    obtain ⟨D, hD⟩ : ∃ D, D = n / 128 := ⟨_, rfl⟩
    rw [← hD] at hq hq2 hpn
    have hDn : D ≤ n := by rw [hD]; exact Nat.div_le_self _ _
    have HN := Lib.hid (And.intro h12 (And.intro hb (And.intro hl (And.intro hblk (And.intro hpn hk))))); clear h12 hb hl hN hblk hpn hk hlg hD
    by_cases hlong : 128 < n
    · go_enter Tryz.func69, Tryz.ntmps69
      go_wp2_with fail
      refine (HN.out.2.2.2.1 _).mono ?_
      rintro e w1 ⟨rfl, rfl⟩
      go_wp2_with fail
      refine wp_region_quiet_tail_lit 10 (by kernel_rfl) (by kernel_rfl) ?_
      simp only [List.take_succ_cons, List.take_zero, List.drop_succ_cons, List.drop_zero]
      repeat (go_big_quiet_step ((first | (go_at_call 68; exact Calls.quiet_of_same (HN.out.2.2.2.1 _)) | (go_at_call 93; exact Calls.quiet_of_same (HN.out.1 _)))))
      refine wpQuiet_nil ?_
      rintro _ ⟨nq, rfl⟩
      go_wp2_with fail
      refine (rblocks12 true p rs (D + N) rfl (by first | omega | (rw [IntKind.wrap_i64]; omega)) (hs.drewN _) (by have := HN.out.2.1; omega) (by have := HN.out.2.2.1; omega)).mono ?_
      rintro e w2 ⟨rfl, s2⟩
      go_wp2_with fail
      refine (rblocks12 true p _ 2 rfl (by rfl) s2 (by rw [tot_noteN]; have := HN.out.2.1; omega) (by have := HN.out.2.2.1; have := noteN_len rs (evK true) (evS true) (D + N); omega)).mono ?_
      rintro e w3 ⟨rfl, s3⟩
      rw [noteN_add] at s3
      go_wp2
      refine bodyPost_end (results_none rfl _ _ _) rfl ⟨rfl, ?_⟩
      rw [HN.out.2.2.2.2.2.1 hlong, HN.out.2.2.2.2.1]
      exact s3
    · go_enter Tryz.func69, Tryz.ntmps69
      go_wp2_with fail
      refine (HN.out.2.2.2.1 _).mono ?_
      rintro e w1 ⟨rfl, rfl⟩
      go_wp2_with fail
      refine (rblocks12 true p rs 2 rfl (by rfl) hs (by have := HN.out.2.1; omega) (by have := HN.out.2.2.1; omega)).mono ?_
      rintro e w3 ⟨rfl, s3⟩
      go_wp2
      refine bodyPost_end (results_none rfl _ _ _) rfl ⟨rfl, ?_⟩
      rw [HN.out.2.2.2.2.2.2 hlong]
      exact s3
end Go.Proofs.YtmohabidfalhoaaGreat
