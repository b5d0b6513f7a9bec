/- R11b, R11c, R11d, R11e: texts that lie apart elsewhere, as one; each under the conditions that it names. -/
import Derived.Test.YtlmababpmmhhoaaGreatR12b
import Derived.Test.YtlmababpmmhhoaaGreatL11
import Derived.Test.YtlmababpmmhhoaaGreatGone

/- The document's states of both hash functions: New, Write, Sum, Clone, Wipe, Form; under the conditions that each names. -/
namespace Go.Proofs.YtlmababpmmhhoaaGreat
open Go.RowKit Go.Sep Go.Bv Go.Sha
set_option linter.unusedVariables false
set_option linter.unusedSimpArgs false
set_option maxHeartbeats 1000000 in
theorem rnew06 {W0 w : World} {L : List Assn} (hs : Sat W0 w L) : Calls Tryz.prog 39 #[] w fun e w' => ∃ b, e = .returned (.pointer (some ⟨b, 0, none⟩)) ∧ Sat W0 w' (rst b [] :: L) := by
  go_enter Tryz.func39, Tryz.ntmps39
  go_wp2
  go_ret
  have s1 := (bytesNil true none hs).alloc #[.slice none 0 0, .bool true] 116
  exact ⟨_, rfl, rstShut (n := 0) (p := none) (c := 0) rfl (by decide) (by unfold maxLen; decide) s1⟩
set_option maxHeartbeats 1000000 in
theorem rmade06 {W0 w : World} {L : List Assn} {b : Nat} {v : Value} (hs : Sat W0 w (seg true b 0 [v, .bool true] :: L)) :
    Calls Tryz.prog 59 #[.pointer (some ⟨b, 0, none⟩)] w fun e w' => e = .returned (.bool true) ∧ w' = w := by
  have c1 := hs.at 1 rfl
  have z1 := hs.lt (by simp)
  go_enter Tryz.func59, Tryz.ntmps59
  go_wp2
  go_ret
  exact ⟨rfl, rfl⟩
set_option maxHeartbeats 1000000 in
theorem rblocksO6 {W0 w : World} {L : List Assn} {nv : Int} {pv : Value} (p : Option Nat) (rs : List Run3) (n : Nat) (hp : pv = ptrO p) (hv : nv = (n : Int)) (hs : Sat W0 w (rledO p rs :: L)) (hb : tot rs + n ≤ 4611686018427387904) (hl : rs.length ≤ 4294967296) :
    Calls Tryz.prog 60 #[pv, .int .i64 nv] w fun e w' => e = .returned (.tuple #[]) ∧ Sat W0 w' (rledO p (noteN rs 2 128 n) :: L) := by
  have HB := Lib.hid (And.intro hp (And.intro hv (And.intro hb hl))); clear hp hv hb hl
  have s2 := hs.alloc' (.cells #[.int .u8 2, .int .i64 128] 59)
  go_enter Tryz.func60, Tryz.ntmps60
  go_wp2_with fail
  refine (rnoteO p rs 2 128 n HB.out.1 HB.out.2.1 (by first | exact hs | exact s2) HB.out.2.2.1 HB.out.2.2.2).mono ?_
  rintro e w1 ⟨rfl, s1⟩
  go_wp2
  exact bodyPost_end (results_none rfl _ _ _) rfl ⟨rfl, s1⟩
set_option maxRecDepth 100000 in
set_option maxHeartbeats 2000000 in
theorem rwrite06 {W0 w : World} {L : List Assn} {m : Bool} {pp : Option Addr} {n cap b : Nat} {pv : Value} (p : Option Nat) (rs : List Run3) (msg P : List Byte) (hP : P.length = n) (hn : n ≤ 1000000000) (hm : msg.length ≤ 1000000000) (hp : pv = ptrO p) (hb : tot rs + msg.length + n ≤ 4611686018427387904) (hl : rs.length ≤ 4294967296) (hs : Sat W0 w (rledO p rs :: bytes m pp P :: rst b msg :: L)) :
    Calls Tryz.prog 42 #[.pointer (some ⟨b, 0, none⟩), pv, .slice pp n cap] w fun e w' => e = .returned (.int .i64 0) ∧ Sat W0 w' (rledO p (noteN rs 2 128 ((msg.length + n) / 128 - msg.length / 128)) :: bytes m pp P :: rst b (msg ++ P) :: L) := by
  obtain ⟨q, c, hqc, hqm, s1⟩ := rstOpen (show Sat W0 w (rst b msg :: rledO p rs :: bytes m pp P :: L) from hs.pull 2)
  clear hs
  obtain ⟨k, hk⟩ : ∃ k, k = msg.length := ⟨_, rfl⟩
  rw [← hk] at s1 hm hb ⊢
  have c0 := s1.at 0 rfl
  have z0 := s1.lt (by simp)
  have f0 := s1.fr 0 (by simp)
  have s2 : Sat W0 w (row none 0 1 0 (u8s []) :: bytes false q msg :: seg true b 0 [.slice q k c, .bool true] :: rledO p rs :: bytes m pp P :: L) := (s1.pick [1]).rowNil 1
  have hkd : (k : Int) / 128 = ((k / 128 : Nat) : Int) := by omega
  have hkd2 : (k : Int).tdiv 128 = ((k / 128 : Nat) : Int) := by rw [Int.tdiv_eq_ediv_of_nonneg (by omega)]; exact hkd
  have hkd3 : ((k + n : Nat) : Int) / 128 = (((k + n) / 128 : Nat) : Int) := by omega
  have hkd4 : ((k : Int) + (n : Int)) / 128 = (((k + n) / 128 : Nat) : Int) := by omega
  have hkd5 : ((k : Int) + (n : Int)).tdiv 128 = (((k + n) / 128 : Nat) : Int) := by rw [Int.tdiv_eq_ediv_of_nonneg (by omega)]; exact hkd4
  obtain ⟨D, hD⟩ : ∃ D, D = k / 128 := ⟨_, rfl⟩
  obtain ⟨D2, hD2⟩ : ∃ D2, D2 = (k + n) / 128 := ⟨_, rfl⟩
  have hDD : D ≤ D2 := by rw [hD, hD2]; omega
  have hDb : D2 ≤ k + n := by rw [hD2]; omega
  rw [← hD] at hkd hkd2 ⊢
  rw [← hD2] at hkd3 hkd4 hkd5 ⊢
  have HP := Lib.hid (And.intro hP (And.intro hp (And.intro hb (And.intro hl (And.intro hk (And.intro hDD hDb)))))); clear hP hp hb hl hk hD hD2
  go_enter Tryz.func42, Tryz.ntmps42
  go_wp2_with fail
  refine (rmade06 (by (repeat (first | with_reducible apply Sat.sub (s1) | with_reducible apply Sat.alloc' | with_reducible apply Sat.drew | with_reducible apply Sat.drewN)); (repeat (first | with_reducible exact Fr.done | with_reducible exact Fr.nil | (with_reducible apply Fr.cons; (focus ((repeat (first | with_reducible exact Take.here | with_reducible apply Take.there)); done))) | with_reducible apply Fr.skip)); done)).mono ?_
  rintro e w1 ⟨rfl, rfl⟩
  clear s1
  go_wp2_with (first | (at_builtin; refine wpl_app8 (xs := []) rfl (.tmp 20) (.tmp 24) rfl rfl rfl s2 HP.out.2.2.2.2.1.symm (by omega) ?_; intro pa ca wa sa; rw [Nat.zero_add, List.nil_append] at sa; clear s2 c0 z0 f0; have sb : Sat W0 wa (row pa ca 1 k (u8s msg) :: bytes m pp P :: seg true b 0 [.slice q k c, .bool true] :: rledO p rs :: L) := (by (repeat (first | with_reducible apply Sat.sub (sa) | with_reducible apply Sat.alloc' | with_reducible apply Sat.drew | with_reducible apply Sat.drewN)); (repeat (first | with_reducible exact Fr.done | with_reducible exact Fr.nil | (with_reducible apply Fr.cons; (focus ((repeat (first | with_reducible exact Take.here | with_reducible apply Take.there)); done))) | with_reducible apply Fr.skip)); done); have c0 := ((Sat.sub (sa) (by with_reducible repeat first | exact Fr1 | exact Fr2 | (apply Fr3; focus ((repeat (first | exact Tk1 | apply Tk2)); done)) | apply Fr4)) : Sat W0 wa (seg true b 0 [.slice q k c, .bool true] :: [])).at 0 rfl; have z0 := ((Sat.sub (sa) (by with_reducible repeat first | exact Fr1 | exact Fr2 | (apply Fr3; focus ((repeat (first | exact Tk1 | apply Tk2)); done)) | apply Fr4)) : Sat W0 wa (seg true b 0 [.slice q k c, .bool true] :: [])).lt (by simp); have f0 := ((Sat.sub (sa) (by with_reducible repeat first | exact Fr1 | exact Fr2 | (apply Fr3; focus ((repeat (first | exact Tk1 | apply Tk2)); done)) | apply Fr4)) : Sat W0 wa (seg true b 0 [.slice q k c, .bool true] :: [])).fr 0 (by simp)) | (at_builtin; refine wpl_app8 rfl (.tmp 27) (.tmp 28) rfl rfl rfl sb HP.out.1 (by omega) ?_; intro pb cb wb sc; clear c0 z0 f0; have c0 := ((Sat.sub (sc) (by with_reducible repeat first | exact Fr1 | exact Fr2 | (apply Fr3; focus ((repeat (first | exact Tk1 | apply Tk2)); done)) | apply Fr4)) : Sat W0 wb (seg true b 0 [.slice q k c, .bool true] :: [])).at 0 rfl; have z0 := ((Sat.sub (sc) (by with_reducible repeat first | exact Fr1 | exact Fr2 | (apply Fr3; focus ((repeat (first | exact Tk1 | apply Tk2)); done)) | apply Fr4)) : Sat W0 wb (seg true b 0 [.slice q k c, .bool true] :: [])).lt (by simp); have f0 := ((Sat.sub (sc) (by with_reducible repeat first | exact Fr1 | exact Fr2 | (apply Fr3; focus ((repeat (first | exact Tk1 | apply Tk2)); done)) | apply Fr4)) : Sat W0 wb (seg true b 0 [.slice q k c, .bool true] :: [])).fr 0 (by simp)))
  have sd : Sat W0 _ (seg true b 0 [.slice pb (k + n) cb, .bool true] :: row pb cb 1 (k + n) (u8s (msg ++ P)) :: bytes m pp P :: rledO p rs :: L) := ((Sat.sub (sc) (by with_reducible repeat first | exact Fr1 | exact Fr2 | (apply Fr3; focus ((repeat (first | exact Tk1 | apply Tk2)); done)) | apply Fr4)) : Sat W0 wb (seg true b 0 [.slice q k c, .bool true] :: row pb cb 1 (k + n) (u8s (msg ++ P)) :: bytes m pp P :: rledO p rs :: L)).store (i := 0) (by simp) (.slice pb (k + n) cb) (q := 0) rfl
  clear sc sb sa
  refine (rblocksO6 p rs (D2 - D) HP.out.2.1 (by have := HP.out.2.2.2.2.2.1; omega) (by (repeat (first | with_reducible apply Sat.sub (sd) | with_reducible apply Sat.alloc' | with_reducible apply Sat.drew | with_reducible apply Sat.drewN)); (repeat (first | with_reducible exact Fr.done | with_reducible exact Fr.nil | (with_reducible apply Fr.cons; (focus ((repeat (first | with_reducible exact Take.here | with_reducible apply Take.there)); done))) | with_reducible apply Fr.skip)); done) (by have := HP.out.2.2.1; have := HP.out.2.2.2.2.2.2; omega) HP.out.2.2.2.1).mono ?_
  rintro e w7 ⟨rfl, sf⟩
  clear sd c0 z0 f0
  go_wp2
  go_ret
  refine ⟨rfl, ?_⟩
  obtain ⟨-, hx1, hx2, sh⟩ := rowBytes (show Sat W0 _ (row pb cb 1 (k + n) (u8s (msg ++ P)) :: seg true b 0 [.slice pb (k + n) cb, .bool true] :: rledO p (noteN rs 2 128 (D2 - D)) :: bytes m pp P :: L) from (by (repeat (first | with_reducible apply Sat.sub (sf) | with_reducible apply Sat.alloc' | with_reducible apply Sat.drew | with_reducible apply Sat.drewN)); (repeat (first | with_reducible exact Fr.done | with_reducible exact Fr.nil | (with_reducible apply Fr.cons; (focus ((repeat (first | with_reducible exact Take.here | with_reducible apply Take.there)); done))) | with_reducible apply Fr.skip)); done))
  have si := rstShut (by rw [List.length_append, HP.out.1, ← HP.out.2.2.2.2.1]) hx1 hx2 (show Sat W0 _ (seg true b 0 [.slice pb (k + n) cb, .bool true] :: bytes true pb (msg ++ P) :: rledO p (noteN rs 2 128 (D2 - D)) :: bytes m pp P :: L) from sh.pull 1)
  exact (by (repeat (first | with_reducible apply Sat.sub (si) | with_reducible apply Sat.alloc' | with_reducible apply Sat.drew | with_reducible apply Sat.drewN)); (repeat (first | with_reducible exact Fr.done | with_reducible exact Fr.nil | (with_reducible apply Fr.cons; (focus ((repeat (first | with_reducible exact Take.here | with_reducible apply Take.there)); done))) | with_reducible apply Fr.skip)); done)
set_option maxRecDepth 100000 in
set_option maxHeartbeats 2000000 in
theorem rstsum06 {W0 w : World} {L : List Assn} {b n : Nat} {pv : Value} (p : Option Nat) (rs : List Run3) (msg : List Byte) (hn : msg.length = n) (hm : n ≤ 1000000000) (hp : pv = ptrO p) (hb : tot rs + n + 1000 ≤ 4611686018427387904) (hl : rs.length ≤ 4294967296) (hs : Sat W0 w (rledO p rs :: rst b msg :: L)) :
    Calls Tryz.prog 44 #[.pointer (some ⟨b, 0, none⟩), pv] w fun e w' => ∃ q c, e = .returned (.tuple #[.slice q 64 c, .int .i64 0]) ∧ Sat W0 w' (row q c 1 64 (u8s (hash true msg)) :: rledO p (noteN rs 2 128 (lastN true n)) :: rst b msg :: L) := by
  obtain ⟨q, c, hqc, hqm, s1⟩ := rstOpen (show Sat W0 w (rst b msg :: rledO p rs :: L) from hs.pull 1)
  clear hs
  have hlv : ((padN true n : Nat) : Int) - ((n / 128 : Nat) : Int) = ((lastN true n : Nat) : Int) := by simp only [lastN, padN, roomN, bsz]; omega
  have hll := lastN_le true n
  obtain ⟨N, hN⟩ : ∃ N, N = lastN true n := ⟨_, rfl⟩
  rw [hn] at s1 hqc
  rw [← hN] at hlv hll ⊢
  have HQ := Lib.hid (And.intro hn (And.intro hqc hqm)); clear hqc hqm
  have c0 := s1.at 0 rfl
  have z0 := s1.lt (by simp)
  have h5 := fun w : World => rlast06 w n hm
  rw [hlv] at h5
  have HP := Lib.hid (And.intro hn (And.intro hp (And.intro hb (And.intro hl (And.intro hll h5))))); clear hn hp hb hl hll h5 hN hlv
  have hK : ∀ wx X, Sat W0 wx (seg true b 0 [.slice q n c, .bool true] :: X) → wx.cell? ⟨b, 0, none⟩ = some (.slice q n c) ∧ b < wx.heap.size := fun wx X h => ⟨h.at 0 rfl, h.lt (by simp)⟩
  have HK := Lib.hid hK; clear hK
  go_enter Tryz.func44, Tryz.ntmps44
  go_wp2_with fail
  refine (rmade06 (by (repeat (first | with_reducible apply Sat.sub (s1) | with_reducible apply Sat.alloc' | with_reducible apply Sat.drew | with_reducible apply Sat.drewN)); (repeat (first | with_reducible exact Fr.done | with_reducible exact Fr.nil | (with_reducible apply Fr.cons; (focus ((repeat (first | with_reducible exact Take.here | with_reducible apply Take.there)); done))) | with_reducible apply Fr.skip)); done)).mono ?_
  rintro e w1 ⟨rfl, rfl⟩
  go_wp2_with fail
  refine (HP.out.2.2.2.2.2 _).mono ?_
  rintro e w8 ⟨rfl, rfl⟩
  go_wp2_with fail
  refine (rblocksO6 p rs N HP.out.2.1 rfl (by (repeat (first | with_reducible apply Sat.sub (s1) | with_reducible apply Sat.alloc' | with_reducible apply Sat.drew | with_reducible apply Sat.drewN)); (repeat (first | with_reducible exact Fr.done | with_reducible exact Fr.nil | (with_reducible apply Fr.cons; (focus ((repeat (first | with_reducible exact Take.here | with_reducible apply Take.there)); done))) | with_reducible apply Fr.skip)); done) (by have := HP.out.2.2.1; have := HP.out.2.2.2.2.1; omega) HP.out.2.2.2.1).mono ?_
  rintro e w7 ⟨rfl, sf'⟩
  have sf : Sat W0 w7 (seg true b 0 [.slice q n c, .bool true] :: bytes false q msg :: rledO p (noteN rs 2 128 N) :: L) := (by (repeat (first | with_reducible apply Sat.sub (sf') | with_reducible apply Sat.alloc' | with_reducible apply Sat.drew | with_reducible apply Sat.drewN)); (repeat (first | with_reducible exact Fr.done | with_reducible exact Fr.nil | (with_reducible apply Fr.cons; (focus ((repeat (first | with_reducible exact Take.here | with_reducible apply Take.there)); done))) | with_reducible apply Fr.skip)); done)
  clear sf' s1 c0 z0
  obtain ⟨d0, d1⟩ := HK.out _ _ sf
  go_wp2_with fail
  refine (rdigest512 msg HP.out.1 hm (by (repeat (first | with_reducible apply Sat.sub (sf) | with_reducible apply Sat.alloc' | with_reducible apply Sat.drew | with_reducible apply Sat.drewN)); (repeat (first | with_reducible exact Fr.done | with_reducible exact Fr.nil | (with_reducible apply Fr.cons; (focus ((repeat (first | with_reducible exact Take.here | with_reducible apply Take.there)); done))) | with_reducible apply Fr.skip)); done)).mono ?_
  rintro e w9 ⟨q9, c9, rfl, s9⟩
  clear d0 d1 sf
  go_wp2
  refine bodyPost_ret (v := .tuple #[.slice q9 _ c9, .int .i64 0]) (by simp [results, Tryz.results44, go_sem]) rfl ⟨q9, c9, rfl, ?_⟩
  have si := rstShut HQ.out.1 HQ.out.2.1 HQ.out.2.2 (show Sat W0 _ (seg true b 0 [.slice q n c, .bool true] :: bytes false q msg :: row q9 c9 1 64 (u8s (hash true msg)) :: rledO p (noteN rs 2 128 N) :: L) from (by (repeat (first | with_reducible apply Sat.sub (s9) | with_reducible apply Sat.alloc' | with_reducible apply Sat.drew | with_reducible apply Sat.drewN)); (repeat (first | with_reducible exact Fr.done | with_reducible exact Fr.nil | (with_reducible apply Fr.cons; (focus ((repeat (first | with_reducible exact Take.here | with_reducible apply Take.there)); done))) | with_reducible apply Fr.skip)); done))
  exact (by (repeat (first | with_reducible apply Sat.sub (si) | with_reducible apply Sat.alloc' | with_reducible apply Sat.drew | with_reducible apply Sat.drewN)); (repeat (first | with_reducible exact Fr.done | with_reducible exact Fr.nil | (with_reducible apply Fr.cons; (focus ((repeat (first | with_reducible exact Take.here | with_reducible apply Take.there)); done))) | with_reducible apply Fr.skip)); done)
set_option maxHeartbeats 2000000 in
theorem rclone05 {W0 w : World} {L : List Assn} {b : Nat} (msg : List Byte) (hm : msg.length ≤ 1000000000) (hs : Sat W0 w (rst b msg :: L)) :
    Calls Tryz.prog 45 #[.pointer (some ⟨b, 0, none⟩)] w fun e w' => ∃ c, e = .returned (.tuple #[.pointer (some ⟨c, 0, none⟩), .int .i64 0]) ∧ Sat W0 w' (rst c msg :: rst b msg :: L) := by
  obtain ⟨q, c, hqc, hqm, s1⟩ := rstOpen hs
  clear hs
  obtain ⟨k, hk⟩ : ∃ k, k = msg.length := ⟨_, rfl⟩
  rw [← hk] at s1 hm hqc
  have c0 := s1.at 0 rfl
  have z0 := s1.lt (by simp)
  have s2 : Sat W0 w (row none 0 1 0 (u8s []) :: bytes false q msg :: seg true b 0 [.slice q k c, .bool true] :: L) := (s1.pick [1]).rowNil 1
  have HP := Lib.hid (And.intro hk.symm (And.intro hqc hqm)); clear hk hqc hqm
  go_enter Tryz.func45, Tryz.ntmps45
  go_wp2_with fail
  refine (rnone05 s1).mono ?_
  rintro e w1 ⟨rfl, rfl⟩
  clear s1
  go_wp2_with (at_builtin; refine wpl_app8 (xs := []) rfl (.const (.slice none 0 0)) (.tmp 9) rfl rfl rfl s2 HP.out.1 (by omega) ?_; intro pa ca wa sa; rw [Nat.zero_add, List.nil_append] at sa; clear s2 c0 z0)
  obtain ⟨-, hx1, hx2, sb⟩ := rowBytes sa
  have sc := sb.alloc #[.slice pa k ca, .bool true] 115
  have sd := rstShut HP.out.1 hx1 hx2 sc
  have se := rstShut HP.out.1 HP.out.2.1 HP.out.2.2 (show Sat W0 _ (seg true b 0 [.slice q k c, .bool true] :: bytes false q msg :: rst wa.heap.size msg :: L) from (Sat.sub (sd) (by with_reducible repeat first | exact Fr1 | exact Fr2 | (apply Fr3; focus ((repeat (first | exact Tk1 | apply Tk2)); done)) | apply Fr4)))
  have HS := Lib.hid se; clear se sd sc sb sa hx1 hx2
  refine bodyPost_ret (v := .tuple #[.pointer (some ⟨wa.heap.size, 0, none⟩), .int .i64 0]) (by simp [results, Tryz.results45, go_sem, asAddr]) rfl ⟨wa.heap.size, rfl, ?_⟩
  exact (Sat.sub (HS.out) (by with_reducible repeat first | exact Fr1 | exact Fr2 | (apply Fr3; focus ((repeat (first | exact Tk1 | apply Tk2)); done)) | apply Fr4))
set_option maxHeartbeats 2000000 in
theorem rclone06 {W0 w : World} {L : List Assn} {b : Nat} (msg : List Byte) (hm : msg.length ≤ 1000000000) (hs : Sat W0 w (rst b msg :: L)) :
    Calls Tryz.prog 46 #[.pointer (some ⟨b, 0, none⟩)] w fun e w' => ∃ c, e = .returned (.tuple #[.pointer (some ⟨c, 0, none⟩), .int .i64 0]) ∧ Sat W0 w' (rst c msg :: rst b msg :: L) := by
  obtain ⟨q, c, hqc, hqm, s1⟩ := rstOpen hs
  clear hs
  obtain ⟨k, hk⟩ : ∃ k, k = msg.length := ⟨_, rfl⟩
  rw [← hk] at s1 hm hqc
  have c0 := s1.at 0 rfl
  have z0 := s1.lt (by simp)
  have HP := Lib.hid (And.intro hk.symm (And.intro hqc hqm)); clear hk hqc hqm
  go_enter Tryz.func46, Tryz.ntmps46
  go_wp2_with fail
  refine (rmade06 s1).mono ?_
  rintro e w1 ⟨rfl, rfl⟩
  go_wp2
  have s2 := bytesDup (show Sat W0 w1 (bytes false q msg :: seg true b 0 [.slice q k c, .bool true] :: L) from s1.pull 1)
  have sc := s2.alloc #[.slice q k c, .bool true] 116
  have sd := rstShut HP.out.1 HP.out.2.1 HP.out.2.2 sc
  have se := rstShut HP.out.1 HP.out.2.1 HP.out.2.2 (show Sat W0 _ (seg true b 0 [.slice q k c, .bool true] :: bytes false q msg :: rst w1.heap.size msg :: L) from (Sat.sub (sd) (by with_reducible repeat first | exact Fr1 | exact Fr2 | (apply Fr3; focus ((repeat (first | exact Tk1 | apply Tk2)); done)) | apply Fr4)))
  have HS := Lib.hid se; clear se sd sc s2 c0 z0 s1
  refine bodyPost_ret (v := .tuple #[.pointer (some ⟨w1.heap.size, 0, none⟩), .int .i64 0]) (by simp [results, Tryz.results46, go_sem, asAddr]) rfl ⟨w1.heap.size, rfl, ?_⟩
  exact (Sat.sub (HS.out) (by with_reducible repeat first | exact Fr1 | exact Fr2 | (apply Fr3; focus ((repeat (first | exact Tk1 | apply Tk2)); done)) | apply Fr4))
/-- A state of the document's that was wiped. -/
def rsgone (b : Nat) : Assn := seg true b 0 [.slice none 0 0, .bool false]
set_option maxHeartbeats 1000000 in
theorem rnoteOne {W0 w : World} {L : List Assn} {pv : Value} (p : Option Nat) (rs : List Run3) (k s : Int) (hp : pv = ptrO p) (hs : Sat W0 w (rledO p rs :: L)) (hb : tot rs + 1 ≤ 4611686018427387904) (hl : rs.length ≤ 4294967296) :
    Calls Tryz.prog 65 #[pv, .agg #[.int .u8 k, .int .i64 s]] w fun e w' => e = .returned (.tuple #[]) ∧ Sat W0 w' (rledO p (noteN rs k s 1) :: L) := by
  have hc := rnoteO (nv := 1) p rs k s 1 hp rfl ((hs.alloc #[.int .u8 k, .int .i64 s] 59).tail) hb hl
  have HC := Lib.hid hc; clear hc hb hp
  go_enter Tryz.func65, Tryz.ntmps65
  go_wp2_with fail
  refine HC.out.mono ?_
  rintro e w1 ⟨rfl, s1⟩
  go_wp2
  exact bodyPost_end (results_none rfl _ _ _) rfl ⟨rfl, s1⟩
set_option maxHeartbeats 2000000 in
theorem rwipe05 {W0 w : World} {L : List Assn} {b : Nat} {pv : Value} (p : Option Nat) (rs : List Run3) (msg : List Byte) (hp : pv = ptrO p) (hb : tot rs + 1 ≤ 4611686018427387904) (hl : rs.length ≤ 4294967296) (hs : Sat W0 w (rledO p rs :: rst b msg :: L)) :
    Calls Tryz.prog 47 #[.pointer (some ⟨b, 0, none⟩), pv] w fun e w' => e = .returned (.int .i64 0) ∧ Sat W0 w' (rledO p (noteN rs 8 104 1) :: rsgone b :: L) := by
  obtain ⟨q, c, hqc, hqm, s1⟩ := rstOpen (show Sat W0 w (rst b msg :: rledO p rs :: L) from hs.pull 1)
  clear hs hqc hqm
  obtain ⟨k, hk⟩ : ∃ k, k = msg.length := ⟨_, rfl⟩
  rw [← hk] at s1
  have c0 := s1.at 0 rfl
  have c1 := s1.at 1 rfl
  have z0 := s1.lt (by simp)
  have f0 := s1.fr 0 (by simp)
  have f1 := s1.fr 1 (by simp)
  have s2 : Sat W0 _ (rsgone b :: _) := (s1.store (i := 0) (by simp) (.slice none 0 0) (q := 0) rfl).store (i := 1) (by simp) (.bool false) (q := 1) rfl
  have HP := Lib.hid (And.intro hp (And.intro hb (And.intro hl s2))); clear hp hb hl s2 hk
  go_enter Tryz.func47, Tryz.ntmps47
  go_wp2_with fail
  refine (rnone05 s1).mono ?_
  rintro e w1 ⟨rfl, rfl⟩
  clear s1
  go_wp2_with fail
  have s3 := HP.out.2.2.2
  refine (rnoteOne p rs 8 104 HP.out.1 (by (repeat (first | with_reducible apply Sat.sub (s3) | with_reducible apply Sat.alloc' | with_reducible apply Sat.drew | with_reducible apply Sat.drewN)); (repeat (first | with_reducible exact Fr.done | with_reducible exact Fr.nil | (with_reducible apply Fr.cons; (focus ((repeat (first | with_reducible exact Take.here | with_reducible apply Take.there)); done))) | with_reducible apply Fr.skip)); done) HP.out.2.1 HP.out.2.2.1).mono ?_
  rintro e w2 ⟨rfl, s4⟩
  clear s3 c0 c1 f0 f1 z0
  go_wp2
  go_ret
  exact ⟨rfl, (Sat.sub (s4) (by with_reducible repeat first | exact Fr1 | exact Fr2 | (apply Fr3; focus ((repeat (first | exact Tk1 | apply Tk2)); done)) | apply Fr4))⟩
set_option maxHeartbeats 2000000 in
theorem rwipe06 {W0 w : World} {L : List Assn} {b : Nat} {pv : Value} (p : Option Nat) (rs : List Run3) (msg : List Byte) (hp : pv = ptrO p) (hb : tot rs + 1 ≤ 4611686018427387904) (hl : rs.length ≤ 4294967296) (hs : Sat W0 w (rledO p rs :: rst b msg :: L)) :
    Calls Tryz.prog 48 #[.pointer (some ⟨b, 0, none⟩), pv] w fun e w' => e = .returned (.int .i64 0) ∧ Sat W0 w' (rledO p (noteN rs 8 200 1) :: rsgone b :: L) := by
  obtain ⟨q, c, hqc, hqm, s1⟩ := rstOpen (show Sat W0 w (rst b msg :: rledO p rs :: L) from hs.pull 1)
  clear hs hqc hqm
  obtain ⟨k, hk⟩ : ∃ k, k = msg.length := ⟨_, rfl⟩
  rw [← hk] at s1
  have HP := Lib.hid (And.intro hp (And.intro hb hl)); clear hp hb hl hk
  go_enter Tryz.func48, Tryz.ntmps48
  go_wp2_with fail
  refine (rmade06 s1).mono ?_
  rintro e w1 ⟨rfl, rfl⟩
  go_wp2_with fail
  refine (rnoteOne p rs 8 200 HP.out.1 (by first | exact (by (repeat (first | with_reducible apply Sat.sub (s1) | with_reducible apply Sat.alloc' | with_reducible apply Sat.drew | with_reducible apply Sat.drewN)); (repeat (first | with_reducible exact Fr.done | with_reducible exact Fr.nil | (with_reducible apply Fr.cons; (focus ((repeat (first | with_reducible exact Take.here | with_reducible apply Take.there)); done))) | with_reducible apply Fr.skip)); done) | exact (by (repeat (first | with_reducible apply Sat.sub ((s1.alloc' _)) | with_reducible apply Sat.alloc' | with_reducible apply Sat.drew | with_reducible apply Sat.drewN)); (repeat (first | with_reducible exact Fr.done | with_reducible exact Fr.nil | (with_reducible apply Fr.cons; (focus ((repeat (first | with_reducible exact Take.here | with_reducible apply Take.there)); done))) | with_reducible apply Fr.skip)); done)) HP.out.2.1 HP.out.2.2).mono ?_
  rintro e w2 ⟨rfl, s4'⟩
  have s4 : Sat W0 w2 (seg true b 0 [.slice q k c, .bool true] :: rledO p (noteN rs 8 200 1) :: L) := (by (repeat (first | with_reducible apply Sat.sub (s4') | with_reducible apply Sat.alloc' | with_reducible apply Sat.drew | with_reducible apply Sat.drewN)); (repeat (first | with_reducible exact Fr.done | with_reducible exact Fr.nil | (with_reducible apply Fr.cons; (focus ((repeat (first | with_reducible exact Take.here | with_reducible apply Take.there)); done))) | with_reducible apply Fr.skip)); done)
  clear s1 s4'
  have c0 := s4.at 0 rfl
  have c1 := s4.at 1 rfl
  have z0 := s4.lt (by simp)
  have f0 := s4.fr 0 (by simp)
  have f1 := s4.fr 1 (by simp)
  have s5 : Sat W0 _ (rsgone b :: _) := (s4.store (i := 0) (by simp) (.slice none 0 0) (q := 0) rfl).store (i := 1) (by simp) (.bool false) (q := 1) rfl
  have HS := Lib.hid s5; clear s5 s4
  go_wp2
  go_ret
  have s6 := HS.out
  exact ⟨rfl, (by (repeat (first | with_reducible apply Sat.sub (s6) | with_reducible apply Sat.alloc' | with_reducible apply Sat.drew | with_reducible apply Sat.drewN)); (repeat (first | with_reducible exact Fr.done | with_reducible exact Fr.nil | (with_reducible apply Fr.cons; (focus ((repeat (first | with_reducible exact Take.here | with_reducible apply Take.there)); done))) | with_reducible apply Fr.skip)); done)⟩
end Go.Proofs.YtlmababpmmhhoaaGreat

/- The document's forms of both hash functions, and the states behind one face; under the conditions that each names. -/
namespace Go.Proofs.YtlmababpmmhhoaaGreat
open Go.RowKit Go.Sep Go.Bv Go.Sha
set_option linter.unusedVariables false
set_option linter.unusedSimpArgs false
set_option maxRecDepth 100000 in
set_option maxHeartbeats 2000000 in
theorem rwords256Nil {W0 w : World} {L : List Assn} {q : Option Addr} {cap : Nat} (hs : Sat W0 w L) :
    Calls Tryz.prog 75 #[.slice q 0 cap] w fun e w' => e = .returned (.agg (u32s H256).toArray) ∧ Sat W0 w' L := by
  go_enter Tryz.func75, Tryz.ntmps75
  go_wp2_with (refine wpl_alloc_agg rfl 103 rfl hs _ (zero_a8u32 _) ?_; intro w1 gr s1 _; clear hs)
  refine (rbegin256 s1).mono ?_
  rintro e w2 ⟨rfl, s2⟩
  clear s1
  go_wp2_with (first | (refine wpl_alloc_agg rfl 103 rfl s2 _ (zero_a8u32 _) ?_; intro w3 gh s3 _; clear s2) | (refine wpl_store_agg rfl rfl 103 (.tmp 3) (.tmp 5) rfl (cs := u32s H256) s3 0 0 Tryz.size_a8u32 rfl rfl rfl (by rw [u32s_len, u32s_len, H256_len', nought8_len]; decide) (u32s_one _) ?_; intro w4 s4; rw [setL_all _ _ (by rw [u32s_len, u32s_len, H256_len', nought8_len])] at s4; clear s3))
  go_loopw [4] (fun t4 wr => t4 = .int .i64 0 ∧ Sat W0 wr (seg true gh 0 (u32s H256) :: seg true gr 0 (u32s nought8) :: L)) (fun t4 _ => 0)
  case atStart => exact ⟨rfl, s4⟩
  case round =>
    clear s4
    obtain ⟨rfl, s⟩ := hrel
    have sr : Sat W0 wr (seg true gr 0 (u32s nought8) :: _) := s.pull 1
    go_wp2_with (first | (refine wpl_load_agg rfl 103 (.tmp 3) rfl Tryz.underlying103 rfl (n := 8) (by kernel_rfl) s 0 0 rfl rfl (by rw [u32s_len, H256_len']; exact Nat.le_refl _) ?_) | (refine wpl_store_agg rfl rfl 103 (.tmp 2) (.tmp 17) rfl (cs := u32s H256) sr 0 0 Tryz.size_a8u32 rfl (show Value.agg (List.take 8 (u32s H256)).toArray = Value.agg (u32s H256).toArray by rw [List.take_of_length_le (by rw [u32s_len, H256_len']; exact Nat.le_refl _)]) rfl (by rw [u32s_len, u32s_len, H256_len', nought8_len]; decide) (u32s_one _) ?_; intro w12 s12))
    rw [setL_all _ _ (by rw [u32s_len, u32s_len, H256_len', nought8_len])] at s12
    refine bodyPost_ret (v := .agg (u32s H256).toArray) ?_ rfl ⟨rfl, ?_⟩
    · have hr := run_loadVar_agg (P := Tryz.prog) (ty := 103) Tryz.underlying103 rfl Tryz.size_a8u32 s12 0 0 rfl (by simp [u32s_len, H256_len'])
      rw [List.drop_zero, List.take_of_length_le (by simp [u32s_len, H256_len'])] at hr
      simp [results, Tryz.results75, asAddr]; exact hr
    · exact (s12.drop 0).drop 0
set_option maxRecDepth 100000 in
set_option maxHeartbeats 2000000 in
theorem rwords512Nil {W0 w : World} {L : List Assn} {q : Option Addr} {cap : Nat} (hs : Sat W0 w L) :
    Calls Tryz.prog 79 #[.slice q 0 cap] w fun e w' => e = .returned (.agg (u64s H512).toArray) ∧ Sat W0 w' L := by
  go_enter Tryz.func79, Tryz.ntmps79
  go_wp2_with (refine wpl_alloc_agg rfl 109 rfl hs _ (zero_a8u64 _) ?_; intro w1 gr s1 _; clear hs)
  refine (rbegin512 s1).mono ?_
  rintro e w2 ⟨rfl, s2⟩
  clear s1
  go_wp2_with (first | (refine wpl_alloc_agg rfl 109 rfl s2 _ (zero_a8u64 _) ?_; intro w3 gh s3 _; clear s2) | (refine wpl_store_agg rfl rfl 109 (.tmp 3) (.tmp 5) rfl (cs := u64s H512) s3 0 0 Tryz.size_a8u64 rfl rfl rfl (by rw [u64s_len, u64s_len, H512_len', zero8_len]; decide) (u64s_one _) ?_; intro w4 s4; rw [setL_all _ _ (by rw [u64s_len, u64s_len, H512_len', zero8_len])] at s4; clear s3))
  go_loopw [4] (fun t4 wr => t4 = .int .i64 0 ∧ Sat W0 wr (seg true gh 0 (u64s H512) :: seg true gr 0 (u64s zero8) :: L)) (fun t4 _ => 0)
  case atStart => exact ⟨rfl, s4⟩
  case round =>
    clear s4
    obtain ⟨rfl, s⟩ := hrel
    have sr : Sat W0 wr (seg true gr 0 (u64s zero8) :: _) := s.pull 1
    go_wp2_with (first | (refine wpl_load_agg rfl 109 (.tmp 3) rfl Tryz.underlying109 rfl (n := 8) (by kernel_rfl) s 0 0 rfl rfl (by rw [u64s_len, H512_len']; exact Nat.le_refl _) ?_) | (refine wpl_store_agg rfl rfl 109 (.tmp 2) (.tmp 20) rfl (cs := u64s H512) sr 0 0 Tryz.size_a8u64 rfl (show Value.agg (List.take 8 (u64s H512)).toArray = Value.agg (u64s H512).toArray by rw [List.take_of_length_le (by rw [u64s_len, H512_len']; exact Nat.le_refl _)]) rfl (by rw [u64s_len, u64s_len, H512_len', zero8_len]; decide) (u64s_one _) ?_; intro w12 s12))
    rw [setL_all _ _ (by rw [u64s_len, u64s_len, H512_len', zero8_len])] at s12
    refine bodyPost_ret (v := .agg (u64s H512).toArray) ?_ rfl ⟨rfl, ?_⟩
    · have hr := run_loadVar_agg (P := Tryz.prog) (ty := 109) Tryz.underlying109 rfl Tryz.size_a8u64 s12 0 0 rfl (by simp [u64s_len, H512_len'])
      rw [List.drop_zero, List.take_of_length_le (by simp [u64s_len, H512_len'])] at hr
      simp [results, Tryz.results79, asAddr]; exact hr
    · exact (s12.drop 0).drop 0
/-- The words of any bytes, which may be none. -/
theorem rwords256B {W0 w : World} {L : List Assn} {q : Option Addr} {n cap : Nat} (P : List Byte) (hP : P.length = n) (hn : n ≤ 1000000000000) (hs : Sat W0 w (bytes false q P :: L)) :
    Calls Tryz.prog 75 #[.slice q n cap] w fun e w' => e = .returned (.agg (u32s (blocks256 H256 P (n / 64))).toArray) ∧ Sat W0 w' (bytes false q P :: L) := by
  by_cases h0 : P = []
  · subst h0
    obtain rfl : n = 0 := hP.symm
    exact rwords256Nil hs
  · obtain ⟨b, o, rfl, s⟩ := bytesCell hs h0
    refine (rwords256 P hP hn s).mono ?_
    rintro e w' ⟨rfl, s'⟩
    exact ⟨rfl, bytesOf s'⟩
theorem rwords512B {W0 w : World} {L : List Assn} {q : Option Addr} {n cap : Nat} (P : List Byte) (hP : P.length = n) (hn : n ≤ 1000000000000) (hc : n ≤ cap) (hcm : cap ≤ maxLen) (hs : Sat W0 w (bytes false q P :: L)) :
    Calls Tryz.prog 79 #[.slice q n cap] w fun e w' => e = .returned (.agg (u64s (blocks512 H512 P (n / 128))).toArray) ∧ Sat W0 w' (bytes false q P :: L) := by
  by_cases h0 : P = []
  · subst h0
    obtain rfl : n = 0 := hP.symm
    exact rwords512Nil hs
  · obtain ⟨b, o, rfl, s⟩ := bytesCell hs h0
    exact rwords512 P hP hn hc hcm hs
theorem restOf_drop (B : Nat) (msg : List Byte) (D n : Nat) (h : msg.length = n) (hD : D = n / B) : msg.drop (D * B) = restOf B msg := by
  unfold restOf; rw [h, hD, Nat.mul_comm]
set_option maxRecDepth 100000 in
set_option maxHeartbeats 2000000 in
theorem rform05 {W0 w : World} {L : List Assn} {q : Option Addr} {n cap : Nat} (P : List Byte) (hP : P.length = n) (hn : n ≤ 1000000000) (hc : n ≤ cap) (hcm : cap ≤ maxLen) (hs : Sat W0 w (bytes false q P :: L)) :
    Calls Tryz.prog 66 #[.slice q n cap] w fun e w' => ∃ p c, e = .returned (.slice p 104 c) ∧ Sat W0 w' (row p c 1 104 (u8s (form256 P)) :: bytes false q P :: L) := by
  unfold maxLen at hcm
  have hk1 : (n : Int) / 64 = ((n / 64 : Nat) : Int) := by omega
  have hk2 : (n : Int).tdiv 64 = ((n / 64 : Nat) : Int) := by rw [Int.tdiv_eq_ediv_of_nonneg (by omega)]; exact hk1
  obtain ⟨D, hD⟩ : ∃ D, D = n / 64 := ⟨_, rfl⟩
  obtain ⟨R, hR⟩ : ∃ R, R = n % 64 := ⟨_, rfl⟩
  have hDR : D * 64 + R = n := by rw [hD, hR]; omega
  have hR64 : R < 64 := by rw [hR]; omega
  rw [← hD] at hk1 hk2
  obtain ⟨H, hH⟩ : ∃ H, H = laid 4 (blocks256 H256 P (n / 64)) := ⟨_, rfl⟩
  obtain ⟨T, hT⟩ : ∃ T, T = restOf 64 P := ⟨_, rfl⟩
  have hTl : T.length = R := by rw [hT, restOf_len, hP, hR]
  have hTd : P.drop (D * 64) = T := by rw [hT]; exact restOf_drop 64 P D n hP hD
  have hF : form256 P = H ++ layBE 8 (BitVec.ofNat 64 n) ++ T ++ List.replicate (64 - R) 0 := by
    unfold form256 waitOf; rw [hP, hH, hT, hR, List.append_assoc, List.append_assoc, List.append_assoc]
  have hcv : v64 (BitVec.ofNat 64 n) = (n : Int) := by unfold v64; rw [BitVec.toNat_ofNat, Nat.mod_eq_of_lt (by omega)]
  have hwl := fun (w : World) (L' : List Assn) (s : Sat W0 w L') => rlaid256 (blocks256 H256 P (n / 64)) (blk_len (fun h b hh => comp_len _ _ _ _ _ _ hh) 64 _ _ _ rfl) s
  rw [← hH] at hwl
  obtain ⟨X, hX⟩ : ∃ X, X = BitVec.ofNat 64 n := ⟨_, rfl⟩
  rw [← hX] at hF hcv
  have hw2 := rwords256B (cap := cap) P hP (by omega) hs
  obtain ⟨B, hB⟩ : ∃ B, B = blocks256 H256 P (n / 64) := ⟨_, rfl⟩
  rw [← hB] at hw2 hwl
  have HN := Lib.hid (And.intro hP (And.intro hwl (And.intro hw2 (And.intro hF (And.intro hTl hTd))))); clear hP hwl hw2 hF hTl hTd hH hT hX hD hR hB hs
  have hd1 : (D : Int) * 64 ≤ (n : Int) := by omega
  have hd0 : (0 : Int) ≤ (D : Int) * 64 := by omega
  have hd2 : ((D : Int) * 64).toNat = D * 64 := by omega
  have hd3 : n - D * 64 = R := by omega
  have HCV := Lib.hid hcv; clear hcv
  go_enter Tryz.func66, Tryz.ntmps66
  go_wp2_with fail
  refine HN.out.2.2.1.mono ?_
  rintro e w1 ⟨rfl, s1⟩
  go_wp2_with fail
  refine (HN.out.2.1 _ _ s1).mono ?_
  rintro e w2 ⟨q2, c2, rfl, s2⟩
  clear s1
  go_wp2_with fail
  rw [← HCV.out]
  go_loopw [3, 5] (fun t3 t5 wr => ∃ (j : Nat) (p : Option Addr) (c : Nat), j ≤ 8 ∧ t5 = .int .i64 (j : Int) ∧ t3 = .slice p (32 + j) c ∧ Sat W0 wr (row p c 1 (32 + j) (u8s (H ++ (layBE 8 X).take j)) :: bytes false q P :: L)) (fun _ t5 _ => 8 - (intOf t5).toNat)
  case atStart => exact ⟨0, q2, c2, by omega, rfl, rfl, by rw [List.take_zero, List.append_nil]; exact s2⟩
  case round =>
    clear s2
    obtain ⟨j, p, c, hj, rfl, rfl, s⟩ := hrel
    by_cases hlt : j < 8
    · have b1 : (56 : Int) - 8 * (j : Int) = ((8 * (7 - j) : Nat) : Int) := by omega
      have b2 : (0 : Int) ≤ 56 - 8 * (j : Int) := by omega
      go_wp2_with (at_builtin; refine wpl_app8 rfl (.tmp 16) (.tmp 23) rfl rfl rfl (byteIn (b := (X >>> (8 * (7 - j))).setWidth 8) (by rw [← vlow64, ← vshr64]) s) rfl (by omega) ?_; intro p9 c9 w9 s9)
      go_roundw
      case rel => exact ⟨j + 1, p9, c9, by omega, by go_num, rfl, by rw [layBE_take 8 X j hlt, ← List.append_assoc]; exact s9.drop 1⟩
      case measure => simp [intOf]; omega
    · obtain rfl : j = 8 := by omega
      have e1 : (layBE 8 X).take 8 = layBE 8 X := List.take_of_length_le (by rw [layBE_len]; exact Nat.le_refl _)
      rw [e1] at s
      have hTail : ∀ q' : Option Addr, (0 < n → ∀ b o, q = some ⟨b, o, none⟩ → D * 64 < n → q' = some ⟨b, o + D * 64, none⟩) → Sat W0 wr (row p c 1 40 (u8s (H ++ layBE 8 X)) :: bytes false q' T :: bytes false q P :: L) := by
        intro q' hq'
        by_cases h0 : P = []
        · have hT0 : T = [] := by rw [← HN.out.2.2.2.2.2, h0]; simp
          rw [hT0]
          exact (bytesNil false q' s).pick [1, 0]
        · obtain ⟨b, o, e, s1⟩ := bytesCell (show Sat W0 wr (bytes false q P :: row p c 1 40 (u8s (H ++ layBE 8 X)) :: L) from s.pull 1) h0
          have s2 := bytesDropAny (D * 64) q' (fun h => hq' (by have := HN.out.1; omega) b o e (by rw [HN.out.1] at h; exact h)) (bytesDup (bytesOf s1))
          rw [HN.out.2.2.2.2.2, ← e] at s2
          exact (Sat.sub (s2) (by with_reducible repeat first | exact Fr1 | exact Fr2 | (apply Fr3; focus ((repeat (first | exact Tk1 | apply Tk2)); done)) | apply Fr4))
      have hq3 : (q = none ∧ n = 0) ∨ (∃ a, q = some a ∧ n = 0) ∨ (∃ b o, q = some ⟨b, o, none⟩ ∧ 0 < n) := by
        by_cases h0 : P = []
        · have : n = 0 := by have := HN.out.1; rw [h0] at this; exact this.symm
          cases q with
          | none => exact .inl ⟨rfl, this⟩
          | some a => exact .inr (.inl ⟨a, rfl, this⟩)
        · obtain ⟨b, o, e, _⟩ := bytesCell (show Sat W0 wr (bytes false q P :: row p c 1 40 (u8s (H ++ layBE 8 X)) :: L) from s.pull 1) h0
          refine .inr (.inr ⟨b, o, e, ?_⟩)
          have := HN.out.1
          rcases Nat.eq_zero_or_pos n with h | h
          · exact absurd (List.eq_nil_of_length_eq_zero (this.trans h)) h0
          · exact h
      have HT := Lib.hid hTail; clear hTail s
      have hTl := HN.out.2.2.2.2.1
      rcases hq3 with ⟨rfl, rfl⟩ | ⟨a, rfl, rfl⟩ | ⟨b, o, rfl, hn0⟩
      · obtain ⟨rfl, rfl⟩ : D = 0 ∧ R = 0 := by omega
        have HL := Lib.hid hTl; clear hTl
        go_wp2_with (at_builtin; refine wpl_app8 rfl (.tmp 25) (.tmp 31) rfl rfl rfl (HT.out _ (fun h => absurd h (by decide))) HL.out (by omega) ?_; intro p9 c9 w9 s9)
        go_loopw [3] (fun t3 wr => ∃ (j : Nat) (p : Option Addr) (c : Nat), j ≤ 64 - 0 ∧ t3 = .slice p (40 + 0 + j) c ∧ Sat W0 wr (row p c 1 (40 + 0 + j) (u8s (H ++ layBE 8 X ++ T ++ List.replicate j 0)) :: bytes false none P :: L)) (fun t3 _ => 104 - (match t3 with | .slice _ l _ => l | _ => 0))
        case atStart => exact ⟨0, p9, c9, Nat.zero_le _, rfl, by rw [List.replicate_zero, List.append_nil]; exact s9.drop 1⟩
        case round =>
          clear s9
          obtain ⟨j, p, c, hj, rfl, s⟩ := hrel
          obtain ⟨k, hk⟩ : ∃ k, k = 40 + 0 + j := ⟨_, rfl⟩
          rw [← hk] at s ⊢
          by_cases hlt : j < 64 - 0
          · have hlt' : (k : Int) < 104 := by omega
            have HK := Lib.hid hk; clear hk
            go_wp2_with (at_builtin; refine wpl_app8 rfl (.tmp 36) (.tmp 37) rfl rfl rfl (byteIn (b := 0) (by rfl) s) rfl (by omega) ?_; intro p9 c9 w9 s9)
            go_roundw
            case rel => exact ⟨j + 1, p9, c9, by omega, by rw [show k + 1 = 40 + 0 + (j + 1) from by have := HK.out; omega], by rw [show 40 + 0 + (j + 1) = k + 1 from by have := HK.out; omega, List.replicate_succ', ← List.append_assoc]; exact s9.drop 1⟩
            case measure => have := HK.out; simp; omega
          · obtain rfl : j = 64 - 0 := by omega
            obtain rfl : k = 104 := by omega
            go_wp2
            go_ret
            exact ⟨p, c, rfl, by rw [HN.out.2.2.2.1]; exact s⟩
      · obtain ⟨rfl, rfl⟩ : D = 0 ∧ R = 0 := by omega
        have HL := Lib.hid hTl; clear hTl
        go_wp2_with (at_builtin; refine wpl_app8 rfl (.tmp 25) (.tmp 31) rfl rfl rfl (HT.out _ (fun h => absurd h (by decide))) HL.out (by omega) ?_; intro p9 c9 w9 s9)
        go_loopw [3] (fun t3 wr => ∃ (j : Nat) (p : Option Addr) (c : Nat), j ≤ 64 - 0 ∧ t3 = .slice p (40 + 0 + j) c ∧ Sat W0 wr (row p c 1 (40 + 0 + j) (u8s (H ++ layBE 8 X ++ T ++ List.replicate j 0)) :: bytes false (some a) P :: L)) (fun t3 _ => 104 - (match t3 with | .slice _ l _ => l | _ => 0))
        case atStart => exact ⟨0, p9, c9, Nat.zero_le _, rfl, by rw [List.replicate_zero, List.append_nil]; exact s9.drop 1⟩
        case round =>
          clear s9
          obtain ⟨j, p, c, hj, rfl, s⟩ := hrel
          obtain ⟨k, hk⟩ : ∃ k, k = 40 + 0 + j := ⟨_, rfl⟩
          rw [← hk] at s ⊢
          by_cases hlt : j < 64 - 0
          · have hlt' : (k : Int) < 104 := by omega
            have HK := Lib.hid hk; clear hk
            go_wp2_with (at_builtin; refine wpl_app8 rfl (.tmp 36) (.tmp 37) rfl rfl rfl (byteIn (b := 0) (by rfl) s) rfl (by omega) ?_; intro p9 c9 w9 s9)
            go_roundw
            case rel => exact ⟨j + 1, p9, c9, by omega, by rw [show k + 1 = 40 + 0 + (j + 1) from by have := HK.out; omega], by rw [show 40 + 0 + (j + 1) = k + 1 from by have := HK.out; omega, List.replicate_succ', ← List.append_assoc]; exact s9.drop 1⟩
            case measure => have := HK.out; simp; omega
          · obtain rfl : j = 64 - 0 := by omega
            obtain rfl : k = 104 := by omega
            go_wp2
            go_ret
            exact ⟨p, c, rfl, by rw [HN.out.2.2.2.1]; exact s⟩
      · by_cases hcd : cap = D * 64
        · skip
          have HL := Lib.hid hTl; clear hTl
          go_wp2_with (at_builtin; refine wpl_app8 rfl (.tmp 25) (.tmp 31) rfl rfl rfl (HT.out _ (fun _ b' o' e h => absurd h (by omega))) HL.out (by omega) ?_; intro p9 c9 w9 s9)
          go_loopw [3] (fun t3 wr => ∃ (j : Nat) (p : Option Addr) (c : Nat), j ≤ 64 - R ∧ t3 = .slice p (40 + R + j) c ∧ Sat W0 wr (row p c 1 (40 + R + j) (u8s (H ++ layBE 8 X ++ T ++ List.replicate j 0)) :: bytes false (some ⟨b, o, none⟩) P :: L)) (fun t3 _ => 104 - (match t3 with | .slice _ l _ => l | _ => 0))
          case atStart => exact ⟨0, p9, c9, Nat.zero_le _, rfl, by rw [List.replicate_zero, List.append_nil]; exact s9.drop 1⟩
          case round =>
            clear s9
            obtain ⟨j, p, c, hj, rfl, s⟩ := hrel
            obtain ⟨k, hk⟩ : ∃ k, k = 40 + R + j := ⟨_, rfl⟩
            rw [← hk] at s ⊢
            by_cases hlt : j < 64 - R
            · have hlt' : (k : Int) < 104 := by omega
              have HK := Lib.hid hk; clear hk
              go_wp2_with (at_builtin; refine wpl_app8 rfl (.tmp 36) (.tmp 37) rfl rfl rfl (byteIn (b := 0) (by rfl) s) rfl (by omega) ?_; intro p9 c9 w9 s9)
              go_roundw
              case rel => exact ⟨j + 1, p9, c9, by omega, by rw [show k + 1 = 40 + R + (j + 1) from by have := HK.out; omega], by rw [show 40 + R + (j + 1) = k + 1 from by have := HK.out; omega, List.replicate_succ', ← List.append_assoc]; exact s9.drop 1⟩
              case measure => have := HK.out; simp; omega
            · obtain rfl : j = 64 - R := by omega
              obtain rfl : k = 104 := by omega
              go_wp2
              go_ret
              exact ⟨p, c, rfl, by rw [HN.out.2.2.2.1]; exact s⟩
        · skip
          have HL := Lib.hid hTl; clear hTl
          go_wp2_with (at_builtin; refine wpl_app8 rfl (.tmp 25) (.tmp 31) rfl rfl rfl (HT.out _ (fun _ b' o' e h => by cases e; rfl)) HL.out (by omega) ?_; intro p9 c9 w9 s9)
          go_loopw [3] (fun t3 wr => ∃ (j : Nat) (p : Option Addr) (c : Nat), j ≤ 64 - R ∧ t3 = .slice p (40 + R + j) c ∧ Sat W0 wr (row p c 1 (40 + R + j) (u8s (H ++ layBE 8 X ++ T ++ List.replicate j 0)) :: bytes false (some ⟨b, o, none⟩) P :: L)) (fun t3 _ => 104 - (match t3 with | .slice _ l _ => l | _ => 0))
          case atStart => exact ⟨0, p9, c9, Nat.zero_le _, rfl, by rw [List.replicate_zero, List.append_nil]; exact s9.drop 1⟩
          case round =>
            clear s9
            obtain ⟨j, p, c, hj, rfl, s⟩ := hrel
            obtain ⟨k, hk⟩ : ∃ k, k = 40 + R + j := ⟨_, rfl⟩
            rw [← hk] at s ⊢
            by_cases hlt : j < 64 - R
            · have hlt' : (k : Int) < 104 := by omega
              have HK := Lib.hid hk; clear hk
              go_wp2_with (at_builtin; refine wpl_app8 rfl (.tmp 36) (.tmp 37) rfl rfl rfl (byteIn (b := 0) (by rfl) s) rfl (by omega) ?_; intro p9 c9 w9 s9)
              go_roundw
              case rel => exact ⟨j + 1, p9, c9, by omega, by rw [show k + 1 = 40 + R + (j + 1) from by have := HK.out; omega], by rw [show 40 + R + (j + 1) = k + 1 from by have := HK.out; omega, List.replicate_succ', ← List.append_assoc]; exact s9.drop 1⟩
              case measure => have := HK.out; simp; omega
            · obtain rfl : j = 64 - R := by omega
              obtain rfl : k = 104 := by omega
              go_wp2
              go_ret
              exact ⟨p, c, rfl, by rw [HN.out.2.2.2.1]; exact s⟩
set_option maxRecDepth 100000 in
set_option maxHeartbeats 2000000 in
theorem rform06 {W0 w : World} {L : List Assn} {q : Option Addr} {n cap : Nat} (P : List Byte) (hP : P.length = n) (hn : n ≤ 1000000000) (hc : n ≤ cap) (hcm : cap ≤ maxLen) (hs : Sat W0 w (bytes false q P :: L)) :
    Calls Tryz.prog 67 #[.slice q n cap] w fun e w' => ∃ p c, e = .returned (.slice p 200 c) ∧ Sat W0 w' (row p c 1 200 (u8s (form512 P)) :: bytes false q P :: L) := by
  have hw2 := rwords512B (cap := cap) P hP (by omega) hc hcm hs
  unfold maxLen at hcm
  have hk1 : (n : Int) / 128 = ((n / 128 : Nat) : Int) := by omega
  have hk2 : (n : Int).tdiv 128 = ((n / 128 : Nat) : Int) := by rw [Int.tdiv_eq_ediv_of_nonneg (by omega)]; exact hk1
  obtain ⟨D, hD⟩ : ∃ D, D = n / 128 := ⟨_, rfl⟩
  obtain ⟨R, hR⟩ : ∃ R, R = n % 128 := ⟨_, rfl⟩
  have hDR : D * 128 + R = n := by rw [hD, hR]; omega
  have hR64 : R < 128 := by rw [hR]; omega
  rw [← hD] at hk1 hk2
  obtain ⟨H, hH⟩ : ∃ H, H = laid 8 (blocks512 H512 P (n / 128)) := ⟨_, rfl⟩
  obtain ⟨T, hT⟩ : ∃ T, T = restOf 128 P := ⟨_, rfl⟩
  have hTl : T.length = R := by rw [hT, restOf_len, hP, hR]
  have hTd : P.drop (D * 128) = T := by rw [hT]; exact restOf_drop 128 P D n hP hD
  have hF : form512 P = H ++ layBE 8 (BitVec.ofNat 64 n) ++ T ++ List.replicate (128 - R) 0 := by
    unfold form512 waitOf; rw [hP, hH, hT, hR, List.append_assoc, List.append_assoc, List.append_assoc]
  have hcv : v64 (BitVec.ofNat 64 n) = (n : Int) := by unfold v64; rw [BitVec.toNat_ofNat, Nat.mod_eq_of_lt (by omega)]
  have hwl := fun (w : World) (L' : List Assn) (s : Sat W0 w L') => rlaid512 (blocks512 H512 P (n / 128)) (blk_len (fun h b hh => comp_len _ _ _ _ _ _ hh) 128 _ _ _ rfl) s
  rw [← hH] at hwl
  obtain ⟨X, hX⟩ : ∃ X, X = BitVec.ofNat 64 n := ⟨_, rfl⟩
  rw [← hX] at hF hcv
  obtain ⟨B, hB⟩ : ∃ B, B = blocks512 H512 P (n / 128) := ⟨_, rfl⟩
  rw [← hB] at hw2 hwl
  have HN := Lib.hid (And.intro hP (And.intro hwl (And.intro hw2 (And.intro hF (And.intro hTl hTd))))); clear hP hwl hw2 hF hTl hTd hH hT hX hD hR hB hs
  have hd1 : (D : Int) * 128 ≤ (n : Int) := by omega
  have hd0 : (0 : Int) ≤ (D : Int) * 128 := by omega
  have hd2 : ((D : Int) * 128).toNat = D * 128 := by omega
  have hd3 : n - D * 128 = R := by omega
  have HCV := Lib.hid hcv; clear hcv
  go_enter Tryz.func67, Tryz.ntmps67
  go_wp2_with fail
  refine HN.out.2.2.1.mono ?_
  rintro e w1 ⟨rfl, s1⟩
  go_wp2_with fail
  refine (HN.out.2.1 _ _ s1).mono ?_
  rintro e w2 ⟨q2, c2, rfl, s2⟩
  clear s1
  go_wp2_with fail
  refine (rnumber64 X HCV.out.symm s2).mono ?_
  rintro e w3 ⟨q3, c3, rfl, s3⟩
  clear s2
  obtain ⟨-, -, -, s4⟩ := rowBytes s3
  have s5 : Sat W0 w3 (row q2 c2 1 64 (u8s H) :: bytes true q3 (layBE 8 X) :: bytes false q P :: L) := (Sat.sub (s4) (by with_reducible repeat first | exact Fr1 | exact Fr2 | (apply Fr3; focus ((repeat (first | exact Tk1 | apply Tk2)); done)) | apply Fr4))
  clear s3 s4
  have hX8 : (layBE 8 X).length = 8 := layBE_len _ _
  have HX := Lib.hid hX8; clear hX8
  have hq3 : (q = none ∧ n = 0) ∨ (∃ a, q = some a ∧ n = 0) ∨ (∃ b o, q = some ⟨b, o, none⟩ ∧ 0 < n) := by
    by_cases h0 : P = []
    · have : n = 0 := by have := HN.out.1; rw [h0] at this; exact this.symm
      cases q with
      | none => exact .inl ⟨rfl, this⟩
      | some a => exact .inr (.inl ⟨a, rfl, this⟩)
    · obtain ⟨b, o, e, _⟩ := bytesCell ((Sat.sub (s5) (by with_reducible repeat first | exact Fr1 | exact Fr2 | (apply Fr3; focus ((repeat (first | exact Tk1 | apply Tk2)); done)) | apply Fr4)) : Sat W0 w3 (bytes false q P :: [])) h0
      refine .inr (.inr ⟨b, o, e, ?_⟩)
      have := HN.out.1
      rcases Nat.eq_zero_or_pos n with h | h
      · exact absurd (List.eq_nil_of_length_eq_zero (this.trans h)) h0
      · exact h
  have hTail : ∀ (w' : World) (pa : Option Addr) (ca : Nat) (q' : Option Addr), (0 < n → ∀ b o, q = some ⟨b, o, none⟩ → D * 128 < n → q' = some ⟨b, o + D * 128, none⟩) → Sat W0 w' (row pa ca 1 (64 + 8) (u8s (H ++ layBE 8 X)) :: bytes true q3 (layBE 8 X) :: bytes false q P :: L) → Sat W0 w' (row pa ca 1 (64 + 8) (u8s (H ++ layBE 8 X)) :: bytes false q' T :: bytes false q P :: L) := by
    intro w' pa ca q' hq' s
    by_cases h0 : P = []
    · have hT0 : T = [] := by rw [← HN.out.2.2.2.2.2, h0]; simp
      rw [hT0]
      exact (bytesNil false q' (s.drop 1)).pick [1, 0]
    · obtain ⟨b, o, e, s1⟩ := bytesCell ((Sat.sub (s) (by with_reducible repeat first | exact Fr1 | exact Fr2 | (apply Fr3; focus ((repeat (first | exact Tk1 | apply Tk2)); done)) | apply Fr4)) : Sat W0 w' (bytes false q P :: row pa ca 1 (64 + 8) (u8s (H ++ layBE 8 X)) :: L)) h0
      have s2 := bytesDropAny (D * 128) q' (fun h => hq' (by have := HN.out.1; omega) b o e (by rw [HN.out.1] at h; exact h)) (bytesDup (bytesOf s1))
      rw [HN.out.2.2.2.2.2, ← e] at s2
      exact (Sat.sub (s2) (by with_reducible repeat first | exact Fr1 | exact Fr2 | (apply Fr3; focus ((repeat (first | exact Tk1 | apply Tk2)); done)) | apply Fr4))
  have HT := Lib.hid hTail; clear hTail
  have hTl := HN.out.2.2.2.2.1
  rcases hq3 with ⟨rfl, rfl⟩ | ⟨a, rfl, rfl⟩ | ⟨b, o, rfl, hn0⟩
  · obtain ⟨rfl, rfl⟩ : D = 0 ∧ R = 0 := by omega
    have HL := Lib.hid hTl; clear hTl
    go_wp2_with (first | (at_builtin; refine wpl_app8 rfl (.tmp 7) (.tmp 11) rfl rfl rfl s5 HX.out (by omega) ?_; intro pa ca wa sa) | (at_builtin; refine wpl_app8 rfl (.tmp 13) (.tmp 19) rfl rfl rfl (HT.out _ _ _ _ (fun h => absurd h (by decide)) sa) HL.out (by omega) ?_; intro p9 c9 w9 s9) | (at_builtin; refine wpl_appz8 rfl (.tmp 21) (.tmp 24) rfl (128 - 0) rfl (by first | rfl | exact congrArg (Value.int .i64) (by omega)) s9 (by omega) (by omega) (by omega) ?_; intro p8 c8 w8 s8))
    have HS := Lib.hid s8; clear s8
    go_ret
    exact ⟨p8, c8, by first | rfl | exact congrArg (fun x => Ending.returned (Value.slice p8 x c8)) (show 64 + 8 + 0 + (128 - 0) = 200 by omega) | exact congrArg (fun x => Ending.returned (Value.slice p8 x c8)) (show 72 + 0 + (128 - 0) = 200 by omega), by have s8 := HS.out; rw [show 64 + 8 + 0 + (128 - 0) = 200 from by omega] at s8; rw [HN.out.2.2.2.1]; exact s8.drop 1⟩
  · obtain ⟨rfl, rfl⟩ : D = 0 ∧ R = 0 := by omega
    have HL := Lib.hid hTl; clear hTl
    go_wp2_with (first | (at_builtin; refine wpl_app8 rfl (.tmp 7) (.tmp 11) rfl rfl rfl s5 HX.out (by omega) ?_; intro pa ca wa sa) | (at_builtin; refine wpl_app8 rfl (.tmp 13) (.tmp 19) rfl rfl rfl (HT.out _ _ _ _ (fun h => absurd h (by decide)) sa) HL.out (by omega) ?_; intro p9 c9 w9 s9) | (at_builtin; refine wpl_appz8 rfl (.tmp 21) (.tmp 24) rfl (128 - 0) rfl (by first | rfl | exact congrArg (Value.int .i64) (by omega)) s9 (by omega) (by omega) (by omega) ?_; intro p8 c8 w8 s8))
    have HS := Lib.hid s8; clear s8
    go_ret
    exact ⟨p8, c8, by first | rfl | exact congrArg (fun x => Ending.returned (Value.slice p8 x c8)) (show 64 + 8 + 0 + (128 - 0) = 200 by omega) | exact congrArg (fun x => Ending.returned (Value.slice p8 x c8)) (show 72 + 0 + (128 - 0) = 200 by omega), by have s8 := HS.out; rw [show 64 + 8 + 0 + (128 - 0) = 200 from by omega] at s8; rw [HN.out.2.2.2.1]; exact s8.drop 1⟩
  · have HL := Lib.hid hTl; clear hTl
    by_cases hcd : cap = D * 128
    · skip
      go_wp2_with (first | (at_builtin; refine wpl_app8 rfl (.tmp 7) (.tmp 11) rfl rfl rfl s5 HX.out (by omega) ?_; intro pa ca wa sa) | (at_builtin; refine wpl_app8 rfl (.tmp 13) (.tmp 19) rfl rfl rfl (HT.out _ _ _ _ (fun _ b' o' e h => absurd h (by omega)) sa) HL.out (by omega) ?_; intro p9 c9 w9 s9) | (at_builtin; refine wpl_appz8 rfl (.tmp 21) (.tmp 24) rfl (128 - R) rfl (by first | rfl | exact congrArg (Value.int .i64) (by omega)) s9 (by omega) (by omega) (by omega) ?_; intro p8 c8 w8 s8))
      have HS := Lib.hid s8; clear s8
      go_ret
      exact ⟨p8, c8, by first | rfl | exact congrArg (fun x => Ending.returned (Value.slice p8 x c8)) (show 64 + 8 + R + (128 - R) = 200 by omega) | exact congrArg (fun x => Ending.returned (Value.slice p8 x c8)) (show 72 + R + (128 - R) = 200 by omega), by have s8 := HS.out; rw [show 64 + 8 + R + (128 - R) = 200 from by omega] at s8; rw [HN.out.2.2.2.1]; exact s8.drop 1⟩
    · skip
      go_wp2_with (first | (at_builtin; refine wpl_app8 rfl (.tmp 7) (.tmp 11) rfl rfl rfl s5 HX.out (by omega) ?_; intro pa ca wa sa) | (at_builtin; refine wpl_app8 rfl (.tmp 13) (.tmp 19) rfl rfl rfl (HT.out _ _ _ _ (fun _ b' o' e h => by cases e; rfl) sa) HL.out (by omega) ?_; intro p9 c9 w9 s9) | (at_builtin; refine wpl_appz8 rfl (.tmp 21) (.tmp 24) rfl (128 - R) rfl (by first | rfl | exact congrArg (Value.int .i64) (by omega)) s9 (by omega) (by omega) (by omega) ?_; intro p8 c8 w8 s8))
      have HS := Lib.hid s8; clear s8
      go_ret
      exact ⟨p8, c8, by first | rfl | exact congrArg (fun x => Ending.returned (Value.slice p8 x c8)) (show 64 + 8 + R + (128 - R) = 200 by omega) | exact congrArg (fun x => Ending.returned (Value.slice p8 x c8)) (show 72 + R + (128 - R) = 200 by omega), by have s8 := HS.out; rw [show 64 + 8 + R + (128 - R) = 200 from by omega] at s8; rw [HN.out.2.2.2.1]; exact s8.drop 1⟩
end Go.Proofs.YtlmababpmmhhoaaGreat

/- The document's states behind one face: New, Write, Sum, Copy, Wipe, Form, of states that live and of ones that were wiped; under the conditions that each names. -/
namespace Go.Proofs.YtlmababpmmhhoaaGreat
open Go.RowKit Go.Sep Go.Bv Go.Sha
set_option linter.unusedVariables false
set_option linter.unusedSimpArgs false
/-- What leads to the state of one of both functions. -/
def rptrs : Bool → Nat → List Value
  | false, c => [.pointer (some ⟨c, 0, none⟩), .pointer none]
  | true, c => [.pointer none, .pointer (some ⟨c, 0, none⟩)]
def rs11 (wide : Bool) (b : Nat) (msg : List Byte) : Assn := fun x => ∃ c, sep (seg true b 0 (rptrs wide c)) (rst c msg) x
def rg11 (wide : Bool) (b : Nat) : Assn := fun x => ∃ c, sep (seg true b 0 (rptrs wide c)) (rsgone c) x
theorem rs11Open {W0 w : World} {L : List Assn} {wide : Bool} {b : Nat} {msg : List Byte} (h : Sat W0 w (rs11 wide b msg :: L)) : ∃ c, Sat W0 w (seg true b 0 (rptrs wide c) :: rst c msg :: L) := by
  obtain ⟨c, h1⟩ := h.exOpen
  exact ⟨c, h1.sepOpen⟩
theorem rs11Shut {W0 w : World} {L : List Assn} {wide : Bool} {b c : Nat} {msg : List Byte} (h : Sat W0 w (seg true b 0 (rptrs wide c) :: rst c msg :: L)) : Sat W0 w (rs11 wide b msg :: L) :=
  Sat.exShut (A := fun c : Nat => sep (seg true b 0 (rptrs wide c)) (rst c msg)) c h.sepShut
theorem rg11Open {W0 w : World} {L : List Assn} {wide : Bool} {b : Nat} (h : Sat W0 w (rg11 wide b :: L)) : ∃ c, Sat W0 w (seg true b 0 (rptrs wide c) :: rsgone c :: L) := by
  obtain ⟨c, h1⟩ := h.exOpen
  exact ⟨c, h1.sepOpen⟩
theorem rg11Shut {W0 w : World} {L : List Assn} {wide : Bool} {b c : Nat} (h : Sat W0 w (seg true b 0 (rptrs wide c) :: rsgone c :: L)) : Sat W0 w (rg11 wide b :: L) :=
  Sat.exShut (A := fun c : Nat => sep (seg true b 0 (rptrs wide c)) (rsgone c)) c h.sepShut
set_option maxHeartbeats 1000000 in
theorem rs11New {W0 w : World} {L : List Assn} (wide : Bool) (hs : Sat W0 w L) : Calls Tryz.prog 20 #[.agg (rcells wide).toArray] w fun e w' => ∃ b, e = .returned (.pointer (some ⟨b, 0, none⟩)) ∧ Sat W0 w' (rs11 wide b [] :: L) := by
  cases wide
  · simp only [rcells]
    go_enter Tryz.func20, Tryz.ntmps20
    go_wp2_with fail
    refine (rnew05 (hs.alloc' _)).mono ?_
    rintro e w1 ⟨c, rfl, s1⟩
    go_wp2
    go_ret
    exact ⟨_, rfl, rs11Shut (wide := false) (c := c) (s1.alloc #[.pointer (some ⟨c, 0, none⟩), .pointer none] 96)⟩
  · simp only [rcells]
    go_enter Tryz.func20, Tryz.ntmps20
    go_wp2_with fail
    refine (rnew06 (hs.alloc' _)).mono ?_
    rintro e w1 ⟨c, rfl, s1⟩
    go_wp2
    go_ret
    exact ⟨_, rfl, rs11Shut (wide := true) (c := c) (s1.alloc #[.pointer none, .pointer (some ⟨c, 0, none⟩)] 96)⟩
theorem rptrsCell {W0 w : World} {L : List Assn} {wide : Bool} {b c : Nat} (h : Sat W0 w (seg true b 0 (rptrs wide c) :: L)) : b < w.heap.size ∧ w.cell? ⟨b, 0, none⟩ = some ((rptrs wide c).getD 0 undef) ∧ w.cell? ⟨b, 1, none⟩ = some ((rptrs wide c).getD 1 undef) := by
  cases wide
  · exact ⟨h.lt (by simp [rptrs]), h.at 0 rfl, h.at 1 rfl⟩
  · exact ⟨h.lt (by simp [rptrs]), h.at 0 rfl, h.at 1 rfl⟩
set_option maxHeartbeats 1000000 in
theorem rs11Write {W0 w : World} {L : List Assn} {m : Bool} {pp : Option Addr} {n cap b : Nat} {pv : Value} (wide : Bool) (p : Option Nat) (rs : List Run3) (msg P : List Byte) (hP : P.length = n) (hn : n ≤ 1000000000) (hm : msg.length ≤ 1000000000) (hp : pv = ptrO p) (hb : tot rs + msg.length + n ≤ 4611686018427387904) (hl : rs.length ≤ 4294967296) (hs : Sat W0 w (rledO p rs :: bytes m pp P :: rs11 wide b msg :: L)) :
    Calls Tryz.prog 23 #[.pointer (some ⟨b, 0, none⟩), pv, .slice pp n cap] w fun e w' => e = .returned (.int .i64 0) ∧ Sat W0 w' (rledO p (noteN rs (evK wide) (evS wide) ((msg.length + n) / bsz wide - msg.length / bsz wide)) :: bytes m pp P :: rs11 wide b (msg ++ P) :: L) := by
  obtain ⟨c, s1⟩ := rs11Open (show Sat W0 w (rs11 wide b msg :: rledO p rs :: bytes m pp P :: L) from hs.pull 2)
  clear hs
  obtain ⟨z0, c0, c1⟩ := rptrsCell s1
  cases wide
  · have hc := rwrite05 (cap := cap) p rs msg P hP hn hm hp hb hl (show Sat W0 w (rledO p rs :: bytes m pp P :: rst c msg :: seg true b 0 (rptrs false c) :: L) from (by (repeat (first | with_reducible apply Sat.sub (s1) | with_reducible apply Sat.alloc' | with_reducible apply Sat.drew | with_reducible apply Sat.drewN)); (repeat (first | with_reducible exact Fr.done | with_reducible exact Fr.nil | (with_reducible apply Fr.cons; (focus ((repeat (first | with_reducible exact Take.here | with_reducible apply Take.there)); done))) | with_reducible apply Fr.skip)); done))
    simp only [rptrs, List.getD_cons_zero, List.getD_cons_succ] at c0 c1
    have HC := Lib.hid hc; clear hc s1 hP hn hm hp hb hl
    go_enter Tryz.func23, Tryz.ntmps23
    go_wp2_with fail
    refine HC.out.mono ?_
    rintro e w1 ⟨rfl, s2⟩
    clear c0 c1 z0
    go_wp2
    go_ret
    have s3 := rs11Shut (wide := false) (show Sat W0 w1 (seg true b 0 (rptrs false c) :: rst c (msg ++ P) :: rledO p (noteN rs 1 64 ((msg.length + n) / 64 - msg.length / 64)) :: bytes m pp P :: L) from (by (repeat (first | with_reducible apply Sat.sub (s2) | with_reducible apply Sat.alloc' | with_reducible apply Sat.drew | with_reducible apply Sat.drewN)); (repeat (first | with_reducible exact Fr.done | with_reducible exact Fr.nil | (with_reducible apply Fr.cons; (focus ((repeat (first | with_reducible exact Take.here | with_reducible apply Take.there)); done))) | with_reducible apply Fr.skip)); done))
    exact ⟨rfl, s3.pick [1, 2]⟩
  · have hc := rwrite06 (cap := cap) p rs msg P hP hn hm hp hb hl (show Sat W0 w (rledO p rs :: bytes m pp P :: rst c msg :: seg true b 0 (rptrs true c) :: L) from (by (repeat (first | with_reducible apply Sat.sub (s1) | with_reducible apply Sat.alloc' | with_reducible apply Sat.drew | with_reducible apply Sat.drewN)); (repeat (first | with_reducible exact Fr.done | with_reducible exact Fr.nil | (with_reducible apply Fr.cons; (focus ((repeat (first | with_reducible exact Take.here | with_reducible apply Take.there)); done))) | with_reducible apply Fr.skip)); done))
    simp only [rptrs, List.getD_cons_zero, List.getD_cons_succ] at c0 c1
    have HC := Lib.hid hc; clear hc s1 hP hn hm hp hb hl
    go_enter Tryz.func23, Tryz.ntmps23
    go_wp2_with fail
    refine HC.out.mono ?_
    rintro e w1 ⟨rfl, s2⟩
    clear c0 c1 z0
    go_wp2
    go_ret
    have s3 := rs11Shut (wide := true) (show Sat W0 w1 (seg true b 0 (rptrs true c) :: rst c (msg ++ P) :: rledO p (noteN rs 2 128 ((msg.length + n) / 128 - msg.length / 128)) :: bytes m pp P :: L) from (by (repeat (first | with_reducible apply Sat.sub (s2) | with_reducible apply Sat.alloc' | with_reducible apply Sat.drew | with_reducible apply Sat.drewN)); (repeat (first | with_reducible exact Fr.done | with_reducible exact Fr.nil | (with_reducible apply Fr.cons; (focus ((repeat (first | with_reducible exact Take.here | with_reducible apply Take.there)); done))) | with_reducible apply Fr.skip)); done))
    exact ⟨rfl, s3.pick [1, 2]⟩
set_option maxHeartbeats 1000000 in
theorem rs11Sum {W0 w : World} {L : List Assn} {b n : Nat} {pv : Value} (wide : Bool) (p : Option Nat) (rs : List Run3) (msg : List Byte) (hn : msg.length = n) (hm : n ≤ 1000000000) (hp : pv = ptrO p) (hb : tot rs + n + 1000 ≤ 4611686018427387904) (hl : rs.length ≤ 4294967296) (hs : Sat W0 w (rledO p rs :: rs11 wide b msg :: L)) :
    Calls Tryz.prog 26 #[.pointer (some ⟨b, 0, none⟩), pv] w fun e w' => ∃ q c, e = .returned (.tuple #[.slice q (hsz wide) c, .int .i64 0]) ∧ Sat W0 w' (row q c 1 (hsz wide) (u8s (hash wide msg)) :: rledO p (noteN rs (evK wide) (evS wide) (lastN wide n)) :: rs11 wide b msg :: L) := by
  obtain ⟨c, s1⟩ := rs11Open (show Sat W0 w (rs11 wide b msg :: rledO p rs :: L) from hs.pull 1)
  clear hs
  obtain ⟨z0, c0, c1⟩ := rptrsCell s1
  cases wide
  · have hc := rstsum05 p rs msg hn hm hp hb hl (show Sat W0 w (rledO p rs :: rst c msg :: seg true b 0 (rptrs false c) :: L) from (by (repeat (first | with_reducible apply Sat.sub (s1) | with_reducible apply Sat.alloc' | with_reducible apply Sat.drew | with_reducible apply Sat.drewN)); (repeat (first | with_reducible exact Fr.done | with_reducible exact Fr.nil | (with_reducible apply Fr.cons; (focus ((repeat (first | with_reducible exact Take.here | with_reducible apply Take.there)); done))) | with_reducible apply Fr.skip)); done))
    simp only [rptrs, List.getD_cons_zero, List.getD_cons_succ] at c0 c1
    have HC := Lib.hid hc; clear hc s1 hm hp hb hl
    go_enter Tryz.func26, Tryz.ntmps26
    go_wp2_with fail
    refine HC.out.mono ?_
    rintro e w1 ⟨q, d, rfl, s2⟩
    clear c0 c1 z0
    go_wp2
    refine bodyPost_ret (v := .tuple #[.slice q (hsz _) d, .int .i64 0]) (by simp [results, Tryz.results26, go_sem, hsz]) rfl ⟨q, d, rfl, ?_⟩
    have s3 := rs11Shut (wide := false) (show Sat W0 w1 (seg true b 0 (rptrs false c) :: rst c msg :: row q d 1 32 (u8s (hash false msg)) :: rledO p (noteN rs 1 64 (lastN false n)) :: L) from (by (repeat (first | with_reducible apply Sat.sub (s2) | with_reducible apply Sat.alloc' | with_reducible apply Sat.drew | with_reducible apply Sat.drewN)); (repeat (first | with_reducible exact Fr.done | with_reducible exact Fr.nil | (with_reducible apply Fr.cons; (focus ((repeat (first | with_reducible exact Take.here | with_reducible apply Take.there)); done))) | with_reducible apply Fr.skip)); done))
    exact s3.pick [1, 2]
  · have hc := rstsum06 p rs msg hn hm hp hb hl (show Sat W0 w (rledO p rs :: rst c msg :: seg true b 0 (rptrs true c) :: L) from (by (repeat (first | with_reducible apply Sat.sub (s1) | with_reducible apply Sat.alloc' | with_reducible apply Sat.drew | with_reducible apply Sat.drewN)); (repeat (first | with_reducible exact Fr.done | with_reducible exact Fr.nil | (with_reducible apply Fr.cons; (focus ((repeat (first | with_reducible exact Take.here | with_reducible apply Take.there)); done))) | with_reducible apply Fr.skip)); done))
    simp only [rptrs, List.getD_cons_zero, List.getD_cons_succ] at c0 c1
    have HC := Lib.hid hc; clear hc s1 hm hp hb hl
    go_enter Tryz.func26, Tryz.ntmps26
    go_wp2_with fail
    refine HC.out.mono ?_
    rintro e w1 ⟨q, d, rfl, s2⟩
    clear c0 c1 z0
    go_wp2
    refine bodyPost_ret (v := .tuple #[.slice q (hsz _) d, .int .i64 0]) (by simp [results, Tryz.results26, go_sem, hsz]) rfl ⟨q, d, rfl, ?_⟩
    have s3 := rs11Shut (wide := true) (show Sat W0 w1 (seg true b 0 (rptrs true c) :: rst c msg :: row q d 1 64 (u8s (hash true msg)) :: rledO p (noteN rs 2 128 (lastN true n)) :: L) from (by (repeat (first | with_reducible apply Sat.sub (s2) | with_reducible apply Sat.alloc' | with_reducible apply Sat.drew | with_reducible apply Sat.drewN)); (repeat (first | with_reducible exact Fr.done | with_reducible exact Fr.nil | (with_reducible apply Fr.cons; (focus ((repeat (first | with_reducible exact Take.here | with_reducible apply Take.there)); done))) | with_reducible apply Fr.skip)); done))
    exact s3.pick [1, 2]
set_option maxHeartbeats 1000000 in
theorem rs11Copy {W0 w : World} {L : List Assn} {b : Nat} (wide : Bool) (msg : List Byte) (hm : msg.length ≤ 1000000000) (hs : Sat W0 w (rs11 wide b msg :: L)) :
    Calls Tryz.prog 28 #[.pointer (some ⟨b, 0, none⟩)] w fun e w' => ∃ d, e = .returned (.pointer (some ⟨d, 0, none⟩)) ∧ Sat W0 w' (rs11 wide d msg :: rs11 wide b msg :: L) := by
  obtain ⟨c, s1⟩ := rs11Open hs
  clear hs
  obtain ⟨z0, c0, c1⟩ := rptrsCell s1
  cases wide
  · have hc := rclone05 msg hm (show Sat W0 w (rst c msg :: seg true b 0 (rptrs false c) :: L) from s1.pull 1)
    simp only [rptrs, List.getD_cons_zero, List.getD_cons_succ] at c0 c1
    have HC := Lib.hid hc; clear hc s1 hm
    go_enter Tryz.func28, Tryz.ntmps28
    go_wp2_with fail
    refine HC.out.mono ?_
    rintro e w1 ⟨d, rfl, s2⟩
    clear c0 c1 z0
    have s3 := rs11Shut (wide := false) (show Sat W0 w1 (seg true b 0 (rptrs false c) :: rst c msg :: rst d msg :: L) from (by (repeat (first | with_reducible apply Sat.sub (s2) | with_reducible apply Sat.alloc' | with_reducible apply Sat.drew | with_reducible apply Sat.drewN)); (repeat (first | with_reducible exact Fr.done | with_reducible exact Fr.nil | (with_reducible apply Fr.cons; (focus ((repeat (first | with_reducible exact Take.here | with_reducible apply Take.there)); done))) | with_reducible apply Fr.skip)); done))
    have HS := Lib.hid s3; clear s3 s2
    go_wp2
    go_ret
    have s4 : Sat W0 _ (seg true w1.heap.size 0 (rptrs false d) :: rs11 false b msg :: rst d msg :: L) := HS.out.alloc #[.pointer (some ⟨d, 0, none⟩), .pointer none] 96
    have s5 := rs11Shut (wide := false) (show Sat W0 _ (seg true w1.heap.size 0 (rptrs false d) :: rst d msg :: rs11 false b msg :: L) from s4.pick [0, 2])
    exact ⟨_, rfl, s5⟩
  · have hc := rclone06 msg hm (show Sat W0 w (rst c msg :: seg true b 0 (rptrs true c) :: L) from s1.pull 1)
    simp only [rptrs, List.getD_cons_zero, List.getD_cons_succ] at c0 c1
    have HC := Lib.hid hc; clear hc s1 hm
    go_enter Tryz.func28, Tryz.ntmps28
    go_wp2_with fail
    refine HC.out.mono ?_
    rintro e w1 ⟨d, rfl, s2⟩
    clear c0 c1 z0
    have s3 := rs11Shut (wide := true) (show Sat W0 w1 (seg true b 0 (rptrs true c) :: rst c msg :: rst d msg :: L) from (by (repeat (first | with_reducible apply Sat.sub (s2) | with_reducible apply Sat.alloc' | with_reducible apply Sat.drew | with_reducible apply Sat.drewN)); (repeat (first | with_reducible exact Fr.done | with_reducible exact Fr.nil | (with_reducible apply Fr.cons; (focus ((repeat (first | with_reducible exact Take.here | with_reducible apply Take.there)); done))) | with_reducible apply Fr.skip)); done))
    have HS := Lib.hid s3; clear s3 s2
    go_wp2
    go_ret
    have s4 : Sat W0 _ (seg true w1.heap.size 0 (rptrs true d) :: rs11 true b msg :: rst d msg :: L) := HS.out.alloc #[.pointer none, .pointer (some ⟨d, 0, none⟩)] 96
    have s5 := rs11Shut (wide := true) (show Sat W0 _ (seg true w1.heap.size 0 (rptrs true d) :: rst d msg :: rs11 true b msg :: L) from s4.pick [0, 2])
    exact ⟨_, rfl, s5⟩
set_option maxHeartbeats 1000000 in
theorem rs11Wipe {W0 w : World} {L : List Assn} {b : Nat} {pv : Value} (wide : Bool) (p : Option Nat) (rs : List Run3) (msg : List Byte) (hp : pv = ptrO p) (hb : tot rs + 1 ≤ 4611686018427387904) (hl : rs.length ≤ 4294967296) (hs : Sat W0 w (rledO p rs :: rs11 wide b msg :: L)) :
    Calls Tryz.prog 29 #[.pointer (some ⟨b, 0, none⟩), pv] w fun e w' => e = .returned (.int .i64 0) ∧ Sat W0 w' (rledO p (noteN rs 8 (fsz wide) 1) :: rg11 wide b :: L) := by
  obtain ⟨c, s1⟩ := rs11Open (show Sat W0 w (rs11 wide b msg :: rledO p rs :: L) from hs.pull 1)
  clear hs
  obtain ⟨z0, c0, c1⟩ := rptrsCell s1
  cases wide
  · have hc := rwipe05 p rs msg hp hb hl (show Sat W0 w (rledO p rs :: rst c msg :: seg true b 0 (rptrs false c) :: L) from (by (repeat (first | with_reducible apply Sat.sub (s1) | with_reducible apply Sat.alloc' | with_reducible apply Sat.drew | with_reducible apply Sat.drewN)); (repeat (first | with_reducible exact Fr.done | with_reducible exact Fr.nil | (with_reducible apply Fr.cons; (focus ((repeat (first | with_reducible exact Take.here | with_reducible apply Take.there)); done))) | with_reducible apply Fr.skip)); done))
    simp only [rptrs, List.getD_cons_zero, List.getD_cons_succ] at c0 c1
    have HC := Lib.hid hc; clear hc s1 hp hb hl
    go_enter Tryz.func29, Tryz.ntmps29
    go_wp2_with fail
    refine HC.out.mono ?_
    rintro e w1 ⟨rfl, s2⟩
    clear c0 c1 z0
    go_wp2
    go_ret
    have s3 := rg11Shut (wide := false) (show Sat W0 w1 (seg true b 0 (rptrs false c) :: rsgone c :: rledO p (noteN rs 8 104 1) :: L) from (by (repeat (first | with_reducible apply Sat.sub (s2) | with_reducible apply Sat.alloc' | with_reducible apply Sat.drew | with_reducible apply Sat.drewN)); (repeat (first | with_reducible exact Fr.done | with_reducible exact Fr.nil | (with_reducible apply Fr.cons; (focus ((repeat (first | with_reducible exact Take.here | with_reducible apply Take.there)); done))) | with_reducible apply Fr.skip)); done))
    exact ⟨rfl, s3.pick [1]⟩
  · have hc := rwipe06 p rs msg hp hb hl (show Sat W0 w (rledO p rs :: rst c msg :: seg true b 0 (rptrs true c) :: L) from (by (repeat (first | with_reducible apply Sat.sub (s1) | with_reducible apply Sat.alloc' | with_reducible apply Sat.drew | with_reducible apply Sat.drewN)); (repeat (first | with_reducible exact Fr.done | with_reducible exact Fr.nil | (with_reducible apply Fr.cons; (focus ((repeat (first | with_reducible exact Take.here | with_reducible apply Take.there)); done))) | with_reducible apply Fr.skip)); done))
    simp only [rptrs, List.getD_cons_zero, List.getD_cons_succ] at c0 c1
    have HC := Lib.hid hc; clear hc s1 hp hb hl
    go_enter Tryz.func29, Tryz.ntmps29
    go_wp2_with fail
    refine HC.out.mono ?_
    rintro e w1 ⟨rfl, s2⟩
    clear c0 c1 z0
    go_wp2
    go_ret
    have s3 := rg11Shut (wide := true) (show Sat W0 w1 (seg true b 0 (rptrs true c) :: rsgone c :: rledO p (noteN rs 8 200 1) :: L) from (by (repeat (first | with_reducible apply Sat.sub (s2) | with_reducible apply Sat.alloc' | with_reducible apply Sat.drew | with_reducible apply Sat.drewN)); (repeat (first | with_reducible exact Fr.done | with_reducible exact Fr.nil | (with_reducible apply Fr.cons; (focus ((repeat (first | with_reducible exact Take.here | with_reducible apply Take.there)); done))) | with_reducible apply Fr.skip)); done))
    exact ⟨rfl, s3.pick [1]⟩
end Go.Proofs.YtlmababpmmhhoaaGreat

/- The document's states of layer 11: Form, and all calls of one that was wiped; under the conditions that each names. -/
namespace Go.Proofs.YtlmababpmmhhoaaGreat
open Go.RowKit Go.Sep Go.Bv Go.Sha
set_option linter.unusedVariables false
set_option linter.unusedSimpArgs false
theorem rsform05 {W0 w : World} {L : List Assn} {b : Nat} (msg : List Byte) (hm : msg.length ≤ 1000000000) (hs : Sat W0 w (rst b msg :: L)) :
    Calls Tryz.prog 49 #[.pointer (some ⟨b, 0, none⟩)] w fun e w' => ∃ q c, e = .returned (.slice q 104 c) ∧ Sat W0 w' (row q c 1 104 (u8s (form256 msg)) :: rst b msg :: L) := by
  obtain ⟨q, c, hqc, hqm, s1⟩ := rstOpen hs
  clear hs
  obtain ⟨k, hk⟩ : ∃ k, k = msg.length := ⟨_, rfl⟩
  rw [← hk] at s1 hm hqc
  have c0 := s1.at 0 rfl
  have z0 := s1.lt (by simp)
  have s2 : Sat W0 w (bytes false q msg :: seg true b 0 [.slice q k c, .bool true] :: L) := s1.pull 1
  have HP := Lib.hid (And.intro hk.symm (And.intro hqc hqm)); clear hk hqc hqm
  go_enter Tryz.func49, Tryz.ntmps49
  go_wp2_with fail
  refine (rnone05 s1).mono ?_
  rintro e w1 ⟨rfl, rfl⟩
  clear s1
  go_wp2_with fail
  refine (rform05 msg HP.out.1 hm HP.out.2.1 HP.out.2.2 s2).mono ?_
  rintro e w2 ⟨p9, c9, rfl, s3⟩
  clear c0 z0 s2
  have s4 := rstShut HP.out.1 HP.out.2.1 HP.out.2.2 ((Sat.sub (s3) (by with_reducible repeat first | exact Fr1 | exact Fr2 | (apply Fr3; focus ((repeat (first | exact Tk1 | apply Tk2)); done)) | apply Fr4)) : Sat W0 w2 (seg true b 0 [.slice q k c, .bool true] :: bytes false q msg :: row p9 c9 1 104 (u8s (form256 msg)) :: L))
  have HS := Lib.hid s4; clear s3 s4
  go_wp2_with fail
  go_ret
  exact ⟨p9, c9, rfl, (Sat.sub (HS.out) (by with_reducible repeat first | exact Fr1 | exact Fr2 | (apply Fr3; focus ((repeat (first | exact Tk1 | apply Tk2)); done)) | apply Fr4))⟩
theorem rsform06 {W0 w : World} {L : List Assn} {b : Nat} (msg : List Byte) (hm : msg.length ≤ 1000000000) (hs : Sat W0 w (rst b msg :: L)) :
    Calls Tryz.prog 50 #[.pointer (some ⟨b, 0, none⟩)] w fun e w' => ∃ q c, e = .returned (.slice q 200 c) ∧ Sat W0 w' (row q c 1 200 (u8s (form512 msg)) :: rst b msg :: L) := by
  obtain ⟨q, c, hqc, hqm, s1⟩ := rstOpen hs
  clear hs
  obtain ⟨k, hk⟩ : ∃ k, k = msg.length := ⟨_, rfl⟩
  rw [← hk] at s1 hm hqc
  have c0 := s1.at 0 rfl
  have z0 := s1.lt (by simp)
  have s2 : Sat W0 w (bytes false q msg :: seg true b 0 [.slice q k c, .bool true] :: L) := s1.pull 1
  have HP := Lib.hid (And.intro hk.symm (And.intro hqc hqm)); clear hk hqc hqm
  go_enter Tryz.func50, Tryz.ntmps50
  go_wp2_with fail
  refine (rmade06 s1).mono ?_
  rintro e w1 ⟨rfl, rfl⟩
  clear s1
  go_wp2_with fail
  refine (rform06 msg HP.out.1 hm HP.out.2.1 HP.out.2.2 s2).mono ?_
  rintro e w2 ⟨p9, c9, rfl, s3⟩
  clear c0 z0 s2
  have s4 := rstShut HP.out.1 HP.out.2.1 HP.out.2.2 ((Sat.sub (s3) (by with_reducible repeat first | exact Fr1 | exact Fr2 | (apply Fr3; focus ((repeat (first | exact Tk1 | apply Tk2)); done)) | apply Fr4)) : Sat W0 w2 (seg true b 0 [.slice q k c, .bool true] :: bytes false q msg :: row p9 c9 1 200 (u8s (form512 msg)) :: L))
  have HS := Lib.hid s4; clear s3 s4
  go_wp2_with fail
  go_ret
  exact ⟨p9, c9, rfl, (Sat.sub (HS.out) (by with_reducible repeat first | exact Fr1 | exact Fr2 | (apply Fr3; focus ((repeat (first | exact Tk1 | apply Tk2)); done)) | apply Fr4))⟩
theorem rs11Form {W0 w : World} {L : List Assn} {b : Nat} (wide : Bool) (msg : List Byte) (hm : msg.length ≤ 1000000000) (hs : Sat W0 w (rs11 wide b msg :: L)) :
    Calls Tryz.prog 30 #[.pointer (some ⟨b, 0, none⟩)] w fun e w' => ∃ q c, e = .returned (.slice q (fsz wide) c) ∧ Sat W0 w' (row q c 1 (fsz wide) (u8s (formH wide msg)) :: rs11 wide b msg :: L) := by
  obtain ⟨c, s1⟩ := rs11Open hs
  clear hs
  obtain ⟨z0, c0, c1⟩ := rptrsCell s1
  cases wide
  · have hc := rsform05 msg hm (show Sat W0 w (rst c msg :: seg true b 0 (rptrs false c) :: L) from s1.pull 1)
    simp only [rptrs, List.getD_cons_zero, List.getD_cons_succ] at c0 c1
    have HC := Lib.hid hc; clear hc s1 hm
    go_enter Tryz.func30, Tryz.ntmps30
    go_wp2_with fail
    refine HC.out.mono ?_
    rintro e w1 ⟨q, d, rfl, s2⟩
    clear c0 c1 z0
    have s3 := rs11Shut (wide := false) (show Sat W0 w1 (seg true b 0 (rptrs false c) :: rst c msg :: row q d 1 104 (u8s (form256 msg)) :: L) from (by (repeat (first | with_reducible apply Sat.sub (s2) | with_reducible apply Sat.alloc' | with_reducible apply Sat.drew | with_reducible apply Sat.drewN)); (repeat (first | with_reducible exact Fr.done | with_reducible exact Fr.nil | (with_reducible apply Fr.cons; (focus ((repeat (first | with_reducible exact Take.here | with_reducible apply Take.there)); done))) | with_reducible apply Fr.skip)); done))
    have HS := Lib.hid s3; clear s3 s2
    go_wp2_with fail
    go_ret
    exact ⟨q, d, rfl, HS.out.pick [1]⟩
  · have hc := rsform06 msg hm (show Sat W0 w (rst c msg :: seg true b 0 (rptrs true c) :: L) from s1.pull 1)
    simp only [rptrs, List.getD_cons_zero, List.getD_cons_succ] at c0 c1
    have HC := Lib.hid hc; clear hc s1 hm
    go_enter Tryz.func30, Tryz.ntmps30
    go_wp2_with fail
    refine HC.out.mono ?_
    rintro e w1 ⟨q, d, rfl, s2⟩
    clear c0 c1 z0
    have s3 := rs11Shut (wide := true) (show Sat W0 w1 (seg true b 0 (rptrs true c) :: rst c msg :: row q d 1 200 (u8s (form512 msg)) :: L) from (by (repeat (first | with_reducible apply Sat.sub (s2) | with_reducible apply Sat.alloc' | with_reducible apply Sat.drew | with_reducible apply Sat.drewN)); (repeat (first | with_reducible exact Fr.done | with_reducible exact Fr.nil | (with_reducible apply Fr.cons; (focus ((repeat (first | with_reducible exact Take.here | with_reducible apply Take.there)); done))) | with_reducible apply Fr.skip)); done))
    have HS := Lib.hid s3; clear s3 s2
    go_wp2_with fail
    go_ret
    exact ⟨q, d, rfl, HS.out.pick [1]⟩
theorem rgoneNone {W0 w : World} {L : List Assn} {b : Nat} (hs : Sat W0 w (rsgone b :: L)) : Calls Tryz.prog 56 #[.pointer (some ⟨b, 0, none⟩)] w fun e w' => e = .returned (.bool true) ∧ w' = w := by
  have c1 := (show Sat W0 w (seg true b 0 [.slice none 0 0, .bool false] :: L) from hs).at 1 rfl
  have z1 := (show Sat W0 w (seg true b 0 [.slice none 0 0, .bool false] :: L) from hs).lt (by simp)
  go_enter Tryz.func56, Tryz.ntmps56
  go_wp2
  go_ret
  exact ⟨rfl, rfl⟩
theorem rgoneMade {W0 w : World} {L : List Assn} {b : Nat} (hs : Sat W0 w (rsgone b :: L)) : Calls Tryz.prog 59 #[.pointer (some ⟨b, 0, none⟩)] w fun e w' => e = .returned (.bool false) ∧ w' = w := by
  have c1 := (show Sat W0 w (seg true b 0 [.slice none 0 0, .bool false] :: L) from hs).at 1 rfl
  have z1 := (show Sat W0 w (seg true b 0 [.slice none 0 0, .bool false] :: L) from hs).lt (by simp)
  go_enter Tryz.func59, Tryz.ntmps59
  go_wp2
  go_ret
  exact ⟨rfl, rfl⟩
theorem rgoneWrite05 {W0 w : World} {L : List Assn} {b : Nat} (v1 v2 : Value) (hs : Sat W0 w (rsgone b :: L)) : Calls Tryz.prog 41 #[.pointer (some ⟨b, 0, none⟩), v1, v2] w fun e w' => e = .returned (.int .i64 1) ∧ w' = w := by
  go_enter Tryz.func41, Tryz.ntmps41
  go_wp2_with fail
  refine (rgoneNone hs).mono ?_
  rintro e w1 ⟨rfl, rfl⟩
  go_wp2_with fail
  go_ret
  exact ⟨rfl, rfl⟩
theorem rgoneWrite06 {W0 w : World} {L : List Assn} {b : Nat} (v1 v2 : Value) (hs : Sat W0 w (rsgone b :: L)) : Calls Tryz.prog 42 #[.pointer (some ⟨b, 0, none⟩), v1, v2] w fun e w' => e = .returned (.int .i64 1) ∧ w' = w := by
  go_enter Tryz.func42, Tryz.ntmps42
  go_wp2_with fail
  refine (rgoneMade hs).mono ?_
  rintro e w1 ⟨rfl, rfl⟩
  go_wp2_with fail
  go_ret
  exact ⟨rfl, rfl⟩
theorem rgoneSum05 {W0 w : World} {L : List Assn} {b : Nat} (v1 : Value) (hs : Sat W0 w (rsgone b :: L)) : Calls Tryz.prog 43 #[.pointer (some ⟨b, 0, none⟩), v1] w fun e w' => e = .returned (.tuple #[.slice none 0 0, .int .i64 1]) ∧ w' = w := by
  go_enter Tryz.func43, Tryz.ntmps43
  go_wp2_with fail
  refine (rgoneNone hs).mono ?_
  rintro e w1 ⟨rfl, rfl⟩
  go_wp2_with fail
  refine bodyPost_ret (v := .tuple #[.slice none 0 0, .int .i64 1]) (by simp [results, Tryz.results43, go_sem]) rfl ⟨rfl, rfl⟩
theorem rgoneSum06 {W0 w : World} {L : List Assn} {b : Nat} (v1 : Value) (hs : Sat W0 w (rsgone b :: L)) : Calls Tryz.prog 44 #[.pointer (some ⟨b, 0, none⟩), v1] w fun e w' => e = .returned (.tuple #[.slice none 0 0, .int .i64 1]) ∧ w' = w := by
  go_enter Tryz.func44, Tryz.ntmps44
  go_wp2_with fail
  refine (rgoneMade hs).mono ?_
  rintro e w1 ⟨rfl, rfl⟩
  go_wp2_with fail
  refine bodyPost_ret (v := .tuple #[.slice none 0 0, .int .i64 1]) (by simp [results, Tryz.results44, go_sem]) rfl ⟨rfl, rfl⟩
theorem rgoneClone05 {W0 w : World} {L : List Assn} {b : Nat} (hs : Sat W0 w (rsgone b :: L)) : Calls Tryz.prog 45 #[.pointer (some ⟨b, 0, none⟩)] w fun e w' => e = .returned (.tuple #[.pointer none, .int .i64 1]) ∧ w' = w := by
  go_enter Tryz.func45, Tryz.ntmps45
  go_wp2_with fail
  refine (rgoneNone hs).mono ?_
  rintro e w1 ⟨rfl, rfl⟩
  go_wp2_with fail
  refine bodyPost_ret (v := .tuple #[.pointer none, .int .i64 1]) (by simp [results, Tryz.results45, go_sem]) rfl ⟨rfl, rfl⟩
theorem rgoneClone06 {W0 w : World} {L : List Assn} {b : Nat} (hs : Sat W0 w (rsgone b :: L)) : Calls Tryz.prog 46 #[.pointer (some ⟨b, 0, none⟩)] w fun e w' => e = .returned (.tuple #[.pointer none, .int .i64 1]) ∧ w' = w := by
  go_enter Tryz.func46, Tryz.ntmps46
  go_wp2_with fail
  refine (rgoneMade hs).mono ?_
  rintro e w1 ⟨rfl, rfl⟩
  go_wp2_with fail
  refine bodyPost_ret (v := .tuple #[.pointer none, .int .i64 1]) (by simp [results, Tryz.results46, go_sem]) rfl ⟨rfl, rfl⟩
theorem rgoneWipe05 {W0 w : World} {L : List Assn} {b : Nat} (v1 : Value) (hs : Sat W0 w (rsgone b :: L)) : Calls Tryz.prog 47 #[.pointer (some ⟨b, 0, none⟩), v1] w fun e w' => e = .returned (.int .i64 1) ∧ w' = w := by
  go_enter Tryz.func47, Tryz.ntmps47
  go_wp2_with fail
  refine (rgoneNone hs).mono ?_
  rintro e w1 ⟨rfl, rfl⟩
  go_wp2_with fail
  go_ret
  exact ⟨rfl, rfl⟩
theorem rgoneWipe06 {W0 w : World} {L : List Assn} {b : Nat} (v1 : Value) (hs : Sat W0 w (rsgone b :: L)) : Calls Tryz.prog 48 #[.pointer (some ⟨b, 0, none⟩), v1] w fun e w' => e = .returned (.int .i64 1) ∧ w' = w := by
  go_enter Tryz.func48, Tryz.ntmps48
  go_wp2_with fail
  refine (rgoneMade hs).mono ?_
  rintro e w1 ⟨rfl, rfl⟩
  go_wp2_with fail
  go_ret
  exact ⟨rfl, rfl⟩
theorem rgoneForm05 {W0 w : World} {L : List Assn} {b : Nat} (hs : Sat W0 w (rsgone b :: L)) : Calls Tryz.prog 49 #[.pointer (some ⟨b, 0, none⟩)] w fun e w' => e = .returned (.slice none 0 0) ∧ w' = w := by
  go_enter Tryz.func49, Tryz.ntmps49
  go_wp2_with fail
  refine (rgoneNone hs).mono ?_
  rintro e w1 ⟨rfl, rfl⟩
  go_wp2_with fail
  go_ret
  exact ⟨rfl, rfl⟩
theorem rgoneForm06 {W0 w : World} {L : List Assn} {b : Nat} (hs : Sat W0 w (rsgone b :: L)) : Calls Tryz.prog 50 #[.pointer (some ⟨b, 0, none⟩)] w fun e w' => e = .returned (.slice none 0 0) ∧ w' = w := by
  go_enter Tryz.func50, Tryz.ntmps50
  go_wp2_with fail
  refine (rgoneMade hs).mono ?_
  rintro e w1 ⟨rfl, rfl⟩
  go_wp2_with fail
  go_ret
  exact ⟨rfl, rfl⟩
theorem rg11Write {W0 w : World} {L : List Assn} {b : Nat} (wide : Bool) (v1 v2 : Value) (hs : Sat W0 w (rg11 wide b :: L)) : Calls Tryz.prog 23 #[.pointer (some ⟨b, 0, none⟩), v1, v2] w fun e w' => e = .returned (.int .i64 1) ∧ w' = w := by
  obtain ⟨c, s1⟩ := rg11Open hs
  clear hs
  obtain ⟨z0, c0, c1⟩ := rptrsCell s1
  have s2 : Sat W0 w (rsgone c :: seg true b 0 (rptrs wide c) :: L) := s1.pull 1
  clear s1
  cases wide
  · simp only [rptrs, List.getD_cons_zero, List.getD_cons_succ] at c0 c1
    go_enter Tryz.func23, Tryz.ntmps23
    go_wp2_with fail
    refine (rgoneWrite05 v1 v2 s2).mono ?_
    rintro e w1 ⟨rfl, rfl⟩
    go_wp2_with fail
    go_ret
    exact ⟨rfl, rfl⟩
  · simp only [rptrs, List.getD_cons_zero, List.getD_cons_succ] at c0 c1
    go_enter Tryz.func23, Tryz.ntmps23
    go_wp2_with fail
    refine (rgoneWrite06 v1 v2 s2).mono ?_
    rintro e w1 ⟨rfl, rfl⟩
    go_wp2_with fail
    go_ret
    exact ⟨rfl, rfl⟩
theorem rg11Sum {W0 w : World} {L : List Assn} {b : Nat} (wide : Bool) (v1 : Value) (hs : Sat W0 w (rg11 wide b :: L)) : Calls Tryz.prog 26 #[.pointer (some ⟨b, 0, none⟩), v1] w fun e w' => e = .returned (.tuple #[.slice none 0 0, .int .i64 1]) ∧ w' = w := by
  obtain ⟨c, s1⟩ := rg11Open hs
  clear hs
  obtain ⟨z0, c0, c1⟩ := rptrsCell s1
  have s2 : Sat W0 w (rsgone c :: seg true b 0 (rptrs wide c) :: L) := s1.pull 1
  clear s1
  cases wide
  · simp only [rptrs, List.getD_cons_zero, List.getD_cons_succ] at c0 c1
    go_enter Tryz.func26, Tryz.ntmps26
    go_wp2_with fail
    refine (rgoneSum05 v1 s2).mono ?_
    rintro e w1 ⟨rfl, rfl⟩
    go_wp2_with fail
    refine bodyPost_ret (v := .tuple #[.slice none 0 0, .int .i64 1]) (by simp [results, Tryz.results26, go_sem]) rfl ⟨rfl, rfl⟩
  · simp only [rptrs, List.getD_cons_zero, List.getD_cons_succ] at c0 c1
    go_enter Tryz.func26, Tryz.ntmps26
    go_wp2_with fail
    refine (rgoneSum06 v1 s2).mono ?_
    rintro e w1 ⟨rfl, rfl⟩
    go_wp2_with fail
    refine bodyPost_ret (v := .tuple #[.slice none 0 0, .int .i64 1]) (by simp [results, Tryz.results26, go_sem]) rfl ⟨rfl, rfl⟩
theorem rg11Copy {W0 w : World} {L : List Assn} {b : Nat} (wide : Bool) (hs : Sat W0 w (rg11 wide b :: L)) : Calls Tryz.prog 28 #[.pointer (some ⟨b, 0, none⟩)] w fun e w' => e = .returned (.pointer none) ∧ w' = w := by
  obtain ⟨c, s1⟩ := rg11Open hs
  clear hs
  obtain ⟨z0, c0, c1⟩ := rptrsCell s1
  have s2 : Sat W0 w (rsgone c :: seg true b 0 (rptrs wide c) :: L) := s1.pull 1
  clear s1
  cases wide
  · simp only [rptrs, List.getD_cons_zero, List.getD_cons_succ] at c0 c1
    go_enter Tryz.func28, Tryz.ntmps28
    go_wp2_with fail
    refine (rgoneClone05 s2).mono ?_
    rintro e w1 ⟨rfl, rfl⟩
    go_wp2_with fail
    go_ret
    exact ⟨rfl, rfl⟩
  · simp only [rptrs, List.getD_cons_zero, List.getD_cons_succ] at c0 c1
    go_enter Tryz.func28, Tryz.ntmps28
    go_wp2_with fail
    refine (rgoneClone06 s2).mono ?_
    rintro e w1 ⟨rfl, rfl⟩
    go_wp2_with fail
    go_ret
    exact ⟨rfl, rfl⟩
theorem rg11Wipe {W0 w : World} {L : List Assn} {b : Nat} (wide : Bool) (v1 : Value) (hs : Sat W0 w (rg11 wide b :: L)) : Calls Tryz.prog 29 #[.pointer (some ⟨b, 0, none⟩), v1] w fun e w' => e = .returned (.int .i64 1) ∧ w' = w := by
  obtain ⟨c, s1⟩ := rg11Open hs
  clear hs
  obtain ⟨z0, c0, c1⟩ := rptrsCell s1
  have s2 : Sat W0 w (rsgone c :: seg true b 0 (rptrs wide c) :: L) := s1.pull 1
  clear s1
  cases wide
  · simp only [rptrs, List.getD_cons_zero, List.getD_cons_succ] at c0 c1
    go_enter Tryz.func29, Tryz.ntmps29
    go_wp2_with fail
    refine (rgoneWipe05 v1 s2).mono ?_
    rintro e w1 ⟨rfl, rfl⟩
    go_wp2_with fail
    go_ret
    exact ⟨rfl, rfl⟩
  · simp only [rptrs, List.getD_cons_zero, List.getD_cons_succ] at c0 c1
    go_enter Tryz.func29, Tryz.ntmps29
    go_wp2_with fail
    refine (rgoneWipe06 v1 s2).mono ?_
    rintro e w1 ⟨rfl, rfl⟩
    go_wp2_with fail
    go_ret
    exact ⟨rfl, rfl⟩
theorem rg11Form {W0 w : World} {L : List Assn} {b : Nat} (wide : Bool) (hs : Sat W0 w (rg11 wide b :: L)) : Calls Tryz.prog 30 #[.pointer (some ⟨b, 0, none⟩)] w fun e w' => e = .returned (.slice none 0 0) ∧ w' = w := by
  obtain ⟨c, s1⟩ := rg11Open hs
  clear hs
  obtain ⟨z0, c0, c1⟩ := rptrsCell s1
  have s2 : Sat W0 w (rsgone c :: seg true b 0 (rptrs wide c) :: L) := s1.pull 1
  clear s1
  cases wide
  · simp only [rptrs, List.getD_cons_zero, List.getD_cons_succ] at c0 c1
    go_enter Tryz.func30, Tryz.ntmps30
    go_wp2_with fail
    refine (rgoneForm05 s2).mono ?_
    rintro e w1 ⟨rfl, rfl⟩
    go_wp2_with fail
    go_ret
    exact ⟨rfl, rfl⟩
  · simp only [rptrs, List.getD_cons_zero, List.getD_cons_succ] at c0 c1
    go_enter Tryz.func30, Tryz.ntmps30
    go_wp2_with fail
    refine (rgoneForm06 s2).mono ?_
    rintro e w1 ⟨rfl, rfl⟩
    go_wp2_with fail
    go_ret
    exact ⟨rfl, rfl⟩
end Go.Proofs.YtlmababpmmhhoaaGreat
