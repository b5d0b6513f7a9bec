
/- The document's HMAC: digests, block keys, tags; each under the conditions that it names. -/
import Derived.Test.YtlmababpmmhhoaaGreatR12
namespace Go.Sha
open Go.Bv
theorem xorKey_take (wide : Bool) (k : List Byte) (x : Byte) (i : Nat) (h : i < bsz wide) : (xorKey wide k x).take (i + 1) = (xorKey wide k x).take i ++ [k.getD i 0 ^^^ x] := by
  rw [List.take_succ_eq_append_getElem (by rw [xorKey_len]; exact h)]
  simp [xorKey]
theorem xorKey_all (wide : Bool) (k : List Byte) (x : Byte) : (xorKey wide k x).take (bsz wide) = xorKey wide k x := List.take_of_length_le (by rw [xorKey_len]; exact Nat.le_refl _)
end Go.Sha
namespace Go.Proofs.YtlmababpmmhhoaaGreat
open Go.RowKit Go.Sep Go.Bv Go.Sha
set_option linter.unusedVariables false
set_option linter.unusedSimpArgs false
set_option maxRecDepth 100000 in
set_option maxHeartbeats 2000000 in
theorem rwrite05 {W0 w : World} {L : List Assn} {m : Bool} {pp : Option Addr} {n cap b : Nat} {pv : Value} (p : Option Nat) (rs : List Run3) (msg P : List Byte) (hP : P.length = n) (hn : n ≤ 1000000000) (hm : msg.length ≤ 1000000000) (hp : pv = ptrO p) (hb : tot rs + msg.length + n ≤ 4611686018427387904) (hl : rs.length ≤ 4294967296) (hs : Sat W0 w (rledO p rs :: bytes m pp P :: rst b msg :: L)) :
    Calls Tryz.prog 41 #[.pointer (some ⟨b, 0, none⟩), pv, .slice pp n cap] w fun e w' => e = .returned (.int .i64 0) ∧ Sat W0 w' (rledO p (noteN rs 1 64 ((msg.length + n) / 64 - msg.length / 64)) :: bytes m pp P :: rst b (msg ++ P) :: L) := by
  obtain ⟨q, c, hqc, hqm, s1⟩ := rstOpen (show Sat W0 w (rst b msg :: rledO p rs :: bytes m pp P :: L) from hs.pull 2)
  clear hs
  obtain ⟨k, hk⟩ : ∃ k, k = msg.length := ⟨_, rfl⟩
  rw [← hk] at s1 hm hb ⊢
  have c0 := s1.at 0 rfl
  have z0 := s1.lt (by simp)
  have f0 := s1.fr 0 (by simp)
  have s2 : Sat W0 w (row none 0 1 0 (u8s []) :: bytes false q msg :: seg true b 0 [.slice q k c, .bool true] :: rledO p rs :: bytes m pp P :: L) := (s1.pick [1]).rowNil 1
  have hkd : (k : Int) / 64 = ((k / 64 : Nat) : Int) := by omega
  have hkd2 : (k : Int).tdiv 64 = ((k / 64 : Nat) : Int) := by rw [Int.tdiv_eq_ediv_of_nonneg (by omega)]; exact hkd
  have hkd3 : ((k + n : Nat) : Int) / 64 = (((k + n) / 64 : Nat) : Int) := by omega
  obtain ⟨D, hD⟩ : ∃ D, D = k / 64 := ⟨_, rfl⟩
  obtain ⟨D2, hD2⟩ : ∃ D2, D2 = (k + n) / 64 := ⟨_, rfl⟩
  have hDD : D ≤ D2 := by rw [hD, hD2]; omega
  have hDb : D2 ≤ k + n := by rw [hD2]; omega
  rw [← hD] at hkd hkd2 ⊢
  rw [← hD2] at hkd3 ⊢
  have hnv : IntKind.i64.wrap (IntKind.i64.wrap (((k : Int) + (n : Int)).tdiv 64) - (D : Int)) = ((D2 - D : Nat) : Int) := by
    rw [Int.tdiv_eq_ediv_of_nonneg (by omega), ← Int.natCast_add, hkd3]
    have h1 : IntKind.i64.wrap (D2 : Int) = (D2 : Int) := by rw [IntKind.wrap_i64]; omega
    rw [h1, show (D2 : Int) - (D : Int) = ((D2 - D : Nat) : Int) from by omega, IntKind.wrap_i64]
    omega
  have HP := Lib.hid (And.intro hP (And.intro hp (And.intro hb (And.intro hl (And.intro hk (And.intro hDD (And.intro hDb hnv))))))); clear hP hp hb hl hk hD hD2 hnv
  have hsub : (D2 : Int) - (D : Int) = ((D2 - D : Nat) : Int) := by omega
  clear hDD hDb
  go_enter Tryz.func41, Tryz.ntmps41
  go_wp2_with fail
  refine (rnone05 (by (repeat (first | with_reducible apply Sat.sub (s1) | with_reducible apply Sat.alloc' | with_reducible apply Sat.drew | with_reducible apply Sat.drewN)); (repeat (first | with_reducible exact Fr.done | with_reducible exact Fr.nil | (with_reducible apply Fr.cons; (focus ((repeat (first | with_reducible exact Take.here | with_reducible apply Take.there)); done))) | with_reducible apply Fr.skip)); done)).mono ?_
  rintro e w1 ⟨rfl, rfl⟩
  clear s1
  go_wp2_with (first | (at_builtin; refine wpl_app8 (xs := []) rfl (.const (.slice none 0 0)) (.tmp 20) rfl rfl rfl s2 HP.out.2.2.2.2.1.symm (by omega) ?_; intro pa ca wa sa; rw [Nat.zero_add, List.nil_append] at sa; clear s2 c0 z0 f0; have sb : Sat W0 wa (row pa ca 1 k (u8s msg) :: bytes m pp P :: seg true b 0 [.slice q k c, .bool true] :: rledO p rs :: L) := (by (repeat (first | with_reducible apply Sat.sub (sa) | with_reducible apply Sat.alloc' | with_reducible apply Sat.drew | with_reducible apply Sat.drewN)); (repeat (first | with_reducible exact Fr.done | with_reducible exact Fr.nil | (with_reducible apply Fr.cons; (focus ((repeat (first | with_reducible exact Take.here | with_reducible apply Take.there)); done))) | with_reducible apply Fr.skip)); done); have c0 := ((Sat.sub (sa) (by with_reducible repeat first | exact Fr1 | exact Fr2 | (apply Fr3; focus ((repeat (first | exact Tk1 | apply Tk2)); done)) | apply Fr4)) : Sat W0 wa (seg true b 0 [.slice q k c, .bool true] :: [])).at 0 rfl; have z0 := ((Sat.sub (sa) (by with_reducible repeat first | exact Fr1 | exact Fr2 | (apply Fr3; focus ((repeat (first | exact Tk1 | apply Tk2)); done)) | apply Fr4)) : Sat W0 wa (seg true b 0 [.slice q k c, .bool true] :: [])).lt (by simp); have f0 := ((Sat.sub (sa) (by with_reducible repeat first | exact Fr1 | exact Fr2 | (apply Fr3; focus ((repeat (first | exact Tk1 | apply Tk2)); done)) | apply Fr4)) : Sat W0 wa (seg true b 0 [.slice q k c, .bool true] :: [])).fr 0 (by simp)) | (at_builtin; refine wpl_app8 rfl (.tmp 21) (.tmp 22) rfl rfl rfl sb HP.out.1 (by omega) ?_; intro pb cb wb sc; clear c0 z0 f0; have c0 := ((Sat.sub (sc) (by with_reducible repeat first | exact Fr1 | exact Fr2 | (apply Fr3; focus ((repeat (first | exact Tk1 | apply Tk2)); done)) | apply Fr4)) : Sat W0 wb (seg true b 0 [.slice q k c, .bool true] :: [])).at 0 rfl; have z0 := ((Sat.sub (sc) (by with_reducible repeat first | exact Fr1 | exact Fr2 | (apply Fr3; focus ((repeat (first | exact Tk1 | apply Tk2)); done)) | apply Fr4)) : Sat W0 wb (seg true b 0 [.slice q k c, .bool true] :: [])).lt (by simp); have f0 := ((Sat.sub (sc) (by with_reducible repeat first | exact Fr1 | exact Fr2 | (apply Fr3; focus ((repeat (first | exact Tk1 | apply Tk2)); done)) | apply Fr4)) : Sat W0 wb (seg true b 0 [.slice q k c, .bool true] :: [])).fr 0 (by simp)))
  have sd : Sat W0 _ (seg true b 0 [.slice pb (k + n) cb, .bool true] :: row pb cb 1 (k + n) (u8s (msg ++ P)) :: bytes m pp P :: rledO p rs :: L) := ((Sat.sub (sc) (by with_reducible repeat first | exact Fr1 | exact Fr2 | (apply Fr3; focus ((repeat (first | exact Tk1 | apply Tk2)); done)) | apply Fr4)) : Sat W0 wb (seg true b 0 [.slice q k c, .bool true] :: row pb cb 1 (k + n) (u8s (msg ++ P)) :: bytes m pp P :: rledO p rs :: L)).store (i := 0) (by simp) (.slice pb (k + n) cb) (q := 0) rfl
  obtain ⟨w5, hw5⟩ : ∃ w5, w5 = wb.setCell ⟨b, 0, none⟩ (.slice pb (k + n) cb) := ⟨_, rfl⟩
  try rw [← hw5] at sd ⊢
  clear hw5 sc sb sa c0 z0 f0
  have hK : ∀ wx X, Sat W0 wx (seg true b 0 [.slice pb (k + n) cb, .bool true] :: X) → wx.cell? ⟨b, 0, none⟩ = some (.slice pb (k + n) cb) ∧ b < wx.heap.size := fun wx X h => ⟨h.at 0 rfl, h.lt (by simp)⟩
  have HK := Lib.hid hK; clear hK
  go_region_held3 (fun w' => w'.cell? ⟨b, 0, none⟩ = some (.slice pb (k + n) cb) ∧ b < w'.heap.size) (first | exact HK.out _ _ sd | exact HK.out _ _ sd.drew | exact HK.out _ _ se | exact HK.out _ _ se.drew | exact HK.out _ _ sf | exact HK.out _ _ sf.drew) (first | (go_at_call 58; refine (revent05 (by first | exact sd | exact sd.drew)).mono ?_; rintro e w6 ⟨rfl, se⟩) | (go_at_call 57; refine (rnoteO p rs 1 64 (D2 - D) HP.out.2.1 (by first | exact HP.out.2.2.2.2.2.2.2 | omega) (by (repeat (first | with_reducible apply Sat.sub (se) | with_reducible apply Sat.alloc' | with_reducible apply Sat.drew | with_reducible apply Sat.drewN)); (repeat (first | with_reducible exact Fr.done | with_reducible exact Fr.nil | (with_reducible apply Fr.cons; (focus ((repeat (first | with_reducible exact Take.here | with_reducible apply Take.there)); done))) | with_reducible apply Fr.skip)); done) (by have := HP.out.2.2.1; have := HP.out.2.2.2.2.2.2.1; omega) HP.out.2.2.2.1).mono ?_; rintro e w7 ⟨rfl, sf'⟩; have sf : Sat W0 w7 (seg true b 0 [.slice pb (k + n) cb, .bool true] :: row pb cb 1 (k + n) (u8s (msg ++ P)) :: bytes m pp P :: rledO p (noteN rs 1 64 (D2 - D)) :: L) := (by (repeat (first | with_reducible apply Sat.sub (sf') | with_reducible apply Sat.alloc' | with_reducible apply Sat.drew | with_reducible apply Sat.drewN)); (repeat (first | with_reducible exact Fr.done | with_reducible exact Fr.nil | (with_reducible apply Fr.cons; (focus ((repeat (first | with_reducible exact Take.here | with_reducible apply Take.there)); done))) | with_reducible apply Fr.skip)); done)))
  all_goals
    go_wp2
    go_ret
    refine ⟨rfl, ?_⟩
    have sg : Sat W0 _ (seg true b 0 [.slice pb (k + n) cb, .bool true] :: row pb cb 1 (k + n) (u8s (msg ++ P)) :: rledO p (noteN rs 1 64 (D2 - D)) :: bytes m pp P :: L) := (by (repeat (first | with_reducible apply Sat.sub (sf) | with_reducible apply Sat.alloc' | with_reducible apply Sat.drew | with_reducible apply Sat.drewN)); (repeat (first | with_reducible exact Fr.done | with_reducible exact Fr.nil | (with_reducible apply Fr.cons; (focus ((repeat (first | with_reducible exact Take.here | with_reducible apply Take.there)); done))) | with_reducible apply Fr.skip)); done)
    obtain ⟨-, hx1, hx2, sh⟩ := rowBytes (show Sat W0 _ (row pb cb 1 (k + n) (u8s (msg ++ P)) :: seg true b 0 [.slice pb (k + n) cb, .bool true] :: rledO p (noteN rs 1 64 (D2 - D)) :: bytes m pp P :: L) from sg.pull 1)
    have si := rstShut (by rw [List.length_append, HP.out.1, ← HP.out.2.2.2.2.1]) hx1 hx2 (show Sat W0 _ (seg true b 0 [.slice pb (k + n) cb, .bool true] :: bytes true pb (msg ++ P) :: rledO p (noteN rs 1 64 (D2 - D)) :: bytes m pp P :: L) from sh.pull 1)
    exact (by (repeat (first | with_reducible apply Sat.sub (si) | with_reducible apply Sat.alloc' | with_reducible apply Sat.drew | with_reducible apply Sat.drewN)); (repeat (first | with_reducible exact Fr.done | with_reducible exact Fr.nil | (with_reducible apply Fr.cons; (focus ((repeat (first | with_reducible exact Take.here | with_reducible apply Take.there)); done))) | with_reducible apply Fr.skip)); done)
set_option maxRecDepth 100000 in
set_option maxHeartbeats 2000000 in
theorem rstsum05 {W0 w : World} {L : List Assn} {b n : Nat} {pv : Value} (p : Option Nat) (rs : List Run3) (msg : List Byte) (hn : msg.length = n) (hm : n ≤ 1000000000) (hp : pv = ptrO p) (hb : tot rs + n + 1000 ≤ 4611686018427387904) (hl : rs.length ≤ 4294967296) (hs : Sat W0 w (rledO p rs :: rst b msg :: L)) :
    Calls Tryz.prog 43 #[.pointer (some ⟨b, 0, none⟩), pv] w fun e w' => ∃ q c, e = .returned (.tuple #[.slice q 32 c, .int .i64 0]) ∧ Sat W0 w' (row q c 1 32 (u8s (hash false msg)) :: rledO p (noteN rs 1 64 (lastN false n)) :: rst b msg :: L) := by
  obtain ⟨q, c, hqc, hqm, s1⟩ := rstOpen (show Sat W0 w (rst b msg :: rledO p rs :: L) from hs.pull 1)
  clear hs
  have hlv : ((padN false n : Nat) : Int) - ((n / 64 : Nat) : Int) = ((lastN false n : Nat) : Int) := by simp only [lastN, padN, roomN, bsz]; omega
  have hll := lastN_le false n
  obtain ⟨N, hN⟩ : ∃ N, N = lastN false n := ⟨_, rfl⟩
  rw [hn] at s1 hqc
  rw [← hN] at hlv hll ⊢
  have HQ := Lib.hid (And.intro hn (And.intro hqc hqm)); clear hqc hqm
  have c0 := s1.at 0 rfl
  have z0 := s1.lt (by simp)
  have h5 := fun w : World => rlast05 w n hm
  rw [hlv] at h5
  have HP := Lib.hid (And.intro hn (And.intro hp (And.intro hb (And.intro hl (And.intro hll h5))))); clear hn hp hb hl hll h5 hN hlv
  have hK : ∀ wx X, Sat W0 wx (seg true b 0 [.slice q n c, .bool true] :: X) → wx.cell? ⟨b, 0, none⟩ = some (.slice q n c) ∧ b < wx.heap.size := fun wx X h => ⟨h.at 0 rfl, h.lt (by simp)⟩
  have HK := Lib.hid hK; clear hK
  go_enter Tryz.func43, Tryz.ntmps43
  go_wp2_with fail
  refine (rnone05 (by (repeat (first | with_reducible apply Sat.sub (s1) | with_reducible apply Sat.alloc' | with_reducible apply Sat.drew | with_reducible apply Sat.drewN)); (repeat (first | with_reducible exact Fr.done | with_reducible exact Fr.nil | (with_reducible apply Fr.cons; (focus ((repeat (first | with_reducible exact Take.here | with_reducible apply Take.there)); done))) | with_reducible apply Fr.skip)); done)).mono ?_
  rintro e w1 ⟨rfl, rfl⟩
  go_wp2_with fail
  go_region_held3 (fun w' => w'.cell? ⟨b, 0, none⟩ = some (.slice q n c) ∧ b < w'.heap.size) (first | exact HK.out _ _ s1 | exact HK.out _ _ s1.drew | exact HK.out _ _ se | exact HK.out _ _ se.drew | exact HK.out _ _ sf | exact HK.out _ _ sf.drew) (first | (go_at_call 58; refine (revent05 (by first | exact s1 | exact s1.drew)).mono ?_; rintro e w6 ⟨rfl, se⟩) | (go_at_call 61; refine (HP.out.2.2.2.2.2 _).mono ?_; rintro e w8 ⟨rfl, rfl⟩) | (go_at_call 57; refine (rnoteO p rs 1 64 N HP.out.2.1 rfl (by (repeat (first | with_reducible apply Sat.sub (se) | with_reducible apply Sat.alloc' | with_reducible apply Sat.drew | with_reducible apply Sat.drewN)); (repeat (first | with_reducible exact Fr.done | with_reducible exact Fr.nil | (with_reducible apply Fr.cons; (focus ((repeat (first | with_reducible exact Take.here | with_reducible apply Take.there)); done))) | with_reducible apply Fr.skip)); done) (by have := HP.out.2.2.1; have := HP.out.2.2.2.2.1; omega) HP.out.2.2.2.1).mono ?_; rintro e w7 ⟨rfl, sf'⟩; have sf : Sat W0 w7 (seg true b 0 [.slice q n c, .bool true] :: bytes false q msg :: rledO p (noteN rs 1 64 N) :: L) := (by (repeat (first | with_reducible apply Sat.sub (sf') | with_reducible apply Sat.alloc' | with_reducible apply Sat.drew | with_reducible apply Sat.drewN)); (repeat (first | with_reducible exact Fr.done | with_reducible exact Fr.nil | (with_reducible apply Fr.cons; (focus ((repeat (first | with_reducible exact Take.here | with_reducible apply Take.there)); done))) | with_reducible apply Fr.skip)); done)))
  all_goals
    obtain ⟨d0, d1⟩ := HK.out _ _ sf
    clear s1 c0 z0
    try clear se
    go_wp2_with fail
    refine (rdigest256 msg HP.out.1 hm (by (repeat (first | with_reducible apply Sat.sub (sf) | with_reducible apply Sat.alloc' | with_reducible apply Sat.drew | with_reducible apply Sat.drewN)); (repeat (first | with_reducible exact Fr.done | with_reducible exact Fr.nil | (with_reducible apply Fr.cons; (focus ((repeat (first | with_reducible exact Take.here | with_reducible apply Take.there)); done))) | with_reducible apply Fr.skip)); done)).mono ?_
    rintro e w9 ⟨q9, c9, rfl, s9⟩
    clear d0 d1 sf
    go_wp2
    refine bodyPost_ret (v := .tuple #[.slice q9 _ c9, .int .i64 0]) (by simp [results, Tryz.results43, go_sem]) rfl ⟨q9, c9, rfl, ?_⟩
    have si := rstShut HQ.out.1 HQ.out.2.1 HQ.out.2.2 (show Sat W0 _ (seg true b 0 [.slice q n c, .bool true] :: bytes false q msg :: row q9 c9 1 32 (u8s (hash false msg)) :: rledO p (noteN rs 1 64 N) :: L) from (by (repeat (first | with_reducible apply Sat.sub (s9) | with_reducible apply Sat.alloc' | with_reducible apply Sat.drew | with_reducible apply Sat.drewN)); (repeat (first | with_reducible exact Fr.done | with_reducible exact Fr.nil | (with_reducible apply Fr.cons; (focus ((repeat (first | with_reducible exact Take.here | with_reducible apply Take.there)); done))) | with_reducible apply Fr.skip)); done))
    exact (by (repeat (first | with_reducible apply Sat.sub (si) | with_reducible apply Sat.alloc' | with_reducible apply Sat.drew | with_reducible apply Sat.drewN)); (repeat (first | with_reducible exact Fr.done | with_reducible exact Fr.nil | (with_reducible apply Fr.cons; (focus ((repeat (first | with_reducible exact Take.here | with_reducible apply Take.there)); done))) | with_reducible apply Fr.skip)); done)
end Go.Proofs.YtlmababpmmhhoaaGreat
