/- The document's mac, told piece by piece; each under the conditions that it names. -/
import Derived.Test.YtmohabidfalhoaaGreatR12b
import Derived.Test.YtmohabidfalhoaaGreatQTail
namespace Go.Proofs.YtmohabidfalhoaaGreat
open Go.RowKit Go.Sep Go.Bv Go.Sha
set_option linter.unusedVariables false
set_option linter.unusedSimpArgs false
/-- A mac of the document's: its algorithm, key, message. -/
def rmac (wide : Bool) (b : Nat) (key msg : List Byte) : Assn := fun x => ∃ q : (Option Addr × Nat) × (Option Addr × Nat), sep (seg true b 0 [.int .u8 (algN wide), .slice q.1.1 key.length q.1.2, .slice q.2.1 msg.length q.2.2, .bool true]) (sep (bytes false q.1.1 key) (bytes false q.2.1 msg)) x
theorem rmacOpen {W0 w : World} {L : List Assn} {wide : Bool} {b : Nat} {key msg : List Byte} (h : Sat W0 w (rmac wide b key msg :: L)) : ∃ pk ck pm cm, Sat W0 w (seg true b 0 [.int .u8 (algN wide), .slice pk key.length ck, .slice pm msg.length cm, .bool true] :: bytes false pk key :: bytes false pm msg :: L) := by
  obtain ⟨q, h⟩ := h.exOpen
  have h1 := h.sepOpen
  have h2 := (show Sat W0 w (sep (bytes false q.1.1 key) (bytes false q.2.1 msg) :: seg true b 0 [.int .u8 (algN wide), .slice q.1.1 key.length q.1.2, .slice q.2.1 msg.length q.2.2, .bool true] :: L) from h1.pull 1).sepOpen
  exact ⟨q.1.1, q.1.2, q.2.1, q.2.2, h2.pull 2⟩
theorem rmacShut {W0 w : World} {L : List Assn} {wide : Bool} {b nk nm : Nat} {key msg : List Byte} {pk pm : Option Addr} {ck cm : Nat} {m1 m2 : Bool} (hk : key.length = nk) (hm : msg.length = nm) (h : Sat W0 w (seg true b 0 [.int .u8 (algN wide), .slice pk nk ck, .slice pm nm cm, .bool true] :: bytes m1 pk key :: bytes m2 pm msg :: L)) : Sat W0 w (rmac wide b key msg :: L) := by
  subst hk hm
  have h1 := bytesRo (show Sat W0 w (bytes m1 pk key :: seg true b 0 [.int .u8 (algN wide), .slice pk key.length ck, .slice pm msg.length cm, .bool true] :: bytes m2 pm msg :: L) from h.pull 1)
  have h2 := bytesRo (show Sat W0 w (bytes m2 pm msg :: bytes false pk key :: seg true b 0 [.int .u8 (algN wide), .slice pk key.length ck, .slice pm msg.length cm, .bool true] :: L) from h1.pull 2)
  have h3 := (show Sat W0 w (bytes false pk key :: bytes false pm msg :: seg true b 0 [.int .u8 (algN wide), .slice pk key.length ck, .slice pm msg.length cm, .bool true] :: L) from h2.pull 1).sepShut
  have h4 := (show Sat W0 w (seg true b 0 [.int .u8 (algN wide), .slice pk key.length ck, .slice pm msg.length cm, .bool true] :: sep (bytes false pk key) (bytes false pm msg) :: L) from h3.pull 1).sepShut
  exact Sat.exShut (A := fun q : (Option Addr × Nat) × (Option Addr × Nat) => sep (seg true b 0 [.int .u8 (algN wide), .slice q.1.1 key.length q.1.2, .slice q.2.1 msg.length q.2.2, .bool true]) (sep (bytes false q.1.1 key) (bytes false q.2.1 msg))) ((pk, ck), (pm, cm)) h4
set_option maxHeartbeats 1000000 in
theorem rmmade {W0 w : World} {L : List Assn} {b : Nat} {u v x : Value} (hs : Sat W0 w (seg true b 0 [u, v, x, .bool true] :: L)) :
    Calls Tryz.prog 113 #[.pointer (some ⟨b, 0, none⟩)] w fun e w' => e = .returned (.bool true) ∧ w' = w := by
  have c3 := hs.at 3 rfl
  have z3 := hs.lt (by simp)
  go_enter Tryz.func113, Tryz.ntmps113
  go_wp2
  go_ret
  exact ⟨rfl, rfl⟩
set_option maxHeartbeats 1000000 in
theorem rmnew {W0 w : World} {L : List Assn} {m : Bool} {pk : Option Addr} {n cap : Nat} {pv av : Value} (wide : Bool) (p : Option Nat) (rs : List Run3) (key : List Byte) (hp : pv = ptrO p) (ha : av = .int .u8 (algN wide)) (hn : key.length = n) (hnb : n ≤ 900000000) (hs : Sat W0 w (rledO p rs :: bytes m pk key :: L)) (hb : tot rs + n + 10 ≤ 4611686018427387904) (hl : rs.length + 1 ≤ 4294967296) :
    Calls Tryz.prog 43 #[pv, av, .slice pk n cap] w fun e w' => ∃ b, e = .returned (.tuple #[.pointer (some ⟨b, 0, none⟩), .int .i64 0]) ∧ Sat W0 w' (rmac wide b key [] :: rledO p (noteN rs (evK wide) (evS wide) (keyN wide n)) :: bytes m pk key :: L) := by
  subst ha hp
  have hblk := fun w : World => rblock12 w wide
  have hB0 := bsz_pos wide
  have hbg := rbegins12 (wide := wide) p rs n rfl rfl (by omega) hs hb hl
  obtain ⟨B, hB⟩ : ∃ B, B = bsz wide := ⟨_, rfl⟩
  rw [← hB] at hblk hB0
  have hB1 : ¬ (B : Int) = 0 := by omega
  have HN := Lib.hid (And.intro hn (And.intro hblk hbg)); clear hn hblk hbg hB
  go_enter Tryz.func43, Tryz.ntmps43
  go_wp2_with fail
  refine (HN.out.2.1 _).mono ?_
  rintro e w1 ⟨rfl, rfl⟩
  go_wp2_with fail
  refine HN.out.2.2.mono ?_
  rintro e w2 ⟨rfl, s2⟩
  clear hs
  have s3 : Sat W0 w2 (row none 0 1 0 (u8s []) :: bytes m pk key :: rledO p (noteN rs (evK wide) (evS wide) (keyN wide n)) :: L) := (s2.pull 1).rowNil 1
  clear s2
  go_wp2_with (at_builtin; refine wpl_app8 (xs := []) rfl (.tmp 18) (.tmp 19) rfl rfl rfl s3 HN.out.1 (by omega) ?_; intro p9 c9 w9 s9; rw [Nat.zero_add, List.nil_append] at s9)
  go_ret2
  have s10 := (rowBytes s9).2.2.2
  have s11 := (show Sat W0 w9 (bytes true p9 key :: bytes true none [] :: bytes m pk key :: rledO p (noteN rs (evK wide) (evS wide) (keyN wide n)) :: L) from (bytesNil true none s10).pull 1).alloc #[.int .u8 (algN wide), .slice p9 n c9, .slice none 0 0, .bool true] 121
  have s12 := rmacShut HN.out.1 (nm := 0) rfl s11
  exact ⟨_, rfl, (by (repeat (first | with_reducible apply Sat.sub (s12) | with_reducible apply Sat.alloc' | with_reducible apply Sat.drew | with_reducible apply Sat.drewN)); (repeat (first | with_reducible exact Fr.done | with_reducible exact Fr.nil | (with_reducible apply Fr.cons; (focus ((repeat (first | with_reducible exact Take.here | with_reducible apply Take.there)); done))) | with_reducible apply Fr.skip)); done)⟩
set_option maxRecDepth 100000 in
set_option maxHeartbeats 2000000 in
theorem rmwrite {W0 w : World} {L : List Assn} {m : Bool} {pp : Option Addr} {n cap b : Nat} {pv : Value} (wide : Bool) (p : Option Nat) (rs : List Run3) (key msg P : List Byte) (hp : pv = ptrO p) (hP : P.length = n) (hn : n ≤ 900000000) (hm : msg.length ≤ 900000000) (hs : Sat W0 w (rledO p rs :: bytes m pp P :: rmac wide b key msg :: L)) (hb : tot rs + msg.length + n + 10 ≤ 4611686018427387904) (hl : rs.length + 1 ≤ 4294967296) :
    Calls Tryz.prog 94 #[.pointer (some ⟨b, 0, none⟩), pv, .slice pp n cap] w fun e w' => e = .returned (.int .i64 0) ∧ Sat W0 w' (rledO p (noteN rs (evK wide) (evS wide) ((msg.length + n) / bsz wide - msg.length / bsz wide)) :: bytes m pp P :: rmac wide b key (msg ++ P) :: L) := by
  subst hp
  obtain ⟨pk, ck, pm, cm, s1⟩ := rmacOpen (show Sat W0 w (rmac wide b key msg :: rledO p rs :: bytes m pp P :: L) from hs.pull 2)
  clear hs
  obtain ⟨k, hk⟩ : ∃ k, k = msg.length := ⟨_, rfl⟩
  rw [← hk] at s1 hm hb ⊢
  obtain ⟨nk, hnk⟩ : ∃ nk, nk = key.length := ⟨_, rfl⟩
  rw [← hnk] at s1
  have hblk := fun w : World => rblock12 w wide
  cases wide
  · skip
    simp only [bsz] at hblk ⊢
    have hkd : (k : Int) / 64 = ((k / 64 : Nat) : Int) := by omega
    have hkd3 : ((k + n : Nat) : Int) / 64 = (((k + n) / 64 : Nat) : Int) := by omega
    obtain ⟨D, hD⟩ : ∃ D, D = k / 64 := ⟨_, rfl⟩
    obtain ⟨D2, hD2⟩ : ∃ D2, D2 = (k + n) / 64 := ⟨_, rfl⟩
    have hDD : D ≤ D2 := by rw [hD, hD2]; omega
    have hDb : D2 ≤ k + n := by rw [hD2]; omega
    rw [← hD] at hkd ⊢
    rw [← hD2] at hkd3 ⊢
    have hw1 : IntKind.i64.wrap (D : Int) = (D : Int) := by rw [IntKind.wrap_i64]; omega
    have hw2 : IntKind.i64.wrap (D2 : Int) = (D2 : Int) := by rw [IntKind.wrap_i64]; omega
    have hq1 : IntKind.i64.wrap ((k : Int).tdiv 64) = (D : Int) := by rw [Int.tdiv_eq_ediv_of_nonneg (by omega), hkd]; exact hw1
    have hnv : IntKind.i64.wrap (IntKind.i64.wrap (((k : Int) + (n : Int)).tdiv 64) - (D : Int)) = ((D2 - D : Nat) : Int) := by
      rw [Int.tdiv_eq_ediv_of_nonneg (by omega), ← Int.natCast_add, hkd3, hw2, show (D2 : Int) - (D : Int) = ((D2 - D : Nat) : Int) from by omega, IntKind.wrap_i64]
      omega
    have HP := Lib.hid (And.intro hP (And.intro hblk (And.intro hb (And.intro hl (And.intro hk (And.intro hDD (And.intro hDb (And.intro hnv (And.intro hq1 (And.intro hnk (And.intro hkd hkd3))))))))))); clear hP hb hl hk hD hD2 hnv hw1 hw2 hblk hnk hkd hkd3 hq1
    have hF : ∀ wx X a1 a2 a3, Sat W0 wx (seg true b 0 [.int .u8 (algN false), a1, a2, a3] :: X) → wx.cell? ⟨b, 0, none⟩ = some (.int .u8 (algN false)) ∧ wx.cell? ⟨b, 2, none⟩ = some a2 ∧ wx.frozen? ⟨b, 2, none⟩ = false ∧ b < wx.heap.size := fun wx X a1 a2 a3 h => ⟨h.at 0 rfl, h.at 2 rfl, h.fr 2 (by simp), h.lt (by simp)⟩
    have HF := Lib.hid hF; clear hF
    go_enter Tryz.func94, Tryz.ntmps94
    go_wp2_with fail
    refine (rmmade s1).mono ?_
    rintro e w1 ⟨rfl, rfl⟩
    obtain ⟨c0, c2, f2, z0⟩ := HF.out _ _ _ _ _ s1
    have hq1 := HP.out.2.2.2.2.2.2.2.2.1
    go_wp2_with fail
    go_quiet ((go_at_call 68; exact Calls.quiet_of_same (HP.out.2.1 _)))
    rw [HP.out.2.2.2.2.2.2.2.2.2.2.1]
    clear hq1 c0 c2 f2 z0
    obtain ⟨w2, hw2⟩ : ∃ w2, w2 = w1.drewN nq := ⟨_, rfl⟩
    have s2 := s1.drewN nq
    rw [← hw2] at s2 ⊢
    clear hw2 s1
    have s3 : Sat W0 w2 (row none 0 1 0 (u8s []) :: bytes false pm msg :: bytes m pp P :: seg true b 0 [.int .u8 (algN false), .slice pk nk ck, .slice pm k cm, .bool true] :: bytes false pk key :: rledO p rs :: L) := by
      have t : Sat W0 w2 (bytes false pm msg :: bytes m pp P :: seg true b 0 [.int .u8 (algN false), .slice pk nk ck, .slice pm k cm, .bool true] :: bytes false pk key :: rledO p rs :: L) := (by (repeat (first | with_reducible apply Sat.sub (s2) | with_reducible apply Sat.alloc' | with_reducible apply Sat.drew | with_reducible apply Sat.drewN)); (repeat (first | with_reducible exact Fr.done | with_reducible exact Fr.nil | (with_reducible apply Fr.cons; (focus ((repeat (first | with_reducible exact Take.here | with_reducible apply Take.there)); done))) | with_reducible apply Fr.skip)); done)
      exact t.rowNil 1
    obtain ⟨c0, c2, f2, z0⟩ := HF.out _ _ _ _ _ s2
    clear s2
    go_wp2_with (first | (at_builtin; refine wpl_app8 (xs := []) rfl (.tmp 25) (.tmp 29) rfl rfl rfl s3 HP.out.2.2.2.2.1.symm (by omega) ?_; intro pa ca wa sa; rw [Nat.zero_add, List.nil_append] at sa; clear s3 c0 c2 f2 z0; have sb : Sat W0 wa (row pa ca 1 k (u8s msg) :: bytes m pp P :: seg true b 0 [.int .u8 (algN false), .slice pk nk ck, .slice pm k cm, .bool true] :: bytes false pk key :: rledO p rs :: L) := (by (repeat (first | with_reducible apply Sat.sub (sa) | with_reducible apply Sat.alloc' | with_reducible apply Sat.drew | with_reducible apply Sat.drewN)); (repeat (first | with_reducible exact Fr.done | with_reducible exact Fr.nil | (with_reducible apply Fr.cons; (focus ((repeat (first | with_reducible exact Take.here | with_reducible apply Take.there)); done))) | with_reducible apply Fr.skip)); done); clear sa; obtain ⟨c0, c2, f2, z0⟩ := HF.out _ _ _ _ _ (show Sat W0 wa (seg true b 0 [.int .u8 (algN false), .slice pk nk ck, .slice pm k cm, .bool true] :: row pa ca 1 k (u8s msg) :: bytes m pp P :: bytes false pk key :: rledO p rs :: L) from (by (repeat (first | with_reducible apply Sat.sub (sb) | with_reducible apply Sat.alloc' | with_reducible apply Sat.drew | with_reducible apply Sat.drewN)); (repeat (first | with_reducible exact Fr.done | with_reducible exact Fr.nil | (with_reducible apply Fr.cons; (focus ((repeat (first | with_reducible exact Take.here | with_reducible apply Take.there)); done))) | with_reducible apply Fr.skip)); done))) | (at_builtin; refine wpl_app8 rfl (.tmp 32) (.tmp 33) rfl rfl rfl sb HP.out.1 (by omega) ?_; intro pb cb wb sc'; clear c0 c2 f2 z0; have sc : Sat W0 wb (seg true b 0 [.int .u8 (algN false), .slice pk nk ck, .slice pm k cm, .bool true] :: row pb cb 1 (k + n) (u8s (msg ++ P)) :: bytes m pp P :: bytes false pk key :: rledO p rs :: L) := (by (repeat (first | with_reducible apply Sat.sub (sc') | with_reducible apply Sat.alloc' | with_reducible apply Sat.drew | with_reducible apply Sat.drewN)); (repeat (first | with_reducible exact Fr.done | with_reducible exact Fr.nil | (with_reducible apply Fr.cons; (focus ((repeat (first | with_reducible exact Take.here | with_reducible apply Take.there)); done))) | with_reducible apply Fr.skip)); done); clear sc' sb; obtain ⟨c0, c2, f2, z0⟩ := HF.out _ _ _ _ _ sc))
    have sd := sc.store (i := 2) (by simp) (.slice pb (k + n) cb) (q := 2) rfl
    obtain ⟨w3, hw3⟩ : ∃ w3, w3 = wb.setCell ⟨b, 2, none⟩ (.slice pb (k + n) cb) := ⟨_, rfl⟩
    rw [← hw3] at sd ⊢
    clear hw3 sc c0 c2 f2 z0
    have se : Sat W0 w3 (seg true b 0 [.int .u8 (algN false), .slice pk nk ck, .slice pb (k + n) cb, .bool true] :: row pb cb 1 (k + n) (u8s (msg ++ P)) :: bytes m pp P :: bytes false pk key :: rledO p rs :: L) := sd
    clear sd
    obtain ⟨c0, c2, f2, z0⟩ := HF.out _ _ _ _ _ se
    go_wp2_with fail
    refine wp_region_quiet_tail_lit 18 (by kernel_rfl) (by kernel_rfl) ?_
    simp only [List.take_succ_cons, List.take_zero, List.drop_succ_cons, List.drop_zero]
    repeat (go_big_quiet_step ((go_at_call 68; exact Calls.quiet_of_same (HP.out.2.1 _))))
    refine wpQuiet_nil ?_
    rintro _ ⟨nr, rfl⟩
    go_wp2_with fail
    refine (rblocks12 false p rs (D2 - D) rfl (by first | exact HP.out.2.2.2.2.2.2.2.1 | (have h3 := HP.out.2.2.2.2.2.2.2.2.2.2.2; have h4 := HP.out.2.2.2.2.2.1; omega)) (by (repeat (first | with_reducible apply Sat.sub (se) | with_reducible apply Sat.alloc' | with_reducible apply Sat.drew | with_reducible apply Sat.drewN)); (repeat (first | with_reducible exact Fr.done | with_reducible exact Fr.nil | (with_reducible apply Fr.cons; (focus ((repeat (first | with_reducible exact Take.here | with_reducible apply Take.there)); done))) | with_reducible apply Fr.skip)); done) (by have := HP.out.2.2.1; have := HP.out.2.2.2.2.2.2.1; omega) (by have := HP.out.2.2.2.1; omega)).mono ?_
    rintro e w4 ⟨rfl, s5⟩
    clear se c0 c2 f2 z0
    go_wp2
    go_ret
    refine ⟨rfl, ?_⟩
    have s6 := (rowBytes (show Sat W0 w4 (row pb cb 1 (k + n) (u8s (msg ++ P)) :: seg true b 0 [.int .u8 (algN false), .slice pk nk ck, .slice pb (k + n) cb, .bool true] :: bytes m pp P :: bytes false pk key :: rledO p (noteN rs (evK false) (evS false) (D2 - D)) :: L) from (by (repeat (first | with_reducible apply Sat.sub (s5) | with_reducible apply Sat.alloc' | with_reducible apply Sat.drew | with_reducible apply Sat.drewN)); (repeat (first | with_reducible exact Fr.done | with_reducible exact Fr.nil | (with_reducible apply Fr.cons; (focus ((repeat (first | with_reducible exact Take.here | with_reducible apply Take.there)); done))) | with_reducible apply Fr.skip)); done))).2.2.2
    have s7 := rmacShut (wide := false) HP.out.2.2.2.2.2.2.2.2.2.1.symm (msg := msg ++ P) (nm := k + n) (by rw [List.length_append, HP.out.1, ← HP.out.2.2.2.2.1]) (show Sat W0 w4 (seg true b 0 [.int .u8 (algN false), .slice pk nk ck, .slice pb (k + n) cb, .bool true] :: bytes false pk key :: bytes true pb (msg ++ P) :: bytes m pp P :: rledO p (noteN rs (evK false) (evS false) (D2 - D)) :: L) from (by (repeat (first | with_reducible apply Sat.sub (s6) | with_reducible apply Sat.alloc' | with_reducible apply Sat.drew | with_reducible apply Sat.drewN)); (repeat (first | with_reducible exact Fr.done | with_reducible exact Fr.nil | (with_reducible apply Fr.cons; (focus ((repeat (first | with_reducible exact Take.here | with_reducible apply Take.there)); done))) | with_reducible apply Fr.skip)); done))
    exact (by (repeat (first | with_reducible apply Sat.sub (s7) | with_reducible apply Sat.alloc' | with_reducible apply Sat.drew | with_reducible apply Sat.drewN)); (repeat (first | with_reducible exact Fr.done | with_reducible exact Fr.nil | (with_reducible apply Fr.cons; (focus ((repeat (first | with_reducible exact Take.here | with_reducible apply Take.there)); done))) | with_reducible apply Fr.skip)); done)
  · skip
    simp only [bsz] at hblk ⊢
    have hkd : (k : Int) / 128 = ((k / 128 : Nat) : Int) := by omega
    have hkd3 : ((k + n : Nat) : Int) / 128 = (((k + n) / 128 : Nat) : Int) := by omega
    obtain ⟨D, hD⟩ : ∃ D, D = k / 128 := ⟨_, rfl⟩
    obtain ⟨D2, hD2⟩ : ∃ D2, D2 = (k + n) / 128 := ⟨_, rfl⟩
    have hDD : D ≤ D2 := by rw [hD, hD2]; omega
    have hDb : D2 ≤ k + n := by rw [hD2]; omega
    rw [← hD] at hkd ⊢
    rw [← hD2] at hkd3 ⊢
    have hw1 : IntKind.i64.wrap (D : Int) = (D : Int) := by rw [IntKind.wrap_i64]; omega
    have hw2 : IntKind.i64.wrap (D2 : Int) = (D2 : Int) := by rw [IntKind.wrap_i64]; omega
    have hq1 : IntKind.i64.wrap ((k : Int).tdiv 128) = (D : Int) := by rw [Int.tdiv_eq_ediv_of_nonneg (by omega), hkd]; exact hw1
    have hnv : IntKind.i64.wrap (IntKind.i64.wrap (((k : Int) + (n : Int)).tdiv 128) - (D : Int)) = ((D2 - D : Nat) : Int) := by
      rw [Int.tdiv_eq_ediv_of_nonneg (by omega), ← Int.natCast_add, hkd3, hw2, show (D2 : Int) - (D : Int) = ((D2 - D : Nat) : Int) from by omega, IntKind.wrap_i64]
      omega
    have HP := Lib.hid (And.intro hP (And.intro hblk (And.intro hb (And.intro hl (And.intro hk (And.intro hDD (And.intro hDb (And.intro hnv (And.intro hq1 (And.intro hnk (And.intro hkd hkd3))))))))))); clear hP hb hl hk hD hD2 hnv hw1 hw2 hblk hnk hkd hkd3 hq1
    have hF : ∀ wx X a1 a2 a3, Sat W0 wx (seg true b 0 [.int .u8 (algN true), a1, a2, a3] :: X) → wx.cell? ⟨b, 0, none⟩ = some (.int .u8 (algN true)) ∧ wx.cell? ⟨b, 2, none⟩ = some a2 ∧ wx.frozen? ⟨b, 2, none⟩ = false ∧ b < wx.heap.size := fun wx X a1 a2 a3 h => ⟨h.at 0 rfl, h.at 2 rfl, h.fr 2 (by simp), h.lt (by simp)⟩
    have HF := Lib.hid hF; clear hF
    go_enter Tryz.func94, Tryz.ntmps94
    go_wp2_with fail
    refine (rmmade s1).mono ?_
    rintro e w1 ⟨rfl, rfl⟩
    obtain ⟨c0, c2, f2, z0⟩ := HF.out _ _ _ _ _ s1
    have hq1 := HP.out.2.2.2.2.2.2.2.2.1
    go_wp2_with fail
    go_quiet ((go_at_call 68; exact Calls.quiet_of_same (HP.out.2.1 _)))
    rw [HP.out.2.2.2.2.2.2.2.2.2.2.1]
    clear hq1 c0 c2 f2 z0
    obtain ⟨w2, hw2⟩ : ∃ w2, w2 = w1.drewN nq := ⟨_, rfl⟩
    have s2 := s1.drewN nq
    rw [← hw2] at s2 ⊢
    clear hw2 s1
    have s3 : Sat W0 w2 (row none 0 1 0 (u8s []) :: bytes false pm msg :: bytes m pp P :: seg true b 0 [.int .u8 (algN true), .slice pk nk ck, .slice pm k cm, .bool true] :: bytes false pk key :: rledO p rs :: L) := by
      have t : Sat W0 w2 (bytes false pm msg :: bytes m pp P :: seg true b 0 [.int .u8 (algN true), .slice pk nk ck, .slice pm k cm, .bool true] :: bytes false pk key :: rledO p rs :: L) := (by (repeat (first | with_reducible apply Sat.sub (s2) | with_reducible apply Sat.alloc' | with_reducible apply Sat.drew | with_reducible apply Sat.drewN)); (repeat (first | with_reducible exact Fr.done | with_reducible exact Fr.nil | (with_reducible apply Fr.cons; (focus ((repeat (first | with_reducible exact Take.here | with_reducible apply Take.there)); done))) | with_reducible apply Fr.skip)); done)
      exact t.rowNil 1
    obtain ⟨c0, c2, f2, z0⟩ := HF.out _ _ _ _ _ s2
    clear s2
    go_wp2_with (first | (at_builtin; refine wpl_app8 (xs := []) rfl (.tmp 25) (.tmp 29) rfl rfl rfl s3 HP.out.2.2.2.2.1.symm (by omega) ?_; intro pa ca wa sa; rw [Nat.zero_add, List.nil_append] at sa; clear s3 c0 c2 f2 z0; have sb : Sat W0 wa (row pa ca 1 k (u8s msg) :: bytes m pp P :: seg true b 0 [.int .u8 (algN true), .slice pk nk ck, .slice pm k cm, .bool true] :: bytes false pk key :: rledO p rs :: L) := (by (repeat (first | with_reducible apply Sat.sub (sa) | with_reducible apply Sat.alloc' | with_reducible apply Sat.drew | with_reducible apply Sat.drewN)); (repeat (first | with_reducible exact Fr.done | with_reducible exact Fr.nil | (with_reducible apply Fr.cons; (focus ((repeat (first | with_reducible exact Take.here | with_reducible apply Take.there)); done))) | with_reducible apply Fr.skip)); done); clear sa; obtain ⟨c0, c2, f2, z0⟩ := HF.out _ _ _ _ _ (show Sat W0 wa (seg true b 0 [.int .u8 (algN true), .slice pk nk ck, .slice pm k cm, .bool true] :: row pa ca 1 k (u8s msg) :: bytes m pp P :: bytes false pk key :: rledO p rs :: L) from (by (repeat (first | with_reducible apply Sat.sub (sb) | with_reducible apply Sat.alloc' | with_reducible apply Sat.drew | with_reducible apply Sat.drewN)); (repeat (first | with_reducible exact Fr.done | with_reducible exact Fr.nil | (with_reducible apply Fr.cons; (focus ((repeat (first | with_reducible exact Take.here | with_reducible apply Take.there)); done))) | with_reducible apply Fr.skip)); done))) | (at_builtin; refine wpl_app8 rfl (.tmp 32) (.tmp 33) rfl rfl rfl sb HP.out.1 (by omega) ?_; intro pb cb wb sc'; clear c0 c2 f2 z0; have sc : Sat W0 wb (seg true b 0 [.int .u8 (algN true), .slice pk nk ck, .slice pm k cm, .bool true] :: row pb cb 1 (k + n) (u8s (msg ++ P)) :: bytes m pp P :: bytes false pk key :: rledO p rs :: L) := (by (repeat (first | with_reducible apply Sat.sub (sc') | with_reducible apply Sat.alloc' | with_reducible apply Sat.drew | with_reducible apply Sat.drewN)); (repeat (first | with_reducible exact Fr.done | with_reducible exact Fr.nil | (with_reducible apply Fr.cons; (focus ((repeat (first | with_reducible exact Take.here | with_reducible apply Take.there)); done))) | with_reducible apply Fr.skip)); done); clear sc' sb; obtain ⟨c0, c2, f2, z0⟩ := HF.out _ _ _ _ _ sc))
    have sd := sc.store (i := 2) (by simp) (.slice pb (k + n) cb) (q := 2) rfl
    obtain ⟨w3, hw3⟩ : ∃ w3, w3 = wb.setCell ⟨b, 2, none⟩ (.slice pb (k + n) cb) := ⟨_, rfl⟩
    rw [← hw3] at sd ⊢
    clear hw3 sc c0 c2 f2 z0
    have se : Sat W0 w3 (seg true b 0 [.int .u8 (algN true), .slice pk nk ck, .slice pb (k + n) cb, .bool true] :: row pb cb 1 (k + n) (u8s (msg ++ P)) :: bytes m pp P :: bytes false pk key :: rledO p rs :: L) := sd
    clear sd
    obtain ⟨c0, c2, f2, z0⟩ := HF.out _ _ _ _ _ se
    go_wp2_with fail
    refine wp_region_quiet_tail_lit 18 (by kernel_rfl) (by kernel_rfl) ?_
    simp only [List.take_succ_cons, List.take_zero, List.drop_succ_cons, List.drop_zero]
    repeat (go_big_quiet_step ((go_at_call 68; exact Calls.quiet_of_same (HP.out.2.1 _))))
    refine wpQuiet_nil ?_
    rintro _ ⟨nr, rfl⟩
    go_wp2_with fail
    refine (rblocks12 true p rs (D2 - D) rfl (by first | exact HP.out.2.2.2.2.2.2.2.1 | (have h3 := HP.out.2.2.2.2.2.2.2.2.2.2.2; have h4 := HP.out.2.2.2.2.2.1; omega)) (by (repeat (first | with_reducible apply Sat.sub (se) | with_reducible apply Sat.alloc' | with_reducible apply Sat.drew | with_reducible apply Sat.drewN)); (repeat (first | with_reducible exact Fr.done | with_reducible exact Fr.nil | (with_reducible apply Fr.cons; (focus ((repeat (first | with_reducible exact Take.here | with_reducible apply Take.there)); done))) | with_reducible apply Fr.skip)); done) (by have := HP.out.2.2.1; have := HP.out.2.2.2.2.2.2.1; omega) (by have := HP.out.2.2.2.1; omega)).mono ?_
    rintro e w4 ⟨rfl, s5⟩
    clear se c0 c2 f2 z0
    go_wp2
    go_ret
    refine ⟨rfl, ?_⟩
    have s6 := (rowBytes (show Sat W0 w4 (row pb cb 1 (k + n) (u8s (msg ++ P)) :: seg true b 0 [.int .u8 (algN true), .slice pk nk ck, .slice pb (k + n) cb, .bool true] :: bytes m pp P :: bytes false pk key :: rledO p (noteN rs (evK true) (evS true) (D2 - D)) :: L) from (by (repeat (first | with_reducible apply Sat.sub (s5) | with_reducible apply Sat.alloc' | with_reducible apply Sat.drew | with_reducible apply Sat.drewN)); (repeat (first | with_reducible exact Fr.done | with_reducible exact Fr.nil | (with_reducible apply Fr.cons; (focus ((repeat (first | with_reducible exact Take.here | with_reducible apply Take.there)); done))) | with_reducible apply Fr.skip)); done))).2.2.2
    have s7 := rmacShut (wide := true) HP.out.2.2.2.2.2.2.2.2.2.1.symm (msg := msg ++ P) (nm := k + n) (by rw [List.length_append, HP.out.1, ← HP.out.2.2.2.2.1]) (show Sat W0 w4 (seg true b 0 [.int .u8 (algN true), .slice pk nk ck, .slice pb (k + n) cb, .bool true] :: bytes false pk key :: bytes true pb (msg ++ P) :: bytes m pp P :: rledO p (noteN rs (evK true) (evS true) (D2 - D)) :: L) from (by (repeat (first | with_reducible apply Sat.sub (s6) | with_reducible apply Sat.alloc' | with_reducible apply Sat.drew | with_reducible apply Sat.drewN)); (repeat (first | with_reducible exact Fr.done | with_reducible exact Fr.nil | (with_reducible apply Fr.cons; (focus ((repeat (first | with_reducible exact Take.here | with_reducible apply Take.there)); done))) | with_reducible apply Fr.skip)); done))
    exact (by (repeat (first | with_reducible apply Sat.sub (s7) | with_reducible apply Sat.alloc' | with_reducible apply Sat.drew | with_reducible apply Sat.drewN)); (repeat (first | with_reducible exact Fr.done | with_reducible exact Fr.nil | (with_reducible apply Fr.cons; (focus ((repeat (first | with_reducible exact Take.here | with_reducible apply Take.there)); done))) | with_reducible apply Fr.skip)); done)
set_option maxHeartbeats 1000000 in
theorem rmsum {W0 w : World} {L : List Assn} {b : Nat} {pv : Value} (wide : Bool) (p : Option Nat) (rs : List Run3) (key msg : List Byte) (hp : pv = ptrO p) (hk : key.length ≤ 900000000) (hm : msg.length ≤ 900000000) (hs : Sat W0 w (rledO p rs :: rmac wide b key msg :: L)) (hb : tot rs + 10 ≤ 4611686018427387904) (hl : rs.length ≤ 4294967296) :
    Calls Tryz.prog 95 #[.pointer (some ⟨b, 0, none⟩), pv] w fun e w' => ∃ q c, e = .returned (.tuple #[.slice q (hsz wide) c, .int .i64 0]) ∧ Sat W0 w' (row q c 1 (hsz wide) (u8s (hmac wide key msg)) :: rledO p (noteN rs (evK wide) (evS wide) (endN wide msg.length)) :: rmac wide b key msg :: L) := by
  subst hp
  obtain ⟨pk, ck, pm, cm, s1⟩ := rmacOpen (show Sat W0 w (rmac wide b key msg :: rledO p rs :: L) from hs.pull 1)
  clear hs
  obtain ⟨k, hk'⟩ : ∃ k, k = msg.length := ⟨_, rfl⟩
  rw [← hk'] at s1 hm ⊢
  obtain ⟨nk, hnk⟩ : ∃ nk, nk = key.length := ⟨_, rfl⟩
  rw [← hnk] at s1 hk
  have HP := Lib.hid (And.intro hk' (And.intro hnk (And.intro hb hl))); clear hk' hnk hb hl
  have hF : ∀ wx X a0 a1 a2 a3, Sat W0 wx (seg true b 0 [a0, a1, a2, a3] :: X) → wx.cell? ⟨b, 0, none⟩ = some a0 ∧ wx.cell? ⟨b, 1, none⟩ = some a1 ∧ wx.cell? ⟨b, 2, none⟩ = some a2 ∧ b < wx.heap.size := fun wx X a0 a1 a2 a3 h => ⟨h.at 0 rfl, h.at 1 rfl, h.at 2 rfl, h.lt (by simp)⟩
  have HF := Lib.hid hF; clear hF
  go_enter Tryz.func95, Tryz.ntmps95
  go_wp2_with fail
  refine (rmmade s1).mono ?_
  rintro e w1 ⟨rfl, rfl⟩
  obtain ⟨c0, c1, c2, z0⟩ := HF.out _ _ _ _ _ _ s1
  go_wp2_with fail
  refine wp_region_quiet_tail_lit 10 (by kernel_rfl) (by kernel_rfl) ?_
  simp only [List.take_succ_cons, List.take_zero, List.drop_succ_cons, List.drop_zero]
  repeat (go_big_quiet_step (fail))
  refine wpQuiet_nil ?_
  rintro _ ⟨nr, rfl⟩
  go_wp2_with fail
  refine (rends12 wide p rs k rfl rfl (by omega) (by (repeat (first | with_reducible apply Sat.sub (s1) | with_reducible apply Sat.alloc' | with_reducible apply Sat.drew | with_reducible apply Sat.drewN)); (repeat (first | with_reducible exact Fr.done | with_reducible exact Fr.nil | (with_reducible apply Fr.cons; (focus ((repeat (first | with_reducible exact Take.here | with_reducible apply Take.there)); done))) | with_reducible apply Fr.skip)); done) HP.out.2.2.1 HP.out.2.2.2).mono ?_
  rintro e w2 ⟨rfl, s2'⟩
  have s2 : Sat W0 w2 (seg true b 0 [.int .u8 (algN wide), .slice pk nk ck, .slice pm k cm, .bool true] :: bytes false pk key :: bytes false pm msg :: rledO p (noteN rs (evK wide) (evS wide) (endN wide k)) :: L) := (by (repeat (first | with_reducible apply Sat.sub (s2') | with_reducible apply Sat.alloc' | with_reducible apply Sat.drew | with_reducible apply Sat.drewN)); (repeat (first | with_reducible exact Fr.done | with_reducible exact Fr.nil | (with_reducible apply Fr.cons; (focus ((repeat (first | with_reducible exact Take.here | with_reducible apply Take.there)); done))) | with_reducible apply Fr.skip)); done)
  clear s1 s2' c0 c1 c2 z0
  obtain ⟨c0, c1, c2, z0⟩ := HF.out _ _ _ _ _ _ s2
  go_wp2_with fail
  refine wp_region_quiet_tail_lit 12 (by kernel_rfl) (by kernel_rfl) ?_
  simp only [List.take_succ_cons, List.take_zero, List.drop_succ_cons, List.drop_zero]
  repeat (go_big_quiet_step (fail))
  refine wpQuiet_nil ?_
  rintro _ ⟨ns, rfl⟩
  go_wp2_with fail
  refine (rof12 wide key msg rfl HP.out.2.1.symm (by omega) HP.out.1.symm (by omega) (by (repeat (first | with_reducible apply Sat.sub (s2) | with_reducible apply Sat.alloc' | with_reducible apply Sat.drew | with_reducible apply Sat.drewN)); (repeat (first | with_reducible exact Fr.done | with_reducible exact Fr.nil | (with_reducible apply Fr.cons; (focus ((repeat (first | with_reducible exact Take.here | with_reducible apply Take.there)); done))) | with_reducible apply Fr.skip)); done)).mono ?_
  rintro e w3 ⟨q, c, rfl, s3⟩
  clear s2 c0 c1 c2 z0
  go_wp2
  refine bodyPost_ret (v := .tuple #[.slice q _ c, .int .i64 0]) (by simp [results, Tryz.results95, go_sem]) rfl ⟨q, c, rfl, ?_⟩
  have s4 := rmacShut (wide := wide) HP.out.2.1.symm HP.out.1.symm (show Sat W0 w3 (seg true b 0 [.int .u8 (algN wide), .slice pk nk ck, .slice pm k cm, .bool true] :: bytes false pk key :: bytes false pm msg :: row q c 1 (hsz wide) (u8s (hmac wide key msg)) :: rledO p (noteN rs (evK wide) (evS wide) (endN wide k)) :: L) from (by (repeat (first | with_reducible apply Sat.sub (s3) | with_reducible apply Sat.alloc' | with_reducible apply Sat.drew | with_reducible apply Sat.drewN)); (repeat (first | with_reducible exact Fr.done | with_reducible exact Fr.nil | (with_reducible apply Fr.cons; (focus ((repeat (first | with_reducible exact Take.here | with_reducible apply Take.there)); done))) | with_reducible apply Fr.skip)); done))
  exact (by (repeat (first | with_reducible apply Sat.sub (s4) | with_reducible apply Sat.alloc' | with_reducible apply Sat.drew | with_reducible apply Sat.drewN)); (repeat (first | with_reducible exact Fr.done | with_reducible exact Fr.nil | (with_reducible apply Fr.cons; (focus ((repeat (first | with_reducible exact Take.here | with_reducible apply Take.there)); done))) | with_reducible apply Fr.skip)); done)
set_option maxHeartbeats 1000000 in
theorem rmreset {W0 w : World} {L : List Assn} {b : Nat} (wide : Bool) (key msg : List Byte) (hs : Sat W0 w (rmac wide b key msg :: L)) :
    Calls Tryz.prog 96 #[.pointer (some ⟨b, 0, none⟩)] w fun e w' => e = .returned (.int .i64 0) ∧ Sat W0 w' (rmac wide b key [] :: L) := by
  obtain ⟨pk, ck, pm, cm, s1⟩ := rmacOpen hs
  clear hs
  have f2 := s1.fr 2 (by simp)
  have c2 := s1.at 2 rfl
  have z0 := s1.lt (by simp)
  go_enter Tryz.func96, Tryz.ntmps96
  go_wp2_with fail
  refine (rmmade s1).mono ?_
  rintro e w1 ⟨rfl, rfl⟩
  go_wp2
  go_ret
  refine ⟨rfl, ?_⟩
  have s2 := s1.store (i := 2) (by simp) (.slice none 0 0) (q := 2) rfl
  have s3 : Sat W0 _ (seg true b 0 [.int .u8 (algN wide), .slice pk key.length ck, .slice none 0 0, .bool true] :: bytes false pk key :: bytes false pm msg :: L) := s2
  have s4 : Sat W0 (w1.setCell ⟨b, 2, none⟩ (.slice none 0 0)) (seg true b 0 [.int .u8 (algN wide), .slice pk key.length ck, .slice none 0 0, .bool true] :: bytes false pk key :: bytes true none [] :: L) := (by (repeat (first | with_reducible apply Sat.sub (bytesNil true none s3) | with_reducible apply Sat.alloc' | with_reducible apply Sat.drew | with_reducible apply Sat.drewN)); (repeat (first | with_reducible exact Fr.done | with_reducible exact Fr.nil | (with_reducible apply Fr.cons; (focus ((repeat (first | with_reducible exact Take.here | with_reducible apply Take.there)); done))) | with_reducible apply Fr.skip)); done)
  exact rmacShut (wide := wide) (msg := []) rfl (nm := 0) rfl s4
set_option maxHeartbeats 1000000 in
/-- A tag of a message in two pieces; the mac's message is empty then. -/
theorem rtag16 {W0 w : World} {L : List Assn} {m1 m2 : Bool} {p1 p2 : Option Addr} {n1 n2 c1 c2 b : Nat} {pv : Value} (wide : Bool) (p : Option Nat) (rs : List Run3) (key P Q : List Byte) (hp : pv = ptrO p) (hk : key.length ≤ 900000000) (hP : P.length = n1) (hQ : Q.length = n2) (h1 : n1 ≤ 400000000) (h2 : n2 ≤ 400000000) (hs : Sat W0 w (rledO p rs :: bytes m1 p1 P :: bytes m2 p2 Q :: rmac wide b key [] :: L)) (hb : tot rs + 2 * n1 + 2 * n2 + 100 ≤ 4611686018427387904) (hl : rs.length + 8 ≤ 4294967296) :
    Calls Tryz.prog 70 #[pv, .pointer (some ⟨b, 0, none⟩), .slice p1 n1 c1, .slice p2 n2 c2] w fun e w' => ∃ q c, e = .returned (.slice q (hsz wide) c) ∧ Sat W0 w' (row q c 1 (hsz wide) (u8s (hmac wide key (P ++ Q))) :: rledO p (noteN rs (evK wide) (evS wide) ((n1 + n2) / bsz wide + endN wide (n1 + n2))) :: bytes m1 p1 P :: bytes m2 p2 Q :: rmac wide b key [] :: L) := by
  subst hp
  have hD1 : n1 / bsz wide ≤ n1 := Nat.div_le_self _ _
  have hD2 : (n1 + n2) / bsz wide ≤ n1 + n2 := Nat.div_le_self _ _
  have hDD : n1 / bsz wide ≤ (n1 + n2) / bsz wide := Nat.div_le_div_right (by omega)
  have HP := Lib.hid (And.intro hP (And.intro hQ (And.intro hb (And.intro hl (And.intro hD1 (And.intro hD2 hDD)))))); clear hP hQ hb hl hD1 hD2 hDD
  go_enter Tryz.func70, Tryz.ntmps70
  go_wp2_with fail
  refine (rmwrite wide p rs key [] P rfl HP.out.1 (by omega) (by simp) (by (repeat (first | with_reducible apply Sat.sub (hs) | with_reducible apply Sat.alloc' | with_reducible apply Sat.drew | with_reducible apply Sat.drewN)); (repeat (first | with_reducible exact Fr.done | with_reducible exact Fr.nil | (with_reducible apply Fr.cons; (focus ((repeat (first | with_reducible exact Take.here | with_reducible apply Take.there)); done))) | with_reducible apply Fr.skip)); done) (by simp only [List.length_nil]; have := HP.out.2.2.1; omega) (by have := HP.out.2.2.2.1; omega)).mono ?_
  rintro e w1 ⟨rfl, s1⟩
  clear hs
  rw [List.nil_append, List.length_nil, Nat.zero_add, Nat.zero_div, Nat.sub_zero] at s1
  by_cases h0 : 0 < n2
  · go_wp2_with fail
    refine (rmwrite wide p _ key P Q rfl HP.out.2.1 (by omega) (by rw [HP.out.1]; omega) (by (repeat (first | with_reducible apply Sat.sub (s1) | with_reducible apply Sat.alloc' | with_reducible apply Sat.drew | with_reducible apply Sat.drewN)); (repeat (first | with_reducible exact Fr.done | with_reducible exact Fr.nil | (with_reducible apply Fr.cons; (focus ((repeat (first | with_reducible exact Take.here | with_reducible apply Take.there)); done))) | with_reducible apply Fr.skip)); done) (by rw [HP.out.1, tot_noteN]; have := HP.out.2.2.1; have := HP.out.2.2.2.2.1; have := HP.out.2.2.2.2.2.1; omega) (by have := HP.out.2.2.2.1; have := noteN_len rs (evK wide) (evS wide) (n1 / bsz wide); omega)).mono ?_
    rintro e w2 ⟨rfl, s2⟩
    clear s1
    rw [HP.out.1, noteN_add, Nat.add_sub_cancel' HP.out.2.2.2.2.2.2] at s2
    go_wp2_with fail
    refine (rmsum wide p _ key (P ++ Q) rfl hk (by rw [List.length_append, HP.out.1, HP.out.2.1]; omega) (by (repeat (first | with_reducible apply Sat.sub (s2) | with_reducible apply Sat.alloc' | with_reducible apply Sat.drew | with_reducible apply Sat.drewN)); (repeat (first | with_reducible exact Fr.done | with_reducible exact Fr.nil | (with_reducible apply Fr.cons; (focus ((repeat (first | with_reducible exact Take.here | with_reducible apply Take.there)); done))) | with_reducible apply Fr.skip)); done) (by rw [tot_noteN]; have := HP.out.2.2.1; have := HP.out.2.2.2.2.2.1; omega) (by have := HP.out.2.2.2.1; have := noteN_len rs (evK wide) (evS wide) ((n1 + n2) / bsz wide); omega)).mono ?_
    rintro e w3 ⟨q, c, rfl, s3⟩
    clear s2
    rw [noteN_add, List.length_append, HP.out.1, HP.out.2.1] at s3
    go_wp2_with fail
    refine (rmreset wide key (P ++ Q) (by (repeat (first | with_reducible apply Sat.sub (s3) | with_reducible apply Sat.alloc' | with_reducible apply Sat.drew | with_reducible apply Sat.drewN)); (repeat (first | with_reducible exact Fr.done | with_reducible exact Fr.nil | (with_reducible apply Fr.cons; (focus ((repeat (first | with_reducible exact Take.here | with_reducible apply Take.there)); done))) | with_reducible apply Fr.skip)); done)).mono ?_
    rintro e w4 ⟨rfl, s4⟩
    go_wp2
    go_ret
    exact ⟨q, c, rfl, (by (repeat (first | with_reducible apply Sat.sub (s4) | with_reducible apply Sat.alloc' | with_reducible apply Sat.drew | with_reducible apply Sat.drewN)); (repeat (first | with_reducible exact Fr.done | with_reducible exact Fr.nil | (with_reducible apply Fr.cons; (focus ((repeat (first | with_reducible exact Take.here | with_reducible apply Take.there)); done))) | with_reducible apply Fr.skip)); done)⟩
  · obtain rfl : n2 = 0 := by omega
    have hQ0 : Q = [] := List.eq_nil_of_length_eq_zero HP.out.2.1
    subst hQ0
    go_wp2_with fail
    refine (rmsum wide p _ key P rfl hk (by rw [HP.out.1]; omega) (by (repeat (first | with_reducible apply Sat.sub (s1) | with_reducible apply Sat.alloc' | with_reducible apply Sat.drew | with_reducible apply Sat.drewN)); (repeat (first | with_reducible exact Fr.done | with_reducible exact Fr.nil | (with_reducible apply Fr.cons; (focus ((repeat (first | with_reducible exact Take.here | with_reducible apply Take.there)); done))) | with_reducible apply Fr.skip)); done) (by rw [tot_noteN]; have := HP.out.2.2.1; have := HP.out.2.2.2.2.1; omega) (by have := HP.out.2.2.2.1; have := noteN_len rs (evK wide) (evS wide) (n1 / bsz wide); omega)).mono ?_
    rintro e w3 ⟨q, c, rfl, s3⟩
    clear s1
    rw [noteN_add, HP.out.1] at s3
    go_wp2_with fail
    refine (rmreset wide key P (by (repeat (first | with_reducible apply Sat.sub (s3) | with_reducible apply Sat.alloc' | with_reducible apply Sat.drew | with_reducible apply Sat.drewN)); (repeat (first | with_reducible exact Fr.done | with_reducible exact Fr.nil | (with_reducible apply Fr.cons; (focus ((repeat (first | with_reducible exact Take.here | with_reducible apply Take.there)); done))) | with_reducible apply Fr.skip)); done)).mono ?_
    rintro e w4 ⟨rfl, s4⟩
    go_wp2
    go_ret
    refine ⟨q, c, rfl, ?_⟩
    rw [List.append_nil, Nat.add_zero]
    exact (by (repeat (first | with_reducible apply Sat.sub (s4) | with_reducible apply Sat.alloc' | with_reducible apply Sat.drew | with_reducible apply Sat.drewN)); (repeat (first | with_reducible exact Fr.done | with_reducible exact Fr.nil | (with_reducible apply Fr.cons; (focus ((repeat (first | with_reducible exact Take.here | with_reducible apply Take.there)); done))) | with_reducible apply Fr.skip)); done)
end Go.Proofs.YtmohabidfalhoaaGreat
