/- R16, R16b, R16c: texts that lie apart elsewhere, as one; each under the conditions that it names. -/
import Derived.Test.YtmohabidfalhoaaGreatR12b
import Derived.Test.YtmohabidfalhoaaGreatQTail
import Derived.Test.YtmohabidfalhoaaGreatPbk6

/- The document's mac, told piece by piece; each under the conditions that it names. -/
namespace Go.Proofs.YtmohabidfalhoaaGreat
open Go.RowKit Go.Sep Go.Bv Go.Sha
set_option linter.unusedVariables false
set_option linter.unusedSimpArgs false
/-- A mac of the document's: its algorithm, key, message. -/
def rmac (wide : Bool) (b : Nat) (key msg : List Byte) : Assn := fun x => ∃ q : (Option Addr × Nat) × (Option Addr × Nat), sep (seg true b 0 [.int .u8 (algN wide), .slice q.1.1 key.length q.1.2, .slice q.2.1 msg.length q.2.2, .bool true]) (sep (bytes false q.1.1 key) (bytes false q.2.1 msg)) x
theorem rmacOpen {W0 w : World} {L : List Assn} {wide : Bool} {b : Nat} {key msg : List Byte} (h : Sat W0 w (rmac wide b key msg :: L)) : ∃ pk ck pm cm, Sat W0 w (seg true b 0 [.int .u8 (algN wide), .slice pk key.length ck, .slice pm msg.length cm, .bool true] :: bytes false pk key :: bytes false pm msg :: L) := by
  obtain ⟨q, h⟩ := h.exOpen
  have h1 := h.sepOpen
  have h2 := (show Sat W0 w (sep (bytes false q.1.1 key) (bytes false q.2.1 msg) :: seg true b 0 [.int .u8 (algN wide), .slice q.1.1 key.length q.1.2, .slice q.2.1 msg.length q.2.2, .bool true] :: L) from h1.pull 1).sepOpen
  exact ⟨q.1.1, q.1.2, q.2.1, q.2.2, h2.pull 2⟩
theorem rmacShut {W0 w : World} {L : List Assn} {wide : Bool} {b nk nm : Nat} {key msg : List Byte} {pk pm : Option Addr} {ck cm : Nat} {m1 m2 : Bool} (hk : key.length = nk) (hm : msg.length = nm) (h : Sat W0 w (seg true b 0 [.int .u8 (algN wide), .slice pk nk ck, .slice pm nm cm, .bool true] :: bytes m1 pk key :: bytes m2 pm msg :: L)) : Sat W0 w (rmac wide b key msg :: L) := by
  subst hk hm
  have h1 := bytesRo (show Sat W0 w (bytes m1 pk key :: seg true b 0 [.int .u8 (algN wide), .slice pk key.length ck, .slice pm msg.length cm, .bool true] :: bytes m2 pm msg :: L) from h.pull 1)
  have h2 := bytesRo (show Sat W0 w (bytes m2 pm msg :: bytes false pk key :: seg true b 0 [.int .u8 (algN wide), .slice pk key.length ck, .slice pm msg.length cm, .bool true] :: L) from h1.pull 2)
  have h3 := (show Sat W0 w (bytes false pk key :: bytes false pm msg :: seg true b 0 [.int .u8 (algN wide), .slice pk key.length ck, .slice pm msg.length cm, .bool true] :: L) from h2.pull 1).sepShut
  have h4 := (show Sat W0 w (seg true b 0 [.int .u8 (algN wide), .slice pk key.length ck, .slice pm msg.length cm, .bool true] :: sep (bytes false pk key) (bytes false pm msg) :: L) from h3.pull 1).sepShut
  exact Sat.exShut (A := fun q : (Option Addr × Nat) × (Option Addr × Nat) => sep (seg true b 0 [.int .u8 (algN wide), .slice q.1.1 key.length q.1.2, .slice q.2.1 msg.length q.2.2, .bool true]) (sep (bytes false q.1.1 key) (bytes false q.2.1 msg))) ((pk, ck), (pm, cm)) h4
set_option maxHeartbeats 1000000 in
theorem rmmade {W0 w : World} {L : List Assn} {b : Nat} {u v x : Value} (hs : Sat W0 w (seg true b 0 [u, v, x, .bool true] :: L)) :
    Calls Tryz.prog 113 #[.pointer (some ⟨b, 0, none⟩)] w fun e w' => e = .returned (.bool true) ∧ w' = w := by
  have c3 := hs.at 3 rfl
  have z3 := hs.lt (by simp)
  go_enter Tryz.func113, Tryz.ntmps113
  go_wp2
  go_ret
  exact ⟨rfl, rfl⟩
set_option maxHeartbeats 1000000 in
theorem rmnew {W0 w : World} {L : List Assn} {m : Bool} {pk : Option Addr} {n cap : Nat} {pv av : Value} (wide : Bool) (p : Option Nat) (rs : List Run3) (key : List Byte) (hp : pv = ptrO p) (ha : av = .int .u8 (algN wide)) (hn : key.length = n) (hnb : n ≤ 900000000) (hs : Sat W0 w (rledO p rs :: bytes m pk key :: L)) (hb : tot rs + n + 10 ≤ 4611686018427387904) (hl : rs.length + 1 ≤ 4294967296) :
    Calls Tryz.prog 43 #[pv, av, .slice pk n cap] w fun e w' => ∃ b, e = .returned (.tuple #[.pointer (some ⟨b, 0, none⟩), .int .i64 0]) ∧ Sat W0 w' (rmac wide b key [] :: rledO p (noteN rs (evK wide) (evS wide) (keyN wide n)) :: bytes m pk key :: L) := by
  subst ha hp
  have hblk := fun w : World => rblock12 w wide
  have hB0 := bsz_pos wide
  have hbg := rbegins12 (wide := wide) p rs n rfl rfl (by omega) hs hb hl
  obtain ⟨B, hB⟩ : ∃ B, B = bsz wide := ⟨_, rfl⟩
  rw [← hB] at hblk hB0
  have hB1 : ¬ (B : Int) = 0 := by omega
  have HN := Lib.hid (And.intro hn (And.intro hblk hbg)); clear hn hblk hbg hB
  go_enter Tryz.func43, Tryz.ntmps43
  go_wp2_with fail
  refine (HN.out.2.1 _).mono ?_
  rintro e w1 ⟨rfl, rfl⟩
  go_wp2_with fail
  refine HN.out.2.2.mono ?_
  rintro e w2 ⟨rfl, s2⟩
  clear hs
  have s3 : Sat W0 w2 (row none 0 1 0 (u8s []) :: bytes m pk key :: rledO p (noteN rs (evK wide) (evS wide) (keyN wide n)) :: L) := (s2.pull 1).rowNil 1
  clear s2
  go_wp2_with (at_builtin; refine wpl_app8 (xs := []) rfl (.tmp 18) (.tmp 19) rfl rfl rfl s3 HN.out.1 (by omega) ?_; intro p9 c9 w9 s9; rw [Nat.zero_add, List.nil_append] at s9)
  go_ret2
  have s10 := (rowBytes s9).2.2.2
  have s11 := (show Sat W0 w9 (bytes true p9 key :: bytes true none [] :: bytes m pk key :: rledO p (noteN rs (evK wide) (evS wide) (keyN wide n)) :: L) from (bytesNil true none s10).pull 1).alloc #[.int .u8 (algN wide), .slice p9 n c9, .slice none 0 0, .bool true] 121
  have s12 := rmacShut HN.out.1 (nm := 0) rfl s11
  exact ⟨_, rfl, (by (repeat (first | with_reducible apply Sat.sub (s12) | with_reducible apply Sat.alloc' | with_reducible apply Sat.drew | with_reducible apply Sat.drewN)); (repeat (first | with_reducible exact Fr.done | with_reducible exact Fr.nil | (with_reducible apply Fr.cons; (focus ((repeat (first | with_reducible exact Take.here | with_reducible apply Take.there)); done))) | with_reducible apply Fr.skip)); done)⟩
set_option maxRecDepth 100000 in
set_option maxHeartbeats 2000000 in
theorem rmwrite {W0 w : World} {L : List Assn} {m : Bool} {pp : Option Addr} {n cap b : Nat} {pv : Value} (wide : Bool) (p : Option Nat) (rs : List Run3) (key msg P : List Byte) (hp : pv = ptrO p) (hP : P.length = n) (hn : n ≤ 900000000) (hm : msg.length ≤ 900000000) (hs : Sat W0 w (rledO p rs :: bytes m pp P :: rmac wide b key msg :: L)) (hb : tot rs + msg.length + n + 10 ≤ 4611686018427387904) (hl : rs.length + 1 ≤ 4294967296) :
    Calls Tryz.prog 94 #[.pointer (some ⟨b, 0, none⟩), pv, .slice pp n cap] w fun e w' => e = .returned (.int .i64 0) ∧ Sat W0 w' (rledO p (noteN rs (evK wide) (evS wide) ((msg.length + n) / bsz wide - msg.length / bsz wide)) :: bytes m pp P :: rmac wide b key (msg ++ P) :: L) := by
  subst hp
  obtain ⟨pk, ck, pm, cm, s1⟩ := rmacOpen (show Sat W0 w (rmac wide b key msg :: rledO p rs :: bytes m pp P :: L) from hs.pull 2)
  clear hs
  obtain ⟨k, hk⟩ : ∃ k, k = msg.length := ⟨_, rfl⟩
  rw [← hk] at s1 hm hb ⊢
  obtain ⟨nk, hnk⟩ : ∃ nk, nk = key.length := ⟨_, rfl⟩
  rw [← hnk] at s1
  have hblk := fun w : World => rblock12 w wide
  cases wide
  · skip
    simp only [bsz] at hblk ⊢
    have hkd : (k : Int) / 64 = ((k / 64 : Nat) : Int) := by omega
    have hkd3 : ((k + n : Nat) : Int) / 64 = (((k + n) / 64 : Nat) : Int) := by omega
    obtain ⟨D, hD⟩ : ∃ D, D = k / 64 := ⟨_, rfl⟩
    obtain ⟨D2, hD2⟩ : ∃ D2, D2 = (k + n) / 64 := ⟨_, rfl⟩
    have hDD : D ≤ D2 := by rw [hD, hD2]; omega
    have hDb : D2 ≤ k + n := by rw [hD2]; omega
    rw [← hD] at hkd ⊢
    rw [← hD2] at hkd3 ⊢
    have hw1 : IntKind.i64.wrap (D : Int) = (D : Int) := by rw [IntKind.wrap_i64]; omega
    have hw2 : IntKind.i64.wrap (D2 : Int) = (D2 : Int) := by rw [IntKind.wrap_i64]; omega
    have hq1 : IntKind.i64.wrap ((k : Int).tdiv 64) = (D : Int) := by rw [Int.tdiv_eq_ediv_of_nonneg (by omega), hkd]; exact hw1
    have hnv : IntKind.i64.wrap (IntKind.i64.wrap (((k : Int) + (n : Int)).tdiv 64) - (D : Int)) = ((D2 - D : Nat) : Int) := by
      rw [Int.tdiv_eq_ediv_of_nonneg (by omega), ← Int.natCast_add, hkd3, hw2, show (D2 : Int) - (D : Int) = ((D2 - D : Nat) : Int) from by omega, IntKind.wrap_i64]
      omega
    have HP := Lib.hid (And.intro hP (And.intro hblk (And.intro hb (And.intro hl (And.intro hk (And.intro hDD (And.intro hDb (And.intro hnv (And.intro hq1 (And.intro hnk (And.intro hkd hkd3))))))))))); clear hP hb hl hk hD hD2 hnv hw1 hw2 hblk hnk hkd hkd3 hq1
    have hF : ∀ wx X a1 a2 a3, Sat W0 wx (seg true b 0 [.int .u8 (algN false), a1, a2, a3] :: X) → wx.cell? ⟨b, 0, none⟩ = some (.int .u8 (algN false)) ∧ wx.cell? ⟨b, 2, none⟩ = some a2 ∧ wx.frozen? ⟨b, 2, none⟩ = false ∧ b < wx.heap.size := fun wx X a1 a2 a3 h => ⟨h.at 0 rfl, h.at 2 rfl, h.fr 2 (by simp), h.lt (by simp)⟩
    have HF := Lib.hid hF; clear hF
    go_enter Tryz.func94, Tryz.ntmps94
    go_wp2_with fail
    refine (rmmade s1).mono ?_
    rintro e w1 ⟨rfl, rfl⟩
    obtain ⟨c0, c2, f2, z0⟩ := HF.out _ _ _ _ _ s1
    have hq1 := HP.out.2.2.2.2.2.2.2.2.1
    go_wp2_with fail
    go_quiet ((go_at_call 68; exact Calls.quiet_of_same (HP.out.2.1 _)))
    rw [HP.out.2.2.2.2.2.2.2.2.2.2.1]
    clear hq1 c0 c2 f2 z0
    obtain ⟨w2, hw2⟩ : ∃ w2, w2 = w1.drewN nq := ⟨_, rfl⟩
    have s2 := s1.drewN nq
    rw [← hw2] at s2 ⊢
    clear hw2 s1
    have s3 : Sat W0 w2 (row none 0 1 0 (u8s []) :: bytes false pm msg :: bytes m pp P :: seg true b 0 [.int .u8 (algN false), .slice pk nk ck, .slice pm k cm, .bool true] :: bytes false pk key :: rledO p rs :: L) := by
      have t : Sat W0 w2 (bytes false pm msg :: bytes m pp P :: seg true b 0 [.int .u8 (algN false), .slice pk nk ck, .slice pm k cm, .bool true] :: bytes false pk key :: rledO p rs :: L) := (by (repeat (first | with_reducible apply Sat.sub (s2) | with_reducible apply Sat.alloc' | with_reducible apply Sat.drew | with_reducible apply Sat.drewN)); (repeat (first | with_reducible exact Fr.done | with_reducible exact Fr.nil | (with_reducible apply Fr.cons; (focus ((repeat (first | with_reducible exact Take.here | with_reducible apply Take.there)); done))) | with_reducible apply Fr.skip)); done)
      exact t.rowNil 1
    obtain ⟨c0, c2, f2, z0⟩ := HF.out _ _ _ _ _ s2
    clear s2
    go_wp2_with (first | (at_builtin; refine wpl_app8 (xs := []) rfl (.tmp 25) (.tmp 29) rfl rfl rfl s3 HP.out.2.2.2.2.1.symm (by omega) ?_; intro pa ca wa sa; rw [Nat.zero_add, List.nil_append] at sa; clear s3 c0 c2 f2 z0; have sb : Sat W0 wa (row pa ca 1 k (u8s msg) :: bytes m pp P :: seg true b 0 [.int .u8 (algN false), .slice pk nk ck, .slice pm k cm, .bool true] :: bytes false pk key :: rledO p rs :: L) := (by (repeat (first | with_reducible apply Sat.sub (sa) | with_reducible apply Sat.alloc' | with_reducible apply Sat.drew | with_reducible apply Sat.drewN)); (repeat (first | with_reducible exact Fr.done | with_reducible exact Fr.nil | (with_reducible apply Fr.cons; (focus ((repeat (first | with_reducible exact Take.here | with_reducible apply Take.there)); done))) | with_reducible apply Fr.skip)); done); clear sa; obtain ⟨c0, c2, f2, z0⟩ := HF.out _ _ _ _ _ (show Sat W0 wa (seg true b 0 [.int .u8 (algN false), .slice pk nk ck, .slice pm k cm, .bool true] :: row pa ca 1 k (u8s msg) :: bytes m pp P :: bytes false pk key :: rledO p rs :: L) from (by (repeat (first | with_reducible apply Sat.sub (sb) | with_reducible apply Sat.alloc' | with_reducible apply Sat.drew | with_reducible apply Sat.drewN)); (repeat (first | with_reducible exact Fr.done | with_reducible exact Fr.nil | (with_reducible apply Fr.cons; (focus ((repeat (first | with_reducible exact Take.here | with_reducible apply Take.there)); done))) | with_reducible apply Fr.skip)); done))) | (at_builtin; refine wpl_app8 rfl (.tmp 32) (.tmp 33) rfl rfl rfl sb HP.out.1 (by omega) ?_; intro pb cb wb sc'; clear c0 c2 f2 z0; have sc : Sat W0 wb (seg true b 0 [.int .u8 (algN false), .slice pk nk ck, .slice pm k cm, .bool true] :: row pb cb 1 (k + n) (u8s (msg ++ P)) :: bytes m pp P :: bytes false pk key :: rledO p rs :: L) := (by (repeat (first | with_reducible apply Sat.sub (sc') | with_reducible apply Sat.alloc' | with_reducible apply Sat.drew | with_reducible apply Sat.drewN)); (repeat (first | with_reducible exact Fr.done | with_reducible exact Fr.nil | (with_reducible apply Fr.cons; (focus ((repeat (first | with_reducible exact Take.here | with_reducible apply Take.there)); done))) | with_reducible apply Fr.skip)); done); clear sc' sb; obtain ⟨c0, c2, f2, z0⟩ := HF.out _ _ _ _ _ sc))
    have sd := sc.store (i := 2) (by simp) (.slice pb (k + n) cb) (q := 2) rfl
    obtain ⟨w3, hw3⟩ : ∃ w3, w3 = wb.setCell ⟨b, 2, none⟩ (.slice pb (k + n) cb) := ⟨_, rfl⟩
    rw [← hw3] at sd ⊢
    clear hw3 sc c0 c2 f2 z0
    have se : Sat W0 w3 (seg true b 0 [.int .u8 (algN false), .slice pk nk ck, .slice pb (k + n) cb, .bool true] :: row pb cb 1 (k + n) (u8s (msg ++ P)) :: bytes m pp P :: bytes false pk key :: rledO p rs :: L) := sd
    clear sd
    obtain ⟨c0, c2, f2, z0⟩ := HF.out _ _ _ _ _ se
    go_wp2_with fail
    refine wp_region_quiet_tail_lit 18 (by kernel_rfl) (by kernel_rfl) ?_
    simp only [List.take_succ_cons, List.take_zero, List.drop_succ_cons, List.drop_zero]
    repeat (go_big_quiet_step ((go_at_call 68; exact Calls.quiet_of_same (HP.out.2.1 _))))
    refine wpQuiet_nil ?_
    rintro _ ⟨nr, rfl⟩
    go_wp2_with fail
    refine (rblocks12 false p rs (D2 - D) rfl (by first | exact HP.out.2.2.2.2.2.2.2.1 | (have h3 := HP.out.2.2.2.2.2.2.2.2.2.2.2; have h4 := HP.out.2.2.2.2.2.1; omega)) (by (repeat (first | with_reducible apply Sat.sub (se) | with_reducible apply Sat.alloc' | with_reducible apply Sat.drew | with_reducible apply Sat.drewN)); (repeat (first | with_reducible exact Fr.done | with_reducible exact Fr.nil | (with_reducible apply Fr.cons; (focus ((repeat (first | with_reducible exact Take.here | with_reducible apply Take.there)); done))) | with_reducible apply Fr.skip)); done) (by have := HP.out.2.2.1; have := HP.out.2.2.2.2.2.2.1; omega) (by have := HP.out.2.2.2.1; omega)).mono ?_
    rintro e w4 ⟨rfl, s5⟩
    clear se c0 c2 f2 z0
    go_wp2
    go_ret
    refine ⟨rfl, ?_⟩
    have s6 := (rowBytes (show Sat W0 w4 (row pb cb 1 (k + n) (u8s (msg ++ P)) :: seg true b 0 [.int .u8 (algN false), .slice pk nk ck, .slice pb (k + n) cb, .bool true] :: bytes m pp P :: bytes false pk key :: rledO p (noteN rs (evK false) (evS false) (D2 - D)) :: L) from (by (repeat (first | with_reducible apply Sat.sub (s5) | with_reducible apply Sat.alloc' | with_reducible apply Sat.drew | with_reducible apply Sat.drewN)); (repeat (first | with_reducible exact Fr.done | with_reducible exact Fr.nil | (with_reducible apply Fr.cons; (focus ((repeat (first | with_reducible exact Take.here | with_reducible apply Take.there)); done))) | with_reducible apply Fr.skip)); done))).2.2.2
    have s7 := rmacShut (wide := false) HP.out.2.2.2.2.2.2.2.2.2.1.symm (msg := msg ++ P) (nm := k + n) (by rw [List.length_append, HP.out.1, ← HP.out.2.2.2.2.1]) (show Sat W0 w4 (seg true b 0 [.int .u8 (algN false), .slice pk nk ck, .slice pb (k + n) cb, .bool true] :: bytes false pk key :: bytes true pb (msg ++ P) :: bytes m pp P :: rledO p (noteN rs (evK false) (evS false) (D2 - D)) :: L) from (by (repeat (first | with_reducible apply Sat.sub (s6) | with_reducible apply Sat.alloc' | with_reducible apply Sat.drew | with_reducible apply Sat.drewN)); (repeat (first | with_reducible exact Fr.done | with_reducible exact Fr.nil | (with_reducible apply Fr.cons; (focus ((repeat (first | with_reducible exact Take.here | with_reducible apply Take.there)); done))) | with_reducible apply Fr.skip)); done))
    exact (by (repeat (first | with_reducible apply Sat.sub (s7) | with_reducible apply Sat.alloc' | with_reducible apply Sat.drew | with_reducible apply Sat.drewN)); (repeat (first | with_reducible exact Fr.done | with_reducible exact Fr.nil | (with_reducible apply Fr.cons; (focus ((repeat (first | with_reducible exact Take.here | with_reducible apply Take.there)); done))) | with_reducible apply Fr.skip)); done)
  · skip
    simp only [bsz] at hblk ⊢
    have hkd : (k : Int) / 128 = ((k / 128 : Nat) : Int) := by omega
    have hkd3 : ((k + n : Nat) : Int) / 128 = (((k + n) / 128 : Nat) : Int) := by omega
    obtain ⟨D, hD⟩ : ∃ D, D = k / 128 := ⟨_, rfl⟩
    obtain ⟨D2, hD2⟩ : ∃ D2, D2 = (k + n) / 128 := ⟨_, rfl⟩
    have hDD : D ≤ D2 := by rw [hD, hD2]; omega
    have hDb : D2 ≤ k + n := by rw [hD2]; omega
    rw [← hD] at hkd ⊢
    rw [← hD2] at hkd3 ⊢
    have hw1 : IntKind.i64.wrap (D : Int) = (D : Int) := by rw [IntKind.wrap_i64]; omega
    have hw2 : IntKind.i64.wrap (D2 : Int) = (D2 : Int) := by rw [IntKind.wrap_i64]; omega
    have hq1 : IntKind.i64.wrap ((k : Int).tdiv 128) = (D : Int) := by rw [Int.tdiv_eq_ediv_of_nonneg (by omega), hkd]; exact hw1
    have hnv : IntKind.i64.wrap (IntKind.i64.wrap (((k : Int) + (n : Int)).tdiv 128) - (D : Int)) = ((D2 - D : Nat) : Int) := by
      rw [Int.tdiv_eq_ediv_of_nonneg (by omega), ← Int.natCast_add, hkd3, hw2, show (D2 : Int) - (D : Int) = ((D2 - D : Nat) : Int) from by omega, IntKind.wrap_i64]
      omega
    have HP := Lib.hid (And.intro hP (And.intro hblk (And.intro hb (And.intro hl (And.intro hk (And.intro hDD (And.intro hDb (And.intro hnv (And.intro hq1 (And.intro hnk (And.intro hkd hkd3))))))))))); clear hP hb hl hk hD hD2 hnv hw1 hw2 hblk hnk hkd hkd3 hq1
    have hF : ∀ wx X a1 a2 a3, Sat W0 wx (seg true b 0 [.int .u8 (algN true), a1, a2, a3] :: X) → wx.cell? ⟨b, 0, none⟩ = some (.int .u8 (algN true)) ∧ wx.cell? ⟨b, 2, none⟩ = some a2 ∧ wx.frozen? ⟨b, 2, none⟩ = false ∧ b < wx.heap.size := fun wx X a1 a2 a3 h => ⟨h.at 0 rfl, h.at 2 rfl, h.fr 2 (by simp), h.lt (by simp)⟩
    have HF := Lib.hid hF; clear hF
    go_enter Tryz.func94, Tryz.ntmps94
    go_wp2_with fail
    refine (rmmade s1).mono ?_
    rintro e w1 ⟨rfl, rfl⟩
    obtain ⟨c0, c2, f2, z0⟩ := HF.out _ _ _ _ _ s1
    have hq1 := HP.out.2.2.2.2.2.2.2.2.1
    go_wp2_with fail
    go_quiet ((go_at_call 68; exact Calls.quiet_of_same (HP.out.2.1 _)))
    rw [HP.out.2.2.2.2.2.2.2.2.2.2.1]
    clear hq1 c0 c2 f2 z0
    obtain ⟨w2, hw2⟩ : ∃ w2, w2 = w1.drewN nq := ⟨_, rfl⟩
    have s2 := s1.drewN nq
    rw [← hw2] at s2 ⊢
    clear hw2 s1
    have s3 : Sat W0 w2 (row none 0 1 0 (u8s []) :: bytes false pm msg :: bytes m pp P :: seg true b 0 [.int .u8 (algN true), .slice pk nk ck, .slice pm k cm, .bool true] :: bytes false pk key :: rledO p rs :: L) := by
      have t : Sat W0 w2 (bytes false pm msg :: bytes m pp P :: seg true b 0 [.int .u8 (algN true), .slice pk nk ck, .slice pm k cm, .bool true] :: bytes false pk key :: rledO p rs :: L) := (by (repeat (first | with_reducible apply Sat.sub (s2) | with_reducible apply Sat.alloc' | with_reducible apply Sat.drew | with_reducible apply Sat.drewN)); (repeat (first | with_reducible exact Fr.done | with_reducible exact Fr.nil | (with_reducible apply Fr.cons; (focus ((repeat (first | with_reducible exact Take.here | with_reducible apply Take.there)); done))) | with_reducible apply Fr.skip)); done)
      exact t.rowNil 1
    obtain ⟨c0, c2, f2, z0⟩ := HF.out _ _ _ _ _ s2
    clear s2
    go_wp2_with (first | (at_builtin; refine wpl_app8 (xs := []) rfl (.tmp 25) (.tmp 29) rfl rfl rfl s3 HP.out.2.2.2.2.1.symm (by omega) ?_; intro pa ca wa sa; rw [Nat.zero_add, List.nil_append] at sa; clear s3 c0 c2 f2 z0; have sb : Sat W0 wa (row pa ca 1 k (u8s msg) :: bytes m pp P :: seg true b 0 [.int .u8 (algN true), .slice pk nk ck, .slice pm k cm, .bool true] :: bytes false pk key :: rledO p rs :: L) := (by (repeat (first | with_reducible apply Sat.sub (sa) | with_reducible apply Sat.alloc' | with_reducible apply Sat.drew | with_reducible apply Sat.drewN)); (repeat (first | with_reducible exact Fr.done | with_reducible exact Fr.nil | (with_reducible apply Fr.cons; (focus ((repeat (first | with_reducible exact Take.here | with_reducible apply Take.there)); done))) | with_reducible apply Fr.skip)); done); clear sa; obtain ⟨c0, c2, f2, z0⟩ := HF.out _ _ _ _ _ (show Sat W0 wa (seg true b 0 [.int .u8 (algN true), .slice pk nk ck, .slice pm k cm, .bool true] :: row pa ca 1 k (u8s msg) :: bytes m pp P :: bytes false pk key :: rledO p rs :: L) from (by (repeat (first | with_reducible apply Sat.sub (sb) | with_reducible apply Sat.alloc' | with_reducible apply Sat.drew | with_reducible apply Sat.drewN)); (repeat (first | with_reducible exact Fr.done | with_reducible exact Fr.nil | (with_reducible apply Fr.cons; (focus ((repeat (first | with_reducible exact Take.here | with_reducible apply Take.there)); done))) | with_reducible apply Fr.skip)); done))) | (at_builtin; refine wpl_app8 rfl (.tmp 32) (.tmp 33) rfl rfl rfl sb HP.out.1 (by omega) ?_; intro pb cb wb sc'; clear c0 c2 f2 z0; have sc : Sat W0 wb (seg true b 0 [.int .u8 (algN true), .slice pk nk ck, .slice pm k cm, .bool true] :: row pb cb 1 (k + n) (u8s (msg ++ P)) :: bytes m pp P :: bytes false pk key :: rledO p rs :: L) := (by (repeat (first | with_reducible apply Sat.sub (sc') | with_reducible apply Sat.alloc' | with_reducible apply Sat.drew | with_reducible apply Sat.drewN)); (repeat (first | with_reducible exact Fr.done | with_reducible exact Fr.nil | (with_reducible apply Fr.cons; (focus ((repeat (first | with_reducible exact Take.here | with_reducible apply Take.there)); done))) | with_reducible apply Fr.skip)); done); clear sc' sb; obtain ⟨c0, c2, f2, z0⟩ := HF.out _ _ _ _ _ sc))
    have sd := sc.store (i := 2) (by simp) (.slice pb (k + n) cb) (q := 2) rfl
    obtain ⟨w3, hw3⟩ : ∃ w3, w3 = wb.setCell ⟨b, 2, none⟩ (.slice pb (k + n) cb) := ⟨_, rfl⟩
    rw [← hw3] at sd ⊢
    clear hw3 sc c0 c2 f2 z0
    have se : Sat W0 w3 (seg true b 0 [.int .u8 (algN true), .slice pk nk ck, .slice pb (k + n) cb, .bool true] :: row pb cb 1 (k + n) (u8s (msg ++ P)) :: bytes m pp P :: bytes false pk key :: rledO p rs :: L) := sd
    clear sd
    obtain ⟨c0, c2, f2, z0⟩ := HF.out _ _ _ _ _ se
    go_wp2_with fail
    refine wp_region_quiet_tail_lit 18 (by kernel_rfl) (by kernel_rfl) ?_
    simp only [List.take_succ_cons, List.take_zero, List.drop_succ_cons, List.drop_zero]
    repeat (go_big_quiet_step ((go_at_call 68; exact Calls.quiet_of_same (HP.out.2.1 _))))
    refine wpQuiet_nil ?_
    rintro _ ⟨nr, rfl⟩
    go_wp2_with fail
    refine (rblocks12 true p rs (D2 - D) rfl (by first | exact HP.out.2.2.2.2.2.2.2.1 | (have h3 := HP.out.2.2.2.2.2.2.2.2.2.2.2; have h4 := HP.out.2.2.2.2.2.1; omega)) (by (repeat (first | with_reducible apply Sat.sub (se) | with_reducible apply Sat.alloc' | with_reducible apply Sat.drew | with_reducible apply Sat.drewN)); (repeat (first | with_reducible exact Fr.done | with_reducible exact Fr.nil | (with_reducible apply Fr.cons; (focus ((repeat (first | with_reducible exact Take.here | with_reducible apply Take.there)); done))) | with_reducible apply Fr.skip)); done) (by have := HP.out.2.2.1; have := HP.out.2.2.2.2.2.2.1; omega) (by have := HP.out.2.2.2.1; omega)).mono ?_
    rintro e w4 ⟨rfl, s5⟩
    clear se c0 c2 f2 z0
    go_wp2
    go_ret
    refine ⟨rfl, ?_⟩
    have s6 := (rowBytes (show Sat W0 w4 (row pb cb 1 (k + n) (u8s (msg ++ P)) :: seg true b 0 [.int .u8 (algN true), .slice pk nk ck, .slice pb (k + n) cb, .bool true] :: bytes m pp P :: bytes false pk key :: rledO p (noteN rs (evK true) (evS true) (D2 - D)) :: L) from (by (repeat (first | with_reducible apply Sat.sub (s5) | with_reducible apply Sat.alloc' | with_reducible apply Sat.drew | with_reducible apply Sat.drewN)); (repeat (first | with_reducible exact Fr.done | with_reducible exact Fr.nil | (with_reducible apply Fr.cons; (focus ((repeat (first | with_reducible exact Take.here | with_reducible apply Take.there)); done))) | with_reducible apply Fr.skip)); done))).2.2.2
    have s7 := rmacShut (wide := true) HP.out.2.2.2.2.2.2.2.2.2.1.symm (msg := msg ++ P) (nm := k + n) (by rw [List.length_append, HP.out.1, ← HP.out.2.2.2.2.1]) (show Sat W0 w4 (seg true b 0 [.int .u8 (algN true), .slice pk nk ck, .slice pb (k + n) cb, .bool true] :: bytes false pk key :: bytes true pb (msg ++ P) :: bytes m pp P :: rledO p (noteN rs (evK true) (evS true) (D2 - D)) :: L) from (by (repeat (first | with_reducible apply Sat.sub (s6) | with_reducible apply Sat.alloc' | with_reducible apply Sat.drew | with_reducible apply Sat.drewN)); (repeat (first | with_reducible exact Fr.done | with_reducible exact Fr.nil | (with_reducible apply Fr.cons; (focus ((repeat (first | with_reducible exact Take.here | with_reducible apply Take.there)); done))) | with_reducible apply Fr.skip)); done))
    exact (by (repeat (first | with_reducible apply Sat.sub (s7) | with_reducible apply Sat.alloc' | with_reducible apply Sat.drew | with_reducible apply Sat.drewN)); (repeat (first | with_reducible exact Fr.done | with_reducible exact Fr.nil | (with_reducible apply Fr.cons; (focus ((repeat (first | with_reducible exact Take.here | with_reducible apply Take.there)); done))) | with_reducible apply Fr.skip)); done)
set_option maxHeartbeats 1000000 in
theorem rmsum {W0 w : World} {L : List Assn} {b : Nat} {pv : Value} (wide : Bool) (p : Option Nat) (rs : List Run3) (key msg : List Byte) (hp : pv = ptrO p) (hk : key.length ≤ 900000000) (hm : msg.length ≤ 900000000) (hs : Sat W0 w (rledO p rs :: rmac wide b key msg :: L)) (hb : tot rs + 10 ≤ 4611686018427387904) (hl : rs.length ≤ 4294967296) :
    Calls Tryz.prog 95 #[.pointer (some ⟨b, 0, none⟩), pv] w fun e w' => ∃ q c, e = .returned (.tuple #[.slice q (hsz wide) c, .int .i64 0]) ∧ Sat W0 w' (row q c 1 (hsz wide) (u8s (hmac wide key msg)) :: rledO p (noteN rs (evK wide) (evS wide) (endN wide msg.length)) :: rmac wide b key msg :: L) := by
  subst hp
  obtain ⟨pk, ck, pm, cm, s1⟩ := rmacOpen (show Sat W0 w (rmac wide b key msg :: rledO p rs :: L) from hs.pull 1)
  clear hs
  obtain ⟨k, hk'⟩ : ∃ k, k = msg.length := ⟨_, rfl⟩
  rw [← hk'] at s1 hm ⊢
  obtain ⟨nk, hnk⟩ : ∃ nk, nk = key.length := ⟨_, rfl⟩
  rw [← hnk] at s1 hk
  have HP := Lib.hid (And.intro hk' (And.intro hnk (And.intro hb hl))); clear hk' hnk hb hl
  have hF : ∀ wx X a0 a1 a2 a3, Sat W0 wx (seg true b 0 [a0, a1, a2, a3] :: X) → wx.cell? ⟨b, 0, none⟩ = some a0 ∧ wx.cell? ⟨b, 1, none⟩ = some a1 ∧ wx.cell? ⟨b, 2, none⟩ = some a2 ∧ b < wx.heap.size := fun wx X a0 a1 a2 a3 h => ⟨h.at 0 rfl, h.at 1 rfl, h.at 2 rfl, h.lt (by simp)⟩
  have HF := Lib.hid hF; clear hF
  go_enter Tryz.func95, Tryz.ntmps95
  go_wp2_with fail
  refine (rmmade s1).mono ?_
  rintro e w1 ⟨rfl, rfl⟩
  obtain ⟨c0, c1, c2, z0⟩ := HF.out _ _ _ _ _ _ s1
  go_wp2_with fail
  refine wp_region_quiet_tail_lit 10 (by kernel_rfl) (by kernel_rfl) ?_
  simp only [List.take_succ_cons, List.take_zero, List.drop_succ_cons, List.drop_zero]
  repeat (go_big_quiet_step (fail))
  refine wpQuiet_nil ?_
  rintro _ ⟨nr, rfl⟩
  go_wp2_with fail
  refine (rends12 wide p rs k rfl rfl (by omega) (by (repeat (first | with_reducible apply Sat.sub (s1) | with_reducible apply Sat.alloc' | with_reducible apply Sat.drew | with_reducible apply Sat.drewN)); (repeat (first | with_reducible exact Fr.done | with_reducible exact Fr.nil | (with_reducible apply Fr.cons; (focus ((repeat (first | with_reducible exact Take.here | with_reducible apply Take.there)); done))) | with_reducible apply Fr.skip)); done) HP.out.2.2.1 HP.out.2.2.2).mono ?_
  rintro e w2 ⟨rfl, s2'⟩
  have s2 : Sat W0 w2 (seg true b 0 [.int .u8 (algN wide), .slice pk nk ck, .slice pm k cm, .bool true] :: bytes false pk key :: bytes false pm msg :: rledO p (noteN rs (evK wide) (evS wide) (endN wide k)) :: L) := (by (repeat (first | with_reducible apply Sat.sub (s2') | with_reducible apply Sat.alloc' | with_reducible apply Sat.drew | with_reducible apply Sat.drewN)); (repeat (first | with_reducible exact Fr.done | with_reducible exact Fr.nil | (with_reducible apply Fr.cons; (focus ((repeat (first | with_reducible exact Take.here | with_reducible apply Take.there)); done))) | with_reducible apply Fr.skip)); done)
  clear s1 s2' c0 c1 c2 z0
  obtain ⟨c0, c1, c2, z0⟩ := HF.out _ _ _ _ _ _ s2
  go_wp2_with fail
  refine wp_region_quiet_tail_lit 12 (by kernel_rfl) (by kernel_rfl) ?_
  simp only [List.take_succ_cons, List.take_zero, List.drop_succ_cons, List.drop_zero]
  repeat (go_big_quiet_step (fail))
  refine wpQuiet_nil ?_
  rintro _ ⟨ns, rfl⟩
  go_wp2_with fail
  refine (rof12 wide key msg rfl HP.out.2.1.symm (by omega) HP.out.1.symm (by omega) (by (repeat (first | with_reducible apply Sat.sub (s2) | with_reducible apply Sat.alloc' | with_reducible apply Sat.drew | with_reducible apply Sat.drewN)); (repeat (first | with_reducible exact Fr.done | with_reducible exact Fr.nil | (with_reducible apply Fr.cons; (focus ((repeat (first | with_reducible exact Take.here | with_reducible apply Take.there)); done))) | with_reducible apply Fr.skip)); done)).mono ?_
  rintro e w3 ⟨q, c, rfl, s3⟩
  clear s2 c0 c1 c2 z0
  go_wp2
  refine bodyPost_ret (v := .tuple #[.slice q _ c, .int .i64 0]) (by simp [results, Tryz.results95, go_sem]) rfl ⟨q, c, rfl, ?_⟩
  have s4 := rmacShut (wide := wide) HP.out.2.1.symm HP.out.1.symm (show Sat W0 w3 (seg true b 0 [.int .u8 (algN wide), .slice pk nk ck, .slice pm k cm, .bool true] :: bytes false pk key :: bytes false pm msg :: row q c 1 (hsz wide) (u8s (hmac wide key msg)) :: rledO p (noteN rs (evK wide) (evS wide) (endN wide k)) :: L) from (by (repeat (first | with_reducible apply Sat.sub (s3) | with_reducible apply Sat.alloc' | with_reducible apply Sat.drew | with_reducible apply Sat.drewN)); (repeat (first | with_reducible exact Fr.done | with_reducible exact Fr.nil | (with_reducible apply Fr.cons; (focus ((repeat (first | with_reducible exact Take.here | with_reducible apply Take.there)); done))) | with_reducible apply Fr.skip)); done))
  exact (by (repeat (first | with_reducible apply Sat.sub (s4) | with_reducible apply Sat.alloc' | with_reducible apply Sat.drew | with_reducible apply Sat.drewN)); (repeat (first | with_reducible exact Fr.done | with_reducible exact Fr.nil | (with_reducible apply Fr.cons; (focus ((repeat (first | with_reducible exact Take.here | with_reducible apply Take.there)); done))) | with_reducible apply Fr.skip)); done)
set_option maxHeartbeats 1000000 in
theorem rmreset {W0 w : World} {L : List Assn} {b : Nat} (wide : Bool) (key msg : List Byte) (hs : Sat W0 w (rmac wide b key msg :: L)) :
    Calls Tryz.prog 96 #[.pointer (some ⟨b, 0, none⟩)] w fun e w' => e = .returned (.int .i64 0) ∧ Sat W0 w' (rmac wide b key [] :: L) := by
  obtain ⟨pk, ck, pm, cm, s1⟩ := rmacOpen hs
  clear hs
  have f2 := s1.fr 2 (by simp)
  have c2 := s1.at 2 rfl
  have z0 := s1.lt (by simp)
  go_enter Tryz.func96, Tryz.ntmps96
  go_wp2_with fail
  refine (rmmade s1).mono ?_
  rintro e w1 ⟨rfl, rfl⟩
  go_wp2
  go_ret
  refine ⟨rfl, ?_⟩
  have s2 := s1.store (i := 2) (by simp) (.slice none 0 0) (q := 2) rfl
  have s3 : Sat W0 _ (seg true b 0 [.int .u8 (algN wide), .slice pk key.length ck, .slice none 0 0, .bool true] :: bytes false pk key :: bytes false pm msg :: L) := s2
  have s4 : Sat W0 (w1.setCell ⟨b, 2, none⟩ (.slice none 0 0)) (seg true b 0 [.int .u8 (algN wide), .slice pk key.length ck, .slice none 0 0, .bool true] :: bytes false pk key :: bytes true none [] :: L) := (by (repeat (first | with_reducible apply Sat.sub (bytesNil true none s3) | with_reducible apply Sat.alloc' | with_reducible apply Sat.drew | with_reducible apply Sat.drewN)); (repeat (first | with_reducible exact Fr.done | with_reducible exact Fr.nil | (with_reducible apply Fr.cons; (focus ((repeat (first | with_reducible exact Take.here | with_reducible apply Take.there)); done))) | with_reducible apply Fr.skip)); done)
  exact rmacShut (wide := wide) (msg := []) rfl (nm := 0) rfl s4
set_option maxHeartbeats 1000000 in
/-- A tag of a message in two pieces; the mac's message is empty then. -/
theorem rtag16 {W0 w : World} {L : List Assn} {m1 m2 : Bool} {p1 p2 : Option Addr} {n1 n2 c1 c2 b : Nat} {pv : Value} (wide : Bool) (p : Option Nat) (rs : List Run3) (key P Q : List Byte) (hp : pv = ptrO p) (hk : key.length ≤ 900000000) (hP : P.length = n1) (hQ : Q.length = n2) (h1 : n1 ≤ 400000000) (h2 : n2 ≤ 400000000) (hs : Sat W0 w (rledO p rs :: bytes m1 p1 P :: bytes m2 p2 Q :: rmac wide b key [] :: L)) (hb : tot rs + 2 * n1 + 2 * n2 + 100 ≤ 4611686018427387904) (hl : rs.length + 8 ≤ 4294967296) :
    Calls Tryz.prog 70 #[pv, .pointer (some ⟨b, 0, none⟩), .slice p1 n1 c1, .slice p2 n2 c2] w fun e w' => ∃ q c, e = .returned (.slice q (hsz wide) c) ∧ Sat W0 w' (row q c 1 (hsz wide) (u8s (hmac wide key (P ++ Q))) :: rledO p (noteN rs (evK wide) (evS wide) ((n1 + n2) / bsz wide + endN wide (n1 + n2))) :: bytes m1 p1 P :: bytes m2 p2 Q :: rmac wide b key [] :: L) := by
  subst hp
  have hD1 : n1 / bsz wide ≤ n1 := Nat.div_le_self _ _
  have hD2 : (n1 + n2) / bsz wide ≤ n1 + n2 := Nat.div_le_self _ _
  have hDD : n1 / bsz wide ≤ (n1 + n2) / bsz wide := Nat.div_le_div_right (by omega)
  have HP := Lib.hid (And.intro hP (And.intro hQ (And.intro hb (And.intro hl (And.intro hD1 (And.intro hD2 hDD)))))); clear hP hQ hb hl hD1 hD2 hDD
  go_enter Tryz.func70, Tryz.ntmps70
  go_wp2_with fail
  refine (rmwrite wide p rs key [] P rfl HP.out.1 (by omega) (by simp) (by (repeat (first | with_reducible apply Sat.sub (hs) | with_reducible apply Sat.alloc' | with_reducible apply Sat.drew | with_reducible apply Sat.drewN)); (repeat (first | with_reducible exact Fr.done | with_reducible exact Fr.nil | (with_reducible apply Fr.cons; (focus ((repeat (first | with_reducible exact Take.here | with_reducible apply Take.there)); done))) | with_reducible apply Fr.skip)); done) (by simp only [List.length_nil]; have := HP.out.2.2.1; omega) (by have := HP.out.2.2.2.1; omega)).mono ?_
  rintro e w1 ⟨rfl, s1⟩
  clear hs
  rw [List.nil_append, List.length_nil, Nat.zero_add, Nat.zero_div, Nat.sub_zero] at s1
  by_cases h0 : 0 < n2
  · go_wp2_with fail
    refine (rmwrite wide p _ key P Q rfl HP.out.2.1 (by omega) (by rw [HP.out.1]; omega) (by (repeat (first | with_reducible apply Sat.sub (s1) | with_reducible apply Sat.alloc' | with_reducible apply Sat.drew | with_reducible apply Sat.drewN)); (repeat (first | with_reducible exact Fr.done | with_reducible exact Fr.nil | (with_reducible apply Fr.cons; (focus ((repeat (first | with_reducible exact Take.here | with_reducible apply Take.there)); done))) | with_reducible apply Fr.skip)); done) (by rw [HP.out.1, tot_noteN]; have := HP.out.2.2.1; have := HP.out.2.2.2.2.1; have := HP.out.2.2.2.2.2.1; omega) (by have := HP.out.2.2.2.1; have := noteN_len rs (evK wide) (evS wide) (n1 / bsz wide); omega)).mono ?_
    rintro e w2 ⟨rfl, s2⟩
    clear s1
    rw [HP.out.1, noteN_add, Nat.add_sub_cancel' HP.out.2.2.2.2.2.2] at s2
    go_wp2_with fail
    refine (rmsum wide p _ key (P ++ Q) rfl hk (by rw [List.length_append, HP.out.1, HP.out.2.1]; omega) (by (repeat (first | with_reducible apply Sat.sub (s2) | with_reducible apply Sat.alloc' | with_reducible apply Sat.drew | with_reducible apply Sat.drewN)); (repeat (first | with_reducible exact Fr.done | with_reducible exact Fr.nil | (with_reducible apply Fr.cons; (focus ((repeat (first | with_reducible exact Take.here | with_reducible apply Take.there)); done))) | with_reducible apply Fr.skip)); done) (by rw [tot_noteN]; have := HP.out.2.2.1; have := HP.out.2.2.2.2.2.1; omega) (by have := HP.out.2.2.2.1; have := noteN_len rs (evK wide) (evS wide) ((n1 + n2) / bsz wide); omega)).mono ?_
    rintro e w3 ⟨q, c, rfl, s3⟩
    clear s2
    rw [noteN_add, List.length_append, HP.out.1, HP.out.2.1] at s3
    go_wp2_with fail
    refine (rmreset wide key (P ++ Q) (by (repeat (first | with_reducible apply Sat.sub (s3) | with_reducible apply Sat.alloc' | with_reducible apply Sat.drew | with_reducible apply Sat.drewN)); (repeat (first | with_reducible exact Fr.done | with_reducible exact Fr.nil | (with_reducible apply Fr.cons; (focus ((repeat (first | with_reducible exact Take.here | with_reducible apply Take.there)); done))) | with_reducible apply Fr.skip)); done)).mono ?_
    rintro e w4 ⟨rfl, s4⟩
    go_wp2
    go_ret
    exact ⟨q, c, rfl, (by (repeat (first | with_reducible apply Sat.sub (s4) | with_reducible apply Sat.alloc' | with_reducible apply Sat.drew | with_reducible apply Sat.drewN)); (repeat (first | with_reducible exact Fr.done | with_reducible exact Fr.nil | (with_reducible apply Fr.cons; (focus ((repeat (first | with_reducible exact Take.here | with_reducible apply Take.there)); done))) | with_reducible apply Fr.skip)); done)⟩
  · obtain rfl : n2 = 0 := by omega
    have hQ0 : Q = [] := List.eq_nil_of_length_eq_zero HP.out.2.1
    subst hQ0
    go_wp2_with fail
    refine (rmsum wide p _ key P rfl hk (by rw [HP.out.1]; omega) (by (repeat (first | with_reducible apply Sat.sub (s1) | with_reducible apply Sat.alloc' | with_reducible apply Sat.drew | with_reducible apply Sat.drewN)); (repeat (first | with_reducible exact Fr.done | with_reducible exact Fr.nil | (with_reducible apply Fr.cons; (focus ((repeat (first | with_reducible exact Take.here | with_reducible apply Take.there)); done))) | with_reducible apply Fr.skip)); done) (by rw [tot_noteN]; have := HP.out.2.2.1; have := HP.out.2.2.2.2.1; omega) (by have := HP.out.2.2.2.1; have := noteN_len rs (evK wide) (evS wide) (n1 / bsz wide); omega)).mono ?_
    rintro e w3 ⟨q, c, rfl, s3⟩
    clear s1
    rw [noteN_add, HP.out.1] at s3
    go_wp2_with fail
    refine (rmreset wide key P (by (repeat (first | with_reducible apply Sat.sub (s3) | with_reducible apply Sat.alloc' | with_reducible apply Sat.drew | with_reducible apply Sat.drewN)); (repeat (first | with_reducible exact Fr.done | with_reducible exact Fr.nil | (with_reducible apply Fr.cons; (focus ((repeat (first | with_reducible exact Take.here | with_reducible apply Take.there)); done))) | with_reducible apply Fr.skip)); done)).mono ?_
    rintro e w4 ⟨rfl, s4⟩
    go_wp2
    go_ret
    refine ⟨q, c, rfl, ?_⟩
    rw [List.append_nil, Nat.add_zero]
    exact (by (repeat (first | with_reducible apply Sat.sub (s4) | with_reducible apply Sat.alloc' | with_reducible apply Sat.drew | with_reducible apply Sat.drewN)); (repeat (first | with_reducible exact Fr.done | with_reducible exact Fr.nil | (with_reducible apply Fr.cons; (focus ((repeat (first | with_reducible exact Take.here | with_reducible apply Take.there)); done))) | with_reducible apply Fr.skip)); done)
end Go.Proofs.YtmohabidfalhoaaGreat

/- The document's PBKDF2: a block; under the conditions that it names. -/
namespace Go.Sha
open Go.Bv
def xorIn (xs ys : List Byte) (j : Nat) : List Byte := (List.range xs.length).map fun i => if i < j then xs.getD i 0 ^^^ ys.getD i 0 else xs.getD i 0
theorem xorIn_len (xs ys : List Byte) (j : Nat) : (xorIn xs ys j).length = xs.length := by simp [xorIn]
theorem xorIn_get (xs ys : List Byte) (j : Nat) (h : j < xs.length) : (xorIn xs ys j).getD j 0 = xs.getD j 0 := by simp [xorIn, h]
theorem xorIn_set (xs ys : List Byte) (j : Nat) : (xorIn xs ys j).set j (xs.getD j 0 ^^^ ys.getD j 0) = xorIn xs ys (j + 1) := by
  apply List.ext_getElem
  · simp [xorIn]
  · intro i h1 h2
    simp only [xorIn, List.getElem_set, List.getElem_map, List.getElem_range]
    by_cases e : j = i
    · subst e; simp
    · rw [if_neg e]
      by_cases h : i < j
      · rw [if_pos h, if_pos (by omega)]
      · rw [if_neg h, if_neg (by omega)]
theorem xorIn_zero (xs ys : List Byte) : xorIn xs ys 0 = xs := by
  apply List.ext_getElem
  · simp [xorIn]
  · intro i h1 h2
    simp [xorIn, h2]
theorem xorIn_all (xs ys : List Byte) (n : Nat) (h : xs.length = n) (h2 : ys.length = n) : xorIn xs ys n = xorB xs ys := by
  subst h
  apply List.ext_getElem
  · simp [xorIn, xorB, h2]
  · intro i h1 h3
    have hi : i < xs.length := by simpa [xorIn] using h1
    have hy : i < ys.length := by omega
    simp [xorIn, xorB, hi, hy]
end Go.Sha
namespace Go.Proofs.YtmohabidfalhoaaGreat
open Go.RowKit Go.Sep Go.Bv Go.Sha
set_option linter.unusedVariables false
set_option linter.unusedSimpArgs false
theorem lay4r (i : Nat) (h : i < 4294967296) : u8s (layBE 4 (BitVec.ofNat 32 i)) = [.int .u8 ((i : Int) / 16777216), .int .u8 ((i : Int) / 65536 % 256), .int .u8 ((i : Int) / 256 % 256), .int .u8 ((i : Int) % 256)] := by
  have e : ∀ q : Nat, v8 ((BitVec.ofNat 32 i >>> q).setWidth 8) = (i : Int) / (2 ^ q : Nat) % 256 := by
    intro q
    unfold v8
    rw [BitVec.toNat_setWidth, BitVec.toNat_ushiftRight, BitVec.toNat_ofNat, Nat.mod_eq_of_lt (show i < 2 ^ 32 by omega), Nat.shiftRight_eq_div_pow]
    simp
  show [Value.int .u8 (v8 _), Value.int .u8 (v8 _), Value.int .u8 (v8 _), Value.int .u8 (v8 _)] = _
  rw [e, e, e, e]
  simp
  omega
set_option maxRecDepth 100000 in
set_option maxHeartbeats 4000000 in
theorem rblk16 {W0 w : World} {L : List Assn} {m : Bool} {ps : Option Addr} {ns cs b : Nat} {pv : Value} (wide : Bool) (p : Option Nat) (rs : List Run3) (key salt : List Byte) (count i : Nat) (hp : pv = ptrO p) (hk : key.length ≤ 900000000) (hS : salt.length = ns) (hns : ns ≤ 400000000) (h1 : 1 ≤ count) (h2 : count ≤ 1048576) (hi1 : 1 ≤ i) (hi : i < 4294967296) (hs : Sat W0 w (rledO p rs :: rmac wide b key [] :: bytes m ps salt :: L)) (hb : tot rs + 2 * ns + 16000000 ≤ 4611686018427387904) (hl : rs.length + 10 ≤ 4294967296) :
    Calls Tryz.prog 44 #[pv, .pointer (some ⟨b, 0, none⟩), .slice ps ns cs, .int .i64 (count : Int), .int .i64 (i : Int)] w fun e w' => ∃ q c, e = .returned (.slice q (hsz wide) c) ∧ Sat W0 w' (row q c 1 (hsz wide) (u8s (pbBlock wide key salt count i)) :: rledO p (noteN rs (evK wide) (evS wide) (pbN wide ns count)) :: rmac wide b key [] :: bytes m ps salt :: L) := by
  subst hp
  have hlay := lay4r i hi
  have hH := hsz_le64 wide
  have hH0 := hsz_pos wide
  have hE := endN_le wide (hsz wide)
  have hdv : (ns + 4) / bsz wide ≤ ns + 4 := Nat.div_le_self _ _
  have hN3 := endN_le wide (ns + 4)
  obtain ⟨u0, hu0⟩ : ∃ u, u = pbFirst wide key salt i := ⟨_, rfl⟩
  have hu0' : hmac wide key (salt ++ layBE 4 (BitVec.ofNat 32 i)) = u0 := hu0.symm
  have hul : u0.length = hsz wide := by rw [hu0]; exact hmac_len _ _ _
  have hout : pbOut wide key u0 (count - 1) = pbBlock wide key salt count i := by rw [hu0]; rfl
  have hpU := fun j => pbU_len wide key u0 hul j
  have hpO := fun j => pbOut_len wide key u0 hul j
  obtain ⟨N, hN⟩ : ∃ N, N = (ns + 4) / bsz wide + endN wide (ns + 4) := ⟨_, rfl⟩
  have hpn : pbN wide ns count = N + (count - 1) * endN wide (hsz wide) := by rw [hN]; rfl
  have hB0 := hszB wide
  have htag := fun (w : World) (L' : List Assn) (m1 m2 : Bool) (p1 p2 : Option Addr) (n1 n2 c1 c2 : Nat) (rs' : List Run3) (P Q : List Byte) (hP : P.length = n1) (hQ : Q.length = n2) (h1 : n1 ≤ 400000000) (h2 : n2 ≤ 400000000) (hb : tot rs' + 2 * n1 + 2 * n2 + 100 ≤ 4611686018427387904) (hl : rs'.length + 8 ≤ 4294967296) (s : Sat W0 w (rledO p rs' :: bytes m1 p1 P :: bytes m2 p2 Q :: rmac wide b key [] :: L')) => rtag16 (c1 := c1) (c2 := c2) wide p rs' key P Q rfl hk hP hQ h1 h2 s hb hl
  obtain ⟨H, hHd⟩ : ∃ H, H = hsz wide := ⟨_, rfl⟩
  obtain ⟨E, hEd⟩ : ∃ E, E = endN wide (hsz wide) := ⟨_, rfl⟩
  have htag2 : ∀ (w : World) (L' : List Assn) (m1 : Bool) (p1 : Option Addr) (c1 j : Nat) (P : List Byte), P = pbU wide key u0 j → N + j * E ≤ 8000000 + ns → Sat W0 w (rledO p (noteN rs (evK wide) (evS wide) (N + j * E)) :: bytes m1 p1 P :: rmac wide b key [] :: L') →
      Calls Tryz.prog 70 #[ptrO p, .pointer (some ⟨b, 0, none⟩), .slice p1 H c1, .slice none 0 0] w fun e w' => ∃ q c, e = .returned (.slice q H c) ∧ Sat W0 w' (row q c 1 H (u8s (pbU wide key u0 (j + 1))) :: rledO p (noteN rs (evK wide) (evS wide) (N + (j + 1) * E)) :: bytes m1 p1 P :: rmac wide b key [] :: L') := by
    rintro w L' m1 p1 c1 j P rfl hbd s
    have h9 := noteN_len rs (evK wide) (evS wide) (N + j * E)
    refine (htag w L' m1 true p1 none H 0 c1 0 _ _ [] (by rw [hHd]; exact hpU j) rfl (by omega) (by omega) (by rw [tot_noteN]; omega) (by omega) (show Sat W0 w (rledO p (noteN rs (evK wide) (evS wide) (N + j * E)) :: bytes m1 p1 (pbU wide key u0 j) :: bytes true none [] :: rmac wide b key [] :: L') from (by (repeat (first | with_reducible apply Sat.sub (bytesNil true none s) | with_reducible apply Sat.alloc' | with_reducible apply Sat.drew | with_reducible apply Sat.drewN)); (repeat (first | with_reducible exact Fr.done | with_reducible exact Fr.nil | (with_reducible apply Fr.cons; (focus ((repeat (first | with_reducible exact Take.here | with_reducible apply Take.there)); done))) | with_reducible apply Fr.skip)); done))).mono ?_
    rintro e w' ⟨q, c, rfl, s1⟩
    rw [Nat.add_zero, List.append_nil, noteN_add, hHd, hB0, Nat.zero_add, ← hEd, show N + j * E + E = N + (j + 1) * E from by rw [Nat.succ_mul, Nat.add_assoc]] at s1
    rw [← hHd, show hmac wide key (pbU wide key u0 j) = pbU wide key u0 (j + 1) from rfl] at s1
    exact ⟨q, c, by rw [hHd], (by (repeat (first | with_reducible apply Sat.sub (s1) | with_reducible apply Sat.alloc' | with_reducible apply Sat.drew | with_reducible apply Sat.drewN)); (repeat (first | with_reducible exact Fr.done | with_reducible exact Fr.nil | (with_reducible apply Fr.cons; (focus ((repeat (first | with_reducible exact Take.here | with_reducible apply Take.there)); done))) | with_reducible apply Fr.skip)); done)⟩
  rw [← hEd] at hE hpn
  rw [← hHd] at hH hH0 hul hpU hpO
  have hs1 : Sat W0 (w.alloc (.cells #[.int .u8 ((i : Int) / 16777216), .int .u8 ((i : Int) / 65536 % 256), .int .u8 ((i : Int) / 256 % 256), .int .u8 ((i : Int) % 256)] 5)) (seg true w.heap.size 0 (u8s (layBE 4 (BitVec.ofNat 32 i))) :: rledO p rs :: rmac wide b key [] :: bytes m ps salt :: L) := by
    rw [hlay]
    exact hs.alloc _ _
  have hs2 := bytesOf hs1
  have hll : (layBE 4 (BitVec.ofNat 32 i)).length = 4 := layBE_len _ _
  have h0 := fun c1 c2 => htag _ _ _ _ _ _ ns 4 c1 c2 rs salt _ hS hll (by omega) (by omega) (by omega) (by omega) (show Sat W0 _ (rledO p rs :: bytes m ps salt :: bytes true (some ⟨w.heap.size, 0, none⟩) (layBE 4 (BitVec.ofNat 32 i)) :: rmac wide b key [] :: L) from (by (repeat (first | with_reducible apply Sat.sub (hs2) | with_reducible apply Sat.alloc' | with_reducible apply Sat.drew | with_reducible apply Sat.drewN)); (repeat (first | with_reducible exact Fr.done | with_reducible exact Fr.nil | (with_reducible apply Fr.cons; (focus ((repeat (first | with_reducible exact Take.here | with_reducible apply Take.there)); done))) | with_reducible apply Fr.skip)); done))
  rw [hu0', ← hN, ← hHd] at h0
  rw [← hout, ← hHd, hpn]
  obtain ⟨k1, hk1⟩ : ∃ k, count = k + 1 := ⟨count - 1, by omega⟩
  subst hk1
  rw [Nat.add_sub_cancel]
  have hNb : N ≤ ns + 8 := by omega
  have HN := Lib.hid (And.intro h0 (And.intro htag2 (And.intro hul (And.intro hpU (And.intro hpO (And.intro hE (And.intro hNb (And.intro hb hl))))))))
  clear h0 htag htag2 hul hpU hpO hE hNb hb hl hlay hs1 hs2 hll hout hpn hu0 hu0' hN hB0 hHd hEd hdv hN3 hS hk
  go_enter Tryz.func44, Tryz.ntmps44
  go_wp2_with fail
  refine (HN.out.1 _ _).mono ?_
  rintro e w1 ⟨q0, c0, rfl, s1⟩
  clear hs
  have s2 : Sat W0 w1 (row none 0 1 0 (u8s []) :: bytes true q0 u0 :: rledO p (noteN rs (evK wide) (evS wide) N) :: rmac wide b key [] :: bytes m ps salt :: L) := by
    have t : Sat W0 w1 (bytes true q0 u0 :: rledO p (noteN rs (evK wide) (evS wide) N) :: rmac wide b key [] :: bytes m ps salt :: L) := (by (repeat (first | with_reducible apply Sat.sub ((rowBytes s1).2.2.2) | with_reducible apply Sat.alloc' | with_reducible apply Sat.drew | with_reducible apply Sat.drewN)); (repeat (first | with_reducible exact Fr.done | with_reducible exact Fr.nil | (with_reducible apply Fr.cons; (focus ((repeat (first | with_reducible exact Take.here | with_reducible apply Take.there)); done))) | with_reducible apply Fr.skip)); done)
    exact t.rowNil 1
  clear s1
  go_wp2_with (at_builtin; refine wpl_app8 (xs := []) rfl (.tmp 31) (.tmp 32) rfl rfl rfl s2 HN.out.2.2.1 (by omega) ?_; intro qo co w2 s3; rw [Nat.zero_add, List.nil_append] at s3)
  clear s2
  try rw [Nat.zero_add]
  go_loopw [11, 13, 14] (fun t11 t13 t14 wr => ∃ (j : Nat) (pu : Option Addr) (cu : Nat) (z : Value), j ≤ k1 ∧ t13 = .int .i64 ((j : Int) + 1) ∧ t11 = .slice pu H cu ∧ t14 = z ∧ Sat W0 wr (row qo co 1 H (u8s (pbOut wide key u0 j)) :: bytes true pu (pbU wide key u0 j) :: rledO p (noteN rs (evK wide) (evS wide) (N + j * E)) :: rmac wide b key [] :: bytes m ps salt :: L)) (fun _ t13 _ _ => k1 + 1 - (intOf t13).toNat)
  case atStart => exact ⟨0, q0, c0, _, Nat.zero_le _, rfl, rfl, rfl, by rw [Nat.zero_mul, Nat.add_zero]; exact s3⟩
  case round =>
    clear s3
    obtain ⟨j, pu, cu, z, hj, rfl, rfl, rfl, s⟩ := hrel
    by_cases hlt : j < k1
    · have hjb : j * E ≤ j * 3 := Nat.mul_le_mul_left _ HN.out.2.2.2.2.2.1
      have hbd : N + j * E ≤ 8000000 + ns := by have := HN.out.2.2.2.2.2.2.1; omega
      have HJ := Lib.hid hbd; clear hbd hjb
      go_wp2_with fail
      refine (HN.out.2.1 _ _ true pu cu j _ rfl HJ.out (by (repeat (first | with_reducible apply Sat.sub (s) | with_reducible apply Sat.alloc' | with_reducible apply Sat.drew | with_reducible apply Sat.drewN)); (repeat (first | with_reducible exact Fr.done | with_reducible exact Fr.nil | (with_reducible apply Fr.cons; (focus ((repeat (first | with_reducible exact Take.here | with_reducible apply Take.there)); done))) | with_reducible apply Fr.skip)); done)).mono ?_
      rintro e w4 ⟨q5, c5, rfl, s5'⟩
      clear s
      obtain ⟨X, hX⟩ : ∃ X, X = pbOut wide key u0 j := ⟨_, rfl⟩
      obtain ⟨Y, hY⟩ : ∃ Y, Y = pbU wide key u0 (j + 1) := ⟨_, rfl⟩
      have hXl : X.length = H := by rw [hX]; exact HN.out.2.2.2.2.1 j
      have hYl : Y.length = H := by rw [hY]; exact HN.out.2.2.2.1 (j + 1)
      have hXY : xorB X Y = pbOut wide key u0 (j + 1) := by rw [hX, hY]; rfl
      rw [← hX, ← hY] at s5'
      have s5 : Sat W0 w4 (row qo co 1 H (u8s X) :: bytes true q5 Y :: rledO p (noteN rs (evK wide) (evS wide) (N + (j + 1) * E)) :: rmac wide b key [] :: bytes m ps salt :: L) := (by (repeat (first | with_reducible apply Sat.sub ((rowBytes s5').2.2.2) | with_reducible apply Sat.alloc' | with_reducible apply Sat.drew | with_reducible apply Sat.drewN)); (repeat (first | with_reducible exact Fr.done | with_reducible exact Fr.nil | (with_reducible apply Fr.cons; (focus ((repeat (first | with_reducible exact Take.here | with_reducible apply Take.there)); done))) | with_reducible apply Fr.skip)); done)
      have HX := Lib.hid (And.intro hXl (And.intro hYl (And.intro hXY hY))); clear hXl hYl hXY hX hY s5'
      go_wp2
      go_loopw [14] (fun t14 wr => ∃ x : Nat, x ≤ H ∧ t14 = .int .i64 (x : Int) ∧ Sat W0 wr (row qo co 1 H (u8s (xorIn X Y x)) :: bytes true q5 Y :: rledO p (noteN rs (evK wide) (evS wide) (N + (j + 1) * E)) :: rmac wide b key [] :: bytes m ps salt :: L)) (fun t14 _ => H - (intOf t14).toNat)
      case atStart => exact ⟨0, Nat.zero_le _, rfl, by rw [xorIn_zero]; exact s5⟩
      case round =>
        clear s5
        obtain ⟨x, hx, rfl, s⟩ := hrel
        by_cases hlx : x < H
        · obtain ⟨hxl, ⟨-, -, hz, -, -⟩ | ⟨g, rest, hg, g1, g2, g3, sg⟩⟩ := s.rowOpen
          · omega
          · subst hg
            have hpl : (xorIn X Y x).length = H := by rw [xorIn_len]; exact HX.out.1
            have cg := sg.at x (v := .int .u8 (v8 (X.getD x 0))) (by rw [List.getElem?_append_left (by rw [u8s_len, hpl]; exact hlx), ← xorIn_get X Y x (by rw [HX.out.1]; exact hlx)]; exact u8s_get _ x (by rw [hpl]; exact hlx))
            have fg := sg.fr x (by rw [List.length_append, u8s_len, hpl]; omega)
            have zg := sg.lt (by rw [List.length_append, u8s_len, hpl]; omega)
            have hYne : Y ≠ [] := by intro h; have := HX.out.2.1; rw [h] at this; simp at this; omega
            obtain ⟨by', oy, hq5, sy⟩ := bytesCell (show Sat W0 wr (bytes true q5 Y :: seg true g 0 (u8s (xorIn X Y x) ++ rest) :: rledO p (noteN rs (evK wide) (evS wide) (N + (j + 1) * E)) :: rmac wide b key [] :: bytes m ps salt :: L) from sg.pull 1) hYne
            subst hq5
            have cy := sy.cell (u8s_get Y x (by rw [HX.out.2.1]; exact hlx))
            have zy := World.block_lt_of_cell? wr _ cy
            have HG := Lib.hid (And.intro hxl (And.intro g1 (And.intro g2 (And.intro g3 (And.intro hpl sg))))); clear hxl g1 g2 g3 hpl sg sy s hYne
            go_wp2_with fail
            refine wp_region_quiet_tail_lit 11 (by kernel_rfl) (by kernel_rfl) ?_
            simp only [List.take_succ_cons, List.take_zero, List.drop_succ_cons, List.drop_zero]
            repeat (go_big_quiet_step (fail))
            refine wpQuiet_nil ?_
            rintro _ ⟨nq, rfl⟩
            go_wp2
            go_roundw
            case rel =>
              obtain ⟨hxl, g1, g2, g3, hpl, sg⟩ := HG.out
              refine ⟨x + 1, by omega, by go_num, ?_⟩
              have st := (sg.drewN nq).store (i := x) (by rw [List.length_append, u8s_len, hpl]; omega) (.int .u8 (v8 (X.getD x 0 ^^^ Y.getD x 0))) (q := x) (by simp)
              rw [List.set_append_left _ _ (by rw [u8s_len, hpl]; exact hlx), u8s_set, xorIn_set] at st
              rw [← vxor8] at st
              refine st.rowMade ?_ ?_ g1 g2
              · rw [u8s_len, xorIn_len, HX.out.1, Nat.mul_one]
              · rw [List.length_append, u8s_len, xorIn_len, HX.out.1]
                rw [List.length_append, u8s_len, hpl] at g3
                exact g3
            case measure => simp [intOf]; omega
        · obtain rfl : x = H := by omega
          rw [xorIn_all X Y x HX.out.1 HX.out.2.1, HX.out.2.2.1] at s
          go_wp2
          go_roundw
          case rel => exact ⟨j + 1, q5, c5, _, by omega, by go_num, rfl, rfl, by rw [← HX.out.2.2.2]; exact s⟩
          case measure => simp [intOf]; omega
    · obtain rfl : j = k1 := by omega
      go_wp2
      go_ret
      exact ⟨qo, co, rfl, (by (repeat (first | with_reducible apply Sat.sub (s) | with_reducible apply Sat.alloc' | with_reducible apply Sat.drew | with_reducible apply Sat.drewN)); (repeat (first | with_reducible exact Fr.done | with_reducible exact Fr.nil | (with_reducible apply Fr.cons; (focus ((repeat (first | with_reducible exact Take.here | with_reducible apply Take.there)); done))) | with_reducible apply Fr.skip)); done)⟩
theorem rsize16 (w : World) (al : Int) : Calls Tryz.prog 40 #[.int .u8 al] w fun e w' => e = .returned (.int .i64 (if al = 1 then 32 else if al = 2 then 64 else 0)) ∧ w' = w := by
  by_cases h1 : al = 1
  · subst h1
    go_enter Tryz.func40, Tryz.ntmps40
    go_wp2
    go_ret
    exact ⟨rfl, rfl⟩
  · by_cases h2 : al = 2
    · subst h2
      go_enter Tryz.func40, Tryz.ntmps40
      go_wp2
      go_ret
      exact ⟨rfl, rfl⟩
    · rw [if_neg h1, if_neg h2]
      have e1 : (al == 1) = false := by simpa using h1
      have e2 : (al == 2) = false := by simpa using h2
      go_enter Tryz.func40, Tryz.ntmps40
      go_wp2
      go_ret
      exact ⟨rfl, rfl⟩
theorem rfirst16 (w : World) (al cv : Int) : Calls Tryz.prog 42 #[.int .u8 al, .int .i64 cv] w fun e w' => e = .returned (.int .i64 (wrongCode al cv)) ∧ w' = w := by
  have hs := rsize16 w al
  by_cases ha : ¬ al = 1 ∧ ¬ al = 2
  · have hw : wrongCode al cv = 4 := if_pos ha
    rw [if_neg ha.1, if_neg ha.2] at hs
    have HS := Lib.hid (And.intro hs hw); clear hs hw ha
    go_enter Tryz.func42, Tryz.ntmps42
    go_wp2_with fail
    refine HS.out.1.mono ?_
    rintro e w1 ⟨rfl, rfl⟩
    go_wp2
    go_ret
    exact ⟨by rw [HS.out.2]; rfl, rfl⟩
  · have hz : ∃ z : Int, (if al = 1 then (32 : Int) else if al = 2 then 64 else 0) = z ∧ ¬ z = 0 := by
      by_cases h1 : al = 1
      · exact ⟨32, if_pos h1, by decide⟩
      · exact ⟨64, by rw [if_neg h1, if_pos (by omega)], by decide⟩
    obtain ⟨z, hz1, hz2⟩ := hz
    rw [hz1] at hs
    by_cases c1 : cv < 1
    · have hw : wrongCode al cv = 10 := by unfold wrongCode; rw [if_neg ha, if_pos (.inl c1)]
      have HS := Lib.hid (And.intro hs hw); clear hs hw ha hz1
      go_enter Tryz.func42, Tryz.ntmps42
      go_wp2_with fail
      refine HS.out.1.mono ?_
      rintro e w1 ⟨rfl, rfl⟩
      go_wp2
      go_ret
      exact ⟨by rw [HS.out.2]; rfl, rfl⟩
    · by_cases c2 : 1048576 < cv
      · have hw : wrongCode al cv = 10 := by unfold wrongCode; rw [if_neg ha, if_pos (.inr c2)]
        have HS := Lib.hid (And.intro hs hw); clear hs hw ha hz1
        go_enter Tryz.func42, Tryz.ntmps42
        go_wp2_with fail
        refine HS.out.1.mono ?_
        rintro e w1 ⟨rfl, rfl⟩
        go_wp2
        go_ret
        exact ⟨by rw [HS.out.2]; rfl, rfl⟩
      · have hw : wrongCode al cv = 0 := by unfold wrongCode; rw [if_neg ha, if_neg (by omega)]
        have HS := Lib.hid (And.intro hs hw); clear hs hw ha hz1
        go_enter Tryz.func42, Tryz.ntmps42
        go_wp2_with fail
        refine HS.out.1.mono ?_
        rintro e w1 ⟨rfl, rfl⟩
        go_wp2
        go_ret
        exact ⟨by rw [HS.out.2]; rfl, rfl⟩
set_option maxHeartbeats 1000000 in
theorem rblockBad16 (w : World) (v1 v2 v3 : Value) (al cv iv : Int) (h : blockCode al cv iv ≠ 0) :
    Calls Tryz.prog 21 #[v1, .int .u8 al, v2, v3, .int .i64 cv, .int .i64 iv] w fun e w' => e = .returned (.tuple #[.slice none 0 0, .int .i64 (blockCode al cv iv)]) ∧ w' = w := by
  have hf := rfirst16 w al cv
  obtain ⟨z, hz⟩ : ∃ z, z = wrongCode al cv := ⟨_, rfl⟩
  rw [← hz] at hf
  by_cases h0 : z = 0
  · have hc : blockCode al cv iv = 2 := by
      unfold blockCode at h ⊢
      rw [← hz, h0] at h ⊢
      rw [if_neg (by simp)] at h ⊢
      split at h
      · rename_i hx; rw [if_pos hx]
      · exact absurd rfl h
    have hi : iv < 1 ∨ 4294967295 < iv := by
      unfold blockCode at h
      rw [← hz, h0, if_neg (by simp)] at h
      split at h
      · assumption
      · exact absurd rfl h
    subst h0
    have HS := Lib.hid (And.intro hf hc); clear hf hc hz h
    by_cases i1 : iv < 1
    · clear hi
      go_enter Tryz.func21, Tryz.ntmps21
      go_wp2_with fail
      refine HS.out.1.mono ?_
      rintro e w1 ⟨rfl, rfl⟩
      go_wp2
      refine bodyPost_ret (v := .tuple #[.slice none 0 0, .int .i64 2]) (by simp [results, Tryz.results21, go_sem]) rfl ⟨by rw [HS.out.2], rfl⟩
    · have i2 : 4294967295 < iv := by omega
      clear hi
      go_enter Tryz.func21, Tryz.ntmps21
      go_wp2_with fail
      refine HS.out.1.mono ?_
      rintro e w1 ⟨rfl, rfl⟩
      go_wp2
      refine bodyPost_ret (v := .tuple #[.slice none 0 0, .int .i64 2]) (by simp [results, Tryz.results21, go_sem]) rfl ⟨by rw [HS.out.2], rfl⟩
  · have hc : blockCode al cv iv = z := by unfold blockCode; rw [← hz, if_pos h0]
    have HS := Lib.hid (And.intro hf hc); clear hf hc hz h
    go_enter Tryz.func21, Tryz.ntmps21
    go_wp2_with fail
    refine HS.out.1.mono ?_
    rintro e w1 ⟨rfl, rfl⟩
    go_wp2
    refine bodyPost_ret (v := .tuple #[.slice none 0 0, .int .i64 z]) (by simp [results, Tryz.results21, go_sem]) rfl ⟨by rw [HS.out.2], rfl⟩
set_option maxHeartbeats 1000000 in
theorem rblockOf16 {W0 w : World} {L : List Assn} {m m2 : Bool} {pk ps : Option Addr} {nk ck ns cs : Nat} {pv : Value} {iv cv : Int} (wide : Bool) (p : Option Nat) (rs : List Run3) (key salt : List Byte) (count i : Nat) (hp : pv = ptrO p) (hcv : cv = (count : Int)) (hiv : iv = (i : Int)) (hK : key.length = nk) (hS : salt.length = ns) (hnk : nk ≤ 400000000) (hns : ns ≤ 400000000) (h1 : 1 ≤ count) (h2 : count ≤ 1048576) (hi1 : 1 ≤ i) (hi : i < 4294967296) (hs : Sat W0 w (rledO p rs :: bytes m pk key :: bytes m2 ps salt :: L)) (hb : tot rs + 2 * nk + 2 * ns + 20000000 ≤ 4611686018427387904) (hl : rs.length + 20 ≤ 4294967296) :
    Calls Tryz.prog 21 #[pv, .int .u8 (algN wide), .slice pk nk ck, .slice ps ns cs, .int .i64 cv, .int .i64 iv] w fun e w' => ∃ q c, e = .returned (.tuple #[.slice q (hsz wide) c, .int .i64 0]) ∧ Sat W0 w' (row q c 1 (hsz wide) (u8s (pbBlock wide key salt count i)) :: rledO p (noteN rs (evK wide) (evS wide) (keyN wide nk + pbN wide ns count)) :: bytes m pk key :: bytes m2 ps salt :: L) := by
  subst hp hcv hiv
  have hf := fun w => rfirst16 w (algN wide) (count : Int)
  have hw0 : wrongCode (algN wide) (count : Int) = 0 := by
    unfold wrongCode
    rw [if_neg (by cases wide <;> decide), if_neg (by omega)]
  rw [hw0] at hf
  have hkl := keyN_le wide nk
  have hlen := noteN_len rs (evK wide) (evS wide) (keyN wide nk)
  have HN := Lib.hid (And.intro hK (And.intro hS (And.intro hb (And.intro hl (And.intro hf (And.intro hkl hlen)))))); clear hK hS hb hl hf hkl hlen hw0
  have i1 : ¬ (i : Int) < 1 := by omega
  have i2 : ¬ 4294967295 < (i : Int) := by omega
  go_enter Tryz.func21, Tryz.ntmps21
  go_wp2_with fail
  refine (HN.out.2.2.2.2.1 _).mono ?_
  rintro e w1 ⟨rfl, rfl⟩
  go_wp2_with fail
  refine (rmnew wide p rs key rfl rfl HN.out.1 (by omega) (by (repeat (first | with_reducible apply Sat.sub (hs) | with_reducible apply Sat.alloc' | with_reducible apply Sat.drew | with_reducible apply Sat.drewN)); (repeat (first | with_reducible exact Fr.done | with_reducible exact Fr.nil | (with_reducible apply Fr.cons; (focus ((repeat (first | with_reducible exact Take.here | with_reducible apply Take.there)); done))) | with_reducible apply Fr.skip)); done) (by have := HN.out.2.2.1; omega) (by have := HN.out.2.2.2.1; omega)).mono ?_
  rintro e w2 ⟨b, rfl, s2⟩
  clear hs
  go_wp2_with fail
  refine (rblk16 wide p _ key salt count i rfl (by rw [HN.out.1]; omega) HN.out.2.1 hns h1 h2 hi1 hi (by (repeat (first | with_reducible apply Sat.sub (s2) | with_reducible apply Sat.alloc' | with_reducible apply Sat.drew | with_reducible apply Sat.drewN)); (repeat (first | with_reducible exact Fr.done | with_reducible exact Fr.nil | (with_reducible apply Fr.cons; (focus ((repeat (first | with_reducible exact Take.here | with_reducible apply Take.there)); done))) | with_reducible apply Fr.skip)); done) (by rw [tot_noteN]; have := HN.out.2.2.1; have := HN.out.2.2.2.2.2.1; omega) (by have := HN.out.2.2.2.1; have := HN.out.2.2.2.2.2.2; omega)).mono ?_
  rintro e w3 ⟨q, c, rfl, s3⟩
  clear s2
  rw [noteN_add] at s3
  have s4 := s3
  clear s3
  go_wp2
  refine bodyPost_ret (v := .tuple #[.slice q _ c, .int .i64 0]) (by simp [results, Tryz.results21, go_sem]) rfl ⟨q, c, rfl, (by (repeat (first | with_reducible apply Sat.sub (s4) | with_reducible apply Sat.alloc' | with_reducible apply Sat.drew | with_reducible apply Sat.drewN)); (repeat (first | with_reducible exact Fr.done | with_reducible exact Fr.nil | (with_reducible apply Fr.cons; (focus ((repeat (first | with_reducible exact Take.here | with_reducible apply Take.there)); done))) | with_reducible apply Fr.skip)); done)⟩
end Go.Proofs.YtmohabidfalhoaaGreat

/- The document's pbkdf2: Key; under the conditions that each names. -/
namespace Go.Proofs.YtmohabidfalhoaaGreat
open Go.RowKit Go.Sep Go.Bv Go.Sha
set_option linter.unusedVariables false
set_option linter.unusedSimpArgs false
set_option maxHeartbeats 1000000 in
theorem rkeyBad16 (w : World) (v1 v2 v3 : Value) (al cv nv : Int) (h : keyCode al cv nv ≠ 0) :
    Calls Tryz.prog 24 #[v1, .int .u8 al, v2, v3, .int .i64 cv, .int .i64 nv] w fun e w' => e = .returned (.tuple #[.slice none 0 0, .int .i64 (keyCode al cv nv)]) ∧ w' = w := by
  have hf := rfirst16 w al cv
  obtain ⟨z, hz⟩ : ∃ z, z = wrongCode al cv := ⟨_, rfl⟩
  rw [← hz] at hf
  by_cases h0 : z = 0
  · have hk : keyCode al cv nv = if nv < 0 then 2 else if 16320 < nv then 9 else 0 := by
      unfold keyCode
      rw [← hz, h0, if_neg (by simp)]
    rw [hk] at h ⊢
    subst h0
    have HS := Lib.hid hf; clear hf hk hz
    by_cases i1 : nv < 0
    · simp only [if_pos i1]
      clear h
      go_enter Tryz.func24, Tryz.ntmps24
      go_wp2_with fail
      refine HS.out.mono ?_
      rintro e w1 ⟨rfl, rfl⟩
      go_wp2
      refine bodyPost_ret (v := .tuple #[.slice none 0 0, .int .i64 2]) (by simp [results, Tryz.results24, go_sem]) rfl ⟨rfl, rfl⟩
    · simp only [if_neg i1] at h ⊢
      by_cases i2 : 16320 < nv
      · simp only [if_pos i2]
        clear h
        go_enter Tryz.func24, Tryz.ntmps24
        go_wp2_with fail
        refine HS.out.mono ?_
        rintro e w1 ⟨rfl, rfl⟩
        go_wp2
        refine bodyPost_ret (v := .tuple #[.slice none 0 0, .int .i64 9]) (by simp [results, Tryz.results24, go_sem]) rfl ⟨rfl, rfl⟩
      · exact absurd (if_neg i2) h
  · have hc : keyCode al cv nv = z := by unfold keyCode; rw [← hz, if_pos h0]
    have HS := Lib.hid (And.intro hf hc); clear hf hc hz h
    go_enter Tryz.func24, Tryz.ntmps24
    go_wp2_with fail
    refine HS.out.1.mono ?_
    rintro e w1 ⟨rfl, rfl⟩
    go_wp2
    refine bodyPost_ret (v := .tuple #[.slice none 0 0, .int .i64 z]) (by simp [results, Tryz.results24, go_sem]) rfl ⟨by rw [HS.out.2], rfl⟩
set_option maxRecDepth 100000 in
set_option maxHeartbeats 1000000 in
theorem rkeyOf16 {W0 w : World} {L : List Assn} {m m2 : Bool} {pk ps : Option Addr} {nk ck ns cs : Nat} {pv : Value} {nv cv : Int} (wide : Bool) (p : Option Nat) (rs : List Run3) (key salt : List Byte) (count n : Nat) (hp : pv = ptrO p) (hcv : cv = (count : Int)) (hnv : nv = (n : Int)) (hK : key.length = nk) (hS : salt.length = ns) (hnk : nk ≤ 400000000) (hns : ns ≤ 400000000) (h1 : 1 ≤ count) (h2 : count ≤ 1048576) (hn : n ≤ 16320) (hs : Sat W0 w (rledO p rs :: bytes m pk key :: bytes m2 ps salt :: L)) (hb : tot rs + 2 * nk + 1000 * ns + 20000000000 ≤ 4611686018427387904) (hl : rs.length + 20 ≤ 4294967296) :
    Calls Tryz.prog 24 #[pv, .int .u8 (algN wide), .slice pk nk ck, .slice ps ns cs, .int .i64 cv, .int .i64 nv] w fun e w' => ∃ q c, e = .returned (.tuple #[.slice q n c, .int .i64 0]) ∧ Sat W0 w' (bytes true q ((pbMany wide key salt count (pbM wide n)).take n) :: rledO p (noteN rs (evK wide) (evS wide) (keyN wide nk + pbM wide n * pbN wide ns count)) :: bytes m pk key :: bytes m2 ps salt :: L) := by
  subst hp hcv hnv
  have hf := fun w => rfirst16 w (algN wide) (count : Int)
  have hw0 : wrongCode (algN wide) (count : Int) = 0 := by
    unfold wrongCode
    rw [if_neg (by cases wide <;> decide), if_neg (by omega)]
  rw [hw0] at hf
  have hkl := keyN_le wide nk
  have hpn := pbN_le wide ns count h2
  have hH0 := hsz_pos wide
  have hH := hsz_le64 wide
  have hMj : ∀ j, n ≤ j * hsz wide → j * hsz wide < n + hsz wide → j = pbM wide n := fun j => pbM_of wide n j
  have hjb : ∀ j, j * hsz wide < n + hsz wide → j ≤ 512 := by
    intro j hj
    revert hj
    cases wide <;> simp only [hsz] <;> omega
  have hbl := fun i => pbBlock_len wide key salt count i
  have HN := Lib.hid (And.intro hK (And.intro hS (And.intro hb (And.intro hl (And.intro hf (And.intro hkl (And.intro hpn (And.intro hMj (And.intro hjb hbl))))))))); clear hK hS hb hl hf hkl hpn hMj hjb hw0 hbl
  have i1 : ¬ (n : Int) < 0 := by omega
  have i2 : ¬ 16320 < (n : Int) := by omega
  have hcall := fun (wr : World) (b j : Nat) (X : List Assn) (hj : j ≤ 512) (s : Sat W0 wr (rledO p (noteN rs (evK wide) (evS wide) (keyN wide nk + j * pbN wide ns count)) :: rmac wide b key [] :: bytes m2 ps salt :: X)) =>
    rblk16 (cs := cs) (ns := ns) wide p _ key salt count (j + 1) rfl (by rw [HN.out.1]; omega) HN.out.2.1 hns h1 h2 (by omega) (by omega) s
      (by rw [tot_noteN]; have := HN.out.2.2.1; have := HN.out.2.2.2.2.2.1; have := HN.out.2.2.2.2.2.2.1; have : j * pbN wide ns count ≤ 512 * (ns + 3145800) := Nat.mul_le_mul hj this; omega)
      (by have := noteN_len rs (evK wide) (evS wide) (keyN wide nk + j * pbN wide ns count); have := HN.out.2.2.2.1; omega)
  have HC := Lib.hid hcall; clear hcall
  clear h1 h2
  go_enter Tryz.func24, Tryz.ntmps24
  go_wp2_with fail
  refine (HN.out.2.2.2.2.1 _).mono ?_
  rintro e w1 ⟨rfl, rfl⟩
  go_wp2_with fail
  refine (rmnew wide p rs key rfl rfl HN.out.1 (by omega) (by (repeat (first | with_reducible apply Sat.sub (hs) | with_reducible apply Sat.alloc' | with_reducible apply Sat.drew | with_reducible apply Sat.drewN)); (repeat (first | with_reducible exact Fr.done | with_reducible exact Fr.nil | (with_reducible apply Fr.cons; (focus ((repeat (first | with_reducible exact Take.here | with_reducible apply Take.there)); done))) | with_reducible apply Fr.skip)); done) (by have := HN.out.2.2.1; omega) (by have := HN.out.2.2.2.1; omega)).mono ?_
  rintro e w2 ⟨b, rfl, s2⟩
  clear hs
  go_wp2_with fail
  go_loopw [17, 18] (fun t17 t18 wr => ∃ (j : Nat) (po : Option Addr) (co : Nat), j * hsz wide < n + hsz wide ∧ t17 = .slice po (j * hsz wide) co ∧ t18 = .int .i64 ((j : Int) + 1) ∧ Sat W0 wr (row po co 1 (j * hsz wide) (u8s (pbMany wide key salt count j)) :: rledO p (noteN rs (evK wide) (evS wide) (keyN wide nk + j * pbN wide ns count)) :: rmac wide b key [] :: bytes m2 ps salt :: bytes m pk key :: L)) (fun t17 _ _ => n + 64 - (match t17 with | .slice _ l _ => l | _ => 0))
  case atStart =>
    refine ⟨0, none, 0, by rw [Nat.zero_mul]; omega, by rw [Nat.zero_mul], rfl, ?_⟩
    rw [Nat.zero_mul, Nat.zero_mul]
    have s3 : Sat W0 w2 (rledO p (noteN rs (evK wide) (evS wide) (keyN wide nk)) :: rmac wide b key [] :: bytes m2 ps salt :: bytes m pk key :: L) := (by (repeat (first | with_reducible apply Sat.sub (s2) | with_reducible apply Sat.alloc' | with_reducible apply Sat.drew | with_reducible apply Sat.drewN)); (repeat (first | with_reducible exact Fr.done | with_reducible exact Fr.nil | (with_reducible apply Fr.cons; (focus ((repeat (first | with_reducible exact Take.here | with_reducible apply Take.there)); done))) | with_reducible apply Fr.skip)); done)
    exact s3.rowNil 1
  case round =>
    clear s2
    obtain ⟨j, po, co, hj, rfl, rfl, s⟩ := hrel
    have hj5 := HN.out.2.2.2.2.2.2.2.2.1 j hj
    by_cases hlt : j * hsz wide < n
    · have hc := HC.out wr b j (row po co 1 (j * hsz wide) (u8s (pbMany wide key salt count j)) :: bytes m pk key :: L) hj5 (by (repeat (first | with_reducible apply Sat.sub (s) | with_reducible apply Sat.alloc' | with_reducible apply Sat.drew | with_reducible apply Sat.drewN)); (repeat (first | with_reducible exact Fr.done | with_reducible exact Fr.nil | (with_reducible apply Fr.cons; (focus ((repeat (first | with_reducible exact Take.here | with_reducible apply Take.there)); done))) | with_reducible apply Fr.skip)); done)
      rw [noteN_add, Nat.add_assoc, ← Nat.succ_mul] at hc
      obtain ⟨J, hJ⟩ : ∃ J, J = j * hsz wide := ⟨_, rfl⟩
      have hJ2 : (j + 1) * hsz wide = J + hsz wide := by rw [Nat.succ_mul, hJ]
      rw [← hJ] at s hlt hj hc ⊢
      have hij : (j : Int) + 1 = ((j + 1 : Nat) : Int) := by omega
      rw [hij]
      have HJ := Lib.hid hJ2; clear hJ hJ2 hij
      have HH := Lib.hid hc; clear hc s
      go_wp2_with fail
      refine HH.out.mono ?_
      rintro e w3 ⟨q, cq, rfl, s3⟩
      have hbl := HN.out.2.2.2.2.2.2.2.2.2 (j + 1)
      obtain ⟨-, -, -, s4⟩ := rowBytes s3
      clear s3 HH
      have s5 : Sat W0 w3 (row po co 1 J (u8s (pbMany wide key salt count j)) :: bytes true q (pbBlock wide key salt count (j + 1)) :: rledO p (noteN rs (evK wide) (evS wide) (keyN wide nk + (j + 1) * pbN wide ns count)) :: rmac wide b key [] :: bytes m2 ps salt :: bytes m pk key :: L) := (by (repeat (first | with_reducible apply Sat.sub (s4) | with_reducible apply Sat.alloc' | with_reducible apply Sat.drew | with_reducible apply Sat.drewN)); (repeat (first | with_reducible exact Fr.done | with_reducible exact Fr.nil | (with_reducible apply Fr.cons; (focus ((repeat (first | with_reducible exact Take.here | with_reducible apply Take.there)); done))) | with_reducible apply Fr.skip)); done)
      clear s4
      go_wp2_with (at_builtin; refine wpl_app8 rfl (.tmp 42) (.tmp 48) rfl rfl rfl s5 hbl (by omega) ?_; intro p9 c9 w9 s9; clear s5)
      go_roundw
      case rel =>
        refine ⟨j + 1, p9, c9, by rw [HJ.out]; omega, by rw [HJ.out], by go_num, ?_⟩
        rw [HJ.out]
        exact s9.drop 1
      case measure => simp; omega
    · have hM := HN.out.2.2.2.2.2.2.2.1 j (by omega) hj
      obtain ⟨J, hJ⟩ : ∃ J, J = j * hsz wide := ⟨_, rfl⟩
      obtain ⟨-, hc1, hc2, s4⟩ := rowBytes s
      rw [hM] at s4
      rw [← hJ] at hlt hc1 ⊢
      have s5 := bytesTake n s4
      have HF := Lib.hid s5; clear s5 s4 s hM hJ hj
      have hnc : n ≤ co := by omega
      go_wp2
      refine bodyPost_ret (v := .tuple #[.slice po n co, .int .i64 0]) (by simp [results, Tryz.results24, go_sem]) rfl ⟨po, co, rfl, ?_⟩
      have s6 := HF.out
      exact (by (repeat (first | with_reducible apply Sat.sub (s6) | with_reducible apply Sat.alloc' | with_reducible apply Sat.drew | with_reducible apply Sat.drewN)); (repeat (first | with_reducible exact Fr.done | with_reducible exact Fr.nil | (with_reducible apply Fr.cons; (focus ((repeat (first | with_reducible exact Take.here | with_reducible apply Take.there)); done))) | with_reducible apply Fr.skip)); done)
end Go.Proofs.YtmohabidfalhoaaGreat
