
/- Layer 12's program: a mac's form and size, a refused algorithm; layer 12's statements: events; under the conditions that each names. -/
import Derived.Test.YtooolimpkafhaaaGreatHm3
namespace Go.Proofs.YtooolimpkafhaaaGreat
open Go.RowKit Go.Sep Go.Bv Go.Sha
set_option linter.unusedVariables false
set_option linter.unusedSimpArgs false
@[go_sem] theorem idxS0 (a b c : Value) (w : World) : (Instr.index 199 (.agg #[a, b, c]) (.int .i64 0)).run Tryz.prog w = .ok a w := by kernel_rfl
@[go_sem] theorem idxS1 (a b c : Value) (w : World) : (Instr.index 199 (.agg #[a, b, c]) (.int .i64 1)).run Tryz.prog w = .ok b w := by kernel_rfl
@[go_sem] theorem idxS2 (a b c : Value) (w : World) : (Instr.index 199 (.agg #[a, b, c]) (.int .i64 2)).run Tryz.prog w = .ok c w := by kernel_rfl
theorem rowBack {W0 w : World} {L : List Assn} {p : Option Addr} {c n : Nat} {vs : List Value} {k : Nat} (h : Sat W0 w (row p c 1 n vs :: L)) (e : n = k) : Sat W0 w (row p c 1 k vs :: L) := e ▸ h
set_option maxRecDepth 100000 in
set_option maxHeartbeats 2000000 in
theorem hmacForm {W0 w : World} {L : List Assn} {c : Nat} (wide : Bool) (k msg : List Byte) (hb : msg.length ≤ 2000000000000000000) (hs : Sat W0 w (mac wide c k msg :: L)) :
    Calls Tryz.prog 97 #[.pointer (some ⟨c, 0, none⟩)] w fun e w' => ∃ q cq, e = .returned (.slice q (3 * fsz wide : Nat) cq) ∧ Sat W0 w' (row q cq 1 (3 * fsz wide) (u8s (macForm wide k msg)) :: mac wide c k msg :: L) := by
  obtain ⟨b1, b2, b3, s0⟩ := macOpen hs
  clear hs
  have hi := macIs wide s0
  have hst := hmacStates wide s0
  have HB := Lib.hid hb; clear hb
  cases wide
  · skip
    simp only [ifv] at hst
    go_enter Tryz.func97, Tryz.ntmps97
    go_wp2_with fail
    refine hi.mono ?_
    rintro e w' ⟨rfl, rfl⟩
    clear hi
    go_wp2_with fail
    refine hst.mono ?_
    rintro e w1 ⟨rfl, s1⟩
    clear hst s0
    go_wp2
    go_loopw [3, 11] (fun t3 t11 wr => ∃ (i n : Nat) (p : Option Addr) (cp : Nat), i ≤ 3 ∧ n = i * 104 ∧ t11 = .int .i64 (i : Int) ∧ t3 = .slice p n cp ∧ Sat W0 wr (row p cp 1 n (u8s (formsH false k msg i)) :: macP false c b1 b2 b3 k msg L)) (fun _ t11 _ => 3 - (intOf t11).toNat)
    case atStart => exact ⟨0, 0, none, 0, by omega, rfl, rfl, rfl, s1.rowNil 1⟩
    case round =>
      clear s1
      obtain ⟨i, n, p, cp, hi, hn, rfl, rfl, s⟩ := hrel
      have hc : i = 0 ∨ i = 1 ∨ i = 2 ∨ i = 3 := by omega
      simp only [macP] at s
      rcases hc with rfl | rfl | rfl | rfl
      · obtain rfl : n = 0 := by omega
        clear hn
        go_wp2_with fail
        refine (dForm false (b := b1) (xorKey false k 54 ++ msg) (by rw [List.length_append, xorKey_len]; have := bsz_le false; have := HB.out; omega) (by (repeat (first | with_reducible apply Sat.sub (s) | with_reducible apply Sat.alloc' | with_reducible apply Sat.drew | with_reducible apply Sat.drewN)); (repeat (first | with_reducible exact Fr.done | with_reducible exact Fr.nil | (with_reducible apply Fr.cons; (focus ((repeat (first | with_reducible exact Take.here | with_reducible apply Take.there)); done))) | with_reducible apply Fr.skip)); done)).mono ?_
        rintro e w2 ⟨q, cq, rfl, s2⟩
        simp only [fsz]
        obtain ⟨hl, hl2, hl3, s3⟩ := rowBytes s2
        go_wp2_with (at_builtin; refine wpl_app8 rfl (.tmp 14) (.tmp 16) rfl rfl rfl ((by (repeat (first | with_reducible apply Sat.sub (s3) | with_reducible apply Sat.alloc' | with_reducible apply Sat.drew | with_reducible apply Sat.drewN)); (repeat (first | with_reducible exact Fr.done | with_reducible exact Fr.nil | (with_reducible apply Fr.cons; (focus ((repeat (first | with_reducible exact Take.here | with_reducible apply Take.there)); done))) | with_reducible apply Fr.skip)); done) : Sat W0 w2 (row p cp 1 0 (u8s (formsH false k msg 0)) :: bytes true q (formH false (xorKey false k 54 ++ msg)) :: macP false c b1 b2 b3 k msg L)) hl (by omega) ?_; intro p9 c9 w9 s4)
        go_roundw
        case rel => exact ⟨1, 0 + 104, p9, c9, by omega, by omega, rfl, rfl, s4.drop 1⟩
        case measure => simp [intOf]
      · obtain rfl : n = 104 := by omega
        clear hn
        go_wp2_with fail
        refine (dForm false (b := b2) (xorKey false k 92) (by rw [xorKey_len]; have := bsz_le false; omega) (by (repeat (first | with_reducible apply Sat.sub (s) | with_reducible apply Sat.alloc' | with_reducible apply Sat.drew | with_reducible apply Sat.drewN)); (repeat (first | with_reducible exact Fr.done | with_reducible exact Fr.nil | (with_reducible apply Fr.cons; (focus ((repeat (first | with_reducible exact Take.here | with_reducible apply Take.there)); done))) | with_reducible apply Fr.skip)); done)).mono ?_
        rintro e w2 ⟨q, cq, rfl, s2⟩
        simp only [fsz]
        obtain ⟨hl, hl2, hl3, s3⟩ := rowBytes s2
        go_wp2_with (at_builtin; refine wpl_app8 rfl (.tmp 14) (.tmp 16) rfl rfl rfl ((by (repeat (first | with_reducible apply Sat.sub (s3) | with_reducible apply Sat.alloc' | with_reducible apply Sat.drew | with_reducible apply Sat.drewN)); (repeat (first | with_reducible exact Fr.done | with_reducible exact Fr.nil | (with_reducible apply Fr.cons; (focus ((repeat (first | with_reducible exact Take.here | with_reducible apply Take.there)); done))) | with_reducible apply Fr.skip)); done) : Sat W0 w2 (row p cp 1 104 (u8s (formsH false k msg 1)) :: bytes true q (formH false (xorKey false k 92)) :: macP false c b1 b2 b3 k msg L)) hl (by omega) ?_; intro p9 c9 w9 s4)
        go_roundw
        case rel => exact ⟨2, 104 + 104, p9, c9, by omega, by omega, rfl, rfl, s4.drop 1⟩
        case measure => simp [intOf]
      · obtain rfl : n = 104 + 104 := by omega
        clear hn
        go_wp2_with fail
        refine (dForm false (b := b3) (xorKey false k 54) (by rw [xorKey_len]; have := bsz_le false; omega) (by (repeat (first | with_reducible apply Sat.sub (s) | with_reducible apply Sat.alloc' | with_reducible apply Sat.drew | with_reducible apply Sat.drewN)); (repeat (first | with_reducible exact Fr.done | with_reducible exact Fr.nil | (with_reducible apply Fr.cons; (focus ((repeat (first | with_reducible exact Take.here | with_reducible apply Take.there)); done))) | with_reducible apply Fr.skip)); done)).mono ?_
        rintro e w2 ⟨q, cq, rfl, s2⟩
        simp only [fsz]
        obtain ⟨hl, hl2, hl3, s3⟩ := rowBytes s2
        go_wp2_with (at_builtin; refine wpl_app8 rfl (.tmp 14) (.tmp 16) rfl rfl rfl ((by (repeat (first | with_reducible apply Sat.sub (s3) | with_reducible apply Sat.alloc' | with_reducible apply Sat.drew | with_reducible apply Sat.drewN)); (repeat (first | with_reducible exact Fr.done | with_reducible exact Fr.nil | (with_reducible apply Fr.cons; (focus ((repeat (first | with_reducible exact Take.here | with_reducible apply Take.there)); done))) | with_reducible apply Fr.skip)); done) : Sat W0 w2 (row p cp 1 (104 + 104) (u8s (formsH false k msg 2)) :: bytes true q (formH false (xorKey false k 54)) :: macP false c b1 b2 b3 k msg L)) hl (by omega) ?_; intro p9 c9 w9 s4)
        go_roundw
        case rel => exact ⟨3, 104 + 104 + 104, p9, c9, by omega, by omega, rfl, rfl, s4.drop 1⟩
        case measure => simp [intOf]
      · go_wp2
        go_ret
        exact ⟨p, cp, by rw [hn]; rfl, by
          have s5 := rowBack s (k := 3 * fsz false) (by rw [hn]; rfl)
          exact (macShut (s5.pick [1, 2, 3, 4] : Sat W0 wr (macP false c b1 b2 b3 k msg (row p cp 1 (3 * fsz false) (u8s (formsH false k msg 3)) :: L)))).pick [1]⟩
  · skip
    simp only [ifv] at hst
    go_enter Tryz.func97, Tryz.ntmps97
    go_wp2_with fail
    refine hi.mono ?_
    rintro e w' ⟨rfl, rfl⟩
    clear hi
    go_wp2_with fail
    refine hst.mono ?_
    rintro e w1 ⟨rfl, s1⟩
    clear hst s0
    go_wp2
    go_loopw [3, 11] (fun t3 t11 wr => ∃ (i n : Nat) (p : Option Addr) (cp : Nat), i ≤ 3 ∧ n = i * 200 ∧ t11 = .int .i64 (i : Int) ∧ t3 = .slice p n cp ∧ Sat W0 wr (row p cp 1 n (u8s (formsH true k msg i)) :: macP true c b1 b2 b3 k msg L)) (fun _ t11 _ => 3 - (intOf t11).toNat)
    case atStart => exact ⟨0, 0, none, 0, by omega, rfl, rfl, rfl, s1.rowNil 1⟩
    case round =>
      clear s1
      obtain ⟨i, n, p, cp, hi, hn, rfl, rfl, s⟩ := hrel
      have hc : i = 0 ∨ i = 1 ∨ i = 2 ∨ i = 3 := by omega
      simp only [macP] at s
      rcases hc with rfl | rfl | rfl | rfl
      · obtain rfl : n = 0 := by omega
        clear hn
        go_wp2_with fail
        refine (dForm true (b := b1) (xorKey true k 54 ++ msg) (by rw [List.length_append, xorKey_len]; have := bsz_le true; have := HB.out; omega) (by (repeat (first | with_reducible apply Sat.sub (s) | with_reducible apply Sat.alloc' | with_reducible apply Sat.drew | with_reducible apply Sat.drewN)); (repeat (first | with_reducible exact Fr.done | with_reducible exact Fr.nil | (with_reducible apply Fr.cons; (focus ((repeat (first | with_reducible exact Take.here | with_reducible apply Take.there)); done))) | with_reducible apply Fr.skip)); done)).mono ?_
        rintro e w2 ⟨q, cq, rfl, s2⟩
        simp only [fsz]
        obtain ⟨hl, hl2, hl3, s3⟩ := rowBytes s2
        go_wp2_with (at_builtin; refine wpl_app8 rfl (.tmp 14) (.tmp 16) rfl rfl rfl ((by (repeat (first | with_reducible apply Sat.sub (s3) | with_reducible apply Sat.alloc' | with_reducible apply Sat.drew | with_reducible apply Sat.drewN)); (repeat (first | with_reducible exact Fr.done | with_reducible exact Fr.nil | (with_reducible apply Fr.cons; (focus ((repeat (first | with_reducible exact Take.here | with_reducible apply Take.there)); done))) | with_reducible apply Fr.skip)); done) : Sat W0 w2 (row p cp 1 0 (u8s (formsH true k msg 0)) :: bytes true q (formH true (xorKey true k 54 ++ msg)) :: macP true c b1 b2 b3 k msg L)) hl (by omega) ?_; intro p9 c9 w9 s4)
        go_roundw
        case rel => exact ⟨1, 0 + 200, p9, c9, by omega, by omega, rfl, rfl, s4.drop 1⟩
        case measure => simp [intOf]
      · obtain rfl : n = 200 := by omega
        clear hn
        go_wp2_with fail
        refine (dForm true (b := b2) (xorKey true k 92) (by rw [xorKey_len]; have := bsz_le true; omega) (by (repeat (first | with_reducible apply Sat.sub (s) | with_reducible apply Sat.alloc' | with_reducible apply Sat.drew | with_reducible apply Sat.drewN)); (repeat (first | with_reducible exact Fr.done | with_reducible exact Fr.nil | (with_reducible apply Fr.cons; (focus ((repeat (first | with_reducible exact Take.here | with_reducible apply Take.there)); done))) | with_reducible apply Fr.skip)); done)).mono ?_
        rintro e w2 ⟨q, cq, rfl, s2⟩
        simp only [fsz]
        obtain ⟨hl, hl2, hl3, s3⟩ := rowBytes s2
        go_wp2_with (at_builtin; refine wpl_app8 rfl (.tmp 14) (.tmp 16) rfl rfl rfl ((by (repeat (first | with_reducible apply Sat.sub (s3) | with_reducible apply Sat.alloc' | with_reducible apply Sat.drew | with_reducible apply Sat.drewN)); (repeat (first | with_reducible exact Fr.done | with_reducible exact Fr.nil | (with_reducible apply Fr.cons; (focus ((repeat (first | with_reducible exact Take.here | with_reducible apply Take.there)); done))) | with_reducible apply Fr.skip)); done) : Sat W0 w2 (row p cp 1 200 (u8s (formsH true k msg 1)) :: bytes true q (formH true (xorKey true k 92)) :: macP true c b1 b2 b3 k msg L)) hl (by omega) ?_; intro p9 c9 w9 s4)
        go_roundw
        case rel => exact ⟨2, 200 + 200, p9, c9, by omega, by omega, rfl, rfl, s4.drop 1⟩
        case measure => simp [intOf]
      · obtain rfl : n = 200 + 200 := by omega
        clear hn
        go_wp2_with fail
        refine (dForm true (b := b3) (xorKey true k 54) (by rw [xorKey_len]; have := bsz_le true; omega) (by (repeat (first | with_reducible apply Sat.sub (s) | with_reducible apply Sat.alloc' | with_reducible apply Sat.drew | with_reducible apply Sat.drewN)); (repeat (first | with_reducible exact Fr.done | with_reducible exact Fr.nil | (with_reducible apply Fr.cons; (focus ((repeat (first | with_reducible exact Take.here | with_reducible apply Take.there)); done))) | with_reducible apply Fr.skip)); done)).mono ?_
        rintro e w2 ⟨q, cq, rfl, s2⟩
        simp only [fsz]
        obtain ⟨hl, hl2, hl3, s3⟩ := rowBytes s2
        go_wp2_with (at_builtin; refine wpl_app8 rfl (.tmp 14) (.tmp 16) rfl rfl rfl ((by (repeat (first | with_reducible apply Sat.sub (s3) | with_reducible apply Sat.alloc' | with_reducible apply Sat.drew | with_reducible apply Sat.drewN)); (repeat (first | with_reducible exact Fr.done | with_reducible exact Fr.nil | (with_reducible apply Fr.cons; (focus ((repeat (first | with_reducible exact Take.here | with_reducible apply Take.there)); done))) | with_reducible apply Fr.skip)); done) : Sat W0 w2 (row p cp 1 (200 + 200) (u8s (formsH true k msg 2)) :: bytes true q (formH true (xorKey true k 54)) :: macP true c b1 b2 b3 k msg L)) hl (by omega) ?_; intro p9 c9 w9 s4)
        go_roundw
        case rel => exact ⟨3, 200 + 200 + 200, p9, c9, by omega, by omega, rfl, rfl, s4.drop 1⟩
        case measure => simp [intOf]
      · go_wp2
        go_ret
        exact ⟨p, cp, by rw [hn]; rfl, by
          have s5 := rowBack s (k := 3 * fsz true) (by rw [hn]; rfl)
          exact (macShut (s5.pick [1, 2, 3, 4] : Sat W0 wr (macP true c b1 b2 b3 k msg (row p cp 1 (3 * fsz true) (u8s (formsH true k msg 3)) :: L)))).pick [1]⟩
set_option maxHeartbeats 1000000 in
theorem hmacNewNone {W0 w : World} {L : List Assn} (a : Int) (h1 : ¬ a = 1) (h2 : ¬ a = 2) (p v : Value) (hs : Sat W0 w L) :
    Calls Tryz.prog 64 #[p, .int .u8 a, v] w fun e w' => e = .returned (.tuple #[.pointer none, .int .i64 4]) ∧ Sat W0 w' L := by
  go_enter Tryz.func64, Tryz.ntmps64
  go_wp2_with fail
  refine (dOfNone a h1 h2 hs).mono ?_
  rintro e w1 ⟨rfl, s1⟩
  simp only [hbare]
  go_wp2
  refine bodyPost_ret (v := .tuple #[.pointer none, .int .i64 4]) (by simp [results, Tryz.results64, go_sem]) rfl ⟨rfl, (s1.alloc _ _).tail⟩
/-- The contracts of a mac over lengths by name. -/
theorem hmacNewF {W0 w : World} {L : List Assn} {cap n : Nat} {m : Bool} {sp : Option Addr} {pv av : Value} (wide : Bool) (p : Option Nat) (rs : List Run3) (key : List Byte) (hn : key.length = n) (hp : pv = ptrO p) (ha : av = .int .u8 (algN wide)) (hcap : n ≤ cap) (hcm : cap ≤ maxLen) (hb : tot rs + 2 * n + 1600 ≤ 2305843009213693952) (hl : rs.length + 4 ≤ 1048576)
    (hs : Sat W0 w (ledO p rs :: bytes m sp key :: L)) :
    Calls Tryz.prog 64 #[pv, av, .slice sp n cap] w fun e w' => ∃ c, e = .returned (.tuple #[.pointer (some ⟨c, 0, none⟩), .int .i64 0]) ∧ Sat W0 w' (mac wide c (blockKey wide key) [] :: ledO p (noteN rs (evK wide) (evS wide) (keyN wide n)) :: bytes m sp key :: L) := by
  subst hn hp ha
  exact hmacNew wide p rs key hcap hcm hb hl hs
theorem hmacWriteF {W0 w : World} {L : List Assn} {c cap n : Nat} {m : Bool} {sp : Option Addr} {pv : Value} (wide : Bool) (p : Option Nat) (rs : List Run3) (k msg bs : List Byte) (hn : bs.length = n) (hp : pv = ptrO p) (hcap : n ≤ cap) (hcm : cap ≤ maxLen) (hb : tot rs + msg.length + n + 128 ≤ 2305843009213693952) (hl : rs.length ≤ 1048576)
    (hs : Sat W0 w (ledO p rs :: bytes m sp bs :: mac wide c k msg :: L)) :
    Calls Tryz.prog 94 #[.pointer (some ⟨c, 0, none⟩), pv, .slice sp n cap] w fun e w' => e = .returned (.int .i64 0) ∧ Sat W0 w' (ledO p (noteN rs (evK wide) (evS wide) ((msg.length + n) / bsz wide - msg.length / bsz wide)) :: bytes m sp bs :: mac wide c k (msg ++ bs) :: L) := by
  subst hn hp
  exact hmacWrite wide p rs k msg bs hcap hcm hb hl hs
theorem hmacSumF {W0 w : World} {L : List Assn} {c : Nat} {pv : Value} (wide : Bool) (p : Option Nat) (rs : List Run3) (key msg : List Byte) (hp : pv = ptrO p) (hb : tot rs + msg.length + 2000 ≤ 2305843009213693952) (hl : rs.length + 4 ≤ 1048576)
    (hs : Sat W0 w (ledO p rs :: mac wide c (blockKey wide key) msg :: L)) :
    Calls Tryz.prog 95 #[.pointer (some ⟨c, 0, none⟩), pv] w fun e w' => ∃ q cq, e = .returned (.tuple #[.slice q (hsz wide) cq, .int .i64 0]) ∧ Sat W0 w' (bytes true q (hmac wide key msg) :: ledO p (noteN rs (evK wide) (evS wide) (endN wide msg.length)) :: mac wide c (blockKey wide key) msg :: L) := by
  subst hp
  refine (hmacSum wide p rs key msg hb hl hs).mono ?_
  rintro e w' ⟨q, cq, rfl, s⟩
  exact ⟨q, cq, rfl, (rowBytes s).2.2.2⟩
theorem hmacFormF {W0 w : World} {L : List Assn} {c : Nat} (wide : Bool) (k msg : List Byte) (hb : msg.length ≤ 2000000000000000000) (hs : Sat W0 w (mac wide c k msg :: L)) :
    Calls Tryz.prog 97 #[.pointer (some ⟨c, 0, none⟩)] w fun e w' => ∃ q cq, e = .returned (.slice q (3 * fsz wide : Nat) cq) ∧ (macForm wide k msg).length = 3 * fsz wide ∧ Sat W0 w' (bytes true q (macForm wide k msg) :: mac wide c k msg :: L) := by
  refine (hmacForm wide k msg hb hs).mono ?_
  rintro e w' ⟨q, cq, rfl, s⟩
  obtain ⟨h0, _, _, s1⟩ := rowBytes s
  exact ⟨q, cq, rfl, h0, s1⟩
end Go.Proofs.YtooolimpkafhaaaGreat
