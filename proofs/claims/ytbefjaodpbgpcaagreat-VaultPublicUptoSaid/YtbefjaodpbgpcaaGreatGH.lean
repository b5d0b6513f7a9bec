/- Hm3, Hm4, Hk, Hk2, Hk3, Hk4: texts that lie apart elsewhere, as one; each under the conditions that it names. -/
import Derived.Test.YtbefjaodpbgpcaaGreatGP
import Derived.Test.YtbefjaodpbgpcaaGreatGG
import Derived.Test.YtbefjaodpbgpcaaGreatGI
import Derived.RangeFuncNested
import Derived.RangeFuncBound
import Derived.Shelf.RegionOpen
import Derived.OwnWalkIn
import Derived.TacticsInMore
import Derived.LoopNIn
import Derived.LoopIn
set_option linter.unusedVariables false
set_option linter.unusedSimpArgs false
set_option maxRecDepth 100000
set_option maxHeartbeats 16000000
namespace Go.Proofs.YtbefjaodpbgpcaaGreat
open Go.RowKit Go.Sep Go.Bv Go.Sha
def formsH (wide : Bool) (k msg : List Byte) : Nat → List Byte
 | 0 => []
 | 1 => formH wide (xorKey wide k 54 ++ msg)
 | 2 => formH wide (xorKey wide k 54 ++ msg) ++ formH wide (xorKey wide k 92)
 | _ => formH wide (xorKey wide k 54 ++ msg) ++ formH wide (xorKey wide k 92) ++ formH wide (xorKey wide k 54)
def macForm (wide : Bool) (k msg : List Byte) : List Byte := formsH wide k msg 3
theorem hmacStates {W0 w : World} {L : List Assn} {c b1 b2 b3 : Nat} (wide : Bool) (hs : Sat W0 w (seg true c 0 [.int .i64 (hsz wide : Int), ifv wide b1, ifv wide b2, ifv wide b3] :: L)) :
  Calls Tryz.prog 159 #[.pointer (some ⟨c, 0, none⟩)] w fun e w' => e = .returned (.agg #[ifv wide b1, ifv wide b2, ifv wide b3]) ∧ Sat W0 w' (seg true c 0 [.int .i64 (hsz wide : Int), ifv wide b1, ifv wide b2, ifv wide b3] :: L) := by
 have c1 := hs.at 1 rfl
 have c2 := hs.at 2 rfl
 have c3 := hs.at 3 rfl
 have z := hs.lt (by simp)
 have HS := Lib.hid hs; clear hs
 cases wide
 ·skip
  simp only [ifv] at c1 c2 c3 ⊢
  go_enter Tryz.func159, Tryz.ntmps159
  go_wp2_with fail
  refine wp_region_quiet_tail_lit 13 (by kernel_rfl) (by kernel_rfl) ?_
  simp only [List.take_succ_cons, List.take_zero, List.drop_succ_cons, List.drop_zero]
  repeat (go_big_quiet_step (fail))
  refine wpQuiet_nil ?_
  rintro _ ⟨nq, rfl⟩
  go_wp2
  refine bodyPost_ret (v := .agg #[ifv false b1, ifv false b2, ifv false b3]) (by simp [results, Tryz.results159, go_sem, ifv]) rfl ⟨rfl, ?_⟩
  exact (((((HS.out.alloc #[.nilIface, .nilIface, .nilIface] 236).drewN nq).store (i := 0) (by simp) _ (q := 0) rfl).store (i := 1) (by simp) _ (q := 1) rfl).store (i := 2) (by simp) _ (q := 2) rfl).tail
 ·skip
  simp only [ifv] at c1 c2 c3 ⊢
  go_enter Tryz.func159, Tryz.ntmps159
  go_wp2_with fail
  refine wp_region_quiet_tail_lit 13 (by kernel_rfl) (by kernel_rfl) ?_
  simp only [List.take_succ_cons, List.take_zero, List.drop_succ_cons, List.drop_zero]
  repeat (go_big_quiet_step (fail))
  refine wpQuiet_nil ?_
  rintro _ ⟨nq, rfl⟩
  go_wp2
  refine bodyPost_ret (v := .agg #[ifv true b1, ifv true b2, ifv true b3]) (by simp [results, Tryz.results159, go_sem, ifv]) rfl ⟨rfl, ?_⟩
  exact (((((HS.out.alloc #[.nilIface, .nilIface, .nilIface] 236).drewN nq).store (i := 0) (by simp) _ (q := 0) rfl).store (i := 1) (by simp) _ (q := 1) rfl).store (i := 2) (by simp) _ (q := 2) rfl).tail
theorem macTwin {W0 w : World} {L : List Assn} {wide : Bool} {c b1 b2 b3 d1 d2 d3 : Nat} {T : TypeId} {k msg : List Byte} (s : Sat W0 w (dst wide d3 (xorKey wide k 54) :: dst wide b3 (xorKey wide k 54) :: dst wide d2 (xorKey wide k 92) :: dst wide b2 (xorKey wide k 92) :: dst wide d1 (xorKey wide k 54 ++ msg) :: dst wide b1 (xorKey wide k 54 ++ msg) :: seg true c 0 [.int .i64 (hsz wide : Int), ifv wide b1, ifv wide b2, ifv wide b3] :: L)) :
  Sat W0 (w.alloc (.cells #[.int .i64 (hsz wide : Int), ifv wide d1, ifv wide d2, ifv wide d3] T)) (mac wide w.heap.size k msg :: mac wide c k msg :: L) := by
 have s1 := s.alloc #[.int .i64 (hsz wide : Int), ifv wide d1, ifv wide d2, ifv wide d3] T
 have s2 : Sat W0 _ (macP wide w.heap.size d1 d2 d3 k msg (seg true c 0 [.int .i64 (hsz wide : Int), ifv wide b1, ifv wide b2, ifv wide b3] :: dst wide b1 (xorKey wide k 54 ++ msg) :: dst wide b2 (xorKey wide k 92) :: dst wide b3 (xorKey wide k 54) :: L)) := s1.pick [0, 5, 3, 1, 7, 6, 4, 2]
 exact (macShut ((macShut s2).pick [1, 2, 3, 4, 0])).pick [1]
theorem hmacClone {W0 w : World} {L : List Assn} {c : Nat} (wide : Bool) (k msg : List Byte) (hs : Sat W0 w (mac wide c k msg :: L)) :
  Calls Tryz.prog 127 #[.pointer (some ⟨c, 0, none⟩)] w fun e w' => ∃ d, e = .returned (.tuple #[.pointer (some ⟨d, 0, none⟩), .int .i64 0]) ∧ Sat W0 w' (mac wide d k msg :: mac wide c k msg :: L) := by
 obtain ⟨b1, b2, b3, s0⟩ := macOpen hs
 clear hs
 have hi := macIs wide s0
 have hK : ∀ wx, Sat W0 wx (seg true c 0 [.int .i64 (hsz wide : Int), ifv wide b1, ifv wide b2, ifv wide b3] :: []) → wx.cell? ⟨c, 0, none⟩ = some (.int .i64 (hsz wide : Int)) ∧ wx.cell? ⟨c, 1, none⟩ = some (ifv wide b1) ∧ wx.cell? ⟨c, 2, none⟩ = some (ifv wide b2) ∧ wx.cell? ⟨c, 3, none⟩ = some (ifv wide b3) := fun wx h => ⟨h.at 0 rfl, h.at 1 rfl, h.at 2 rfl, h.at 3 rfl⟩
 cases wide
 ·skip
  have HK := Lib.hid hK; clear hK
  simp only [macP, ifv, hsz] at HK s0 ⊢
  go_enter Tryz.func127, Tryz.ntmps127
  go_wp2_with fail
  refine hi.mono ?_
  rintro e w' ⟨rfl, rfl⟩
  go_wp2_with fail
  go_region_held3 (fun w' => w'.cell? ⟨c, 0, none⟩ = some (.int .i64 32) ∧ w'.cell? ⟨c, 1, none⟩ = some (.iface 228 (.agg #[.pointer (some ⟨b1, 0, none⟩)])) ∧ w'.cell? ⟨c, 2, none⟩ = some (.iface 228 (.agg #[.pointer (some ⟨b2, 0, none⟩)])) ∧ w'.cell? ⟨c, 3, none⟩ = some (.iface 228 (.agg #[.pointer (some ⟨b3, 0, none⟩)]))) (first | exact HK.out _ s0.f | exact HK.out _ s0.drew.f | exact HK.out _ ((s0.alloc' _)).f) ((refine (dCopy false _ (by first | exact s0.f | exact s0.drew.f)).mono ?_; rintro e w1 ⟨d1, rfl, s0⟩; simp only [ifv]))
  all_goals
   go_wp2
   refine bodyPost_ret (v := .tuple #[.pointer (some ⟨w1.heap.size, 0, none⟩), .int .i64 0]) (by simp [results, Tryz.results127, go_sem]) rfl ⟨_, rfl, ?_⟩
   exact macTwin (wide := false) s0
 ·skip
  have HK := Lib.hid hK; clear hK
  simp only [macP, ifv, hsz] at HK s0 ⊢
  go_enter Tryz.func127, Tryz.ntmps127
  go_wp2_with fail
  refine hi.mono ?_
  rintro e w' ⟨rfl, rfl⟩
  go_wp2_with fail
  go_region_held3 (fun w' => w'.cell? ⟨c, 0, none⟩ = some (.int .i64 64) ∧ w'.cell? ⟨c, 1, none⟩ = some (.iface 232 (.agg #[.pointer (some ⟨b1, 0, none⟩)])) ∧ w'.cell? ⟨c, 2, none⟩ = some (.iface 232 (.agg #[.pointer (some ⟨b2, 0, none⟩)])) ∧ w'.cell? ⟨c, 3, none⟩ = some (.iface 232 (.agg #[.pointer (some ⟨b3, 0, none⟩)]))) (first | exact HK.out _ s0.f | exact HK.out _ s0.drew.f | exact HK.out _ ((s0.alloc' _)).f) ((refine (dCopy true _ (by first | exact s0.f | exact s0.drew.f)).mono ?_; rintro e w1 ⟨d1, rfl, s0⟩; simp only [ifv]))
  all_goals
   go_wp2
   refine bodyPost_ret (v := .tuple #[.pointer (some ⟨w1.heap.size, 0, none⟩), .int .i64 0]) (by simp [results, Tryz.results127, go_sem]) rfl ⟨_, rfl, ?_⟩
   exact macTwin (wide := true) s0
end Go.Proofs.YtbefjaodpbgpcaaGreat
namespace Go.Proofs.YtbefjaodpbgpcaaGreat
open Go.RowKit Go.Sep Go.Bv Go.Sha
@[go_sem] theorem idxS0 (a b c : Value) (w : World) : (Instr.index 236 (.agg #[a, b, c]) (.int .i64 0)).run Tryz.prog w = .ok a w := by kernel_rfl
@[go_sem] theorem idxS1 (a b c : Value) (w : World) : (Instr.index 236 (.agg #[a, b, c]) (.int .i64 1)).run Tryz.prog w = .ok b w := by kernel_rfl
@[go_sem] theorem idxS2 (a b c : Value) (w : World) : (Instr.index 236 (.agg #[a, b, c]) (.int .i64 2)).run Tryz.prog w = .ok c w := by kernel_rfl
theorem rowBack {W0 w : World} {L : List Assn} {p : Option Addr} {c n : Nat} {vs : List Value} {k : Nat} (h : Sat W0 w (row p c 1 n vs :: L)) (e : n = k) : Sat W0 w (row p c 1 k vs :: L) := e ▸ h
theorem hmacForm {W0 w : World} {L : List Assn} {c : Nat} (wide : Bool) (k msg : List Byte) (hb : msg.length ≤ 2000000000000000000) (hs : Sat W0 w (mac wide c k msg :: L)) :
  Calls Tryz.prog 125 #[.pointer (some ⟨c, 0, none⟩)] w fun e w' => ∃ q cq, e = .returned (.slice q (3 * fsz wide : Nat) cq) ∧ Sat W0 w' (row q cq 1 (3 * fsz wide) (u8s (macForm wide k msg)) :: mac wide c k msg :: L) := by
 obtain ⟨b1, b2, b3, s0⟩ := macOpen hs
 clear hs
 have hi := macIs wide s0
 have hst := hmacStates wide s0
 have HB := Lib.hid hb; clear hb
 cases wide
 ·skip
  simp only [ifv] at hst
  go_enter Tryz.func125, Tryz.ntmps125
  go_wp2_with fail
  refine hi.mono ?_
  rintro e w' ⟨rfl, rfl⟩
  clear hi
  go_wp2_with fail
  refine hst.mono ?_
  rintro e w1 ⟨rfl, s1⟩
  clear hst s0
  go_wp2
  go_loopw [3, 11] (fun t3 t11 wr => ∃ (i n : Nat) (p : Option Addr) (cp : Nat), i ≤ 3 ∧ n = i * 104 ∧ t11 = .int .i64 (i : Int) ∧ t3 = .slice p n cp ∧ Sat W0 wr (row p cp 1 n (u8s (formsH false k msg i)) :: macP false c b1 b2 b3 k msg L)) (fun _ t11 _ => 3 - (intOf t11).toNat)
  case atStart => exact ⟨0, 0, none, 0, by omega, rfl, rfl, rfl, s1.rowNil 1⟩
  case round =>
   clear s1
   obtain ⟨i, n, p, cp, hi, hn, rfl, rfl, s⟩ := hrel
   have hc : i = 0 ∨ i = 1 ∨ i = 2 ∨ i = 3 := by omega
   simp only [macP] at s
   rcases hc with rfl | rfl | rfl | rfl
   ·obtain rfl : n = 0 := by omega
    clear hn
    go_wp2_with fail
    refine (dForm false (b := b1) (xorKey false k 54 ++ msg) (by rw [List.length_append, xorKey_len]; have := bsz_le false; have := HB.out; omega) s.g).mono ?_
    rintro e w2 ⟨q, cq, rfl, s2⟩
    simp only [fsz]
    obtain ⟨hl, hl2, hl3, s3⟩ := rowBytes s2
    go_wp2_with (at_builtin; refine wpl_app8 rfl (.tmp 14) (.tmp 16) rfl rfl rfl (s3.g : Sat W0 w2 (row p cp 1 0 (u8s (formsH false k msg 0)) :: bytes true q (formH false (xorKey false k 54 ++ msg)) :: macP false c b1 b2 b3 k msg L)) hl (by omega) ?_; intro p9 c9 w9 s4)
    go_roundw
    case rel => exact ⟨1, 0 + 104, p9, c9, by omega, by omega, rfl, rfl, s4.drop 1⟩
    case measure => simp [intOf]
   ·obtain rfl : n = 104 := by omega
    clear hn
    go_wp2_with fail
    refine (dForm false (b := b2) (xorKey false k 92) (by rw [xorKey_len]; have := bsz_le false; omega) s.g).mono ?_
    rintro e w2 ⟨q, cq, rfl, s2⟩
    simp only [fsz]
    obtain ⟨hl, hl2, hl3, s3⟩ := rowBytes s2
    go_wp2_with (at_builtin; refine wpl_app8 rfl (.tmp 14) (.tmp 16) rfl rfl rfl (s3.g : Sat W0 w2 (row p cp 1 104 (u8s (formsH false k msg 1)) :: bytes true q (formH false (xorKey false k 92)) :: macP false c b1 b2 b3 k msg L)) hl (by omega) ?_; intro p9 c9 w9 s4)
    go_roundw
    case rel => exact ⟨2, 104 + 104, p9, c9, by omega, by omega, rfl, rfl, s4.drop 1⟩
    case measure => simp [intOf]
   ·obtain rfl : n = 104 + 104 := by omega
    clear hn
    go_wp2_with fail
    refine (dForm false (b := b3) (xorKey false k 54) (by rw [xorKey_len]; have := bsz_le false; omega) s.g).mono ?_
    rintro e w2 ⟨q, cq, rfl, s2⟩
    simp only [fsz]
    obtain ⟨hl, hl2, hl3, s3⟩ := rowBytes s2
    go_wp2_with (at_builtin; refine wpl_app8 rfl (.tmp 14) (.tmp 16) rfl rfl rfl (s3.g : Sat W0 w2 (row p cp 1 (104 + 104) (u8s (formsH false k msg 2)) :: bytes true q (formH false (xorKey false k 54)) :: macP false c b1 b2 b3 k msg L)) hl (by omega) ?_; intro p9 c9 w9 s4)
    go_roundw
    case rel => exact ⟨3, 104 + 104 + 104, p9, c9, by omega, by omega, rfl, rfl, s4.drop 1⟩
    case measure => simp [intOf]
   ·go_wp2
    go_ret
    exact ⟨p, cp, by rw [hn]; rfl, by
     have s5 := rowBack s (k := 3 * fsz false) (by rw [hn]; rfl)
     exact (macShut (s5.pick [1, 2, 3, 4] : Sat W0 wr (macP false c b1 b2 b3 k msg (row p cp 1 (3 * fsz false) (u8s (formsH false k msg 3)) :: L)))).pick [1]⟩
 ·skip
  simp only [ifv] at hst
  go_enter Tryz.func125, Tryz.ntmps125
  go_wp2_with fail
  refine hi.mono ?_
  rintro e w' ⟨rfl, rfl⟩
  clear hi
  go_wp2_with fail
  refine hst.mono ?_
  rintro e w1 ⟨rfl, s1⟩
  clear hst s0
  go_wp2
  go_loopw [3, 11] (fun t3 t11 wr => ∃ (i n : Nat) (p : Option Addr) (cp : Nat), i ≤ 3 ∧ n = i * 200 ∧ t11 = .int .i64 (i : Int) ∧ t3 = .slice p n cp ∧ Sat W0 wr (row p cp 1 n (u8s (formsH true k msg i)) :: macP true c b1 b2 b3 k msg L)) (fun _ t11 _ => 3 - (intOf t11).toNat)
  case atStart => exact ⟨0, 0, none, 0, by omega, rfl, rfl, rfl, s1.rowNil 1⟩
  case round =>
   clear s1
   obtain ⟨i, n, p, cp, hi, hn, rfl, rfl, s⟩ := hrel
   have hc : i = 0 ∨ i = 1 ∨ i = 2 ∨ i = 3 := by omega
   simp only [macP] at s
   rcases hc with rfl | rfl | rfl | rfl
   ·obtain rfl : n = 0 := by omega
    clear hn
    go_wp2_with fail
    refine (dForm true (b := b1) (xorKey true k 54 ++ msg) (by rw [List.length_append, xorKey_len]; have := bsz_le true; have := HB.out; omega) s.g).mono ?_
    rintro e w2 ⟨q, cq, rfl, s2⟩
    simp only [fsz]
    obtain ⟨hl, hl2, hl3, s3⟩ := rowBytes s2
    go_wp2_with (at_builtin; refine wpl_app8 rfl (.tmp 14) (.tmp 16) rfl rfl rfl (s3.g : Sat W0 w2 (row p cp 1 0 (u8s (formsH true k msg 0)) :: bytes true q (formH true (xorKey true k 54 ++ msg)) :: macP true c b1 b2 b3 k msg L)) hl (by omega) ?_; intro p9 c9 w9 s4)
    go_roundw
    case rel => exact ⟨1, 0 + 200, p9, c9, by omega, by omega, rfl, rfl, s4.drop 1⟩
    case measure => simp [intOf]
   ·obtain rfl : n = 200 := by omega
    clear hn
    go_wp2_with fail
    refine (dForm true (b := b2) (xorKey true k 92) (by rw [xorKey_len]; have := bsz_le true; omega) s.g).mono ?_
    rintro e w2 ⟨q, cq, rfl, s2⟩
    simp only [fsz]
    obtain ⟨hl, hl2, hl3, s3⟩ := rowBytes s2
    go_wp2_with (at_builtin; refine wpl_app8 rfl (.tmp 14) (.tmp 16) rfl rfl rfl (s3.g : Sat W0 w2 (row p cp 1 200 (u8s (formsH true k msg 1)) :: bytes true q (formH true (xorKey true k 92)) :: macP true c b1 b2 b3 k msg L)) hl (by omega) ?_; intro p9 c9 w9 s4)
    go_roundw
    case rel => exact ⟨2, 200 + 200, p9, c9, by omega, by omega, rfl, rfl, s4.drop 1⟩
    case measure => simp [intOf]
   ·obtain rfl : n = 200 + 200 := by omega
    clear hn
    go_wp2_with fail
    refine (dForm true (b := b3) (xorKey true k 54) (by rw [xorKey_len]; have := bsz_le true; omega) s.g).mono ?_
    rintro e w2 ⟨q, cq, rfl, s2⟩
    simp only [fsz]
    obtain ⟨hl, hl2, hl3, s3⟩ := rowBytes s2
    go_wp2_with (at_builtin; refine wpl_app8 rfl (.tmp 14) (.tmp 16) rfl rfl rfl (s3.g : Sat W0 w2 (row p cp 1 (200 + 200) (u8s (formsH true k msg 2)) :: bytes true q (formH true (xorKey true k 54)) :: macP true c b1 b2 b3 k msg L)) hl (by omega) ?_; intro p9 c9 w9 s4)
    go_roundw
    case rel => exact ⟨3, 200 + 200 + 200, p9, c9, by omega, by omega, rfl, rfl, s4.drop 1⟩
    case measure => simp [intOf]
   ·go_wp2
    go_ret
    exact ⟨p, cp, by rw [hn]; rfl, by
     have s5 := rowBack s (k := 3 * fsz true) (by rw [hn]; rfl)
     exact (macShut (s5.pick [1, 2, 3, 4] : Sat W0 wr (macP true c b1 b2 b3 k msg (row p cp 1 (3 * fsz true) (u8s (formsH true k msg 3)) :: L)))).pick [1]⟩
theorem hmacNewF {W0 w : World} {L : List Assn} {cap n : Nat} {m : Bool} {sp : Option Addr} {pv av : Value} (wide : Bool) (p : Option Nat) (rs : List Run3) (key : List Byte) (hn : key.length = n) (hp : pv = ptrO p) (ha : av = .int .u8 (algN wide)) (hcap : n ≤ cap) (hcm : cap ≤ maxLen) (hb : tot rs + 2 * n + 1600 ≤ 2305843009213693952) (hl : rs.length + 4 ≤ 1048576)
  (hs : Sat W0 w (ledO p rs :: bytes m sp key :: L)) :
  Calls Tryz.prog 103 #[pv, av, .slice sp n cap] w fun e w' => ∃ c, e = .returned (.tuple #[.pointer (some ⟨c, 0, none⟩), .int .i64 0]) ∧ Sat W0 w' (mac wide c (blockKey wide key) [] :: ledO p (noteN rs (evK wide) (evS wide) (keyN wide n)) :: bytes m sp key :: L) := by
 subst hn hp ha
 exact hmacNew wide p rs key hcap hcm hb hl hs
theorem hmacWriteF {W0 w : World} {L : List Assn} {c cap n : Nat} {m : Bool} {sp : Option Addr} {pv : Value} (wide : Bool) (p : Option Nat) (rs : List Run3) (k msg bs : List Byte) (hn : bs.length = n) (hp : pv = ptrO p) (hcap : n ≤ cap) (hcm : cap ≤ maxLen) (hb : tot rs + msg.length + n + 128 ≤ 2305843009213693952) (hl : rs.length ≤ 1048576)
  (hs : Sat W0 w (ledO p rs :: bytes m sp bs :: mac wide c k msg :: L)) :
  Calls Tryz.prog 122 #[.pointer (some ⟨c, 0, none⟩), pv, .slice sp n cap] w fun e w' => e = .returned (.int .i64 0) ∧ Sat W0 w' (ledO p (noteN rs (evK wide) (evS wide) ((msg.length + n) / bsz wide - msg.length / bsz wide)) :: bytes m sp bs :: mac wide c k (msg ++ bs) :: L) := by
 subst hn hp
 exact hmacWrite wide p rs k msg bs hcap hcm hb hl hs
theorem hmacTagF {W0 w : World} {L : List Assn} {cap cap2 n n2 : Nat} {m m2 : Bool} {sp sp2 : Option Addr} {pv av : Value} (wide : Bool) (p : Option Nat) (rs : List Run3) (key bs : List Byte) (hn : key.length = n) (hn2 : bs.length = n2) (hp : pv = ptrO p) (ha : av = .int .u8 (algN wide)) (hcap : n ≤ cap) (hcm : cap ≤ maxLen) (hcap2 : n2 ≤ cap2) (hcm2 : cap2 ≤ maxLen) (hb : tot rs + 2 * n + 2 * n2 + 4000 ≤ 2305843009213693952) (hl : rs.length + 8 ≤ 1048576)
  (hs : Sat W0 w (ledO p rs :: bytes m sp key :: bytes m2 sp2 bs :: L)) :
  Calls Tryz.prog 116 #[pv, av, .slice sp n cap, .slice sp2 n2 cap2] w fun e w' => ∃ q cq, e = .returned (.tuple #[.slice q (hsz wide) cq, .int .i64 0]) ∧ hsz wide ≤ cq ∧ cq ≤ maxLen ∧ Sat W0 w' (bytes true q (hmac wide key bs) :: ledO p (noteN rs (evK wide) (evS wide) (keyN wide n + n2 / bsz wide + endN wide n2)) :: bytes m sp key :: bytes m2 sp2 bs :: L) := by
 subst hn hn2 hp ha
 refine (hmacTag wide p rs key bs hcap hcm hcap2 hcm2 hb hl hs).mono ?_
 rintro e w' ⟨q, cq, rfl, s⟩
 obtain ⟨_, h1, h2, s1⟩ := rowBytes s
 exact ⟨q, cq, rfl, h1, h2, s1⟩
end Go.Proofs.YtbefjaodpbgpcaaGreat
namespace Go.Sha
open Go.Bv
def hkT (wide : Bool) (prk info : List Byte) : Nat → List Byte
 | 0 => []
 | i + 1 => hmac wide prk (hkT wide prk info i ++ info ++ [BitVec.ofNat 8 (i + 1)])
def hkOut (wide : Bool) (prk info : List Byte) : Nat → List Byte
 | 0 => []
 | i + 1 => hkOut wide prk info i ++ hkT wide prk info (i + 1)
def hkM (wide : Bool) (n : Nat) : Nat := (n + hsz wide - 1) / hsz wide
def hkdf (wide : Bool) (prk info : List Byte) (n : Nat) : List Byte := (hkOut wide prk info (hkM wide n)).take n
theorem hkT_len (wide : Bool) (prk info : List Byte) (i : Nat) : (hkT wide prk info i).length = if i = 0 then 0 else hsz wide := by
 cases i with
 | zero => rfl
 | succ i => exact hmac_len _ _ _
theorem hkOut_len (wide : Bool) (prk info : List Byte) (i : Nat) : (hkOut wide prk info i).length = i * hsz wide := by
 induction i with
 | zero => simp [hkOut]
 | succ i ih => rw [hkOut, List.length_append, ih, hkT_len, if_neg (by omega), Nat.succ_mul]
end Go.Sha
namespace Go.Proofs.YtbefjaodpbgpcaaGreat
open Go.RowKit Go.Sep Go.Bv Go.Sha
def hkStep (wide : Bool) (t n : Nat) : Nat := (t + n + 1) / bsz wide + endN wide (t + n + 1)
def hkCnt (wide : Bool) (n : Nat) : Nat → Nat
 | 0 => 0
 | i + 1 => hkCnt wide n i + hkStep wide (if i = 0 then 0 else hsz wide) n
def expN (wide : Bool) (k m n : Nat) : Nat := keyN wide k + hkCnt wide m (hkM wide n)
theorem hkMay {W0 w : World} {L : List Assn} (wide : Bool) (z : Int) (r : Int) (hr : r = if z < 0 then 2 else if 255 * (hsz wide : Int) < z then 9 else 0) (hs : Sat W0 w L) :
  Calls Tryz.prog 99 #[.int .u8 (algN wide), .int .i64 z] w fun e w' => e = .returned (.int .i64 r) ∧ Sat W0 w' L := by
 cases wide
 ·skip
  go_enter Tryz.func99, Tryz.ntmps99
  go_wp2_with fail
  refine (dOf false hs).mono ?_
  rintro e w1 ⟨rfl, s1⟩
  have s2 := s1.alloc (hcells false).toArray 192
  have c1 := s2.at 1 rfl
  have z1 := s2.lt (by simp [hcells])
  simp only [hsz] at hr
  simp only [hcells] at c1 z1 ⊢
  by_cases h1 : z < 0
  ·rw [if_pos h1] at hr
   subst hr
   go_wp2
   go_ret
   exact ⟨rfl, s2.tail⟩
  ·rw [if_neg h1] at hr
   by_cases h2 : 8160 < z
   ·have hr9 : r = 9 := by rw [hr]; exact if_pos (by omega)
    clear hr
    subst hr9
    go_wp2
    go_ret
    exact ⟨rfl, s2.tail⟩
   ·have hr0 : r = 0 := by rw [hr]; exact if_neg (by omega)
    clear hr
    subst hr0
    go_wp2
    go_ret
    exact ⟨rfl, s2.tail⟩
 ·skip
  go_enter Tryz.func99, Tryz.ntmps99
  go_wp2_with fail
  refine (dOf true hs).mono ?_
  rintro e w1 ⟨rfl, s1⟩
  have s2 := s1.alloc (hcells true).toArray 192
  have c1 := s2.at 1 rfl
  have z1 := s2.lt (by simp [hcells])
  simp only [hsz] at hr
  simp only [hcells] at c1 z1 ⊢
  by_cases h1 : z < 0
  ·rw [if_pos h1] at hr
   subst hr
   go_wp2
   go_ret
   exact ⟨rfl, s2.tail⟩
  ·rw [if_neg h1] at hr
   by_cases h2 : 16320 < z
   ·have hr9 : r = 9 := by rw [hr]; exact if_pos (by omega)
    clear hr
    subst hr9
    go_wp2
    go_ret
    exact ⟨rfl, s2.tail⟩
   ·have hr0 : r = 0 := by rw [hr]; exact if_neg (by omega)
    clear hr
    subst hr0
    go_wp2
    go_ret
    exact ⟨rfl, s2.tail⟩
theorem hkBlocks {W0 w : World} {L : List Assn} (pl pm ip : Option Addr) (ni ic : Nat) (hs : Sat W0 w L) :
  Calls Tryz.prog 117 #[.pointer pl, .pointer pm, .slice ip ni ic] w fun e w' => ∃ bl bm bi, e = .returned (.func (.func 155) #[] #[.pointer (some ⟨bm, 0, none⟩), .pointer (some ⟨bl, 0, none⟩), .pointer (some ⟨bi, 0, none⟩)]) ∧ Sat W0 w' (seg true bi 0 [.slice ip ni ic] :: seg true bm 0 [.pointer pm] :: seg true bl 0 [.pointer pl] :: L) := by
 have s := ((hs.allocAt #[.pointer pl] 32 rfl).allocAt #[.pointer pm] 173 (q := w.heap.size + 1) (by simp)).allocAt #[.slice ip ni ic] 25 (q := w.heap.size + 1 + 1) (by simp)
 go_enter Tryz.func117, Tryz.ntmps117
 go_wp2
 go_ret
 exact ⟨_, _, _, rfl, s⟩
end Go.Proofs.YtbefjaodpbgpcaaGreat
namespace Go.Proofs.YtbefjaodpbgpcaaGreat
open Go.RowKit Go.Sep Go.Bv Go.Sha
attribute [local go_sem] Oper.semAt_some
theorem wplIn_app8 {F : Fence} {n0 : Nat} {W0 w : World} {L : List Assn} {ops : Array Oper} {rest : List Oper} {o : Oper} {a : Act} {Q : Exit → Act → World → Prop} (hgd : o.guard = none) (s x : Operand) (ho : o.op = .call { callee := .builtin .append, args := #[s, x], argTypes := #[25, 25] })
  {p : Option Addr} {cp n : Nat} {xs : List Byte} {m : Bool} {q : Option Addr} {k cq : Nat} {ys : List Byte} (hv : a.eval s = .slice p n cp) (hx : a.eval x = .slice q k cq)
  (hs : Sat W0 w (row p cp 1 n (u8s xs) :: bytes m q ys :: L)) (hk : ys.length = k) (hb : n + k ≤ 140737488355328)
  (h : ∀ p' c' w', Sat W0 w' (row p' c' 1 (n + k) (u8s (xs ++ ys)) :: bytes m q ys :: L) → wpListIn F n0 Tryz.prog ops Q rest (a.put o.dst (.slice p' (n + k) c')) w') : wpListIn F n0 Tryz.prog ops Q (o :: rest) a w := by
 obtain ⟨i3, hi3, hz3, hs3, hb3⟩ := info_parts Tryz.info_u8
 have hB : Sat W0 w (bytes m q ys :: row p cp 1 n (u8s xs) :: L) := hs.pull 1
 refine wplIn_append hgd s x 25 ho Tryz.underlying25 hi3 hz3 hs3 hb3 rfl (by decide) hs hv q k cq hx (u8s ys) (by rw [u8s_len, hk, Nat.mul_one]) (bytesNews hB) (bytesNone0 hB hk) (u8s_one _) (by unfold maxLen; omega) (by omega) ?_
 intro p' c' w' h1
 rw [← u8s_append] at h1
 exact h p' c' w' h1
theorem hmacSumC {W0 w : World} {L : List Assn} {c : Nat} {pv : Value} (wide : Bool) (p : Option Nat) (rs : List Run3) (key msg k : List Byte) (hk : k = blockKey wide key) (hp : pv = ptrO p) (hb : tot rs + msg.length + 2000 ≤ 2305843009213693952) (hl : rs.length + 4 ≤ 1048576)
  (hs : Sat W0 w (ledO p rs :: mac wide c k msg :: L)) :
  Calls Tryz.prog 123 #[.pointer (some ⟨c, 0, none⟩), pv] w fun e w' => ∃ q cq, e = .returned (.tuple #[.slice q (hsz wide) cq, .int .i64 0]) ∧ hsz wide ≤ cq ∧ cq ≤ maxLen ∧ Sat W0 w' (bytes true q (hmac wide key msg) :: ledO p (noteN rs (evK wide) (evS wide) (endN wide msg.length)) :: mac wide c k msg :: L) := by
 subst hk hp
 refine (hmacSum wide p rs key msg hb hl hs).mono ?_
 rintro e w' ⟨q, cq, rfl, s⟩
 obtain ⟨_, h1, h2, s1⟩ := rowBytes s
 exact ⟨q, cq, rfl, h1, h2, s1⟩
def hkMsg (wide : Bool) (prk info : List Byte) : Nat → List Byte
 | 0 => []
 | i + 1 => hkT wide prk info i ++ info ++ [BitVec.ofNat 8 (i + 1)]
abbrev hkOwn (wide : Bool) (p : Option Nat) (rs : List Run3) (prk info k : List Byte) (c bl bm bi : Nat) (mi : Bool) (ip : Option Addr) (ni ic : Nat) (i : Nat) (L : List Assn) : List Assn :=
 ledO p (noteN rs (evK wide) (evS wide) (hkCnt wide ni i)) :: mac wide c k (hkMsg wide prk info i) :: seg true bm 0 [.pointer (some ⟨c, 0, none⟩)] :: seg true bl 0 [ptrO p] :: seg true bi 0 [.slice ip ni ic] :: bytes mi ip info :: L
theorem hkIter {W0 W : World} (wide : Bool) (p : Option Nat) (rs : List Run3) (prk info k : List Byte) (hk : k = blockKey wide prk) {c bl bm bi : Nat} {mi : Bool} {ip : Option Addr} {ni ic : Nat} (hni : info.length = ni) (hic : ni ≤ ic) (hicm : ic ≤ maxLen)
  (N : Nat) (hN : 1 ≤ N) (hN2 : N ≤ 255) (hb : tot rs + 1000 * ni + 1000000 ≤ 2305843009213693952) (hl : rs.length + 8 ≤ 1048576) (J : Nat → List Assn) (E : World → Prop) (l m : Nat)
  (hY : ∀ i q cq W1, i < N → hsz wide ≤ cq → cq ≤ maxLen → Sat W0 W1 (bytes true q (hkT wide prk info (i + 1)) :: hkOwn wide p rs prk info k c bl bm bi mi ip ni ic (i + 1) (J i)) → YieldAt Fence.wide m Tryz.prog l #[.slice q (hsz wide) cq] W1 fun e W' =>
   (e = .returned (.bool true) ∧ i + 1 < N ∧ Sat W0 W' (bytes true q (hkT wide prk info (i + 1)) :: hkOwn wide p rs prk info k c bl bm bi mi ip ni ic (i + 1) (J (i + 1)))) ∨ (e = .returned (.bool false) ∧ E W'))
  (hs : Sat W0 W (hkOwn wide p rs prk info k c bl bm bi mi ip ni ic 0 (J 0))) :
  CallsIn Fence.wide (m + 1) Tryz.prog 155 #[.func (.yield l) #[] #[], .pointer (some ⟨bm, 0, none⟩), .pointer (some ⟨bl, 0, none⟩), .pointer (some ⟨bi, 0, none⟩)] W fun e W' => (∃ v, e = .returned v) ∧ E W' := by
 have hh := hsz_le wide
 have hh2 := bsz_le wide
 have HB := Lib.hid (And.intro hk (And.intro hni (And.intro hicm (And.intro hb (And.intro hl (And.intro hh hh2)))))); clear hk hni hicm hb hl hh hh2
 have HY := Lib.hid hY; clear hY
 refine callsIn_of_wp Tryz.func155 rfl trivial ?_ rfl
 simp only [Tryz.ntmps155, List.size_toArray, List.length_cons, List.length_nil, Nat.reduceAdd, Nat.reduceSub, Array.replicate_succ, Array.replicate_zero, List.push_toArray, List.append_toArray, List.nil_append, List.cons_append]
 gi_wp2
 gi_loopw [5, 6] (fun t5 t6 wr => ∃ (i : Nat) (tp : Option Addr) (tn tc : Nat), i < N ∧ t6 = .int .u8 ((i + 1 : Nat) : Int) ∧ t5 = .slice tp tn tc ∧ (hkT wide prk info i).length = tn ∧ tn ≤ tc ∧ tc ≤ maxLen ∧ Sat W0 wr (bytes true tp (hkT wide prk info i) :: hkOwn wide p rs prk info k c bl bm bi mi ip ni ic i (J i))) (fun _ t6 _ => 256 - (intOf t6).toNat)
 case atStart => exact ⟨0, none, 0, 0, by omega, rfl, rfl, rfl, Nat.le_refl _, Nat.zero_le _, bytesNil true none hs⟩
 case round =>
  clear hs
  obtain ⟨i, tp, tn, tc, hi, rfl, rfl, htl, htc, htm, s⟩ := hrel
  have HT := Lib.hid (And.intro htl htm); clear htl htm
  simp only [hkOwn] at s
  have hC : ∀ wx, Sat W0 wx (seg true bm 0 [.pointer (some ⟨c, 0, none⟩)] :: seg true bl 0 [ptrO p] :: seg true bi 0 [.slice ip ni ic] :: []) → wx.cell? ⟨bm, 0, none⟩ = some (.pointer (some ⟨c, 0, none⟩)) ∧ wx.cell? ⟨bl, 0, none⟩ = some (ptrO p) ∧ wx.cell? ⟨bi, 0, none⟩ = some (.slice ip ni ic) := fun wx h => ⟨h.at 0 rfl, (h.pull 1 : Sat W0 wx (seg true bl 0 [ptrO p] :: _)).at 0 rfl, (h.pull 2 : Sat W0 wx (seg true bi 0 [.slice ip ni ic] :: _)).at 0 rfl⟩
  have HC := Lib.hid hC; clear hC
  obtain ⟨R, hR⟩ : ∃ R, R = noteN rs (evK wide) (evS wide) (hkCnt wide ni i) := ⟨_, rfl⟩
  obtain ⟨T, hT⟩ : ∃ T, T = hkT wide prk info i := ⟨_, rfl⟩
  have hTl : T.length = tn := by rw [hT]; exact HT.out.1
  have htn : tn ≤ 128 := by
   have := HT.out.1
   rw [hkT_len] at this
   have h1 := HB.out.2.2.2.2.2.1
   have h2 := HB.out.2.2.2.2.2.2
   split at this <;> omega
  have hcnt : hkCnt wide ni i ≤ i * (ni + 600) := by
   have hst : ∀ t, t ≤ 128 → hkStep wide t ni ≤ ni + 600 := by
    intro t ht
    unfold hkStep endN
    cases wide <;> simp only [padN, bsz, roomN] <;> omega
   have h1 := HB.out.2.2.2.2.2.1
   have h2 := HB.out.2.2.2.2.2.2
   clear hT hR hi htn hTl HT s
   induction i with
   | zero => simp [hkCnt]
   | succ i ih =>
    rw [hkCnt, Nat.succ_mul]
    have := hst (if i = 0 then 0 else hsz wide) (by split <;> omega)
    omega
  have hRt : tot R + 3 * ni + 3000 ≤ 2305843009213693952 := by
   rw [hR, tot_noteN]
   have := HB.out.2.2.2.1
   have h3 : i * (ni + 600) ≤ 255 * (ni + 600) := Nat.mul_le_mul_right _ (by omega)
   omega
  have hRl : R.length + 7 ≤ 1048576 := by rw [hR]; have := noteN_len rs (evK wide) (evS wide) (hkCnt wide ni i); have := HB.out.2.2.2.2.1; omega
  rw [← hR, ← hT] at s
  have hv : v8 (BitVec.ofNat 8 (i + 1)) = ((i + 1 : Nat) : Int) := by
   unfold v8; rw [BitVec.toNat_ofNat, Nat.mod_eq_of_lt (by omega)]
  have HR := Lib.hid (And.intro hR (And.intro hT (And.intro hTl (And.intro hRt (And.intro hRl hv))))); clear hR hT hTl hRt hRl hcnt hv
  obtain ⟨m0, l0, i0⟩ := HC.out _ s.f
  gi_wp2_with fail
  refine ⟨trivial, callsIn_wide.2 ?_⟩
  refine (hmacReset wide (c := c) k (hkMsg wide prk info i) s.g).mono ?_
  rintro e w1 ⟨rfl, s1⟩
  clear s m0 l0 i0
  obtain ⟨m0, l0, i0⟩ := HC.out _ s1.f
  gi_wp2_with fail
  refine ⟨trivial, callsIn_wide.2 ?_⟩
  refine (hmacWriteF (c := c) wide p R k [] T HR.out.2.2.1 rfl htc HT.out.2 (by have := HR.out.2.2.2.1; simp only [List.length_nil]; omega) (by have := HR.out.2.2.2.2.1; omega) s1.g).mono ?_
  rintro e w2 ⟨rfl, s2⟩
  clear s1 m0 l0 i0
  simp only [List.nil_append, List.length_nil, Nat.zero_add, Nat.zero_div, Nat.sub_zero] at s2
  obtain ⟨m0, l0, i0⟩ := HC.out _ s2.f
  gi_wp2_with fail
  refine ⟨trivial, callsIn_wide.2 ?_⟩
  refine (hmacWriteF (c := c) wide p (noteN R (evK wide) (evS wide) (tn / bsz wide)) k T info HB.out.2.1 rfl hic HB.out.2.2.1 (by rw [tot_noteN, HR.out.2.2.1]; have := HR.out.2.2.2.1; have := Nat.div_le_self tn (bsz wide); omega) (by have := noteN_len R (evK wide) (evS wide) (tn / bsz wide); have := HR.out.2.2.2.2.1; omega) s2.g).mono ?_
  rintro e w3 ⟨rfl, s3⟩
  clear s2 m0 l0 i0
  rw [HR.out.2.2.1, noteN_add] at s3
  obtain ⟨m0, l0, i0⟩ := HC.out _ s3.f
  have s4 := s3.alloc #[.int .u8 ((i + 1 : Nat) : Int)] 5
  rw [show (#[Value.int .u8 ((i + 1 : Nat) : Int)] : Array Value).toList = u8s [BitVec.ofNat 8 (i + 1)] by simp only [u8s, List.map_cons, List.map_nil, HR.out.2.2.2.2.2]] at s4
  gi_wp2_with fail
  refine ⟨trivial, callsIn_wide.2 ?_⟩
  have hcc : tn / bsz wide + ((tn + ni) / bsz wide - tn / bsz wide) = (tn + ni) / bsz wide := Nat.add_sub_cancel' (Nat.div_le_div_right (by omega))
  rw [hcc] at s4
  refine (hmacWriteF (c := c) (n := 1) (cap := 1) wide p (noteN R (evK wide) (evS wide) ((tn + ni) / bsz wide)) k (T ++ info) [BitVec.ofNat 8 (i + 1)] rfl rfl (by decide) (by decide) (by rw [tot_noteN, List.length_append, HR.out.2.2.1, HB.out.2.1]; have := HR.out.2.2.2.1; have := Nat.div_le_self (tn + ni) (bsz wide); omega) (by have := noteN_len R (evK wide) (evS wide) ((tn + ni) / bsz wide); have := HR.out.2.2.2.2.1; omega) (bytesOf s4).f).mono ?_
  rintro e w4 ⟨rfl, s5⟩
  clear s3 s4 m0 l0 i0
  rw [List.length_append, HR.out.2.2.1, HB.out.2.1, noteN_add, Nat.add_sub_cancel' (Nat.div_le_div_right (by omega))] at s5
  obtain ⟨m0, l0, i0⟩ := HC.out _ s5.f
  have hm : T ++ info ++ [BitVec.ofNat 8 (i + 1)] = hkMsg wide prk info (i + 1) := by rw [HR.out.2.1]; rfl
  rw [hm] at s5
  have hml : (hkMsg wide prk info (i + 1)).length = tn + ni + 1 := by rw [← hm]; simp [HR.out.2.2.1, HB.out.2.1]; omega
  have HM := Lib.hid hml; clear hm hml hcc
  gi_wp2_with fail
  refine ⟨trivial, callsIn_wide.2 ?_⟩
  refine (hmacSumC (c := c) wide p (noteN R (evK wide) (evS wide) ((tn + ni + 1) / bsz wide)) prk (hkMsg wide prk info (i + 1)) k HB.out.1 rfl (by rw [tot_noteN, HM.out]; have := HR.out.2.2.2.1; have := Nat.div_le_self (tn + ni + 1) (bsz wide); omega) (by have := noteN_len R (evK wide) (evS wide) ((tn + ni + 1) / bsz wide); have := HR.out.2.2.2.2.1; omega) s5.g).mono ?_
  rintro e w5 ⟨q, cq, rfl, hq1, hq2, s6⟩
  clear s5 m0 l0 i0
  rw [HM.out, noteN_add, HR.out.1, noteN_add] at s6
  have hct : hkCnt wide ni i + ((tn + ni + 1) / bsz wide + endN wide (tn + ni + 1)) = hkCnt wide ni (i + 1) := by
   rw [hkCnt]
   have := HT.out.1
   rw [hkT_len] at this
   rw [this]; rfl
  rw [hct, show hmac wide prk (hkMsg wide prk info (i + 1)) = hkT wide prk info (i + 1) from rfl] at s6
  clear hct
  have s7 : Sat W0 w5 (bytes true q (hkT wide prk info (i + 1)) :: ledO p (noteN rs (evK wide) (evS wide) (hkCnt wide ni (i + 1))) :: mac wide c k (hkMsg wide prk info (i + 1)) :: seg true bm 0 [.pointer (some ⟨c, 0, none⟩)] :: seg true bl 0 [ptrO p] :: seg true bi 0 [.slice ip ni ic] :: bytes mi ip info :: J i) := s6.g
  obtain ⟨fn, tmps, assign, body, hy, hRd⟩ := HY.out i q cq w5 hi hq1 hq2 s7
  clear s6 s7
  gi_wp2
  refine hRd.mono ?_
  rintro e w6 (⟨rfl, hi2, s7⟩ | ⟨rfl, hE⟩)
  ·gi_wp2
   go_roundw
   case rel => exact ⟨i + 1, q, hsz wide, cq, hi2, by go_num, rfl, by rw [hkT_len, if_neg (by omega)], hq1, hq2, s7⟩
   case measure => simp [intOf]; omega
  ·gi_wp2
   refine bodyPost_ret (results_none rfl _ _ _) rfl ?_
   exact ⟨⟨_, rfl⟩, hE⟩
end Go.Proofs.YtbefjaodpbgpcaaGreat
namespace Go.Proofs.YtbefjaodpbgpcaaGreat
open Go.RowKit Go.Sep Go.Bv Go.Sha
attribute [local go_sem] Oper.semAt_some
theorem hideTail {W0 w : World} {A B C : Assn} {Z : List Assn} (h : Sat W0 w (A :: B :: C :: Z)) : ∃ Z', Z' = Z ∧ Sat W0 w (A :: B :: C :: Z') := ⟨Z, rfl, h⟩
def boxB (b : Nat) (bs : List Byte) : Assn := fun x => ∃ q : Option Addr × Nat, sep (seg true b 0 [.slice q.1 bs.length q.2]) (row q.1 q.2 1 bs.length (u8s bs)) x
theorem boxBOpen {W0 w : World} {L : List Assn} {b : Nat} {bs : List Byte} (h : Sat W0 w (boxB b bs :: L)) : ∃ p c, Sat W0 w (seg true b 0 [.slice p bs.length c] :: row p c 1 bs.length (u8s bs) :: L) := by
 obtain ⟨q, h⟩ := h.exOpen
 exact ⟨q.1, q.2, h.sepOpen⟩
theorem boxBShut {W0 w : World} {L : List Assn} {b n : Nat} {bs : List Byte} {p : Option Addr} {c : Nat} (hn : bs.length = n) (h : Sat W0 w (seg true b 0 [.slice p n c] :: row p c 1 n (u8s bs) :: L)) : Sat W0 w (boxB b bs :: L) := by
 subst hn
 exact Sat.exShut (A := fun q : Option Addr × Nat => sep (seg true b 0 [.slice q.1 bs.length q.2]) (row q.1 q.2 1 bs.length (u8s bs))) (p, c) h.sepShut
theorem hkM_bd (wide : Bool) (n : Nat) (h0 : 0 < n) (h1 : n ≤ 255 * hsz wide) : 1 ≤ hkM wide n ∧ hkM wide n ≤ 255 ∧ n ≤ hkM wide n * hsz wide ∧ (hkM wide n - 1) * hsz wide < n := by
 cases wide <;> simp only [hkM, hsz] at h1 ⊢ <;> omega
theorem hkExpand {W0 w : World} {L : List Assn} (wide : Bool) (p : Option Nat) (rs : List Run3) (prk info : List Byte) {mk mi : Bool} {kp ip : Option Addr} {kn kc ni ic n : Nat} {pv : Value} (hp : pv = ptrO p) (hkn : prk.length = kn) (hkc : kn ≤ kc) (hkm : kc ≤ maxLen) (hni : info.length = ni) (hic : ni ≤ ic) (hicm : ic ≤ maxLen) (hn : n ≤ 255 * hsz wide)
  (hb : tot rs + 2 * kn + 1000 * ni + 2000000 ≤ 2305843009213693952) (hl : rs.length + 16 ≤ 1048576) (hs : Sat W0 w (ledO p rs :: bytes mk kp prk :: bytes mi ip info :: L)) :
  Calls Tryz.prog 101 #[pv, .int .u8 (algN wide), .slice kp kn kc, .slice ip ni ic, .int .i64 (n : Int)] w fun e w' => ∃ q c, e = .returned (.tuple #[.slice q n c, .int .i64 0]) ∧ n ≤ c ∧ c ≤ maxLen ∧ Sat W0 w' (bytes true q (hkdf wide prk info n) :: ledO p (noteN rs (evK wide) (evS wide) (expN wide kn ni n)) :: bytes mk kp prk :: bytes mi ip info :: L) := by
 subst hp
 have hh : hsz wide ≤ 64 := by cases wide <;> decide
 have hkN : keyN wide kn ≤ kn + 4 := by
  unfold keyN
  by_cases h : bsz wide < kn
  ·rw [if_pos h]; cases wide <;> simp only [padN, bsz, roomN] <;> omega
  ·rw [if_neg h]; omega
 have HB := Lib.hid (And.intro hkn (And.intro hkm (And.intro hni (And.intro hicm (And.intro hn (And.intro hb (And.intro hl (And.intro hh hkN)))))))); clear hkn hkm hni hicm hn hb hl hh hkN
 obtain ⟨bn, hbn⟩ : ∃ bn, bn = w.heap.size := ⟨_, rfl⟩
 have s0 := hs.allocAt #[.int .i64 (n : Int)] 3 (q := bn) hbn
 clear hs
 refine (callsIn_wide (n := 3)).1 ?_
 refine callsIn_of_wp_marks Tryz.func101 rfl trivial ?_ rfl
 simp only [Tryz.ntmps101, List.size_toArray, List.length_cons, List.length_nil, Nat.reduceAdd, Nat.reduceSub, Array.replicate_succ, Array.replicate_zero, List.push_toArray, List.append_toArray, List.nil_append, List.cons_append]
 have n0 := s0.at 0 rfl
 gi_wp2_with fail
 refine ⟨trivial, callsIn_wide.2 ?_⟩
 refine (hkMay wide (n : Int) 0 (by rw [if_neg (by omega), if_neg (by have := HB.out.2.2.2.2.1; omega)]) s0).mono ?_
 rintro e w1 ⟨rfl, s1⟩
 rw [← hbn]
 clear s0 n0 hbn
 gi_wp2_with fail
 refine ⟨trivial, callsIn_wide.2 ?_⟩
 refine (hmacNewF wide p rs prk HB.out.1 rfl rfl hkc HB.out.2.1 (by have := HB.out.2.2.2.2.2.1; omega) (by have := HB.out.2.2.2.2.2.2.1; omega) s1.g).mono ?_
 rintro e w2 ⟨c, rfl, s2⟩
 clear s1
 obtain ⟨k, hk⟩ : ∃ k, k = blockKey wide prk := ⟨_, rfl⟩
 rw [← hk] at s2
 have HK := Lib.hid hk; clear hk
 have hC : ∀ wx, Sat W0 wx (seg true bn 0 [.int .i64 (n : Int)] :: []) → wx.cell? ⟨bn, 0, none⟩ = some (.int .i64 (n : Int)) ∧ bn < wx.heap.size := fun wx h => ⟨h.at 0 rfl, h.lt (by simp)⟩
 have HC := Lib.hid hC; clear hC
 obtain ⟨n0, z0⟩ := HC.out _ s2.f
 by_cases hn0 : n = 0
 ·subst hn0
  gi_wp2
  refine ⟨_, results_tmp2 rfl _ _ _, none, 0, rfl, Nat.le_refl _, Nat.zero_le _, ?_⟩
  have e1 : hkdf wide prk info 0 = [] := by simp [hkdf]
  have e2 : expN wide kn ni 0 = keyN wide kn := by cases wide <;> rfl
  rw [e1, e2]
  exact bytesNil true none s2.g
 ·have hn1 : ¬ (n : Int) = 0 := by omega
  gi_wp2_with fail
  refine ⟨trivial, callsIn_wide.2 ?_⟩
  obtain ⟨bo, hbo⟩ : ∃ bo, bo = w2.heap.size := ⟨_, rfl⟩
  have s3 := s2.allocAt #[.slice none 0 0] 25 (q := bo) hbo
  refine (hkBlocks _ _ ip ni ic s3).mono ?_
  rintro e w3 ⟨bl, bm, bi, rfl, s4'⟩
  rw [← hbo]
  clear s2 s3 hbo n0 z0
  obtain ⟨N, hN⟩ : ∃ N, N = hkM wide n := ⟨_, rfl⟩
  obtain ⟨hN1, hN2, hN3, hN4⟩ := hkM_bd wide n (by omega) HB.out.2.2.2.2.1
  rw [← hN] at hN1 hN2 hN3 hN4
  obtain ⟨R, hR⟩ : ∃ R, R = noteN rs (evK wide) (evS wide) (keyN wide kn) := ⟨_, rfl⟩
  rw [← hR] at s4'
  have hRt : tot R + 1000 * ni + 1000000 ≤ 2305843009213693952 := by rw [hR, tot_noteN]; have := HB.out.2.2.2.2.2.1; have := HB.out.2.2.2.2.2.2.2.2; omega
  have hRl : R.length + 8 ≤ 1048576 := by rw [hR]; have := noteN_len rs (evK wide) (evS wide) (keyN wide kn); have := HB.out.2.2.2.2.2.2.1; omega
  have s4 : Sat W0 w3 (ledO p R :: mac wide c k [] :: seg true bm 0 [.pointer (some ⟨c, 0, none⟩)] :: seg true bl 0 [ptrO p] :: seg true bi 0 [.slice ip ni ic] :: bytes mi ip info :: boxB bo [] :: seg true bn 0 [.int .i64 (n : Int)] :: bytes mk kp prk :: L) := by
   have s5 : Sat W0 w3 (seg true bo 0 [.slice none 0 0] :: ledO p R :: mac wide c k [] :: seg true bm 0 [.pointer (some ⟨c, 0, none⟩)] :: seg true bl 0 [ptrO p] :: seg true bi 0 [.slice ip ni ic] :: bytes mi ip info :: seg true bn 0 [.int .i64 (n : Int)] :: bytes mk kp prk :: L) := s4'.g
   have s6 : Sat W0 w3 (seg true bo 0 [.slice none 0 0] :: row none 0 1 0 (u8s []) :: ledO p R :: mac wide c k [] :: seg true bm 0 [.pointer (some ⟨c, 0, none⟩)] :: seg true bl 0 [ptrO p] :: seg true bi 0 [.slice ip ni ic] :: bytes mi ip info :: seg true bn 0 [.int .i64 (n : Int)] :: bytes mk kp prk :: L) := (s5.rowNil 1).pick [1]
   have s7 := boxBShut (bs := []) (n := 0) (p := none) (c := 0) rfl s6
   exact s7.g
  clear s4'
  have HR := Lib.hid (And.intro hR (And.intro hRt (And.intro hRl (And.intro hN3 (And.intro hN4 hN))))); clear hR hRt hRl hN3 hN4 hN
  gi_wp2
  refine wpIn_rangeSat (F := Fence.wide) (n := 3) rfl (by decide) (gf := 155) (lb := #[.pointer (some ⟨bm, 0, none⟩), .pointer (some ⟨bl, 0, none⟩), .pointer (some ⟨bi, 0, none⟩)]) rfl trivial (enters_of Tryz.func155 (by kernel_rfl) rfl) s4 ?_
  intro fn l D rd W1 hfn hl hD hrd s5
  clear hl hD
  have s6 : Sat W0 W1 (ledO p R :: mac wide c k [] :: seg true bm 0 [.pointer (some ⟨c, 0, none⟩)] :: seg true bl 0 [ptrO p] :: seg true bi 0 [.slice ip ni ic] :: bytes mi ip info :: obj l (rd .ready none) :: obj D (.deferred (some [])) :: boxB bo [] :: seg true bn 0 [.int .i64 (n : Int)] :: bytes mk kp prk :: L) := s5.g
  clear s5
  refine hkIter (m := 1) (c := c) (mi := mi) (ip := ip) wide p R prk info k HK.out HB.out.2.2.1 hic HB.out.2.2.2.1 N hN1 hN2 HR.out.2.1 HR.out.2.2.1 (fun i => obj l (rd .ready none) :: obj D (.deferred (some [])) :: boxB bo (hkOut wide prk info i) :: seg true bn 0 [.int .i64 (n : Int)] :: bytes mk kp prk :: L) _ l ?_ s6
  clear s6
  intro i q cq W2 hi hq1 hq2 s6
  clear s4
  simp only [hkOwn] at s6
  subst hrd
  refine yieldSat (L := bytes true q (hkT wide prk info (i + 1)) :: ledO p (noteN R (evK wide) (evS wide) (hkCnt wide ni (i + 1))) :: mac wide c k (hkMsg wide prk info (i + 1)) :: seg true bm 0 [.pointer (some ⟨c, 0, none⟩)] :: seg true bl 0 [ptrO p] :: seg true bi 0 [.slice ip ni ic] :: bytes mi ip info :: obj D (.deferred (some [])) :: boxB bo (hkOut wide prk info i) :: seg true bn 0 [.int .i64 (n : Int)] :: bytes mk kp prk :: L) rfl hfn s6.g ?a1 ?assign ?body
  case assign =>
   intro K hK
   gi_wp2
   exact hK
  case body =>
   clear s6
   intro W3 s7
   obtain ⟨Z, hZ, s8⟩ := hideTail (s7.f : Sat W0 W3 (boxB bo (hkOut wide prk info i) :: bytes true q (hkT wide prk info (i + 1)) :: seg true bn 0 [.int .i64 (n : Int)] :: _))
   clear s7
   obtain ⟨po, co, s9⟩ := boxBOpen s8
   clear s8
   obtain ⟨u, hu⟩ : ∃ u, u = (hkOut wide prk info i).length := ⟨_, rfl⟩
   have hu2 : u = i * hsz wide := by rw [hu]; exact hkOut_len _ _ _ _
   have hTl : (hkT wide prk info (i + 1)).length = hsz wide := by rw [hkT_len, if_neg (by omega)]
   rw [← hu] at s9
   have hO : ∀ wx pp nn cc, Sat W0 wx (seg true bo 0 [.slice pp nn cc] :: seg true bn 0 [.int .i64 (n : Int)] :: []) → wx.cell? ⟨bo, 0, none⟩ = some (.slice pp nn cc) ∧ wx.frozen? ⟨bo, 0, none⟩ = false ∧ bo < wx.heap.size ∧ wx.cell? ⟨bn, 0, none⟩ = some (.int .i64 (n : Int)) ∧ bn < wx.heap.size ∧ bo ≠ bn := fun wx pp nn cc h => ⟨h.at 0 rfl, h.fr 0 (by simp), h.lt (by simp), (h.pull 1 : Sat W0 wx (seg true bn 0 [.int .i64 (n : Int)] :: _)).at 0 rfl, (h.pull 1 : Sat W0 wx (seg true bn 0 [.int .i64 (n : Int)] :: _)).lt (by simp), Sat.ne' h (by simp) (by simp)⟩
   have HO := Lib.hid hO; clear hO
   have hlen : u + hsz wide = (i + 1) * hsz wide := by rw [hu2, Nat.succ_mul]
   have hsm : u + hsz wide ≤ 255 * 64 := by
    rw [hlen]
    exact Nat.mul_le_mul (by omega) HB.out.2.2.2.2.2.2.2.1
   have hcase : (i + 1 < N ∧ u + hsz wide < n) ∨ (i + 1 = N ∧ n ≤ u + hsz wide) := by
    by_cases h : i + 1 < N
    ·refine .inl ⟨h, ?_⟩
     rw [hlen]
     have h1 : (i + 1) * hsz wide ≤ (N - 1) * hsz wide := Nat.mul_le_mul_right _ (by omega)
     have := HR.out.2.2.2.2.1
     omega
    ·have e : i + 1 = N := by omega
     refine .inr ⟨e, ?_⟩
     rw [hlen, e]
     exact HR.out.2.2.2.1
   have HU := Lib.hid (And.intro hu (And.intro hlen (And.intro hTl hZ))); clear hu hlen hTl hu2 hZ
   obtain ⟨b0, b1, b2, b3, b4, b5⟩ := HO.out _ _ _ _ s9.f
   rcases hcase with ⟨hc1, hc2⟩ | ⟨hc1, hc2⟩
   ·gi_wp2_with (gi_at_builtin; refine wplIn_app8 rfl (.tmp 42) (.tmp 43) rfl rfl rfl s9.g HU.out.2.2.1 (by omega) ?_; intro p9 c9 w9 s10; clear b0 b1 b2 b3 b4 b5; obtain ⟨b0, b1, b2, b3, b4, b5⟩ := HO.out _ _ _ _ s10.f)
    have st := (s10.f : Sat W0 w9 (seg true bo 0 [.slice po u co] :: row p9 c9 1 (u + hsz wide) (u8s (hkOut wide prk info i ++ hkT wide prk info (i + 1))) :: bytes true q (hkT wide prk info (i + 1)) :: seg true bn 0 [.int .i64 (n : Int)] :: Z)).store (i := 0) (by simp) (.slice p9 (u + hsz wide) c9) (q := 0) rfl
    have s12 := boxBShut (bs := hkOut wide prk info (i + 1)) (n := u + hsz wide) (by rw [hkOut_len]; exact HU.out.2.1.symm) st
    rw [HU.out.2.2.2] at s12
    clear st s10 b0 b1 b2 b3 b4 b5
    refine ⟨bytes true q (hkT wide prk info (i + 1)) :: ledO p (noteN R (evK wide) (evS wide) (hkCnt wide ni (i + 1))) :: mac wide c k (hkMsg wide prk info (i + 1)) :: seg true bm 0 [.pointer (some ⟨c, 0, none⟩)] :: seg true bl 0 [ptrO p] :: seg true bi 0 [.slice ip ni ic] :: bytes mi ip info :: obj D (.deferred (some [])) :: boxB bo (hkOut wide prk info (i + 1)) :: seg true bn 0 [.int .i64 (n : Int)] :: bytes mk kp prk :: L, s12.g, ?_⟩
    intro W4 s13
    exact s13.g
   ·gi_wp2_with (gi_at_builtin; refine wplIn_app8 rfl (.tmp 42) (.tmp 43) rfl rfl rfl s9.g HU.out.2.2.1 (by omega) ?_; intro p9 c9 w9 s10; clear b0 b1 b2 b3 b4 b5; obtain ⟨b0, b1, b2, b3, b4, b5⟩ := HO.out _ _ _ _ s10.f)
    have st := (s10.f : Sat W0 w9 (seg true bo 0 [.slice po u co] :: row p9 c9 1 (u + hsz wide) (u8s (hkOut wide prk info i ++ hkT wide prk info (i + 1))) :: bytes true q (hkT wide prk info (i + 1)) :: seg true bn 0 [.int .i64 (n : Int)] :: Z)).store (i := 0) (by simp) (.slice p9 (u + hsz wide) c9) (q := 0) rfl
    have s12 := boxBShut (bs := hkOut wide prk info (i + 1)) (n := u + hsz wide) (by rw [hkOut_len]; exact HU.out.2.1.symm) st
    rw [HU.out.2.2.2] at s12
    clear st s10 b0 b1 b2 b3 b4 b5
    refine ⟨bytes true q (hkT wide prk info (i + 1)) :: ledO p (noteN R (evK wide) (evS wide) (hkCnt wide ni (i + 1))) :: mac wide c k (hkMsg wide prk info (i + 1)) :: seg true bm 0 [.pointer (some ⟨c, 0, none⟩)] :: seg true bl 0 [ptrO p] :: seg true bi 0 [.slice ip ni ic] :: bytes mi ip info :: obj D (.deferred (some [])) :: boxB bo (hkOut wide prk info (i + 1)) :: seg true bn 0 [.int .i64 (n : Int)] :: bytes mk kp prk :: L, s12.g, ?_⟩
    intro W4 s13
    refine ⟨.done, (fun h => by cases h), some (.exit 0), bytes true q (hkT wide prk info (i + 1)) :: ledO p (noteN R (evK wide) (evS wide) (hkCnt wide ni (i + 1))) :: boxB bo (hkOut wide prk info (i + 1)) :: seg true bn 0 [.int .i64 (n : Int)] :: bytes mk kp prk :: bytes mi ip info :: L, s13.g, ?_⟩
    clear s12 s13
    intro W5 s14 hD
    obtain ⟨pu, cu, s15⟩ := boxBOpen (s14.f : Sat W0 W5 (boxB bo (hkOut wide prk info (i + 1)) :: obj D (.deferred (some [])) :: bytes true q (hkT wide prk info (i + 1)) :: ledO p (noteN R (evK wide) (evS wide) (hkCnt wide ni (i + 1))) :: seg true bn 0 [.int .i64 (n : Int)] :: bytes mk kp prk :: bytes mi ip info :: L))
    rw [hkOut_len, ← HU.out.2.1] at s15
    obtain ⟨hv, hcu, hcu2, s16⟩ := rowBytes (s15.f : Sat W0 W5 (row pu cu 1 (u + hsz wide) (u8s (hkOut wide prk info (i + 1))) :: seg true bo 0 [.slice pu (u + hsz wide) cu] :: obj D (.deferred (some [])) :: ledO p (noteN R (evK wide) (evS wide) (hkCnt wide ni (i + 1))) :: seg true bn 0 [.int .i64 (n : Int)] :: bytes mk kp prk :: bytes mi ip info :: L))
    clear s14 s15
    have hX : (hkOut wide prk info (i + 1)).take n = hkdf wide prk info n ∧ ((hkOut wide prk info (i + 1)).take n).length = n := by
     refine ⟨by unfold hkdf; rw [← HR.out.2.2.2.2.2, hc1], ?_⟩
     rw [List.length_take, hv]; omega
    have s17 := bytesTake n s16
    have HX := Lib.hid (And.intro hX hcu2); clear hX hv s16 hcu2
    obtain ⟨b0, b1, b2, b3, b4, b5⟩ := HO.out _ _ _ _ s17.f
    have s18 : Sat W0 W5 (row none 0 1 0 (u8s []) :: bytes true pu ((hkOut wide prk info (i + 1)).take n) :: seg true bo 0 [.slice pu (u + hsz wide) cu] :: obj D (.deferred (some [])) :: ledO p (noteN R (evK wide) (evS wide) (hkCnt wide ni (i + 1))) :: seg true bn 0 [.int .i64 (n : Int)] :: bytes mk kp prk :: bytes mi ip info :: L) := s17.rowNil 1
    clear s17
    gi_wp2_with (gi_at_builtin; refine wplIn_app8 (xs := []) rfl (.const (.slice none 0 0)) (.tmp 51) rfl rfl rfl s18 HX.out.1.2 (by omega) ?_; intro p9 c9 w9 s10)
    have hD' := (s10.f : Sat W0 w9 (obj D (.deferred (some [])) :: [])).obj.1
    have s19 := (s10.f : Sat W0 w9 (obj D (.deferred (some [])) :: row p9 c9 1 (0 + n) (u8s ([] ++ (hkOut wide prk info (i + 1)).take n)) :: ledO p (noteN R (evK wide) (evS wide) (hkCnt wide ni (i + 1))) :: bytes mk kp prk :: bytes mi ip info :: L)).putObj (.deferred none) rfl
    refine ⟨by simp, .inl ⟨_, _, rfl, run_takeDeferred hD', ?_⟩⟩
    refine ⟨_, results_tmp2 rfl _ _ _, p9, c9, rfl, ?_⟩
    have s20 : Sat W0 _ (row p9 c9 1 (0 + n) (u8s ([] ++ (hkOut wide prk info (i + 1)).take n)) :: ledO p (noteN R (evK wide) (evS wide) (hkCnt wide ni (i + 1))) :: bytes mk kp prk :: bytes mi ip info :: L) := s19.tail
    rw [Nat.zero_add, List.nil_append, HX.out.1.1, hc1, HR.out.1, noteN_add, HR.out.2.2.2.2.2] at s20
    obtain ⟨-, h1, h2, s21⟩ := rowBytes s20
    exact ⟨h1, h2, s21⟩
end Go.Proofs.YtbefjaodpbgpcaaGreat
namespace Go.Sha
open Go.Bv
end Go.Sha
namespace Go.Proofs.YtbefjaodpbgpcaaGreat
open Go.RowKit Go.Sep Go.Bv Go.Sha
theorem hkExtract {W0 w : World} {L : List Assn} {sc kc sn kn : Nat} {m m2 : Bool} {sp kp : Option Addr} {pv av : Value} (wide : Bool) (p : Option Nat) (rs : List Run3) (salt key : List Byte) (hn : salt.length = sn) (hn2 : key.length = kn) (hp : pv = ptrO p) (ha : av = .int .u8 (algN wide)) (hcap : sn ≤ sc) (hcm : sc ≤ maxLen) (hcap2 : kn ≤ kc) (hcm2 : kc ≤ maxLen) (hb : tot rs + 2 * sn + 2 * kn + 4000 ≤ 2305843009213693952) (hl : rs.length + 8 ≤ 1048576)
  (hs : Sat W0 w (ledO p rs :: bytes m sp salt :: bytes m2 kp key :: L)) :
  Calls Tryz.prog 100 #[pv, av, .slice sp sn sc, .slice kp kn kc] w fun e w' => ∃ q cq, e = .returned (.tuple #[.slice q (hsz wide) cq, .int .i64 0]) ∧ hsz wide ≤ cq ∧ cq ≤ maxLen ∧ Sat W0 w' (bytes true q (hmac wide salt key) :: ledO p (noteN rs (evK wide) (evS wide) (keyN wide sn + kn / bsz wide + endN wide kn)) :: bytes m sp salt :: bytes m2 kp key :: L) := by
 subst hp ha
 have HB := Lib.hid (And.intro hn (And.intro hn2 (And.intro hcm (And.intro hcm2 (And.intro hb hl))))); clear hn hn2 hcm hcm2 hb hl
 go_enter Tryz.func100, Tryz.ntmps100
 go_wp2_with fail
 refine (hmacTagF wide p rs salt key HB.out.1 HB.out.2.1 rfl rfl hcap HB.out.2.2.1 hcap2 HB.out.2.2.2.1 HB.out.2.2.2.2.1 HB.out.2.2.2.2.2 hs).mono ?_
 rintro e w1 ⟨q, cq, rfl, h1, h2, s1⟩
 go_wp2
 refine bodyPost_ret (v := .tuple #[.slice q (hsz wide) cq, .int .i64 0]) (by simp [results, Tryz.results100, go_sem]) rfl ⟨q, cq, rfl, h1, h2, s1⟩
def hkKeyN (wide : Bool) (sn kn ni n : Nat) : Nat := keyN wide sn + kn / bsz wide + endN wide kn + expN wide (hsz wide) ni n
theorem hkKey {W0 w : World} {L : List Assn} (wide : Bool) (p : Option Nat) (rs : List Run3) (key salt info : List Byte) {mk ms mi : Bool} {kp sp ip : Option Addr} {kn kc sn sc ni ic n : Nat} {pv av : Value} (hp : pv = ptrO p) (ha : av = .int .u8 (algN wide)) (hkn : key.length = kn) (hkc : kn ≤ kc) (hkm : kc ≤ maxLen) (hsn : salt.length = sn) (hsc : sn ≤ sc) (hsm : sc ≤ maxLen) (hni : info.length = ni) (hic : ni ≤ ic) (hicm : ic ≤ maxLen) (hn : n ≤ 255 * hsz wide)
  (hb : tot rs + 4 * kn + 4 * sn + 1000 * ni + 3000000 ≤ 2305843009213693952) (hl : rs.length + 32 ≤ 1048576) (hs : Sat W0 w (ledO p rs :: bytes mk kp key :: bytes ms sp salt :: bytes mi ip info :: L)) :
  Calls Tryz.prog 86 #[pv, av, .slice kp kn kc, .slice sp sn sc, .slice ip ni ic, .int .i64 (n : Int)] w fun e w' => ∃ q c, e = .returned (.tuple #[.slice q n c, .int .i64 0]) ∧ n ≤ c ∧ c ≤ maxLen ∧ Sat W0 w' (bytes true q (hkdf wide (hmac wide salt key) info n) :: ledO p (noteN rs (evK wide) (evS wide) (hkKeyN wide sn kn ni n)) :: bytes mk kp key :: bytes ms sp salt :: bytes mi ip info :: L) := by
 subst hp ha
 have hh : hsz wide ≤ 64 := by cases wide <;> decide
 have hx : keyN wide sn + kn / bsz wide + endN wide kn ≤ sn + 4 + kn + 8 := by
  have h1 : keyN wide sn ≤ sn + 4 := by
   unfold keyN
   by_cases h : bsz wide < sn
   ·rw [if_pos h]; cases wide <;> simp only [padN, bsz, roomN] <;> omega
   ·rw [if_neg h]; omega
  have h2 := Nat.div_le_self kn (bsz wide)
  have h3 : endN wide kn ≤ 8 := by unfold endN; cases wide <;> simp only [padN, bsz, roomN] <;> omega
  omega
 have HB := Lib.hid (And.intro hkn (And.intro hkm (And.intro hsn (And.intro hsm (And.intro hni (And.intro hicm (And.intro hn (And.intro hb (And.intro hl (And.intro hh hx)))))))))); clear hkn hkm hsn hsm hni hicm hn hb hl hh hx
 go_enter Tryz.func86, Tryz.ntmps86
 go_wp2_with fail
 refine (hkMay wide (n : Int) 0 (by rw [if_neg (by omega), if_neg (by have := HB.out.2.2.2.2.2.2.1; omega)]) hs).mono ?_
 rintro e w1 ⟨rfl, s1⟩
 clear hs
 go_wp2_with fail
 refine (hkExtract wide p rs salt key HB.out.2.2.1 HB.out.1 rfl rfl hsc HB.out.2.2.2.1 hkc HB.out.2.1 (by have := HB.out.2.2.2.2.2.2.2.1; omega) (by have := HB.out.2.2.2.2.2.2.2.2.1; omega) s1.g).mono ?_
 rintro e w2 ⟨q, cq, rfl, hq1, hq2, s2⟩
 clear s1
 go_wp2_with fail
 refine (hkExpand wide p (noteN rs (evK wide) (evS wide) (keyN wide sn + kn / bsz wide + endN wide kn)) (hmac wide salt key) info rfl (hmac_len _ _ _) hq1 hq2 HB.out.2.2.2.2.1 hic HB.out.2.2.2.2.2.1 HB.out.2.2.2.2.2.2.1 (by rw [tot_noteN]; have := HB.out.2.2.2.2.2.2.2.1; have := HB.out.2.2.2.2.2.2.2.2.2.1; have := HB.out.2.2.2.2.2.2.2.2.2.2; omega) (by have := noteN_len rs (evK wide) (evS wide) (keyN wide sn + kn / bsz wide + endN wide kn); have := HB.out.2.2.2.2.2.2.2.2.1; omega) s2.g).mono ?_
 rintro e w3 ⟨q3, c3, rfl, h1, h2, s3⟩
 clear s2
 rw [noteN_add] at s3
 have HQ := Lib.hid (And.intro h1 (And.intro h2 s3)); clear h1 h2 s3
 go_wp2
 refine bodyPost_ret (v := .tuple #[.slice q3 n c3, .int .i64 0]) (by simp [results, Tryz.results86, go_sem]) rfl ⟨q3, c3, rfl, HQ.out.1, HQ.out.2.1, ?_⟩
 have s4 : Sat W0 w3 (bytes true q3 (hkdf wide (hmac wide salt key) info n) :: ledO p (noteN rs (evK wide) (evS wide) (keyN wide sn + kn / bsz wide + endN wide kn + expN wide (hsz wide) ni n)) :: bytes mk kp key :: bytes ms sp salt :: bytes mi ip info :: L) := by
  have s5 := HQ.out.2.2
  exact s5.g
 exact s4
/-! ### The helpers of layer 15's statements -/
end Go.Proofs.YtbefjaodpbgpcaaGreat
