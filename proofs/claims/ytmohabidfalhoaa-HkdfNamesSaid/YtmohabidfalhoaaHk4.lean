/- Layer 15's program: Extract, Key, what is refused; the helpers of its statements; under the conditions that each names. -/
import Derived.Test.YtmohabidfalhoaaHk3
import Derived.Test.YtmohabidfalhoaaL12
namespace Go.Sha
open Go.Bv
def risen (b : Byte) (n : Nat) : List Byte := (List.range n).map fun i => b + BitVec.ofNat 8 i
theorem risen_snoc (b : Byte) (n : Nat) : risen b (n + 1) = risen b n ++ [b + BitVec.ofNat 8 n] := by simp [risen, List.range_succ]
theorem risen_len (b : Byte) (n : Nat) : (risen b n).length = n := by simp [risen]
end Go.Sha
namespace Go.Proofs.Ytmohabidfalhoaa
open Go.RowKit Go.Sep Go.Bv Go.Sha
set_option linter.unusedVariables false
set_option linter.unusedSimpArgs false
theorem hkExtract {W0 w : World} {L : List Assn} {sc kc sn kn : Nat} {m m2 : Bool} {sp kp : Option Addr} {pv av : Value} (wide : Bool) (p : Option Nat) (rs : List Run3) (salt key : List Byte) (hn : salt.length = sn) (hn2 : key.length = kn) (hp : pv = ptrO p) (ha : av = .int .u8 (algN wide)) (hcap : sn ≤ sc) (hcm : sc ≤ maxLen) (hcap2 : kn ≤ kc) (hcm2 : kc ≤ maxLen) (hb : tot rs + 2 * sn + 2 * kn + 4000 ≤ 2305843009213693952) (hl : rs.length + 8 ≤ 1048576)
    (hs : Sat W0 w (ledO p rs :: bytes m sp salt :: bytes m2 kp key :: L)) :
    Calls Try.prog 53 #[pv, av, .slice sp sn sc, .slice kp kn kc] w fun e w' => ∃ q cq, e = .returned (.tuple #[.slice q (hsz wide) cq, .int .i64 0]) ∧ hsz wide ≤ cq ∧ cq ≤ maxLen ∧ Sat W0 w' (bytes true q (hmac wide salt key) :: ledO p (noteN rs (evK wide) (evS wide) (keyN wide sn + kn / bsz wide + endN wide kn)) :: bytes m sp salt :: bytes m2 kp key :: L) := by
  subst hp ha
  have HB := Lib.hid (And.intro hn (And.intro hn2 (And.intro hcm (And.intro hcm2 (And.intro hb hl))))); clear hn hn2 hcm hcm2 hb hl
  go_enter Try.func53, Try.ntmps53
  go_wp2_with fail
  refine (hmacTagF wide p rs salt key HB.out.1 HB.out.2.1 rfl rfl hcap HB.out.2.2.1 hcap2 HB.out.2.2.2.1 HB.out.2.2.2.2.1 HB.out.2.2.2.2.2 hs).mono ?_
  rintro e w1 ⟨q, cq, rfl, h1, h2, s1⟩
  go_wp2
  refine bodyPost_ret (v := .tuple #[.slice q (hsz wide) cq, .int .i64 0]) (by simp [results, Try.results53, go_sem]) rfl ⟨q, cq, rfl, h1, h2, s1⟩
theorem hkExtractNone {W0 w : World} {L : List Assn} (a : Int) (h1 : ¬ a = 1) (h2 : ¬ a = 2) (p v u : Value) (hs : Sat W0 w L) :
    Calls Try.prog 53 #[p, .int .u8 a, v, u] w fun e w' => e = .returned (.tuple #[.slice none 0 0, .int .i64 4]) ∧ Sat W0 w' L := by
  go_enter Try.func53, Try.ntmps53
  go_wp2_with fail
  refine (hmacTagNone a h1 h2 p v u hs).mono ?_
  rintro e w1 ⟨rfl, s1⟩
  go_wp2
  refine bodyPost_ret (v := .tuple #[.slice none 0 0, .int .i64 4]) (by simp [results, Try.results53, go_sem]) rfl ⟨rfl, s1⟩
/-- How many blocks Key takes: of a salt, a key, an information, n bytes. -/
def hkKeyN (wide : Bool) (sn kn ni n : Nat) : Nat := keyN wide sn + kn / bsz wide + endN wide kn + expN wide (hsz wide) ni n
set_option maxHeartbeats 1000000 in
theorem hkKey {W0 w : World} {L : List Assn} (wide : Bool) (p : Option Nat) (rs : List Run3) (key salt info : List Byte) {mk ms mi : Bool} {kp sp ip : Option Addr} {kn kc sn sc ni ic n : Nat} {pv av : Value} (hp : pv = ptrO p) (ha : av = .int .u8 (algN wide)) (hkn : key.length = kn) (hkc : kn ≤ kc) (hkm : kc ≤ maxLen) (hsn : salt.length = sn) (hsc : sn ≤ sc) (hsm : sc ≤ maxLen) (hni : info.length = ni) (hic : ni ≤ ic) (hicm : ic ≤ maxLen) (hn : n ≤ 255 * hsz wide)
    (hb : tot rs + 4 * kn + 4 * sn + 1000 * ni + 3000000 ≤ 2305843009213693952) (hl : rs.length + 32 ≤ 1048576) (hs : Sat W0 w (ledO p rs :: bytes mk kp key :: bytes ms sp salt :: bytes mi ip info :: L)) :
    Calls Try.prog 56 #[pv, av, .slice kp kn kc, .slice sp sn sc, .slice ip ni ic, .int .i64 (n : Int)] w fun e w' => ∃ q c, e = .returned (.tuple #[.slice q n c, .int .i64 0]) ∧ n ≤ c ∧ c ≤ maxLen ∧ Sat W0 w' (bytes true q (hkdf wide (hmac wide salt key) info n) :: ledO p (noteN rs (evK wide) (evS wide) (hkKeyN wide sn kn ni n)) :: bytes mk kp key :: bytes ms sp salt :: bytes mi ip info :: L) := by
  subst hp ha
  have hh : hsz wide ≤ 64 := by cases wide <;> decide
  have hx : keyN wide sn + kn / bsz wide + endN wide kn ≤ sn + 4 + kn + 8 := by
    have h1 : keyN wide sn ≤ sn + 4 := by
      unfold keyN
      by_cases h : bsz wide < sn
      · rw [if_pos h]; cases wide <;> simp only [padN, bsz, roomN] <;> omega
      · rw [if_neg h]; omega
    have h2 := Nat.div_le_self kn (bsz wide)
    have h3 : endN wide kn ≤ 8 := by unfold endN; cases wide <;> simp only [padN, bsz, roomN] <;> omega
    omega
  have HB := Lib.hid (And.intro hkn (And.intro hkm (And.intro hsn (And.intro hsm (And.intro hni (And.intro hicm (And.intro hn (And.intro hb (And.intro hl (And.intro hh hx)))))))))); clear hkn hkm hsn hsm hni hicm hn hb hl hh hx
  go_enter Try.func56, Try.ntmps56
  go_wp2_with fail
  refine (hkMay wide (n : Int) 0 (by rw [if_neg (by omega), if_neg (by have := HB.out.2.2.2.2.2.2.1; omega)]) hs).mono ?_
  rintro e w1 ⟨rfl, s1⟩
  clear hs
  go_wp2_with fail
  refine (hkExtract wide p rs salt key HB.out.2.2.1 HB.out.1 rfl rfl hsc HB.out.2.2.2.1 hkc HB.out.2.1 (by have := HB.out.2.2.2.2.2.2.2.1; omega) (by have := HB.out.2.2.2.2.2.2.2.2.1; omega) (by (repeat (first | with_reducible apply Sat.sub (s1) | with_reducible apply Sat.alloc' | with_reducible apply Sat.drew | with_reducible apply Sat.drewN)); (repeat (first | with_reducible exact Fr.done | with_reducible exact Fr.nil | (with_reducible apply Fr.cons; (focus ((repeat (first | with_reducible exact Take.here | with_reducible apply Take.there)); done))) | with_reducible apply Fr.skip)); done)).mono ?_
  rintro e w2 ⟨q, cq, rfl, hq1, hq2, s2⟩
  clear s1
  go_wp2_with fail
  refine (hkExpand wide p (noteN rs (evK wide) (evS wide) (keyN wide sn + kn / bsz wide + endN wide kn)) (hmac wide salt key) info rfl (hmac_len _ _ _) hq1 hq2 HB.out.2.2.2.2.1 hic HB.out.2.2.2.2.2.1 HB.out.2.2.2.2.2.2.1 (by rw [tot_noteN]; have := HB.out.2.2.2.2.2.2.2.1; have := HB.out.2.2.2.2.2.2.2.2.2.1; have := HB.out.2.2.2.2.2.2.2.2.2.2; omega) (by have := noteN_len rs (evK wide) (evS wide) (keyN wide sn + kn / bsz wide + endN wide kn); have := HB.out.2.2.2.2.2.2.2.2.1; omega) (by (repeat (first | with_reducible apply Sat.sub (s2) | with_reducible apply Sat.alloc' | with_reducible apply Sat.drew | with_reducible apply Sat.drewN)); (repeat (first | with_reducible exact Fr.done | with_reducible exact Fr.nil | (with_reducible apply Fr.cons; (focus ((repeat (first | with_reducible exact Take.here | with_reducible apply Take.there)); done))) | with_reducible apply Fr.skip)); done)).mono ?_
  rintro e w3 ⟨q3, c3, rfl, h1, h2, s3⟩
  clear s2
  rw [noteN_add] at s3
  have HQ := Lib.hid (And.intro h1 (And.intro h2 s3)); clear h1 h2 s3
  go_wp2
  refine bodyPost_ret (v := .tuple #[.slice q3 n c3, .int .i64 0]) (by simp [results, Try.results56, go_sem]) rfl ⟨q3, c3, rfl, HQ.out.1, HQ.out.2.1, ?_⟩
  have s4 : Sat W0 w3 (bytes true q3 (hkdf wide (hmac wide salt key) info n) :: ledO p (noteN rs (evK wide) (evS wide) (keyN wide sn + kn / bsz wide + endN wide kn + expN wide (hsz wide) ni n)) :: bytes mk kp key :: bytes ms sp salt :: bytes mi ip info :: L) := by
    have s5 := HQ.out.2.2
    exact (by (repeat (first | with_reducible apply Sat.sub (s5) | with_reducible apply Sat.alloc' | with_reducible apply Sat.drew | with_reducible apply Sat.drewN)); (repeat (first | with_reducible exact Fr.done | with_reducible exact Fr.nil | (with_reducible apply Fr.cons; (focus ((repeat (first | with_reducible exact Take.here | with_reducible apply Take.there)); done))) | with_reducible apply Fr.skip)); done)
  exact s4
/-- What Expand refuses. -/
theorem hkExpandBad {W0 w : World} {L : List Assn} (wide : Bool) (z r : Int) (hr : r = if z < 0 then 2 else if 255 * (hsz wide : Int) < z then 9 else 0) (hr0 : ¬ r = 0) (p v u : Value) (hs : Sat W0 w L) :
    Calls Try.prog 55 #[p, .int .u8 (algN wide), v, u, .int .i64 z] w fun e w' => e = .returned (.tuple #[.slice none 0 0, .int .i64 r]) ∧ Sat W0 w' L := by
  have HR := Lib.hid hr; clear hr
  have s0 := hs.alloc #[.int .i64 z] 3
  have n0 := s0.at 0 rfl
  have z0 := s0.lt (by simp)
  go_enter Try.func55, Try.ntmps55
  go_wp2_with fail
  refine (hkMay wide z r HR.out s0).mono ?_
  rintro e w1 ⟨rfl, s1⟩
  go_wp2
  refine bodyPost_ret (v := .tuple #[.slice none 0 0, .int .i64 r]) (by simp [results, Try.results55, go_sem]) rfl ⟨rfl, s1.tail⟩
theorem hkKeyNone {W0 w : World} {L : List Assn} (a : Int) (h1 : ¬ a = 1) (h2 : ¬ a = 2) (p v u x y : Value) (hs : Sat W0 w L) :
    Calls Try.prog 56 #[p, .int .u8 a, v, u, x, y] w fun e w' => e = .returned (.tuple #[.slice none 0 0, .int .i64 4]) ∧ Sat W0 w' L := by
  go_enter Try.func56, Try.ntmps56
  go_wp2_with fail
  refine (hkMayNone a h1 h2 y hs).mono ?_
  rintro e w1 ⟨rfl, s1⟩
  go_wp2
  refine bodyPost_ret (v := .tuple #[.slice none 0 0, .int .i64 4]) (by simp [results, Try.results56, go_sem]) rfl ⟨rfl, s1⟩
/-! ### The helpers of layer 15's statements -/
theorem alg15 (w : World) (wide : Bool) : Calls Try.prog 51 #[.bool wide] w fun e w' => e = .returned (.tuple #[.int .u8 (algN wide), .int .i64 (hsz wide : Int)]) ∧ w = w' := by
  cases wide
  · go_enter Try.func51, Try.ntmps51
    go_wp2
    go_ret2
    exact ⟨rfl, rfl⟩
  · go_enter Try.func51, Try.ntmps51
    go_wp2
    go_ret2
    exact ⟨rfl, rfl⟩
set_option maxRecDepth 100000 in
set_option maxHeartbeats 4000000 in
theorem unhex15 {W0 w : World} {L : List Assn} (s : ByteArray) (hs1 : s.size ≤ 1000000) (hs : Sat W0 w L) :
    Calls Try.prog 82 #[.string s] w fun e w' => ∃ p c, e = .returned (.slice p (s.size / 2) c) ∧ Sat W0 w' (row p c 1 (s.size / 2) (u8s (unhexL s.data.toList)) :: L) := by
  obtain ⟨i3, hi3, hz3, hs3, hb3⟩ := info_parts Try.info_u8
  go_enter Try.func82, Try.ntmps82
  go_wp2
  go_loopw [3, 4] (fun t3 t4 wr => ∃ (j : Nat) (p : Option Addr) (c : Nat), 2 * j ≤ s.size ∧ t4 = .int .i64 (2 * (j : Int)) ∧ t3 = .slice p j c ∧ Sat W0 wr (row p c 1 j (u8s (unhexL (s.data.toList.take (2 * j)))) :: L)) (fun _ t4 _ => s.size - (intOf t4).toNat)
  case atStart => exact ⟨0, none, 0, by omega, rfl, rfl, by simpa [unhexL, u8s] using hs.rowNil 1⟩
  case round =>
    obtain ⟨j, p, c, hj, rfl, rfl, sr⟩ := hrel
    by_cases hlt : 2 * j + 1 < s.size
    · obtain ⟨x, hx⟩ : ∃ x, x = s[2 * j]'(by omega) := ⟨_, rfl⟩
      obtain ⟨y, hy⟩ : ∃ y, y = s[2 * j + 1] := ⟨_, rfl⟩
      obtain ⟨hb1, hb1'⟩ := hexd_bd x
      obtain ⟨hb2, hb2'⟩ := hexd_bd y
      have HG := Lib.hid (And.intro hx hy); clear hx hy
      have hd0 : decide (2 * (j : Int) + 1 < (s.size : Int)) = true := by simp; omega
      have hd1 : 2 * (j : Int) + 1 < (s.size : Int) := by omega
      obtain ⟨wo, rfl⟩ : ∃ wo : World, wo = wr := ⟨_, rfl⟩
      go_wp2
      go_loopw [5, 6] (fun t5 t6 wr => ∃ q : Nat, q ≤ 2 ∧ t6 = .int .i64 (2 * (j : Int) + (q : Int)) ∧ t5 = .int .i64 (hexn x y q) ∧ wr = wo) (fun _ t6 _ => 2 * j + 2 - (intOf t6).toNat)
      case atStart => exact ⟨0, by omega, rfl, rfl, rfl⟩
      case round =>
        obtain ⟨q, hq, rfl, rfl, rfl⟩ := hrel
        have hcases : q = 0 ∨ q = 1 ∨ q = 2 := by omega
        rcases hcases with rfl | rfl | rfl
        · have e0 : hexn x y 0 = 0 := rfl
          have ex : s[2 * j]'(by omega) = x := HG.out.1.symm
          have hxb := x.toNat_lt
          rw [e0]
          clear e0
          by_cases hd : 97 ≤ (x.toNat : Int)
          · go_wp2
            go_roundw
            case rel => exact ⟨1, by omega, by go_num, by rw [show hexn x y 1 = hexd x from rfl, show hexd x = (x.toNat : Int) - 97 + 10 from if_pos (by omega)], by trivial⟩
            case measure => simp [intOf]; omega
          · go_wp2
            go_roundw
            case rel => exact ⟨1, by omega, by go_num, by rw [show hexn x y 1 = hexd x from rfl, show hexd x = (x.toNat : Int) - 48 from if_neg (by omega)], by trivial⟩
            case measure => simp [intOf]; omega
        · have e0 : hexn x y 1 = hexd x := rfl
          have ex : s[2 * j + 1] = y := HG.out.2.symm
          have hxb := y.toNat_lt
          rw [e0]
          clear e0
          by_cases hd : 97 ≤ (y.toNat : Int)
          · go_wp2
            go_roundw
            case rel => exact ⟨2, by omega, by go_num, by rw [show hexn x y 2 = 16 * hexd x + hexd y from rfl, show hexd y = (y.toNat : Int) - 97 + 10 from if_pos (by omega)], by trivial⟩
            case measure => simp [intOf]; omega
          · go_wp2
            go_roundw
            case rel => exact ⟨2, by omega, by go_num, by rw [show hexn x y 2 = 16 * hexd x + hexd y from rfl, show hexd y = (y.toNat : Int) - 48 from if_neg (by omega)], by trivial⟩
            case measure => simp [intOf]; omega
        · have e0 : hexn x y 2 = 16 * hexd x + hexd y := rfl
          rw [e0]
          clear e0
          go_wp2_with (refine wpl_append rfl (.tmp 41) (.tmp 44) 39 rfl Try.underlying39 hi3 hz3 hs3 hb3 rfl (by decide) (sr.alloc' _) rfl (some _) 1 1 rfl [.int .u8 ((16 * hexd x + hexd y) % 256)] rfl ((sr.alloc #[.int .u8 ((16 * hexd x + hexd y) % 256)] 5).news) (fun h => by cases h) (by simp [Value.oneCell']) (by unfold maxLen; omega) (by omega) ?_; intro p2 c2 w2 s2 _ _)
          go_roundw
          case rel =>
            refine ⟨j + 1, p2, c2, by omega, by go_num, rfl, ?_⟩
            rw [unhexL_snoc s.data.toList j (by simpa using hlt)]
            have ex : s.data.toList[2 * j]'(by simp; omega) = x := HG.out.1.symm
            have ey : s.data.toList[2 * j + 1]'(by simpa using hlt) = y := HG.out.2.symm
            rw [ex, ey, u8s_append]
            rw [mod_u8_v8] at s2
            exact s2
          case measure => simp [intOf]; omega
    · have hj2 : j = s.size / 2 := by omega
      have hl : s.data.toList.length = s.size := by simp
      have hu := unhexL_take s.data.toList
      rw [hl, ← hj2] at hu
      rw [hu] at sr
      have HU := Lib.hid hj2; clear hl hu hj2
      go_wp2
      go_ret
      refine ⟨p, c, by rw [← HU.out]; rfl, ?_⟩
      rw [← HU.out]
      exact sr
theorem unhexT {W0 w : World} {L : List Assn} (hex : List UInt8) (bs : List Byte) (n : Nat) (h1 : hex.length = 2 * n) (h2 : n ≤ 500000) (he : unhexL hex = bs) (hs : Sat W0 w L) :
    Calls Try.prog 82 #[.string ⟨hex.toArray⟩] w fun e w' => ∃ p c, e = .returned (.slice p n c) ∧ n ≤ c ∧ Sat W0 w' (bytes true p bs :: L) := by
  have hz : (⟨hex.toArray⟩ : ByteArray).size = 2 * n := h1
  refine (unhex15 ⟨hex.toArray⟩ (by rw [hz]; omega) hs).mono ?_
  rintro e w' ⟨p, c, rfl, s⟩
  have hn : (⟨hex.toArray⟩ : ByteArray).size / 2 = n := by rw [hz]; omega
  rw [hn] at s ⊢
  have e1 : (⟨hex.toArray⟩ : ByteArray).data.toList = hex := rfl
  rw [e1, he] at s
  obtain ⟨_, h3, _, s1⟩ := rowBytes s
  exact ⟨p, c, rfl, h3, s1⟩
set_option maxRecDepth 100000 in
set_option maxHeartbeats 1000000 in
theorem fill15 {W0 w : World} {L : List Assn} (b : Byte) (n : Nat) (hn : n ≤ 100000000000000) (hs : Sat W0 w L) :
    Calls Try.prog 61 #[.int .i64 (n : Int), .int .u8 (v8 b)] w fun e w' => ∃ p c, e = .returned (.slice p n c) ∧ n ≤ c ∧ c ≤ maxLen ∧ Sat W0 w' (bytes true p (List.replicate n b) :: L) := by
  obtain ⟨i3, hi3, hz3, hs3, hb3⟩ := info_parts Try.info_u8
  obtain ⟨z, hz⟩ : ∃ z, z = v8 b := ⟨_, rfl⟩
  rw [← hz]
  have HZ := Lib.hid hz; clear hz
  go_enter Try.func61, Try.ntmps61
  go_wp2
  go_loopw [5, 6] (fun t5 t6 wr => ∃ (j : Nat) (p : Option Addr) (c : Nat), j ≤ n ∧ t6 = .int .i64 (j : Int) ∧ t5 = .slice p j c ∧ Sat W0 wr (row p c 1 j (u8s (List.replicate j b)) :: L)) (fun _ t6 _ => n - (intOf t6).toNat)
  case atStart => exact ⟨0, none, 0, by omega, rfl, rfl, hs.rowNil 1⟩
  case round =>
    clear hs
    obtain ⟨j, p, c, hj, rfl, rfl, s⟩ := hrel
    by_cases hlt : j < n
    · have s1 := s.alloc #[.int .u8 z] 5
      have s2 : Sat W0 _ (row p c 1 j (u8s (List.replicate j b)) :: bytes true (some ⟨wr.heap.size, 0, none⟩) [b] :: L) := (bytesOf (bs := [b]) (by rw [show u8s [b] = [.int .u8 z] by simp only [u8s, List.map_cons, List.map_nil, HZ.out]]; exact s1)).pull 1
      go_wp2_with (at_builtin; refine wpl_app8 rfl (.tmp 12) (.tmp 14) rfl rfl rfl s2 rfl (by omega) ?_; intro p9 c9 w9 s3)
      go_roundw
      case rel => exact ⟨j + 1, p9, c9, by omega, by go_num, rfl, by rw [List.replicate_succ']; exact s3.drop 1⟩
      case measure => simp [intOf]; omega
    · obtain rfl : j = n := by omega
      obtain ⟨-, h1, h2, s1⟩ := rowBytes s
      have HS := Lib.hid (And.intro h1 (And.intro h2 s1)); clear h1 h2 s1 s
      go_wp2
      go_ret
      exact ⟨p, c, rfl, HS.out⟩
set_option maxRecDepth 100000 in
set_option maxHeartbeats 1000000 in
theorem rows15 {W0 w : World} {L : List Assn} (b : Byte) (n : Nat) (hn : n ≤ 100000000000000) (hs : Sat W0 w L) :
    Calls Try.prog 62 #[.int .u8 (v8 b), .int .i64 (n : Int)] w fun e w' => ∃ p c, e = .returned (.slice p n c) ∧ n ≤ c ∧ c ≤ maxLen ∧ Sat W0 w' (bytes true p (risen b n) :: L) := by
  obtain ⟨z, hz⟩ : ∃ z, z = v8 b := ⟨_, rfl⟩
  rw [← hz]
  have hzb := v8_bd b
  rw [← hz] at hzb
  have HZ := Lib.hid (And.intro hz hzb); clear hz hzb
  go_enter Try.func62, Try.ntmps62
  go_wp2
  go_loopw [5, 6] (fun t5 t6 wr => ∃ (j : Nat) (p : Option Addr) (c : Nat), j ≤ n ∧ t6 = .int .i64 (j : Int) ∧ t5 = .slice p j c ∧ Sat W0 wr (row p c 1 j (u8s (risen b j)) :: L)) (fun _ t6 _ => n - (intOf t6).toNat)
  case atStart => exact ⟨0, none, 0, by omega, rfl, rfl, hs.rowNil 1⟩
  case round =>
    clear hs
    obtain ⟨j, p, c, hj, rfl, rfl, s⟩ := hrel
    by_cases hlt : j < n
    · obtain ⟨x, hx⟩ : ∃ x, x = b + BitVec.ofNat 8 j := ⟨_, rfl⟩
      have e1 : (z + (j : Int)) % 256 = v8 x := by
        rw [hx, HZ.out.1]; unfold v8; rw [BitVec.toNat_add, BitVec.toNat_ofNat]; omega
      have HX := Lib.hid hx; clear hx
      have s1 := s.alloc #[.int .u8 (v8 x)] 5
      have s2 : Sat W0 _ (row p c 1 j (u8s (risen b j)) :: bytes true (some ⟨wr.heap.size, 0, none⟩) [x] :: L) := (bytesOf (bs := [x]) s1).pull 1
      go_wp2_with (at_builtin; refine wpl_app8 rfl (.tmp 12) (.tmp 17) rfl rfl rfl s2 rfl (by omega) ?_; intro p9 c9 w9 s3)
      go_roundw
      case rel => exact ⟨j + 1, p9, c9, by omega, by go_num, rfl, by rw [risen_snoc, ← HX.out]; exact s3.drop 1⟩
      case measure => simp [intOf]; omega
    · obtain rfl : j = n := by omega
      obtain ⟨-, h1, h2, s1⟩ := rowBytes s
      have HS := Lib.hid (And.intro h1 (And.intro h2 s1)); clear h1 h2 s1 s
      go_wp2
      go_ret
      exact ⟨p, c, rfl, HS.out⟩
end Go.Proofs.Ytmohabidfalhoaa
