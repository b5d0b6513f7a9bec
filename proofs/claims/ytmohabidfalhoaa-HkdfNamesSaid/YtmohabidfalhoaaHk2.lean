/- Layer 15's program: the iterator over T(1), T(2) and so on, and Expand; under the conditions that each names. -/
import Derived.Test.YtmohabidfalhoaaHk
namespace Go.Sep
open Go.RowKit
set_option linter.unusedVariables false
theorem wplIn_append {F : Fence} {n0 : Nat} {P : Program} {W0 w : World} {L : List Assn} {ops : Array Oper} {rest : List Oper} {o : Oper} {a : Act} {Q : Exit → Act → World → Prop} (hgd : o.guard = none) (s x : Operand) (t : TypeId) (ho : o.op = .call { callee := .builtin .append, args := #[s, x], argTypes := #[t, t] }) {e : TypeId} {i : TypeInfo} {z : Value} {size bytes : Nat}
    (ht : P.underlying t = some (.slice e)) (hi : P.info? e = some i) (hz : i.zero = some z) (hsize : i.size = size) (hby : i.bytes = bytes) (hzs : z.cells.size = size) (hsz : 0 < size)
    {p : Option Addr} {cp n : Nat} {xs : List Value} (hs : Sat W0 w (row p cp size n xs :: L)) (hv : a.eval s = .slice p n cp) (sp : Option Addr) (m c : Nat) (hx : a.eval x = .slice sp m c) (news : List Value) (hl : news.length = m * size)
    (hnews : ∀ j u, news[j]? = some u → ∃ ad, sp = some ad ∧ w.cell? (ad.add j) = some u) (hnil : sp = none → m = 0) (h1 : ∀ u ∈ news, u.oneCell' = true) (h63 : n + m ≤ maxLen) (hbytes : (n + m) * bytes ≤ 140737488355328)
    (h : ∀ p' c' w', Sat W0 w' (row p' c' size (n + m) (xs ++ news) :: L) → wpListIn F n0 P ops Q rest (a.put o.dst (.slice p' (n + m) c')) w') : wpListIn F n0 P ops Q (o :: rest) a w := by
  refine wpListIn_plain hgd fun K hK => ?_
  obtain ⟨p', c', w', hr, h2, h3, h4⟩ := run_append_row (P := P) t o.type e ht hi hz hsize hby hzs hsz hs sp m c news hl hnews hnil h1 h63 hbytes
  unfold Oper.wpIn
  refine ⟨?_, ?_⟩
  · simp [Oper.about, ho, resolve, Target.leads, Sem.run_pure]
  · rw [Oper.semAt_plain F _ _ (by rw [ho]; intro c hc'; cases hc')]
    simp only [execOp, ho, resolve, invoke, builtin, Sem.run_bind, Sem.run_pure, Result.andThen_ok, List.map_toArray, List.map_cons, List.map_nil, hv, hx, hr]
    exact hK _ _ (h p' c' w' h2)
end Go.Sep
namespace Go.Proofs.Ytmohabidfalhoaa
open Go.RowKit Go.Sep Go.Bv Go.Sha
set_option linter.unusedVariables false
set_option linter.unusedSimpArgs false
attribute [local go_sem] Oper.semAt_some
theorem wplIn_app8 {F : Fence} {n0 : Nat} {W0 w : World} {L : List Assn} {ops : Array Oper} {rest : List Oper} {o : Oper} {a : Act} {Q : Exit → Act → World → Prop} (hgd : o.guard = none) (s x : Operand) (ho : o.op = .call { callee := .builtin .append, args := #[s, x], argTypes := #[39, 39] })
    {p : Option Addr} {cp n : Nat} {xs : List Byte} {m : Bool} {q : Option Addr} {k cq : Nat} {ys : List Byte} (hv : a.eval s = .slice p n cp) (hx : a.eval x = .slice q k cq)
    (hs : Sat W0 w (row p cp 1 n (u8s xs) :: bytes m q ys :: L)) (hk : ys.length = k) (hb : n + k ≤ 140737488355328)
    (h : ∀ p' c' w', Sat W0 w' (row p' c' 1 (n + k) (u8s (xs ++ ys)) :: bytes m q ys :: L) → wpListIn F n0 Try.prog ops Q rest (a.put o.dst (.slice p' (n + k) c')) w') : wpListIn F n0 Try.prog ops Q (o :: rest) a w := by
  obtain ⟨i3, hi3, hz3, hs3, hb3⟩ := info_parts Try.info_u8
  have hB : Sat W0 w (bytes m q ys :: row p cp 1 n (u8s xs) :: L) := hs.pull 1
  refine wplIn_append hgd s x 39 ho Try.underlying39 hi3 hz3 hs3 hb3 rfl (by decide) hs hv q k cq hx (u8s ys) (by rw [u8s_len, hk, Nat.mul_one]) (bytesNews hB) (bytesNone0 hB hk) (u8s_one _) (by unfold maxLen; omega) (by omega) ?_
  intro p' c' w' h1
  rw [← u8s_append] at h1
  exact h p' c' w' h1
theorem hmacSumC {W0 w : World} {L : List Assn} {c : Nat} {pv : Value} (wide : Bool) (p : Option Nat) (rs : List Run3) (key msg k : List Byte) (hk : k = blockKey wide key) (hp : pv = ptrO p) (hb : tot rs + msg.length + 2000 ≤ 2305843009213693952) (hl : rs.length + 4 ≤ 1048576)
    (hs : Sat W0 w (ledO p rs :: mac wide c k msg :: L)) :
    Calls Try.prog 49 #[.pointer (some ⟨c, 0, none⟩), pv] w fun e w' => ∃ q cq, e = .returned (.tuple #[.slice q (hsz wide) cq, .int .i64 0]) ∧ hsz wide ≤ cq ∧ cq ≤ maxLen ∧ Sat W0 w' (bytes true q (hmac wide key msg) :: ledO p (noteN rs (evK wide) (evS wide) (endN wide msg.length)) :: mac wide c k msg :: L) := by
  subst hk hp
  refine (hmacSum wide p rs key msg hb hl hs).mono ?_
  rintro e w' ⟨q, cq, rfl, s⟩
  obtain ⟨_, h1, h2, s1⟩ := rowBytes s
  exact ⟨q, cq, rfl, h1, h2, s1⟩
/-- The message of the i-th step. -/
def hkMsg (wide : Bool) (prk info : List Byte) : Nat → List Byte
  | 0 => []
  | i + 1 => hkT wide prk info i ++ info ++ [BitVec.ofNat 8 (i + 1)]
/-- What the iterator holds behind i steps. -/
abbrev hkOwn (wide : Bool) (p : Option Nat) (rs : List Run3) (prk info k : List Byte) (c bl bm bi : Nat) (mi : Bool) (ip : Option Addr) (ni ic : Nat) (i : Nat) (L : List Assn) : List Assn :=
  ledO p (noteN rs (evK wide) (evS wide) (hkCnt wide ni i)) :: mac wide c k (hkMsg wide prk info i) :: seg true bm 0 [.pointer (some ⟨c, 0, none⟩)] :: seg true bl 0 [ptrO p] :: seg true bi 0 [.slice ip ni ic] :: bytes mi ip info :: L
set_option maxRecDepth 100000 in
set_option maxHeartbeats 1000000 in
theorem hkIter {W0 W : World} (wide : Bool) (p : Option Nat) (rs : List Run3) (prk info k : List Byte) (hk : k = blockKey wide prk) {c bl bm bi : Nat} {mi : Bool} {ip : Option Addr} {ni ic : Nat} (hni : info.length = ni) (hic : ni ≤ ic) (hicm : ic ≤ maxLen)
    (N : Nat) (hN : 1 ≤ N) (hN2 : N ≤ 255) (hb : tot rs + 1000 * ni + 1000000 ≤ 2305843009213693952) (hl : rs.length + 8 ≤ 1048576) (J : Nat → List Assn) (E : World → Prop) (l m : Nat)
    (hY : ∀ i q cq W1, i < N → hsz wide ≤ cq → cq ≤ maxLen → Sat W0 W1 (bytes true q (hkT wide prk info (i + 1)) :: hkOwn wide p rs prk info k c bl bm bi mi ip ni ic (i + 1) (J i)) → YieldAt Fence.wide m Try.prog l #[.slice q (hsz wide) cq] W1 fun e W' =>
      (e = .returned (.bool true) ∧ i + 1 < N ∧ Sat W0 W' (bytes true q (hkT wide prk info (i + 1)) :: hkOwn wide p rs prk info k c bl bm bi mi ip ni ic (i + 1) (J (i + 1)))) ∨ (e = .returned (.bool false) ∧ E W'))
    (hs : Sat W0 W (hkOwn wide p rs prk info k c bl bm bi mi ip ni ic 0 (J 0))) :
    CallsIn Fence.wide (m + 1) Try.prog 101 #[.func (.yield l) #[] #[], .pointer (some ⟨bm, 0, none⟩), .pointer (some ⟨bl, 0, none⟩), .pointer (some ⟨bi, 0, none⟩)] W fun e W' => (∃ v, e = .returned v) ∧ E W' := by
  have hh := hsz_le wide
  have hh2 := bsz_le wide
  have HB := Lib.hid (And.intro hk (And.intro hni (And.intro hicm (And.intro hb (And.intro hl (And.intro hh hh2)))))); clear hk hni hicm hb hl hh hh2
  have HY := Lib.hid hY; clear hY
  refine callsIn_of_wp Try.func101 rfl trivial ?_ rfl
  simp only [Try.ntmps101, List.size_toArray, List.length_cons, List.length_nil, Nat.reduceAdd, Nat.reduceSub, Array.replicate_succ, Array.replicate_zero, List.push_toArray, List.append_toArray, List.nil_append, List.cons_append]
  gi_wp2
  gi_loopw [5, 6] (fun t5 t6 wr => ∃ (i : Nat) (tp : Option Addr) (tn tc : Nat), i < N ∧ t6 = .int .u8 ((i + 1 : Nat) : Int) ∧ t5 = .slice tp tn tc ∧ (hkT wide prk info i).length = tn ∧ tn ≤ tc ∧ tc ≤ maxLen ∧ Sat W0 wr (bytes true tp (hkT wide prk info i) :: hkOwn wide p rs prk info k c bl bm bi mi ip ni ic i (J i))) (fun _ t6 _ => 256 - (intOf t6).toNat)
  case atStart => exact ⟨0, none, 0, 0, by omega, rfl, rfl, rfl, Nat.le_refl _, Nat.zero_le _, bytesNil true none hs⟩
  case round =>
    clear hs
    obtain ⟨i, tp, tn, tc, hi, rfl, rfl, htl, htc, htm, s⟩ := hrel
    have HT := Lib.hid (And.intro htl htm); clear htl htm
    simp only [hkOwn] at s
    have hC : ∀ wx, Sat W0 wx (seg true bm 0 [.pointer (some ⟨c, 0, none⟩)] :: seg true bl 0 [ptrO p] :: seg true bi 0 [.slice ip ni ic] :: []) → wx.cell? ⟨bm, 0, none⟩ = some (.pointer (some ⟨c, 0, none⟩)) ∧ wx.cell? ⟨bl, 0, none⟩ = some (ptrO p) ∧ wx.cell? ⟨bi, 0, none⟩ = some (.slice ip ni ic) := fun wx h => ⟨h.at 0 rfl, (h.pull 1 : Sat W0 wx (seg true bl 0 [ptrO p] :: _)).at 0 rfl, (h.pull 2 : Sat W0 wx (seg true bi 0 [.slice ip ni ic] :: _)).at 0 rfl⟩
    have HC := Lib.hid hC; clear hC
    obtain ⟨R, hR⟩ : ∃ R, R = noteN rs (evK wide) (evS wide) (hkCnt wide ni i) := ⟨_, rfl⟩
    obtain ⟨T, hT⟩ : ∃ T, T = hkT wide prk info i := ⟨_, rfl⟩
    have hTl : T.length = tn := by rw [hT]; exact HT.out.1
    have htn : tn ≤ 128 := by
      have := HT.out.1
      rw [hkT_len] at this
      have h1 := HB.out.2.2.2.2.2.1
      have h2 := HB.out.2.2.2.2.2.2
      split at this <;> omega
    have hcnt : hkCnt wide ni i ≤ i * (ni + 600) := by
      have hst : ∀ t, t ≤ 128 → hkStep wide t ni ≤ ni + 600 := by
        intro t ht
        unfold hkStep endN
        cases wide <;> simp only [padN, bsz, roomN] <;> omega
      have h1 := HB.out.2.2.2.2.2.1
      have h2 := HB.out.2.2.2.2.2.2
      clear hT hR hi htn hTl HT s
      induction i with
      | zero => simp [hkCnt]
      | succ i ih =>
        rw [hkCnt, Nat.succ_mul]
        have := hst (if i = 0 then 0 else hsz wide) (by split <;> omega)
        omega
    have hRt : tot R + 3 * ni + 3000 ≤ 2305843009213693952 := by
      rw [hR, tot_noteN]
      have := HB.out.2.2.2.1
      have h3 : i * (ni + 600) ≤ 255 * (ni + 600) := Nat.mul_le_mul_right _ (by omega)
      omega
    have hRl : R.length + 7 ≤ 1048576 := by rw [hR]; have := noteN_len rs (evK wide) (evS wide) (hkCnt wide ni i); have := HB.out.2.2.2.2.1; omega
    rw [← hR, ← hT] at s
    have hv : v8 (BitVec.ofNat 8 (i + 1)) = ((i + 1 : Nat) : Int) := by
      unfold v8; rw [BitVec.toNat_ofNat, Nat.mod_eq_of_lt (by omega)]
    have HR := Lib.hid (And.intro hR (And.intro hT (And.intro hTl (And.intro hRt (And.intro hRl hv))))); clear hR hT hTl hRt hRl hcnt hv
    obtain ⟨m0, l0, i0⟩ := HC.out _ (Sat.sub (s) (by (repeat (first | with_reducible exact Fr.done | with_reducible exact Fr.nil | (with_reducible apply Fr.cons; (focus ((repeat (first | with_reducible exact Take.here | with_reducible apply Take.there)); done))) | with_reducible apply Fr.skip))))
    gi_wp2_with fail
    refine ⟨trivial, callsIn_wide.2 ?_⟩
    refine (hmacReset wide (c := c) k (hkMsg wide prk info i) (by (repeat (first | with_reducible apply Sat.sub (s) | with_reducible apply Sat.alloc' | with_reducible apply Sat.drew | with_reducible apply Sat.drewN)); (repeat (first | with_reducible exact Fr.done | with_reducible exact Fr.nil | (with_reducible apply Fr.cons; (focus ((repeat (first | with_reducible exact Take.here | with_reducible apply Take.there)); done))) | with_reducible apply Fr.skip)); done)).mono ?_
    rintro e w1 ⟨rfl, s1⟩
    clear s m0 l0 i0
    obtain ⟨m0, l0, i0⟩ := HC.out _ (Sat.sub (s1) (by (repeat (first | with_reducible exact Fr.done | with_reducible exact Fr.nil | (with_reducible apply Fr.cons; (focus ((repeat (first | with_reducible exact Take.here | with_reducible apply Take.there)); done))) | with_reducible apply Fr.skip))))
    gi_wp2_with fail
    refine ⟨trivial, callsIn_wide.2 ?_⟩
    refine (hmacWriteF (c := c) wide p R k [] T HR.out.2.2.1 rfl htc HT.out.2 (by have := HR.out.2.2.2.1; simp only [List.length_nil]; omega) (by have := HR.out.2.2.2.2.1; omega) (by (repeat (first | with_reducible apply Sat.sub (s1) | with_reducible apply Sat.alloc' | with_reducible apply Sat.drew | with_reducible apply Sat.drewN)); (repeat (first | with_reducible exact Fr.done | with_reducible exact Fr.nil | (with_reducible apply Fr.cons; (focus ((repeat (first | with_reducible exact Take.here | with_reducible apply Take.there)); done))) | with_reducible apply Fr.skip)); done)).mono ?_
    rintro e w2 ⟨rfl, s2⟩
    clear s1 m0 l0 i0
    simp only [List.nil_append, List.length_nil, Nat.zero_add, Nat.zero_div, Nat.sub_zero] at s2
    obtain ⟨m0, l0, i0⟩ := HC.out _ (Sat.sub (s2) (by (repeat (first | with_reducible exact Fr.done | with_reducible exact Fr.nil | (with_reducible apply Fr.cons; (focus ((repeat (first | with_reducible exact Take.here | with_reducible apply Take.there)); done))) | with_reducible apply Fr.skip))))
    gi_wp2_with fail
    refine ⟨trivial, callsIn_wide.2 ?_⟩
    refine (hmacWriteF (c := c) wide p (noteN R (evK wide) (evS wide) (tn / bsz wide)) k T info HB.out.2.1 rfl hic HB.out.2.2.1 (by rw [tot_noteN, HR.out.2.2.1]; have := HR.out.2.2.2.1; have := Nat.div_le_self tn (bsz wide); omega) (by have := noteN_len R (evK wide) (evS wide) (tn / bsz wide); have := HR.out.2.2.2.2.1; omega) (by (repeat (first | with_reducible apply Sat.sub (s2) | with_reducible apply Sat.alloc' | with_reducible apply Sat.drew | with_reducible apply Sat.drewN)); (repeat (first | with_reducible exact Fr.done | with_reducible exact Fr.nil | (with_reducible apply Fr.cons; (focus ((repeat (first | with_reducible exact Take.here | with_reducible apply Take.there)); done))) | with_reducible apply Fr.skip)); done)).mono ?_
    rintro e w3 ⟨rfl, s3⟩
    clear s2 m0 l0 i0
    rw [HR.out.2.2.1, noteN_add] at s3
    obtain ⟨m0, l0, i0⟩ := HC.out _ (Sat.sub (s3) (by (repeat (first | with_reducible exact Fr.done | with_reducible exact Fr.nil | (with_reducible apply Fr.cons; (focus ((repeat (first | with_reducible exact Take.here | with_reducible apply Take.there)); done))) | with_reducible apply Fr.skip))))
    have s4 := s3.alloc #[.int .u8 ((i + 1 : Nat) : Int)] 5
    rw [show (#[Value.int .u8 ((i + 1 : Nat) : Int)] : Array Value).toList = u8s [BitVec.ofNat 8 (i + 1)] by simp only [u8s, List.map_cons, List.map_nil, HR.out.2.2.2.2.2]] at s4
    gi_wp2_with fail
    refine ⟨trivial, callsIn_wide.2 ?_⟩
    have hcc : tn / bsz wide + ((tn + ni) / bsz wide - tn / bsz wide) = (tn + ni) / bsz wide := Nat.add_sub_cancel' (Nat.div_le_div_right (by omega))
    rw [hcc] at s4
    refine (hmacWriteF (c := c) (n := 1) (cap := 1) wide p (noteN R (evK wide) (evS wide) ((tn + ni) / bsz wide)) k (T ++ info) [BitVec.ofNat 8 (i + 1)] rfl rfl (by decide) (by decide) (by rw [tot_noteN, List.length_append, HR.out.2.2.1, HB.out.2.1]; have := HR.out.2.2.2.1; have := Nat.div_le_self (tn + ni) (bsz wide); omega) (by have := noteN_len R (evK wide) (evS wide) ((tn + ni) / bsz wide); have := HR.out.2.2.2.2.1; omega) (Sat.sub (bytesOf s4) (by (repeat (first | with_reducible exact Fr.done | with_reducible exact Fr.nil | (with_reducible apply Fr.cons; (focus ((repeat (first | with_reducible exact Take.here | with_reducible apply Take.there)); done))) | with_reducible apply Fr.skip))))).mono ?_
    rintro e w4 ⟨rfl, s5⟩
    clear s3 s4 m0 l0 i0
    rw [List.length_append, HR.out.2.2.1, HB.out.2.1, noteN_add, Nat.add_sub_cancel' (Nat.div_le_div_right (by omega))] at s5
    obtain ⟨m0, l0, i0⟩ := HC.out _ (Sat.sub (s5) (by (repeat (first | with_reducible exact Fr.done | with_reducible exact Fr.nil | (with_reducible apply Fr.cons; (focus ((repeat (first | with_reducible exact Take.here | with_reducible apply Take.there)); done))) | with_reducible apply Fr.skip))))
    have hm : T ++ info ++ [BitVec.ofNat 8 (i + 1)] = hkMsg wide prk info (i + 1) := by rw [HR.out.2.1]; rfl
    rw [hm] at s5
    have hml : (hkMsg wide prk info (i + 1)).length = tn + ni + 1 := by rw [← hm]; simp [HR.out.2.2.1, HB.out.2.1]; omega
    have HM := Lib.hid hml; clear hm hml hcc
    gi_wp2_with fail
    refine ⟨trivial, callsIn_wide.2 ?_⟩
    refine (hmacSumC (c := c) wide p (noteN R (evK wide) (evS wide) ((tn + ni + 1) / bsz wide)) prk (hkMsg wide prk info (i + 1)) k HB.out.1 rfl (by rw [tot_noteN, HM.out]; have := HR.out.2.2.2.1; have := Nat.div_le_self (tn + ni + 1) (bsz wide); omega) (by have := noteN_len R (evK wide) (evS wide) ((tn + ni + 1) / bsz wide); have := HR.out.2.2.2.2.1; omega) (by (repeat (first | with_reducible apply Sat.sub (s5) | with_reducible apply Sat.alloc' | with_reducible apply Sat.drew | with_reducible apply Sat.drewN)); (repeat (first | with_reducible exact Fr.done | with_reducible exact Fr.nil | (with_reducible apply Fr.cons; (focus ((repeat (first | with_reducible exact Take.here | with_reducible apply Take.there)); done))) | with_reducible apply Fr.skip)); done)).mono ?_
    rintro e w5 ⟨q, cq, rfl, hq1, hq2, s6⟩
    clear s5 m0 l0 i0
    rw [HM.out, noteN_add, HR.out.1, noteN_add] at s6
    have hct : hkCnt wide ni i + ((tn + ni + 1) / bsz wide + endN wide (tn + ni + 1)) = hkCnt wide ni (i + 1) := by
      rw [hkCnt]
      have := HT.out.1
      rw [hkT_len] at this
      rw [this]; rfl
    rw [hct, show hmac wide prk (hkMsg wide prk info (i + 1)) = hkT wide prk info (i + 1) from rfl] at s6
    clear hct
    have s7 : Sat W0 w5 (bytes true q (hkT wide prk info (i + 1)) :: ledO p (noteN rs (evK wide) (evS wide) (hkCnt wide ni (i + 1))) :: mac wide c k (hkMsg wide prk info (i + 1)) :: seg true bm 0 [.pointer (some ⟨c, 0, none⟩)] :: seg true bl 0 [ptrO p] :: seg true bi 0 [.slice ip ni ic] :: bytes mi ip info :: J i) := (by (repeat (first | with_reducible apply Sat.sub (s6) | with_reducible apply Sat.alloc' | with_reducible apply Sat.drew | with_reducible apply Sat.drewN)); (repeat (first | with_reducible exact Fr.done | with_reducible exact Fr.nil | (with_reducible apply Fr.cons; (focus ((repeat (first | with_reducible exact Take.here | with_reducible apply Take.there)); done))) | with_reducible apply Fr.skip)); done)
    obtain ⟨fn, tmps, assign, body, hy, hRd⟩ := HY.out i q cq w5 hi hq1 hq2 s7
    clear s6 s7
    gi_wp2
    refine hRd.mono ?_
    rintro e w6 (⟨rfl, hi2, s7⟩ | ⟨rfl, hE⟩)
    · gi_wp2
      go_roundw
      case rel => exact ⟨i + 1, q, hsz wide, cq, hi2, by go_num, rfl, by rw [hkT_len, if_neg (by omega)], hq1, hq2, s7⟩
      case measure => simp [intOf]; omega
    · gi_wp2
      refine bodyPost_ret (results_none rfl _ _ _) rfl ?_
      exact ⟨⟨_, rfl⟩, hE⟩
end Go.Proofs.Ytmohabidfalhoaa
