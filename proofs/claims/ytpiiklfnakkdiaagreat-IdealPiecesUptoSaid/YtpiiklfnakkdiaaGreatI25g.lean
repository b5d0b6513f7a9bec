
/- IdealPieces: however a message is cut, the tags are those of whole messages; where the arguments read as numbers and bytes. -/
import Derived.Test.YtpiiklfnakkdiaaGreatI25f
namespace Go.Proofs.YtpiiklfnakkdiaaGreat
open Go.RowKit Go.Sep Go.Bv Go.Kec Go.Aes Go.Sha
set_option linter.unusedVariables false
set_option linter.unusedSimpArgs false
theorem rowSegI {W0 w : World} {L : List Assn} {p : Option Addr} {c sz n : Nat} {vs : List Value} (h : Sat W0 w (row p c sz n vs :: L)) (hn : 0 < n) : ∃ g, p = some ⟨g, 0, none⟩ ∧ n ≤ c ∧ c ≤ 9223372036854775807 ∧ Sat W0 w (seg true g 0 vs :: L) := by
 obtain ⟨hl, ⟨rfl, rfl, h0, hx, h1⟩ | ⟨g, rest, rfl, h1, h2, h3, h4⟩⟩ := h.rowOpen
 ·omega
 ·exact ⟨g, rfl, h1, h2, (h4.part (q := 0 + vs.length) rfl).drop 1⟩
theorem flatP_takeI (ts : List Piece) (i : Nat) (hi : i < ts.length) : flatP (ts.take (i + 1)) = flatP (ts.take i) ++ ts[i].2.2 := by
 rw [List.take_succ_eq_append_getElem hi, flatP_snoc]
theorem flatP_take_lenI (ts : List Piece) (i : Nat) : (flatP (ts.take i)).length ≤ (flatP ts).length := by
 have : flatP ts = flatP (ts.take i) ++ flatP (ts.drop i) := by
  unfold flatP
  rw [← List.flatMap_append, List.take_append_drop]
 rw [this, List.length_append]; omega
@[go_sem] theorem field_ansI (c h : Int) (s : Bool) (q : Option Addr) (n k : Nat) (w : World) : Sem.run Tryz.prog (Instr.field 35 (.agg #[.int .i64 c, .int .i64 h, .bool s, .slice q n k]) 0) w = .ok (.int .i64 c) w := by kernel_rfl
theorem wf_u8I (z : Int) (h : (Lit.int .u8 z).wf = true) : 0 ≤ z ∧ z < 256 := by
 simp only [Lit.wf, Bool.and_eq_true, decide_eq_true_eq] at h
 have h1 : IntKind.u8.min = 0 := rfl
 have h2 : IntKind.u8.max = 255 := rfl
 rw [h1, h2] at h
 omega
theorem S0_heldI : (heldL 0 S0).length = 0 := by kernel_rfl
def D1 (K : List Byte) : Slots := some (.key K) :: List.replicate 63 none
theorem d1 (K : List Byte) (h : K.length ≤ 512) : iDo S0 ⟨1, 0, 0, 0, 0, K, []⟩ = (D1 K, ⟨0, 0, false, []⟩) := by
 show (if 512 < K.length then (S0, noA 7) else iTake S0 (.key K)) = _
 rw [if_neg (by omega)]
 rfl
def P2 (k : List Byte) (K : MKind) (o : Nat) (cu m : List Byte) : Slots := some (.key k) :: some (.sn K o k cu m) :: List.replicate 62 none
def P3 (k : List Byte) (K : MKind) (o : Nat) (cu m m2 : List Byte) : Slots := some (.key k) :: some (.sn K o k cu m) :: some (.sn K o k cu m2) :: List.replicate 61 none
def P4 (k : List Byte) (K : MKind) (o : Nat) (cu m m2 m3 : List Byte) : Slots := some (.key k) :: some (.sn K o k cu m) :: some (.sn K o k cu m2) :: some (.sn K o k cu m3) :: List.replicate 60 none
def Q1 (k : List Byte) (K : MKind) (o : Nat) (cu m2 m3 : List Byte) : Slots := some (.key k) :: none :: some (.sn K o k cu m2) :: some (.sn K o k cu m3) :: List.replicate 60 none
def Q2 (k : List Byte) (K : MKind) (o : Nat) (cu m3 : List Byte) : Slots := some (.key k) :: none :: none :: some (.sn K o k cu m3) :: List.replicate 60 none
theorem okCons {B : Nat} {x : Option Hold} {l : Slots} (hx : ∀ H, x = some H → H.ok B) (hl : ∀ H, some H ∈ l → H.ok B) : ∀ H, some H ∈ x :: l → H.ok B := by
 intro H h
 rcases List.mem_cons.1 h with e | e
 ·exact hx H e.symm
 ·exact hl H e
theorem okRep {B n : Nat} : ∀ H, some H ∈ (List.replicate n none : Slots) → H.ok B := fun H h => by cases List.eq_of_mem_replicate h
theorem okKey {B : Nat} {k : List Byte} (h : k.length ≤ 512) : ∀ H, some (Hold.key k) = some H → H.ok B := fun H e => by cases e; exact h
theorem okSn {B : Nat} {K : MKind} {o : Nat} {k cu m : List Byte} (hf : K.fits k cu o) (h : k.length ≤ 512) (hm : m.length ≤ B) : ∀ H, some (Hold.sn K o k cu m) = some H → H.ok B := fun H e => by cases e; exact ⟨hf, h, hm⟩
theorem P2_ok {B : Nat} {K : MKind} {o : Nat} {k cu m : List Byte} (hf : K.fits k cu o) (h : k.length ≤ 512) (hm : m.length ≤ B) : okS B (P2 k K o cu m) := ⟨rfl, okCons (okKey h) (okCons (okSn hf h hm) okRep)⟩
theorem P3_ok {B : Nat} {K : MKind} {o : Nat} {k cu m m2 : List Byte} (hf : K.fits k cu o) (h : k.length ≤ 512) (hm : m.length ≤ B) (hm2 : m2.length ≤ B) : okS B (P3 k K o cu m m2) := ⟨rfl, okCons (okKey h) (okCons (okSn hf h hm) (okCons (okSn hf h hm2) okRep))⟩
theorem P4_ok {B : Nat} {K : MKind} {o : Nat} {k cu m m2 m3 : List Byte} (hf : K.fits k cu o) (h : k.length ≤ 512) (hm : m.length ≤ B) (hm2 : m2.length ≤ B) (hm3 : m3.length ≤ B) : okS B (P4 k K o cu m m2 m3) := ⟨rfl, okCons (okKey h) (okCons (okSn hf h hm) (okCons (okSn hf h hm2) (okCons (okSn hf h hm3) okRep)))⟩
theorem Q1_ok {B : Nat} {K : MKind} {o : Nat} {k cu m2 m3 : List Byte} (hf : K.fits k cu o) (h : k.length ≤ 512) (hm2 : m2.length ≤ B) (hm3 : m3.length ≤ B) : okS B (Q1 k K o cu m2 m3) := ⟨rfl, okCons (okKey h) (okCons (fun H e => by cases e) (okCons (okSn hf h hm2) (okCons (okSn hf h hm3) okRep)))⟩
theorem Q2_ok {B : Nat} {K : MKind} {o : Nat} {k cu m3 : List Byte} (hf : K.fits k cu o) (h : k.length ≤ 512) (hm3 : m3.length ≤ B) : okS B (Q2 k K o cu m3) := ⟨rfl, okCons (okKey h) (okCons (fun H e => by cases e) (okCons (fun H e => by cases e) (okCons (okSn hf h hm3) okRep)))⟩
theorem D1_ok {B : Nat} {k : List Byte} (h : k.length ≤ 512) : okS B (D1 k) := ⟨rfl, okCons (okKey h) okRep⟩
theorem p0 (k : List Byte) (h : 512 < k.length) : iDo S0 ⟨1, 0, 0, 0, 0, k, []⟩ = (S0, ⟨7, 0, false, []⟩) := by
 show (if 512 < k.length then (S0, noA 7) else iTake S0 (.key k)) = _
 rw [if_pos h]
 rfl
theorem p0b (al : Nat) (ot : Int) (cu : List Byte) : iDo S0 ⟨2, 0, al, 0, ot, cu, []⟩ = (S0, ⟨5, 0, false, []⟩) := rfl
theorem p1 (k : List Byte) (al : Nat) (ot : Int) (cu : List Byte) (hk : k.length ≤ 512) :
  (∃ c : Int, c ≠ 0 ∧ iDo (D1 k) ⟨2, 0, al, 0, ot, cu, []⟩ = (D1 k, ⟨c, 0, false, []⟩)) ∨
  ∃ o : Nat, ot = (o : Int) ∧ (kindA al).alg = al ∧ (kindA al).fits k cu o ∧ iDo (D1 k) ⟨2, 0, al, 0, ot, cu, []⟩ = (P2 k (kindA al) o cu [], ⟨0, 1, false, []⟩) := by
 have e := begin_some (S := D1 k) (o := ⟨2, 0, al, 0, ot, cu, []⟩) (k := k) rfl
 simp only at e
 rw [show iDo (D1 k) ⟨2, 0, al, 0, ot, cu, []⟩ = iBegin (D1 k) ⟨2, 0, al, 0, ot, cu, []⟩ from rfl, e]
 by_cases c1 : al = 3 ∧ ¬ (k.length = 16 ∨ k.length = 24 ∨ k.length = 32)
 ·rw [if_pos c1]; exact .inl ⟨7, by decide, rfl⟩
 ·rw [if_neg c1]
  by_cases c2 : al < 1 ∨ 7 < al
  ·rw [if_pos c2]; exact .inl ⟨4, by decide, rfl⟩
  ·rw [if_neg c2]
   by_cases c3 : 0 < cu.length ∧ al < 4
   ·rw [if_pos c3]; exact .inl ⟨2, by decide, rfl⟩
   ·rw [if_neg c3]
    by_cases c4 : 64 < cu.length
    ·rw [if_pos c4]; exact .inl ⟨9, by decide, rfl⟩
    ·rw [if_neg c4]
     by_cases c5 : ot < 1 ∨ (mostA al : Int) < ot
     ·rw [if_pos c5]; exact .inl ⟨11, by decide, rfl⟩
     ·rw [if_neg c5]
      refine .inr ⟨ot.toNat, by omega, kindA_alg al (by omega) (by omega), kindA_fits (by omega) (by omega) (by omega) (by omega) hk (fun h3 => Classical.byContradiction fun h4 => c1 ⟨h3, h4⟩) (fun h4 => List.eq_nil_of_length_eq_zero (by omega)) (by omega), rfl⟩
theorem p2 (k : List Byte) (K : MKind) (o : Nat) (cu m d : List Byte) (h : d.length ≤ 65536) : iDo (P2 k K o cu m) ⟨3, 1, 0, 0, 0, d, []⟩ = (P2 k K o cu (m ++ d), ⟨0, 0, false, []⟩) := by
 rcases K with (wide | wide) | _ | ⟨large | large, xof | xof⟩
 all_goals
  show (if 65536 < d.length then _ else _) = _
  rw [if_neg (by omega)]
  rfl
theorem p3 (k : List Byte) (K : MKind) (o : Nat) (cu m : List Byte) : iDo (P2 k K o cu m) ⟨6, 1, 0, 0, 0, [], []⟩ = (P3 k K o cu m m, ⟨0, 2, false, []⟩) := by
 rcases K with (wide | wide) | _ | ⟨large | large, xof | xof⟩ <;> rfl
theorem p4 (k : List Byte) (K : MKind) (o : Nat) (cu m m2 d : List Byte) (h : d.length ≤ 65536) : iDo (P3 k K o cu m m2) ⟨3, 2, 0, 0, 0, d, []⟩ = (P3 k K o cu m (m2 ++ d), ⟨0, 0, false, []⟩) := by
 rcases K with (wide | wide) | _ | ⟨large | large, xof | xof⟩
 all_goals
  show (if 65536 < d.length then _ else _) = _
  rw [if_neg (by omega)]
  rfl
theorem p5 (k : List Byte) (K : MKind) (o : Nat) (cu m m2 : List Byte) : iDo (P3 k K o cu m m2) ⟨6, 2, 0, 0, 0, [], []⟩ = (P4 k K o cu m m2 m2, ⟨0, 3, false, []⟩) := by
 rcases K with (wide | wide) | _ | ⟨large | large, xof | xof⟩ <;> rfl
theorem p6 (k : List Byte) (K : MKind) (o : Nat) (cu m m2 m3 : List Byte) : iDo (P4 k K o cu m m2 m3) ⟨4, 1, 0, 0, 0, [], []⟩ = (Q1 k K o cu m2 m3, ⟨0, 0, false, K.tag k cu o m⟩) := by
 rcases K with (wide | wide) | _ | ⟨large | large, xof | xof⟩ <;> rfl
theorem p7 (k : List Byte) (K : MKind) (o : Nat) (cu m2 m3 d : List Byte) (b : Bool) (h : d.length = o) (hb : decide (K.tag k cu o m2 = d) = b) : iDo (Q1 k K o cu m2 m3) ⟨5, 2, 0, 0, 0, d, []⟩ = (Q2 k K o cu m3, ⟨0, 0, b, []⟩) := by
 subst hb
 rcases K with (wide | wide) | _ | ⟨large | large, xof | xof⟩
 all_goals
  show (if d.length = o then _ else _) = _
  rw [if_pos h]
  rfl
theorem p8 (k : List Byte) (K : MKind) (o : Nat) (cu m3 d : List Byte) (b : Bool) (h : d.length = o) (hb : decide (K.tag k cu o m3 = d) = b) : iDo (Q2 k K o cu m3) ⟨5, 3, 0, 0, 0, d, []⟩ = (D1 k, ⟨0, 0, b, []⟩) := by
 subst hb
 rcases K with (wide | wide) | _ | ⟨large | large, xof | xof⟩
 all_goals
  show (if d.length = o then _ else _) = _
  rw [if_pos h]
  rfl
theorem D1_held (k : List Byte) : (heldL 0 (D1 k)).length = 1 := rfl
theorem P3_held (k : List Byte) (K : MKind) (o : Nat) (cu m m2 : List Byte) : heldL 0 (P3 k K o cu m m2) = [(0, .key k), (1, .sn K o k cu m), (2, .sn K o k cu m2)] := rfl
theorem set_ne (T : List Byte) (j : Nat) (hj : j < T.length) : decide (T = T.set j (T.getD j 0 ^^^ 1#8)) = false := by
 rw [decide_eq_false_iff_not]
 intro e
 have h3 : T.getD j 0 = T.getD j 0 ^^^ 1#8 := by
  have h4 := congrArg (fun l : List Byte => l.getD j 0) e
  simpa [hj] using h4
 have h5 := congrArg (fun x => T.getD j 0 ^^^ x) h3
 simp only [← BitVec.xor_assoc, BitVec.xor_self, BitVec.zero_xor] at h5
 exact absurd h5 (by decide)
set_option maxRecDepth 100000 in
set_option maxHeartbeats 32000000 in
theorem idealPieces_any (W : World) (alz ot : Int) (hal : 0 ≤ alz ∧ alz < 256) (pk pc pp pq pt : Option Addr) (kn kc cn cc pn ppc qn qc tn tc : Nat) (K CU P Q C : List Byte) (hk : IsBytes W pk kn kc K) (hcu : IsBytes W pc cn cc CU) (hp : IsBytes W pp pn ppc P) (hq : IsBytes W pq qn qc Q) (ht : IsBytes W pt tn tc C) (hbulk : kc + cc + ppc + qc + tc ≤ 1048576) :
  Calls Tryz.prog 4 #[.int .u8 alz, .int .i64 ot, .slice pk kn kc, .slice pc cn cc, .slice pp pn ppc, .slice pq qn qc, .slice pt tn tc] W fun e W' => e = .returned (.bool true) ∧ Below W.heap.size W W' := by
 obtain ⟨al, rfl⟩ : ∃ k : Nat, alz = (k : Int) := ⟨alz.toNat, by omega⟩
 clear hal
 have s0 : Sat W W (bytes false pk K :: bytes false pc CU :: bytes false pp P :: bytes false pq Q :: bytes false pt C :: []) := hk.sat (hcu.sat (hp.sat (hq.sat (ht.sat (Sat.nil W)))))
 obtain ⟨hk1, hk2, hk3, -⟩ := hk
 obtain ⟨hc1, hc2, hc3, -⟩ := hcu
 obtain ⟨hp1, hp2, hp3, -⟩ := hp
 obtain ⟨hq1, hq2, hq3, -⟩ := hq
 obtain ⟨ht1, ht2, ht3, -⟩ := ht
 have HB := Lib.hid (And.intro hk1 (And.intro hk2 (And.intro hk3 (And.intro hc1 (And.intro hc2 (And.intro hc3 (And.intro hp1 (And.intro hp2 (And.intro hp3 (And.intro hq1 (And.intro hq2 (And.intro hq3 (And.intro ht1 (And.intro ht2 ht3)))))))))))))); clear hk1 hk2 hk3 hc1 hc2 hc3 hp1 hp2 hp3 hq1 hq2 hq3 ht1 ht2 ht3
 have HX := Lib.hid (show kn ≤ 1048576 ∧ cn ≤ 1048576 ∧ pn ≤ 1048576 ∧ qn ≤ 1048576 ∧ tn ≤ 1048576 from ⟨by have := HB.out.2.1; omega, by have := HB.out.2.2.2.2.1; omega, by have := HB.out.2.2.2.2.2.2.2.1; omega, by have := HB.out.2.2.2.2.2.2.2.2.2.2.1; omega, by have := HB.out.2.2.2.2.2.2.2.2.2.2.2.2.2.1; omega⟩); clear hbulk
 by_cases hP : 3000 < pn
 ·have gP : (3000 : Int) < (pn : Int) := by omega
  go_enter Tryz.func4, Tryz.ntmps4
  go_wp2_with fail
  refine (awake25 s0).mono ?_
  rintro e w1 ⟨rfl, s1⟩
  clear s0
  have HS := Lib.hid s1.below; clear s1
  go_wp2_with fail
  go_ret
  exact ⟨rfl, HS.out⟩
 ·by_cases hQ : 3000 < qn
  ·have gP : ¬ (3000 : Int) < (pn : Int) := by omega
   have gQ : (3000 : Int) < (qn : Int) := by omega
   go_enter Tryz.func4, Tryz.ntmps4
   go_wp2_with fail
   refine (awake25 s0).mono ?_
   rintro e w1 ⟨rfl, s1⟩
   clear s0
   have HS := Lib.hid s1.below; clear s1
   go_wp2_with fail
   go_ret
   exact ⟨rfl, HS.out⟩
  ·have gP : ¬ (3000 : Int) < (pn : Int) := by omega
   have gQ : ¬ (3000 : Int) < (qn : Int) := by omega
   have HLP : pn ≤ 3000 := by omega
   have HLQ : qn ≤ 3000 := by omega
   clear hP hQ
   have hKl := HB.out.1
   by_cases hbig : 512 < K.length
   ·go_enter Tryz.func4, Tryz.ntmps4
    go_wp2_with fail
    refine (awake25 s0).mono ?_
    rintro e w1 ⟨rfl, s1⟩
    clear s0
    go_wp2_with fail
    refine (iNew s1).mono ?_
    rintro e w2 ⟨v, rfl, s2'⟩
    have s2 : Sat W w2 (vaultA v S0 :: bytes false pk K :: bytes false pc CU :: bytes false pp P :: bytes false pq Q :: bytes false pt C :: []) := (Sat.sub (s2') (by with_reducible repeat first | exact Fr1 | exact Fr2 | (apply Fr3; focus ((repeat (first | exact Tk1 | apply Tk2)); done)) | apply Fr4))
    clear s1 s2'
    go_wp2_with fail
    refine (iDoY (md := false) (dp := pk) (dc := kc) 1 0 0 0 0 K (p0 K (by omega)) rfl rfl rfl rfl rfl rfl (S0_ok 0) (by decide) HB.out.1 HB.out.2.1 HB.out.2.2.1 (by have := HX.out.1; omega) (Sat.sub (s2) (by with_reducible repeat first | exact Fr1 | exact Fr2 | (apply Fr3; focus ((repeat (first | exact Tk1 | apply Tk2)); done)) | apply Fr4))).mono ?_
    rintro e w3 ⟨qa, ca, rfl, _, _, s3'⟩
    have s3 : Sat W w3 (vaultA v S0 :: bytes false pk K :: bytes false pc CU :: bytes false pp P :: bytes false pq Q :: bytes false pt C :: []) := (Sat.sub (s3') (by with_reducible repeat first | exact Fr1 | exact Fr2 | (apply Fr3; focus ((repeat (first | exact Tk1 | apply Tk2)); done)) | apply Fr4))
    clear s2 s3'
    go_wp2_with (first | (refine wpl_alloc_agg rfl 35 rfl s3 _ (zero_ans _) ?_; intro w4a ga s3a _; clear s3) | (refine wpl_stAns rfl rfl (.tmp 17) (.tmp 50) rfl s3a rfl rfl ?_; intro w4 s4x; clear s3a))
    have s4 : Sat W w4 (vaultA v S0 :: seg true ga 0 [.int .i64 7, .int .i64 0, .bool false, .slice qa 0 ca] :: bytes false pk K :: bytes false pc CU :: bytes false pp P :: bytes false pq Q :: bytes false pt C :: []) := (Sat.sub (s4x) (by with_reducible repeat first | exact Fr1 | exact Fr2 | (apply Fr3; focus ((repeat (first | exact Tk1 | apply Tk2)); done)) | apply Fr4))
    clear s4x
    go_wp2_with fail
    refine (iDoY (md := false) (dp := pc) (dc := cc) 2 0 al 0 ot CU (p0b al ot CU) rfl rfl rfl rfl rfl rfl (S0_ok 0) (by decide) HB.out.2.2.2.1 HB.out.2.2.2.2.1 HB.out.2.2.2.2.2.1 (by have := HX.out.2.1; omega) ((Sat.sub (s4) (by with_reducible repeat first | exact Fr1 | exact Fr2 | (apply Fr3; focus ((repeat (first | exact Tk1 | apply Tk2)); done)) | apply Fr4)) : Sat W w4 (vaultA v S0 :: bytes false pc CU :: seg true ga 0 [.int .i64 7, .int .i64 0, .bool false, .slice qa 0 ca] :: bytes false pk K :: bytes false pp P :: bytes false pq Q :: bytes false pt C :: []))).mono ?_
    rintro e w5 ⟨qb, cb, rfl, _, _, s5'⟩
    have s5 : Sat W w5 (vaultA v S0 :: seg true ga 0 [.int .i64 7, .int .i64 0, .bool false, .slice qa 0 ca] :: bytes false pk K :: bytes false pc CU :: bytes false pp P :: bytes false pq Q :: bytes false pt C :: []) := (Sat.sub (s5') (by with_reducible repeat first | exact Fr1 | exact Fr2 | (apply Fr3; focus ((repeat (first | exact Tk1 | apply Tk2)); done)) | apply Fr4))
    clear s4 s5'
    go_wp2_with (first | (refine wpl_alloc_agg rfl 35 rfl s5 _ (zero_ans _) ?_; intro w6a gb s5a _; clear s5) | (refine wpl_stAns rfl rfl (.tmp 18) (.tmp 56) rfl s5a rfl rfl ?_; intro w6 s6x; clear s5a; have s6 : Sat W w6 (vaultA v S0 :: seg true ga 0 [.int .i64 7, .int .i64 0, .bool false, .slice qa 0 ca] :: seg true gb 0 [.int .i64 5, .int .i64 0, .bool false, .slice qb 0 cb] :: bytes false pk K :: bytes false pc CU :: bytes false pp P :: bytes false pq Q :: bytes false pt C :: []) := (Sat.sub (s6x) (by with_reducible repeat first | exact Fr1 | exact Fr2 | (apply Fr3; focus ((repeat (first | exact Tk1 | apply Tk2)); done)) | apply Fr4)); clear s6x; have a0 := ((Sat.sub (s6) (by with_reducible repeat first | exact Fr1 | exact Fr2 | (apply Fr3; focus ((repeat (first | exact Tk1 | apply Tk2)); done)) | apply Fr4)) : Sat W w6 (seg true ga 0 [.int .i64 7, .int .i64 0, .bool false, .slice qa 0 ca] :: [])).at 0 rfl; have za := ((Sat.sub (s6) (by with_reducible repeat first | exact Fr1 | exact Fr2 | (apply Fr3; focus ((repeat (first | exact Tk1 | apply Tk2)); done)) | apply Fr4)) : Sat W w6 (seg true ga 0 [.int .i64 7, .int .i64 0, .bool false, .slice qa 0 ca] :: [])).lt (by simp); have b0 := ((Sat.sub (s6) (by with_reducible repeat first | exact Fr1 | exact Fr2 | (apply Fr3; focus ((repeat (first | exact Tk1 | apply Tk2)); done)) | apply Fr4)) : Sat W w6 (seg true gb 0 [.int .i64 5, .int .i64 0, .bool false, .slice qb 0 cb] :: [])).at 0 rfl; have zb := ((Sat.sub (s6) (by with_reducible repeat first | exact Fr1 | exact Fr2 | (apply Fr3; focus ((repeat (first | exact Tk1 | apply Tk2)); done)) | apply Fr4)) : Sat W w6 (seg true gb 0 [.int .i64 5, .int .i64 0, .bool false, .slice qb 0 cb] :: [])).lt (by simp)))
    go_wp2_with fail
    refine (iHeld (B := 200000) (S0) (S0_ok _) (by decide) (Sat.sub (s6) (by with_reducible repeat first | exact Fr1 | exact Fr2 | (apply Fr3; focus ((repeat (first | exact Tk1 | apply Tk2)); done)) | apply Fr4))).mono ?_
    rintro e w20 ⟨hn, hp, hcc, hhn, rfl, s20⟩
    rw [S0_heldI] at hhn
    subst hhn
    have HS := Lib.hid s20.below; clear s20 s6 a0 b0 za zb
    go_wp2_with fail
    go_ret
    exact ⟨rfl, HS.out⟩
   ·have HK5 := Lib.hid (show K.length ≤ 512 by omega)
    obtain ⟨cde, hcde, he⟩ | ⟨o, rfl, hkk, hfits, he⟩ := p1 K al ot CU (by omega)
    ·have hcd : ((cde : Int) != 0) = true := by rw [bne_iff_ne]; exact hcde
     have HC1 := Lib.hid he; clear he
     go_enter Tryz.func4, Tryz.ntmps4
     go_wp2_with fail
     refine (awake25 s0).mono ?_
     rintro e w1 ⟨rfl, s1⟩
     clear s0
     go_wp2_with fail
     refine (iNew s1).mono ?_
     rintro e w2 ⟨v, rfl, s2'⟩
     have s2 : Sat W w2 (vaultA v S0 :: bytes false pk K :: bytes false pc CU :: bytes false pp P :: bytes false pq Q :: bytes false pt C :: []) := (Sat.sub (s2') (by with_reducible repeat first | exact Fr1 | exact Fr2 | (apply Fr3; focus ((repeat (first | exact Tk1 | apply Tk2)); done)) | apply Fr4))
     clear s1 s2'
     go_wp2_with fail
     refine (iDoY (md := false) (dp := pk) (dc := kc) 1 0 0 0 0 K (d1 K (by have := HK5.out; omega)) rfl rfl rfl rfl rfl rfl (S0_ok 0) (by decide) HB.out.1 HB.out.2.1 HB.out.2.2.1 (by have := HX.out.1; omega) (Sat.sub (s2) (by with_reducible repeat first | exact Fr1 | exact Fr2 | (apply Fr3; focus ((repeat (first | exact Tk1 | apply Tk2)); done)) | apply Fr4))).mono ?_
     rintro e w3 ⟨qa, ca, rfl, _, _, s3'⟩
     have s3 : Sat W w3 (vaultA v (D1 K) :: bytes false pk K :: bytes false pc CU :: bytes false pp P :: bytes false pq Q :: bytes false pt C :: []) := (Sat.sub (s3') (by with_reducible repeat first | exact Fr1 | exact Fr2 | (apply Fr3; focus ((repeat (first | exact Tk1 | apply Tk2)); done)) | apply Fr4))
     clear s2 s3'
     go_wp2_with (first | (refine wpl_alloc_agg rfl 35 rfl s3 _ (zero_ans _) ?_; intro w4a ga s3a _; clear s3) | (refine wpl_stAns rfl rfl (.tmp 17) (.tmp 50) rfl s3a rfl rfl ?_; intro w4 s4x; clear s3a))
     have s4 : Sat W w4 (vaultA v (D1 K) :: seg true ga 0 [.int .i64 0, .int .i64 0, .bool false, .slice qa 0 ca] :: bytes false pk K :: bytes false pc CU :: bytes false pp P :: bytes false pq Q :: bytes false pt C :: []) := (Sat.sub (s4x) (by with_reducible repeat first | exact Fr1 | exact Fr2 | (apply Fr3; focus ((repeat (first | exact Tk1 | apply Tk2)); done)) | apply Fr4))
     clear s4x
     go_wp2_with fail
     refine (iDoY (md := false) (dp := pc) (dc := cc) 2 0 al 0 ot CU HC1.out rfl rfl rfl rfl rfl rfl (D1_ok (B := 65536) (by omega)) (by decide) HB.out.2.2.2.1 HB.out.2.2.2.2.1 HB.out.2.2.2.2.2.1 (by have := HX.out.2.1; omega) ((Sat.sub (s4) (by with_reducible repeat first | exact Fr1 | exact Fr2 | (apply Fr3; focus ((repeat (first | exact Tk1 | apply Tk2)); done)) | apply Fr4)) : Sat W w4 (vaultA v (D1 K) :: bytes false pc CU :: seg true ga 0 [.int .i64 0, .int .i64 0, .bool false, .slice qa 0 ca] :: bytes false pk K :: bytes false pp P :: bytes false pq Q :: bytes false pt C :: []))).mono ?_
     rintro e w5 ⟨qb, cb, rfl, _, _, s5'⟩
     have s5 : Sat W w5 (vaultA v (D1 K) :: seg true ga 0 [.int .i64 0, .int .i64 0, .bool false, .slice qa 0 ca] :: bytes false pk K :: bytes false pc CU :: bytes false pp P :: bytes false pq Q :: bytes false pt C :: []) := (Sat.sub (s5') (by with_reducible repeat first | exact Fr1 | exact Fr2 | (apply Fr3; focus ((repeat (first | exact Tk1 | apply Tk2)); done)) | apply Fr4))
     clear s4 s5'
     go_wp2_with (first | (refine wpl_alloc_agg rfl 35 rfl s5 _ (zero_ans _) ?_; intro w6a gb s5a _; clear s5) | (refine wpl_stAns rfl rfl (.tmp 18) (.tmp 56) rfl s5a rfl rfl ?_; intro w6 s6x; clear s5a; have s6 : Sat W w6 (vaultA v (D1 K) :: seg true ga 0 [.int .i64 0, .int .i64 0, .bool false, .slice qa 0 ca] :: seg true gb 0 [.int .i64 cde, .int .i64 0, .bool false, .slice qb 0 cb] :: bytes false pk K :: bytes false pc CU :: bytes false pp P :: bytes false pq Q :: bytes false pt C :: []) := (Sat.sub (s6x) (by with_reducible repeat first | exact Fr1 | exact Fr2 | (apply Fr3; focus ((repeat (first | exact Tk1 | apply Tk2)); done)) | apply Fr4)); clear s6x; have a0 := ((Sat.sub (s6) (by with_reducible repeat first | exact Fr1 | exact Fr2 | (apply Fr3; focus ((repeat (first | exact Tk1 | apply Tk2)); done)) | apply Fr4)) : Sat W w6 (seg true ga 0 [.int .i64 0, .int .i64 0, .bool false, .slice qa 0 ca] :: [])).at 0 rfl; have za := ((Sat.sub (s6) (by with_reducible repeat first | exact Fr1 | exact Fr2 | (apply Fr3; focus ((repeat (first | exact Tk1 | apply Tk2)); done)) | apply Fr4)) : Sat W w6 (seg true ga 0 [.int .i64 0, .int .i64 0, .bool false, .slice qa 0 ca] :: [])).lt (by simp); have b0 := ((Sat.sub (s6) (by with_reducible repeat first | exact Fr1 | exact Fr2 | (apply Fr3; focus ((repeat (first | exact Tk1 | apply Tk2)); done)) | apply Fr4)) : Sat W w6 (seg true gb 0 [.int .i64 cde, .int .i64 0, .bool false, .slice qb 0 cb] :: [])).at 0 rfl; have zb := ((Sat.sub (s6) (by with_reducible repeat first | exact Fr1 | exact Fr2 | (apply Fr3; focus ((repeat (first | exact Tk1 | apply Tk2)); done)) | apply Fr4)) : Sat W w6 (seg true gb 0 [.int .i64 cde, .int .i64 0, .bool false, .slice qb 0 cb] :: [])).lt (by simp)))
     go_wp2_with fail
     refine (iHeld (B := 200000) (D1 K) (D1_ok (by omega)) (by decide) (Sat.sub (s6) (by with_reducible repeat first | exact Fr1 | exact Fr2 | (apply Fr3; focus ((repeat (first | exact Tk1 | apply Tk2)); done)) | apply Fr4))).mono ?_
     rintro e w20 ⟨hn, hp, hcc, hhn, rfl, s20⟩
     rw [D1_held] at hhn
     subst hhn
     have HS := Lib.hid s20.below; clear s20 s6 a0 b0 za zb
     go_wp2_with fail
     go_ret
     exact ⟨rfl, HS.out⟩
    ·have HC1 := Lib.hid he; clear he
     obtain ⟨kk, hkd⟩ : ∃ k, k = kindA al := ⟨_, rfl⟩
     rw [← hkd] at hkk hfits HC1
     clear hkd
     have HKK := Lib.hid hkk
     clear hkk hKl hbig
     go_enter Tryz.func4, Tryz.ntmps4
     go_wp2_with fail
     refine (awake25 s0).mono ?_
     rintro e w1 ⟨rfl, s1⟩
     clear s0
     go_wp2_with fail
     refine (iNew s1).mono ?_
     rintro e w2 ⟨v, rfl, s2'⟩
     have s2 : Sat W w2 (vaultA v S0 :: bytes false pk K :: bytes false pc CU :: bytes false pp P :: bytes false pq Q :: bytes false pt C :: []) := (Sat.sub (s2') (by with_reducible repeat first | exact Fr1 | exact Fr2 | (apply Fr3; focus ((repeat (first | exact Tk1 | apply Tk2)); done)) | apply Fr4))
     clear s1 s2'
     go_wp2_with fail
     refine (iDoY (md := false) (dp := pk) (dc := kc) 1 0 0 0 0 K (d1 K (by have := HK5.out; omega)) rfl rfl rfl rfl rfl rfl (S0_ok 0) (by decide) HB.out.1 HB.out.2.1 HB.out.2.2.1 (by have := HX.out.1; omega) (Sat.sub (s2) (by with_reducible repeat first | exact Fr1 | exact Fr2 | (apply Fr3; focus ((repeat (first | exact Tk1 | apply Tk2)); done)) | apply Fr4))).mono ?_
     rintro e w3 ⟨qa, ca, rfl, _, _, s3'⟩
     have s3 : Sat W w3 (vaultA v (D1 K) :: bytes false pk K :: bytes false pc CU :: bytes false pp P :: bytes false pq Q :: bytes false pt C :: []) := (Sat.sub (s3') (by with_reducible repeat first | exact Fr1 | exact Fr2 | (apply Fr3; focus ((repeat (first | exact Tk1 | apply Tk2)); done)) | apply Fr4))
     clear s2 s3'
     go_wp2_with (first | (refine wpl_alloc_agg rfl 35 rfl s3 _ (zero_ans _) ?_; intro w4a ga s3a _; clear s3) | (refine wpl_stAns rfl rfl (.tmp 17) (.tmp 50) rfl s3a rfl rfl ?_; intro w4 s4x; clear s3a))
     have s4 : Sat W w4 (vaultA v (D1 K) :: seg true ga 0 [.int .i64 0, .int .i64 0, .bool false, .slice qa 0 ca] :: bytes false pk K :: bytes false pc CU :: bytes false pp P :: bytes false pq Q :: bytes false pt C :: []) := (Sat.sub (s4x) (by with_reducible repeat first | exact Fr1 | exact Fr2 | (apply Fr3; focus ((repeat (first | exact Tk1 | apply Tk2)); done)) | apply Fr4))
     clear s4x
     go_wp2_with fail
     refine (iDoY (md := false) (dp := pc) (dc := cc) 2 0 al 0 (o : Int) CU HC1.out rfl rfl rfl rfl rfl rfl (D1_ok (B := 65536) HK5.out) (by decide) HB.out.2.2.2.1 HB.out.2.2.2.2.1 HB.out.2.2.2.2.2.1 (by have := HX.out.2.1; omega) ((Sat.sub (s4) (by with_reducible repeat first | exact Fr1 | exact Fr2 | (apply Fr3; focus ((repeat (first | exact Tk1 | apply Tk2)); done)) | apply Fr4)) : Sat W w4 (vaultA v (D1 K) :: bytes false pc CU :: seg true ga 0 [.int .i64 0, .int .i64 0, .bool false, .slice qa 0 ca] :: bytes false pk K :: bytes false pp P :: bytes false pq Q :: bytes false pt C :: []))).mono ?_
     rintro e w5 ⟨qb, cb, rfl, _, _, s5'⟩
     have s5 : Sat W w5 (vaultA v (P2 K kk o CU []) :: seg true ga 0 [.int .i64 0, .int .i64 0, .bool false, .slice qa 0 ca] :: bytes false pk K :: bytes false pc CU :: bytes false pp P :: bytes false pq Q :: bytes false pt C :: []) := (Sat.sub (s5') (by with_reducible repeat first | exact Fr1 | exact Fr2 | (apply Fr3; focus ((repeat (first | exact Tk1 | apply Tk2)); done)) | apply Fr4))
     clear s4 s5'
     go_wp2_with (first | (refine wpl_alloc_agg rfl 35 rfl s5 _ (zero_ans _) ?_; intro w6a gb s5a _; clear s5) | (refine wpl_stAns rfl rfl (.tmp 18) (.tmp 56) rfl s5a rfl rfl ?_; intro w6 s6x; clear s5a; have s6 : Sat W w6 (vaultA v (P2 K kk o CU []) :: seg true ga 0 [.int .i64 0, .int .i64 0, .bool false, .slice qa 0 ca] :: seg true gb 0 [.int .i64 0, .int .i64 1, .bool false, .slice qb 0 cb] :: bytes false pk K :: bytes false pc CU :: bytes false pp P :: bytes false pq Q :: bytes false pt C :: []) := (Sat.sub (s6x) (by with_reducible repeat first | exact Fr1 | exact Fr2 | (apply Fr3; focus ((repeat (first | exact Tk1 | apply Tk2)); done)) | apply Fr4)); clear s6x; have a0 := ((Sat.sub (s6) (by with_reducible repeat first | exact Fr1 | exact Fr2 | (apply Fr3; focus ((repeat (first | exact Tk1 | apply Tk2)); done)) | apply Fr4)) : Sat W w6 (seg true ga 0 [.int .i64 0, .int .i64 0, .bool false, .slice qa 0 ca] :: [])).at 0 rfl; have za := ((Sat.sub (s6) (by with_reducible repeat first | exact Fr1 | exact Fr2 | (apply Fr3; focus ((repeat (first | exact Tk1 | apply Tk2)); done)) | apply Fr4)) : Sat W w6 (seg true ga 0 [.int .i64 0, .int .i64 0, .bool false, .slice qa 0 ca] :: [])).lt (by simp); have b0 := ((Sat.sub (s6) (by with_reducible repeat first | exact Fr1 | exact Fr2 | (apply Fr3; focus ((repeat (first | exact Tk1 | apply Tk2)); done)) | apply Fr4)) : Sat W w6 (seg true gb 0 [.int .i64 0, .int .i64 1, .bool false, .slice qb 0 cb] :: [])).at 0 rfl; have zb := ((Sat.sub (s6) (by with_reducible repeat first | exact Fr1 | exact Fr2 | (apply Fr3; focus ((repeat (first | exact Tk1 | apply Tk2)); done)) | apply Fr4)) : Sat W w6 (seg true gb 0 [.int .i64 0, .int .i64 1, .bool false, .slice qb 0 cb] :: [])).lt (by simp)))
     have HF := Lib.hid hfits
     clear hfits
     go_wp2_with fail
     have s6n : Sat W w6 (bytes false pp P :: bytes false pt C :: vaultA v (P2 K kk o CU ([])) :: bytes false pk K :: bytes false pc CU :: bytes false pq Q :: []) := (Sat.sub (s6) (by with_reducible repeat first | exact Fr1 | exact Fr2 | (apply Fr3; focus ((repeat (first | exact Tk1 | apply Tk2)); done)) | apply Fr4))
     clear s6 a0 b0 za zb
     refine (cutInto P C HB.out.2.2.2.2.2.2.1 HB.out.2.2.2.2.2.2.2.2.2.2.2.2.1 (by have := HX.out.2.2.1; omega) (by have := HX.out.2.2.2.2; omega) HB.out.2.2.2.2.2.2.2.1 HB.out.2.2.2.2.2.2.2.2.1 s6n).mono ?_
     rintro e w7 ⟨qp, cqp, ts, rfl, hts0, hfl, hok, s7⟩
     clear s6n
     obtain ⟨gp, rfl, hcp, hcp2, s8'⟩ := rowSegI s7 hts0
     obtain ⟨N, hN⟩ : ∃ N, N = ts.length := ⟨_, rfl⟩
     rw [← hN] at hts0 hcp ⊢
     have HT := Lib.hid (And.intro hfl (And.intro hok hN)); clear hfl hok hN s7 hts0
     have s8 : Sat W w7 (vaultA v (P2 K kk o CU ([])) :: row none 0 1 0 (u8s []) :: seg true gp 0 (ts.map pieceV) :: allRo ts :: bytes false pk K :: bytes false pc CU :: bytes false pp P :: bytes false pq Q :: []) := by
      have h1 : Sat W w7 (row none 0 1 0 (u8s []) :: _) := s8'.rowNil 1
      exact (Sat.sub (h1) (by with_reducible repeat first | exact Fr1 | exact Fr2 | (apply Fr3; focus ((repeat (first | exact Tk1 | apply Tk2)); done)) | apply Fr4))
     clear s8'
     go_wp2
     go_loopw [20, 21] (fun t20 t21 wr => ∃ (i : Nat) (q : Option Addr) (d n : Nat), i ≤ N ∧ t21 = .int .i64 (i : Int) ∧ n = (flatP (ts.take i)).length ∧ t20 = .slice q n d ∧ Sat W wr (vaultA v (P2 K kk o CU (flatP (ts.take i))) :: row q d 1 n (u8s (flatP (ts.take i))) :: seg true gp 0 (ts.map pieceV) :: allRo ts :: bytes false pk K :: bytes false pc CU :: bytes false pp P :: bytes false pq Q :: [])) (fun _ t21 _ => N - (intOf t21).toNat)
     case atStart => exact ⟨0, none, 0, 0, Nat.zero_le _, rfl, rfl, rfl, s8⟩
     case round =>
      clear s8
      obtain ⟨i, q, d, n, hi, rfl, hn, rfl, s⟩ := hrel
      by_cases hlt : i < N
      ·have hit : i < ts.length := by rw [← HT.out.2.2]; exact hlt
       have hft := flatP_takeI ts i hit
       have hlen := flatP_take_lenI ts (i + 1)
       rw [HT.out.1, HB.out.2.2.2.2.2.2.1] at hlen
       have hokt := HT.out.2.1 ts[i] (List.getElem_mem hit)
       obtain ⟨⟨ep, ec, eb⟩, htt⟩ : ∃ t, t = ts[i] := ⟨_, rfl⟩
       rw [← htt] at hft hokt
       simp only at hft hokt
       have hcell : ∀ wx X, Sat W wx (seg true gp 0 (ts.map pieceV) :: X) → wx.cell? ⟨gp, i, none⟩ = some (.slice ep eb.length ec) ∧ gp < wx.heap.size := fun wx X h =>
        ⟨h.at i (v := .slice ep eb.length ec) (by rw [List.getElem?_map, List.getElem?_eq_getElem hit, ← htt]; rfl), h.lt (by rw [List.length_map]; omega)⟩
       have sp : Sat W wr (allRo ts :: vaultA v (P2 K kk o CU (flatP (ts.take i))) :: row q d 1 n (u8s (flatP (ts.take i))) :: seg true gp 0 (ts.map pieceV) :: bytes false pk K :: bytes false pc CU :: bytes false pp P :: bytes false pq Q :: []) := (Sat.sub (s) (by with_reducible repeat first | exact Fr1 | exact Fr2 | (apply Fr3; focus ((repeat (first | exact Tk1 | apply Tk2)); done)) | apply Fr4))
       have sq := allPeek (t := ((ep, ec, eb) : Piece)) sp (by rw [htt]; exact List.getElem_mem hit)
       simp only at sq
       obtain ⟨M, hM⟩ : ∃ M, M = flatP (ts.take i) := ⟨_, rfl⟩
       rw [← hM] at hft sq hn
       rw [hft, List.length_append] at hlen
       have hMb : M.length + eb.length ≤ 3000 := Nat.le_trans hlen HLP
       obtain ⟨en, hen⟩ : ∃ n, n = eb.length := ⟨_, rfl⟩
       rw [← hen] at hokt hcell hMb
       have hnM : n + en ≤ 3000 := by rw [hn]; exact hMb
       have HXI := Lib.hid (And.intro hft (And.intro hokt (And.intro hcell (And.intro hn hen)))); clear hft hokt hlen hcell hM htt sp s hit hn hen hMb
       have s18 : Sat W wr (vaultA v (P2 K kk o CU (M)) :: bytes false ep eb :: seg true gp 0 (ts.map pieceV) :: row q d 1 n (u8s M) :: allRo ts :: bytes false pk K :: bytes false pc CU :: bytes false pp P :: bytes false pq Q :: []) := (Sat.sub (sq) (by with_reducible repeat first | exact Fr1 | exact Fr2 | (apply Fr3; focus ((repeat (first | exact Tk1 | apply Tk2)); done)) | apply Fr4))
       clear sq
       obtain ⟨cg, zg⟩ := HXI.out.2.2.1 _ _ ((Sat.sub (s18) (by with_reducible repeat first | exact Fr1 | exact Fr2 | (apply Fr3; focus ((repeat (first | exact Tk1 | apply Tk2)); done)) | apply Fr4)) : Sat W wr (seg true gp 0 (ts.map pieceV) :: []))
       have hin : (i : Int) < (N : Int) := by omega
       go_wp2_with fail
       refine (iDoY (dc := ec) 3 1 0 0 0 eb (p2 K kk o CU M eb (by rw [← HXI.out.2.2.2.2]; omega)) rfl rfl rfl rfl rfl rfl (P2_ok (B := 3000) HF.out HK5.out (by rw [← HXI.out.2.2.2.1]; omega)) (by decide) HXI.out.2.2.2.2.symm HXI.out.2.1.1 HXI.out.2.1.2 (by omega) s18).mono ?_
       rintro e w9 ⟨qx, cx, rfl, _, _, s19'⟩
       clear s18 cg zg
       have s19 : Sat W w9 (row q d 1 n (u8s M) :: bytes false ep eb :: seg true gp 0 (ts.map pieceV) :: vaultA v (P2 K kk o CU (M ++ eb)) :: allRo ts :: bytes false pk K :: bytes false pc CU :: bytes false pp P :: bytes false pq Q :: []) := (Sat.sub (s19') (by with_reducible repeat first | exact Fr1 | exact Fr2 | (apply Fr3; focus ((repeat (first | exact Tk1 | apply Tk2)); done)) | apply Fr4))
       clear s19'
       obtain ⟨cg, zg⟩ := HXI.out.2.2.1 _ _ ((Sat.sub (s19) (by with_reducible repeat first | exact Fr1 | exact Fr2 | (apply Fr3; focus ((repeat (first | exact Tk1 | apply Tk2)); done)) | apply Fr4)) : Sat W w9 (seg true gp 0 (ts.map pieceV) :: []))
       go_wp2_with (refine wpl_app8 rfl (.tmp 90) (.tmp 94) rfl rfl rfl s19 HXI.out.2.2.2.2.symm (by omega) ?_; intro q2 d2 w10 s20; clear s19)
       have s21 : Sat W w10 (vaultA v (P2 K kk o CU (M ++ eb)) :: row q2 d2 1 (n + en) (u8s (M ++ eb)) :: seg true gp 0 (ts.map pieceV) :: allRo ts :: bytes false pk K :: bytes false pc CU :: bytes false pp P :: bytes false pq Q :: []) := (Sat.sub (s20) (by with_reducible repeat first | exact Fr1 | exact Fr2 | (apply Fr3; focus ((repeat (first | exact Tk1 | apply Tk2)); done)) | apply Fr4))
       have HS := Lib.hid s21; clear s20 s21 cg zg
       have hg : ∃ n2, n2 = (flatP (ts.take (i + 1))).length ∧ n2 = n + en ∧ Sat W w10 (vaultA v (P2 K kk o CU (flatP (ts.take (i + 1)))) :: row q2 d2 1 n2 (u8s (flatP (ts.take (i + 1)))) :: seg true gp 0 (ts.map pieceV) :: allRo ts :: bytes false pk K :: bytes false pc CU :: bytes false pp P :: bytes false pq Q :: []) := by
        rw [HXI.out.1]
        exact ⟨n + en, by rw [List.length_append, HXI.out.2.2.2.1, HXI.out.2.2.2.2], rfl, HS.out⟩
       have HG := Lib.hid hg; clear hg HS
       go_roundw
       case rel =>
        obtain ⟨n2, g1, g2, g3⟩ := HG.out
        exact ⟨i + 1, q2, d2, n2, by omega, by go_num, g1, by rw [g2], g3⟩
       case measure => simp [intOf]; omega
      ·obtain rfl : i = N := by omega
       rw [HT.out.2.2, List.take_of_length_le (Nat.le_refl _), HT.out.1, HB.out.2.2.2.2.2.2.1] at hn
       rw [HT.out.2.2, List.take_of_length_le (Nat.le_refl _), HT.out.1] at s
       have hn' := hn.symm
       subst hn'
       obtain ⟨_, hrd1, hrd2, s'⟩ := rowBytes ((Sat.sub (s) (by with_reducible repeat first | exact Fr1 | exact Fr2 | (apply Fr3; focus ((repeat (first | exact Tk1 | apply Tk2)); done)) | apply Fr4)) : Sat W wr (row q d 1 pn (u8s P) :: vaultA v (P2 K kk o CU (P)) :: bytes false pk K :: bytes false pc CU :: bytes false pp P :: bytes false pq Q :: []))
       have s30 : Sat W wr (vaultA v (P2 K kk o CU (P)) :: bytes true q P :: bytes false pk K :: bytes false pc CU :: bytes false pp P :: bytes false pq Q :: []) := (Sat.sub (s') (by with_reducible repeat first | exact Fr1 | exact Fr2 | (apply Fr3; focus ((repeat (first | exact Tk1 | apply Tk2)); done)) | apply Fr4))
       have HRD := Lib.hid (And.intro hrd1 hrd2); clear s s' hrd1 hrd2
       have HL := Lib.hid (And.intro HLP HLQ)
       clear HLP HLQ
       have hf6 := fits_bdI HF.out
       have HO := Lib.hid (And.intro hf6.2.2.1 hf6.2.2.2); clear hf6
       go_wp2_with fail
       refine (iDoZ 6 1 0 0 0 (p3 K kk o CU P) rfl rfl rfl rfl rfl rfl (P2_ok (B := 6000) HF.out HK5.out (by rw [HB.out.2.2.2.2.2.2.1]; have := HL.out.1; omega)) (by decide) s30).mono ?_
       rintro e w31 ⟨uc, cc1, rfl, _, _, s31'⟩
       have s31 : Sat W w31 (vaultA v (P3 K kk o CU P P) :: bytes true q P :: bytes false pk K :: bytes false pc CU :: bytes false pp P :: bytes false pq Q :: []) := (Sat.sub (s31') (by with_reducible repeat first | exact Fr1 | exact Fr2 | (apply Fr3; focus ((repeat (first | exact Tk1 | apply Tk2)); done)) | apply Fr4))
       clear s30 s31'
       go_wp2_with (first | (refine wpl_alloc_agg rfl 35 rfl s31 _ (zero_ans _) ?_; intro w32a gc s31a _; clear s31) | (refine wpl_stAns rfl rfl (.tmp 22) (.tmp 98) rfl s31a rfl rfl ?_; intro w32 s32x; clear s31a))
       have s32 : Sat W w32 (vaultA v (P3 K kk o CU P P) :: seg true gc 0 [.int .i64 0, .int .i64 2, .bool false, .slice uc 0 cc1] :: bytes true q P :: bytes false pk K :: bytes false pc CU :: bytes false pp P :: bytes false pq Q :: []) := (Sat.sub (s32x) (by with_reducible repeat first | exact Fr1 | exact Fr2 | (apply Fr3; focus ((repeat (first | exact Tk1 | apply Tk2)); done)) | apply Fr4))
       clear s32x
       have s33 : Sat W w32 (vaultA v (P3 K kk o CU P P) :: bytes false pq Q :: seg true gc 0 [.int .i64 0, .int .i64 2, .bool false, .slice uc 0 cc1] :: bytes true q P :: bytes false pk K :: bytes false pc CU :: bytes false pp P :: []) := (Sat.sub (s32) (by with_reducible repeat first | exact Fr1 | exact Fr2 | (apply Fr3; focus ((repeat (first | exact Tk1 | apply Tk2)); done)) | apply Fr4))
       clear s32
       go_wp2_with fail
       refine (iDoY (md := false) (dp := pq) (dc := qc) 3 2 0 0 0 Q (p4 K kk o CU P P Q (by rw [HB.out.2.2.2.2.2.2.2.2.2.1]; have := HL.out.2; omega)) rfl rfl rfl rfl rfl rfl (P3_ok (B := 6000) HF.out HK5.out (by rw [HB.out.2.2.2.2.2.2.1]; have := HL.out.1; omega) (by rw [HB.out.2.2.2.2.2.2.1]; have := HL.out.1; omega)) (by decide) HB.out.2.2.2.2.2.2.2.2.2.1 HB.out.2.2.2.2.2.2.2.2.2.2.1 HB.out.2.2.2.2.2.2.2.2.2.2.2.1 (by have := HL.out.2; omega) s33).mono ?_
       rintro e w34 ⟨ud, cd, rfl, _, _, s34'⟩
       have s34 : Sat W w34 (vaultA v (P3 K kk o CU P (P ++ Q)) :: seg true gc 0 [.int .i64 0, .int .i64 2, .bool false, .slice uc 0 cc1] :: bytes true q P :: bytes false pk K :: bytes false pc CU :: bytes false pp P :: bytes false pq Q :: []) := (Sat.sub (s34') (by with_reducible repeat first | exact Fr1 | exact Fr2 | (apply Fr3; focus ((repeat (first | exact Tk1 | apply Tk2)); done)) | apply Fr4))
       clear s33 s34'
       go_wp2_with (first | (refine wpl_alloc_agg rfl 35 rfl s34 _ (zero_ans _) ?_; intro w35a gd s34a _; clear s34) | (refine wpl_stAns rfl rfl (.tmp 23) (.tmp 102) rfl s34a rfl rfl ?_; intro w35 s35x; clear s34a))
       have s35 : Sat W w35 (vaultA v (P3 K kk o CU P (P ++ Q)) :: seg true gc 0 [.int .i64 0, .int .i64 2, .bool false, .slice uc 0 cc1] :: seg true gd 0 [.int .i64 0, .int .i64 0, .bool false, .slice ud 0 cd] :: bytes true q P :: bytes false pk K :: bytes false pc CU :: bytes false pp P :: bytes false pq Q :: []) := (Sat.sub (s35x) (by with_reducible repeat first | exact Fr1 | exact Fr2 | (apply Fr3; focus ((repeat (first | exact Tk1 | apply Tk2)); done)) | apply Fr4))
       clear s35x
       go_wp2_with fail
       refine (iHeld (P3 K kk o CU P (P ++ Q)) (P3_ok (B := 6000) HF.out HK5.out (by rw [HB.out.2.2.2.2.2.2.1]; have := HL.out.1; omega) (by rw [List.length_append, HB.out.2.2.2.2.2.2.1, HB.out.2.2.2.2.2.2.2.2.2.1]; have := HL.out.1; have := HL.out.2; omega)) (by decide) s35).mono ?_
       rintro e w36 ⟨hln, hp, hc, hhn, rfl, s36'⟩
       rw [P3_held] at hhn s36'
       simp only [List.length_cons, List.length_nil, Nat.zero_add, Nat.reduceAdd] at hhn
       obtain ⟨gh, hq, RH, rfl, hc3, hcm, _, hmc, hmm, hcell, s36a, _⟩ := heldAt (j := 1) (i := 1) (H := .sn kk o K CU P) rfl s36'
       obtain ⟨kq, kc2, c2, c3, mq, mc⟩ := hq
       have s36b : Sat W w36 (bytes true kq K :: bytes true c2 CU :: bytes true mq P :: RH :: vaultA v (P3 K kk o CU P (P ++ Q)) :: seg true gc 0 [.int .i64 0, .int .i64 2, .bool false, .slice uc 0 cc1] :: seg true gd 0 [.int .i64 0, .int .i64 0, .bool false, .slice ud 0 cd] :: bytes true q P :: bytes false pk K :: bytes false pc CU :: bytes false pp P :: bytes false pq Q :: []) := s36a
       have hcell2 : ∀ w' L', Sat W w' (RH :: L') → gh < w'.heap.size ∧ w'.cell? ⟨gh, 11, none⟩ = some (.slice mq pn mc) := fun w' L' s => ⟨(hcell w' L' s).1, by have := (hcell w' L' s).2 5 _ rfl; rw [show (Hold.sn kk o K CU P).mb.length = pn from HB.out.2.2.2.2.2.2.1] at this; exact this⟩
       have hc3' : 3 ≤ hc := hc3
       have HC := Lib.hid (And.intro hcell2 (And.intro hc3' hcm)); clear hcell hcell2 hc3 hc3' hcm hmc hmm s36' s36a s35
       subst hhn
       have s37 : Sat W w36 (bytes false pk K :: bytes false pc CU :: bytes true q P :: bytes true mq P :: RH :: vaultA v (P3 K kk o CU P (P ++ Q)) :: seg true gc 0 [.int .i64 0, .int .i64 2, .bool false, .slice uc 0 cc1] :: seg true gd 0 [.int .i64 0, .int .i64 0, .bool false, .slice ud 0 cd] :: bytes false pp P :: bytes false pq Q :: []) := (Sat.sub (s36b) (by with_reducible repeat first | exact Fr1 | exact Fr2 | (apply Fr3; focus ((repeat (first | exact Tk1 | apply Tk2)); done)) | apply Fr4))
       clear s36b
       go_wp2_with fail
       refine (tag25W (av := .int .u8 (al : Int)) (cq := kc) (c3 := cc) (mc := d) kk K CU P o HF.out (by rw [HKK.out]) HB.out.1 HB.out.2.2.2.1 HB.out.2.2.2.2.2.2.1 HB.out.2.1 HB.out.2.2.1 HB.out.2.2.2.2.1 HB.out.2.2.2.2.2.1 HRD.out.1 HRD.out.2 (by have := HL.out.1; omega) s37).mono ?_
       rintro e w38 ⟨x1, xc1, rfl, hx1, hx1m, s38'⟩
       have s38 : Sat W w38 (bytes true q P :: bytes true x1 (kk.tag K CU o P) :: bytes false pk K :: bytes false pc CU :: bytes true mq P :: RH :: vaultA v (P3 K kk o CU P (P ++ Q)) :: seg true gc 0 [.int .i64 0, .int .i64 2, .bool false, .slice uc 0 cc1] :: seg true gd 0 [.int .i64 0, .int .i64 0, .bool false, .slice ud 0 cd] :: bytes false pp P :: bytes false pq Q :: []) := (Sat.sub (s38') (by with_reducible repeat first | exact Fr1 | exact Fr2 | (apply Fr3; focus ((repeat (first | exact Tk1 | apply Tk2)); done)) | apply Fr4))
       have HX1 := Lib.hid (And.intro hx1 hx1m); clear s37 s38' hx1 hx1m
       go_wp2_with fail
       refine (copyS (ca := d) P HB.out.2.2.2.2.2.2.1 (by have := HL.out.1; omega) s38).mono ?_
       rintro e w39 ⟨y1, yc1, rfl, s39'⟩
       have s39 : Sat W w39 (row y1 yc1 1 pn (u8s P) :: bytes false pq Q :: bytes true x1 (kk.tag K CU o P) :: bytes false pk K :: bytes false pc CU :: bytes true mq P :: RH :: vaultA v (P3 K kk o CU P (P ++ Q)) :: seg true gc 0 [.int .i64 0, .int .i64 2, .bool false, .slice uc 0 cc1] :: seg true gd 0 [.int .i64 0, .int .i64 0, .bool false, .slice ud 0 cd] :: bytes false pp P :: []) := (Sat.sub (s39') (by with_reducible repeat first | exact Fr1 | exact Fr2 | (apply Fr3; focus ((repeat (first | exact Tk1 | apply Tk2)); done)) | apply Fr4))
       clear s38 s39'
       have hpq : pn + qn ≤ 6000 := by have := HL.out.1; have := HL.out.2; omega
       go_wp2_with (refine wpl_app8 rfl (.tmp 120) (.tmp 121) rfl rfl rfl s39 HB.out.2.2.2.2.2.2.2.2.2.1 (by omega) ?_; intro y2 yc2 w40 s40; clear s39)
       obtain ⟨_, hy1, hy2, s41'⟩ := rowBytes s40
       have s41 : Sat W w40 (bytes false pk K :: bytes false pc CU :: bytes true y2 (P ++ Q) :: bytes true x1 (kk.tag K CU o P) :: bytes true mq P :: RH :: vaultA v (P3 K kk o CU P (P ++ Q)) :: seg true gc 0 [.int .i64 0, .int .i64 2, .bool false, .slice uc 0 cc1] :: seg true gd 0 [.int .i64 0, .int .i64 0, .bool false, .slice ud 0 cd] :: bytes false pp P :: []) := (Sat.sub (s41') (by with_reducible repeat first | exact Fr1 | exact Fr2 | (apply Fr3; focus ((repeat (first | exact Tk1 | apply Tk2)); done)) | apply Fr4))
       clear s40 s41'
       refine (tag25W (av := .int .u8 (al : Int)) (cq := kc) (c3 := cc) (mc := yc2) kk K CU (P ++ Q) o HF.out (by rw [HKK.out]) HB.out.1 HB.out.2.2.2.1 (by rw [List.length_append, HB.out.2.2.2.2.2.2.1, HB.out.2.2.2.2.2.2.2.2.2.1]) HB.out.2.1 HB.out.2.2.1 HB.out.2.2.2.2.1 HB.out.2.2.2.2.2.1 hy1 hy2 (by omega) s41).mono ?_
       rintro e w42 ⟨x2, xc2, rfl, hx2, hx2m, s42'⟩
       have s42 : Sat W w42 (bytes true mq P :: bytes false pp P :: bytes true x1 (kk.tag K CU o P) :: bytes true x2 (kk.tag K CU o (P ++ Q)) :: RH :: vaultA v (P3 K kk o CU P (P ++ Q)) :: seg true gc 0 [.int .i64 0, .int .i64 2, .bool false, .slice uc 0 cc1] :: seg true gd 0 [.int .i64 0, .int .i64 0, .bool false, .slice ud 0 cd] :: bytes false pk K :: bytes false pc CU :: []) := (Sat.sub (s42') (by with_reducible repeat first | exact Fr1 | exact Fr2 | (apply Fr3; focus ((repeat (first | exact Tk1 | apply Tk2)); done)) | apply Fr4))
       have HX2 := Lib.hid (And.intro hx2 hx2m); clear s41 s42' hx2 hx2m hy1 hy2
       have hcd : ∀ w', Sat W w' (seg true gc 0 [.int .i64 0, .int .i64 2, .bool false, .slice uc 0 cc1] :: seg true gd 0 [.int .i64 0, .int .i64 0, .bool false, .slice ud 0 cd] :: RH :: []) → w'.cell? ⟨gc, 0, none⟩ = some (.int .i64 0) ∧ w'.cell? ⟨gc, 1, none⟩ = some (.int .i64 2) ∧ w'.cell? ⟨gd, 0, none⟩ = some (.int .i64 0) ∧ w'.cell? ⟨gh, 11, none⟩ = some (.slice mq pn mc) ∧ gc < w'.heap.size ∧ gd < w'.heap.size ∧ gh < w'.heap.size := fun w' s => ⟨s.at 0 rfl, s.at 1 rfl, ((Sat.sub (s) (by with_reducible repeat first | exact Fr1 | exact Fr2 | (apply Fr3; focus ((repeat (first | exact Tk1 | apply Tk2)); done)) | apply Fr4)) : Sat W w' (seg true gd 0 [.int .i64 0, .int .i64 0, .bool false, .slice ud 0 cd] :: [])).at 0 rfl, (HC.out.1 _ _ ((Sat.sub (s) (by with_reducible repeat first | exact Fr1 | exact Fr2 | (apply Fr3; focus ((repeat (first | exact Tk1 | apply Tk2)); done)) | apply Fr4)) : Sat W w' (RH :: []))).2, s.lt (by simp), ((Sat.sub (s) (by with_reducible repeat first | exact Fr1 | exact Fr2 | (apply Fr3; focus ((repeat (first | exact Tk1 | apply Tk2)); done)) | apply Fr4)) : Sat W w' (seg true gd 0 [.int .i64 0, .int .i64 0, .bool false, .slice ud 0 cd] :: [])).lt (by simp), (HC.out.1 _ _ ((Sat.sub (s) (by with_reducible repeat first | exact Fr1 | exact Fr2 | (apply Fr3; focus ((repeat (first | exact Tk1 | apply Tk2)); done)) | apply Fr4)) : Sat W w' (RH :: []))).1⟩
       obtain ⟨c0, c1, d0, h11, zc, zd, zh⟩ := hcd _ (Sat.sub (s42) (by with_reducible repeat first | exact Fr1 | exact Fr2 | (apply Fr3; focus ((repeat (first | exact Tk1 | apply Tk2)); done)) | apply Fr4))
       clear hcd
       go_wp2_with fail
       refine (sameT (ca := mc) (cb := ppc) P P HB.out.2.2.2.2.2.2.1 HB.out.2.2.2.2.2.2.1 (by have := HL.out.1; omega) rfl s42).mono ?_
       rintro e w43 ⟨rfl, s43'⟩
       have s43 : Sat W w43 (bytes true x2 (kk.tag K CU o (P ++ Q)) :: bytes true x1 (kk.tag K CU o P) :: vaultA v (P3 K kk o CU P (P ++ Q)) :: []) := (Sat.sub (s43') (by with_reducible repeat first | exact Fr1 | exact Fr2 | (apply Fr3; focus ((repeat (first | exact Tk1 | apply Tk2)); done)) | apply Fr4))
       clear s42 s43' c0 c1 d0 h11 zc zd zh
       have ht1 := kk.tag_len K CU o P HF.out
       have ht2 := kk.tag_len K CU o (P ++ Q) HF.out
       have HTL := Lib.hid (And.intro ht1 ht2); clear ht1 ht2
       go_wp2_with fail
       refine (copyS (ca := xc2) (kk.tag K CU o (P ++ Q)) HTL.out.2 (by have := HO.out.2; omega) s43).mono ?_
       rintro e w44 ⟨y3, yc3, rfl, s44'⟩
       obtain ⟨gw, rfl, hyc, hycm, s44a⟩ := rowSegI s44' (by have := HO.out.1; omega)
       obtain ⟨j, hj⟩ : ∃ j, o = j + 1 := ⟨o - 1, by have := HO.out.1; omega⟩
       have hjl : j < (kk.tag K CU o (P ++ Q)).length := by rw [HTL.out.2]; omega
       have cw := s44a.at j (u8s_get _ j hjl)
       have fw := s44a.fr j (by rw [u8s_len]; exact hjl)
       have zw := s44a.lt (by rw [u8s_len, HTL.out.2]; omega)
       obtain ⟨b, hb⟩ : ∃ b, b = (kk.tag K CU o (P ++ Q)).getD j 0 := ⟨_, rfl⟩
       rw [← hb] at cw
       have hxor : bits .xor .u8 (v8 b) 1 = v8 (b ^^^ 1#8) := vxor8 b 1
       have hoj : (o : Int) - 1 = (j : Int) := by omega
       have hoj2 : IntKind.i64.wrap (j : Int) = (j : Int) := by have := HO.out.2; rw [IntKind.wrap_i64]; omega
       have hjo : j < o := by omega
       have HJ := Lib.hid (And.intro hb (And.intro hj hjl)); clear hb hj hjl s43 s44'
       have HYC : yc3 ≤ maxLen := hycm
       clear hycm
       go_wp2_with fail
       have s45' := s44a.store (i := j) (by rw [u8s_len]; exact HJ.out.2.2) (.int .u8 (v8 (b ^^^ 1#8))) (q := j) (by omega)
       rw [u8s_set] at s45'
       obtain ⟨w45, hw45⟩ : ∃ w45, w45 = w44.setCell ⟨gw, j, none⟩ (.int .u8 (v8 (b ^^^ 1#8))) := ⟨_, rfl⟩
       rw [← hw45] at s45' ⊢
       have s45b := bytesOf s45'
       obtain ⟨T3, hT3⟩ : ∃ T, T = (kk.tag K CU o (P ++ Q)).set j (b ^^^ 1#8) := ⟨_, rfl⟩
       rw [← hT3] at s45b
       have hT3l : T3.length = o := by rw [hT3, List.length_set]; exact HTL.out.2
       have hT3n : decide ((kk.tag K CU o (P ++ Q)) = T3) = false := by rw [hT3, HJ.out.1]; exact set_ne _ j HJ.out.2.2
       have HT3 := Lib.hid (And.intro hT3l hT3n); clear hw45 s44a s45' hT3 hT3l hT3n cw fw zw hxor hoj hoj2
       have s45 : Sat W w45 (vaultA v (P3 K kk o CU P (P ++ Q)) :: bytes true (some ⟨gw, 0, none⟩) T3 :: bytes true x2 (kk.tag K CU o (P ++ Q)) :: bytes true x1 (kk.tag K CU o P) :: []) := (Sat.sub (s45b) (by with_reducible repeat first | exact Fr1 | exact Fr2 | (apply Fr3; focus ((repeat (first | exact Tk1 | apply Tk2)); done)) | apply Fr4))
       clear s45b
       go_wp2_with fail
       refine (iDoZ 6 2 0 0 0 (p5 K kk o CU P (P ++ Q)) rfl rfl rfl rfl rfl rfl (P3_ok (B := 6000) HF.out HK5.out (by rw [HB.out.2.2.2.2.2.2.1]; have := HL.out.1; omega) (by rw [List.length_append, HB.out.2.2.2.2.2.2.1, HB.out.2.2.2.2.2.2.2.2.2.1]; have := HL.out.1; have := HL.out.2; omega)) (by decide) s45).mono ?_
       rintro e w46 ⟨ue, ce, rfl, _, _, s46'⟩
       have s46 : Sat W w46 (vaultA v (P4 K kk o CU P (P ++ Q) (P ++ Q)) :: bytes true (some ⟨gw, 0, none⟩) T3 :: bytes true x2 (kk.tag K CU o (P ++ Q)) :: bytes true x1 (kk.tag K CU o P) :: []) := (Sat.sub (s46') (by with_reducible repeat first | exact Fr1 | exact Fr2 | (apply Fr3; focus ((repeat (first | exact Tk1 | apply Tk2)); done)) | apply Fr4))
       clear s45 s46'
       go_wp2_with (first | (refine wpl_alloc_agg rfl 35 rfl s46 _ (zero_ans _) ?_; intro w47a ge s46a _; clear s46) | (refine wpl_stAns rfl rfl (.tmp 30) (.tmp 175) rfl s46a rfl rfl ?_; intro w47 s47x; clear s46a))
       have s47 : Sat W w47 (vaultA v (P4 K kk o CU P (P ++ Q) (P ++ Q)) :: seg true ge 0 [.int .i64 0, .int .i64 3, .bool false, .slice ue 0 ce] :: bytes true (some ⟨gw, 0, none⟩) T3 :: bytes true x2 (kk.tag K CU o (P ++ Q)) :: bytes true x1 (kk.tag K CU o P) :: []) := (Sat.sub (s47x) (by with_reducible repeat first | exact Fr1 | exact Fr2 | (apply Fr3; focus ((repeat (first | exact Tk1 | apply Tk2)); done)) | apply Fr4))
       clear s47x
       go_wp2_with fail
       refine (iDoZ (bn := o) 4 1 0 0 0 (p6 K kk o CU P (P ++ Q) (P ++ Q)) HTL.out.1 rfl rfl rfl rfl rfl (P4_ok (B := 6000) HF.out HK5.out (by rw [HB.out.2.2.2.2.2.2.1]; have := HL.out.1; omega) (by rw [List.length_append, HB.out.2.2.2.2.2.2.1, HB.out.2.2.2.2.2.2.2.2.2.1]; have := HL.out.1; have := HL.out.2; omega) (by rw [List.length_append, HB.out.2.2.2.2.2.2.1, HB.out.2.2.2.2.2.2.2.2.2.1]; have := HL.out.1; have := HL.out.2; omega)) (by decide) s47).mono ?_
       rintro e w48 ⟨uf, cf, rfl, _, _, s48'⟩
       have s48 : Sat W w48 (vaultA v (Q1 K kk o CU (P ++ Q) (P ++ Q)) :: bytes true uf (kk.tag K CU o P) :: seg true ge 0 [.int .i64 0, .int .i64 3, .bool false, .slice ue 0 ce] :: bytes true (some ⟨gw, 0, none⟩) T3 :: bytes true x2 (kk.tag K CU o (P ++ Q)) :: bytes true x1 (kk.tag K CU o P) :: []) := (Sat.sub (s48') (by with_reducible repeat first | exact Fr1 | exact Fr2 | (apply Fr3; focus ((repeat (first | exact Tk1 | apply Tk2)); done)) | apply Fr4))
       clear s47 s48'
       go_wp2_with (first | (refine wpl_alloc_agg rfl 35 rfl s48 _ (zero_ans _) ?_; intro w49a gf s48a _; clear s48) | (refine wpl_stAns rfl rfl (.tmp 31) (.tmp 178) rfl s48a rfl rfl ?_; intro w49 s49x; clear s48a))
       have s49 : Sat W w49 (vaultA v (Q1 K kk o CU (P ++ Q) (P ++ Q)) :: seg true ge 0 [.int .i64 0, .int .i64 3, .bool false, .slice ue 0 ce] :: seg true gf 0 [.int .i64 0, .int .i64 0, .bool false, .slice uf o cf] :: bytes true uf (kk.tag K CU o P) :: bytes true (some ⟨gw, 0, none⟩) T3 :: bytes true x2 (kk.tag K CU o (P ++ Q)) :: bytes true x1 (kk.tag K CU o P) :: []) := (Sat.sub (s49x) (by with_reducible repeat first | exact Fr1 | exact Fr2 | (apply Fr3; focus ((repeat (first | exact Tk1 | apply Tk2)); done)) | apply Fr4))
       clear s49x
       have s50 : Sat W w49 (vaultA v (Q1 K kk o CU (P ++ Q) (P ++ Q)) :: bytes true x2 (kk.tag K CU o (P ++ Q)) :: seg true ge 0 [.int .i64 0, .int .i64 3, .bool false, .slice ue 0 ce] :: seg true gf 0 [.int .i64 0, .int .i64 0, .bool false, .slice uf o cf] :: bytes true uf (kk.tag K CU o P) :: bytes true (some ⟨gw, 0, none⟩) T3 :: bytes true x1 (kk.tag K CU o P) :: []) := (Sat.sub (s49) (by with_reducible repeat first | exact Fr1 | exact Fr2 | (apply Fr3; focus ((repeat (first | exact Tk1 | apply Tk2)); done)) | apply Fr4))
       clear s49
       go_wp2_with fail
       refine (iDoY (dc := xc2) 5 2 0 0 0 (kk.tag K CU o (P ++ Q)) (p7 K kk o CU (P ++ Q) (P ++ Q) (kk.tag K CU o (P ++ Q)) true HTL.out.2 (by rw [decide_eq_true_iff])) rfl rfl rfl rfl rfl rfl (Q1_ok (B := 6000) HF.out HK5.out (by rw [List.length_append, HB.out.2.2.2.2.2.2.1, HB.out.2.2.2.2.2.2.2.2.2.1]; have := HL.out.1; have := HL.out.2; omega) (by rw [List.length_append, HB.out.2.2.2.2.2.2.1, HB.out.2.2.2.2.2.2.2.2.2.1]; have := HL.out.1; have := HL.out.2; omega)) (by decide) HTL.out.2 HX2.out.1 HX2.out.2 (by have := HO.out.2; omega) s50).mono ?_
       rintro e w51 ⟨ug, cg, rfl, _, _, s51'⟩
       have s51 : Sat W w51 (vaultA v (Q2 K kk o CU (P ++ Q)) :: seg true ge 0 [.int .i64 0, .int .i64 3, .bool false, .slice ue 0 ce] :: seg true gf 0 [.int .i64 0, .int .i64 0, .bool false, .slice uf o cf] :: bytes true uf (kk.tag K CU o P) :: bytes true (some ⟨gw, 0, none⟩) T3 :: bytes true x2 (kk.tag K CU o (P ++ Q)) :: bytes true x1 (kk.tag K CU o P) :: []) := (Sat.sub (s51') (by with_reducible repeat first | exact Fr1 | exact Fr2 | (apply Fr3; focus ((repeat (first | exact Tk1 | apply Tk2)); done)) | apply Fr4))
       clear s50 s51'
       go_wp2_with (first | (refine wpl_alloc_agg rfl 35 rfl s51 _ (zero_ans _) ?_; intro w52a gg s51a _; clear s51) | (refine wpl_stAns rfl rfl (.tmp 32) (.tmp 182) rfl s51a rfl rfl ?_; intro w52 s52x; clear s51a))
       have s52 : Sat W w52 (vaultA v (Q2 K kk o CU (P ++ Q)) :: seg true ge 0 [.int .i64 0, .int .i64 3, .bool false, .slice ue 0 ce] :: seg true gf 0 [.int .i64 0, .int .i64 0, .bool false, .slice uf o cf] :: seg true gg 0 [.int .i64 0, .int .i64 0, .bool true, .slice ug 0 cg] :: bytes true uf (kk.tag K CU o P) :: bytes true (some ⟨gw, 0, none⟩) T3 :: bytes true x2 (kk.tag K CU o (P ++ Q)) :: bytes true x1 (kk.tag K CU o P) :: []) := (Sat.sub (s52x) (by with_reducible repeat first | exact Fr1 | exact Fr2 | (apply Fr3; focus ((repeat (first | exact Tk1 | apply Tk2)); done)) | apply Fr4))
       clear s52x
       have s53 : Sat W w52 (vaultA v (Q2 K kk o CU (P ++ Q)) :: bytes true (some ⟨gw, 0, none⟩) T3 :: seg true ge 0 [.int .i64 0, .int .i64 3, .bool false, .slice ue 0 ce] :: seg true gf 0 [.int .i64 0, .int .i64 0, .bool false, .slice uf o cf] :: seg true gg 0 [.int .i64 0, .int .i64 0, .bool true, .slice ug 0 cg] :: bytes true uf (kk.tag K CU o P) :: bytes true x2 (kk.tag K CU o (P ++ Q)) :: bytes true x1 (kk.tag K CU o P) :: []) := (Sat.sub (s52) (by with_reducible repeat first | exact Fr1 | exact Fr2 | (apply Fr3; focus ((repeat (first | exact Tk1 | apply Tk2)); done)) | apply Fr4))
       clear s52
       go_wp2_with fail
       refine (iDoY (dc := yc3) 5 3 0 0 0 T3 (p8 K kk o CU (P ++ Q) T3 false HT3.out.1 HT3.out.2) rfl rfl rfl rfl rfl rfl (Q2_ok (B := 6000) HF.out HK5.out (by rw [List.length_append, HB.out.2.2.2.2.2.2.1, HB.out.2.2.2.2.2.2.2.2.2.1]; have := HL.out.1; have := HL.out.2; omega)) (by decide) HT3.out.1 hyc (by exact HYC) (by have := HO.out.2; omega) s53).mono ?_
       rintro e w54 ⟨ui, ci, rfl, _, _, s54'⟩
       have s54 : Sat W w54 (vaultA v (D1 K) :: seg true ge 0 [.int .i64 0, .int .i64 3, .bool false, .slice ue 0 ce] :: seg true gf 0 [.int .i64 0, .int .i64 0, .bool false, .slice uf o cf] :: seg true gg 0 [.int .i64 0, .int .i64 0, .bool true, .slice ug 0 cg] :: bytes true uf (kk.tag K CU o P) :: bytes true x1 (kk.tag K CU o P) :: []) := (Sat.sub (s54') (by with_reducible repeat first | exact Fr1 | exact Fr2 | (apply Fr3; focus ((repeat (first | exact Tk1 | apply Tk2)); done)) | apply Fr4))
       clear s53 s54'
       go_wp2_with (first | (refine wpl_alloc_agg rfl 35 rfl s54 _ (zero_ans _) ?_; intro w55a gi s54a _; clear s54) | (refine wpl_stAns rfl rfl (.tmp 33) (.tmp 186) rfl s54a rfl rfl ?_; intro w55 s55x; clear s54a; have s55 : Sat W w55 (bytes true uf (kk.tag K CU o P) :: bytes true x1 (kk.tag K CU o P) :: vaultA v (D1 K) :: seg true ge 0 [.int .i64 0, .int .i64 3, .bool false, .slice ue 0 ce] :: seg true gf 0 [.int .i64 0, .int .i64 0, .bool false, .slice uf o cf] :: seg true gg 0 [.int .i64 0, .int .i64 0, .bool true, .slice ug 0 cg] :: seg true gi 0 [.int .i64 0, .int .i64 0, .bool false, .slice ui 0 ci] :: []) := (Sat.sub (s55x) (by with_reducible repeat first | exact Fr1 | exact Fr2 | (apply Fr3; focus ((repeat (first | exact Tk1 | apply Tk2)); done)) | apply Fr4)); clear s55x; have hkeep : ∀ w', Sat W w' (seg true ge 0 [.int .i64 0, .int .i64 3, .bool false, .slice ue 0 ce] :: seg true gf 0 [.int .i64 0, .int .i64 0, .bool false, .slice uf o cf] :: seg true gg 0 [.int .i64 0, .int .i64 0, .bool true, .slice ug 0 cg] :: seg true gi 0 [.int .i64 0, .int .i64 0, .bool false, .slice ui 0 ci] :: []) → w'.cell? ⟨ge, 1, none⟩ = some (.int .i64 3) ∧ w'.cell? ⟨gf, 0, none⟩ = some (.int .i64 0) ∧ w'.cell? ⟨gf, 3, none⟩ = some (.slice uf o cf) ∧ w'.cell? ⟨gg, 0, none⟩ = some (.int .i64 0) ∧ w'.cell? ⟨gg, 2, none⟩ = some (.bool true) ∧ w'.cell? ⟨gi, 0, none⟩ = some (.int .i64 0) ∧ w'.cell? ⟨gi, 2, none⟩ = some (.bool false) ∧ ge < w'.heap.size ∧ gf < w'.heap.size ∧ gg < w'.heap.size ∧ gi < w'.heap.size := fun w' s => ⟨((Sat.sub (s) (by with_reducible repeat first | exact Fr1 | exact Fr2 | (apply Fr3; focus ((repeat (first | exact Tk1 | apply Tk2)); done)) | apply Fr4)) : Sat W w' (seg true ge 0 [.int .i64 0, .int .i64 3, .bool false, .slice ue 0 ce] :: [])).at 1 rfl, ((Sat.sub (s) (by with_reducible repeat first | exact Fr1 | exact Fr2 | (apply Fr3; focus ((repeat (first | exact Tk1 | apply Tk2)); done)) | apply Fr4)) : Sat W w' (seg true gf 0 [.int .i64 0, .int .i64 0, .bool false, .slice uf o cf] :: [])).at 0 rfl, ((Sat.sub (s) (by with_reducible repeat first | exact Fr1 | exact Fr2 | (apply Fr3; focus ((repeat (first | exact Tk1 | apply Tk2)); done)) | apply Fr4)) : Sat W w' (seg true gf 0 [.int .i64 0, .int .i64 0, .bool false, .slice uf o cf] :: [])).at 3 rfl, ((Sat.sub (s) (by with_reducible repeat first | exact Fr1 | exact Fr2 | (apply Fr3; focus ((repeat (first | exact Tk1 | apply Tk2)); done)) | apply Fr4)) : Sat W w' (seg true gg 0 [.int .i64 0, .int .i64 0, .bool true, .slice ug 0 cg] :: [])).at 0 rfl, ((Sat.sub (s) (by with_reducible repeat first | exact Fr1 | exact Fr2 | (apply Fr3; focus ((repeat (first | exact Tk1 | apply Tk2)); done)) | apply Fr4)) : Sat W w' (seg true gg 0 [.int .i64 0, .int .i64 0, .bool true, .slice ug 0 cg] :: [])).at 2 rfl, ((Sat.sub (s) (by with_reducible repeat first | exact Fr1 | exact Fr2 | (apply Fr3; focus ((repeat (first | exact Tk1 | apply Tk2)); done)) | apply Fr4)) : Sat W w' (seg true gi 0 [.int .i64 0, .int .i64 0, .bool false, .slice ui 0 ci] :: [])).at 0 rfl, ((Sat.sub (s) (by with_reducible repeat first | exact Fr1 | exact Fr2 | (apply Fr3; focus ((repeat (first | exact Tk1 | apply Tk2)); done)) | apply Fr4)) : Sat W w' (seg true gi 0 [.int .i64 0, .int .i64 0, .bool false, .slice ui 0 ci] :: [])).at 2 rfl, ((Sat.sub (s) (by with_reducible repeat first | exact Fr1 | exact Fr2 | (apply Fr3; focus ((repeat (first | exact Tk1 | apply Tk2)); done)) | apply Fr4)) : Sat W w' (seg true ge 0 [.int .i64 0, .int .i64 3, .bool false, .slice ue 0 ce] :: [])).lt (by simp), ((Sat.sub (s) (by with_reducible repeat first | exact Fr1 | exact Fr2 | (apply Fr3; focus ((repeat (first | exact Tk1 | apply Tk2)); done)) | apply Fr4)) : Sat W w' (seg true gf 0 [.int .i64 0, .int .i64 0, .bool false, .slice uf o cf] :: [])).lt (by simp), ((Sat.sub (s) (by with_reducible repeat first | exact Fr1 | exact Fr2 | (apply Fr3; focus ((repeat (first | exact Tk1 | apply Tk2)); done)) | apply Fr4)) : Sat W w' (seg true gg 0 [.int .i64 0, .int .i64 0, .bool true, .slice ug 0 cg] :: [])).lt (by simp), ((Sat.sub (s) (by with_reducible repeat first | exact Fr1 | exact Fr2 | (apply Fr3; focus ((repeat (first | exact Tk1 | apply Tk2)); done)) | apply Fr4)) : Sat W w' (seg true gi 0 [.int .i64 0, .int .i64 0, .bool false, .slice ui 0 ci] :: [])).lt (by simp)⟩; have HKEEP := Lib.hid hkeep; clear hkeep; obtain ⟨f1, f2, f3, f4, f5, f6, f7, z1, z2, z3, z4⟩ := HKEEP.out _ (Sat.sub (s55) (by with_reducible repeat first | exact Fr1 | exact Fr2 | (apply Fr3; focus ((repeat (first | exact Tk1 | apply Tk2)); done)) | apply Fr4))))
       refine (sameT (ca := cf) (cb := xc1) (kk.tag K CU o P) (kk.tag K CU o P) HTL.out.1 HTL.out.1 (by have := HO.out.2; omega) rfl s55).mono ?_
       rintro e w56 ⟨rfl, s56'⟩
       have s56 : Sat W w56 (vaultA v (D1 K) :: seg true ge 0 [.int .i64 0, .int .i64 3, .bool false, .slice ue 0 ce] :: seg true gf 0 [.int .i64 0, .int .i64 0, .bool false, .slice uf o cf] :: seg true gg 0 [.int .i64 0, .int .i64 0, .bool true, .slice ug 0 cg] :: seg true gi 0 [.int .i64 0, .int .i64 0, .bool false, .slice ui 0 ci] :: []) := (Sat.sub (s56') (by with_reducible repeat first | exact Fr1 | exact Fr2 | (apply Fr3; focus ((repeat (first | exact Tk1 | apply Tk2)); done)) | apply Fr4))
       clear s55 s56' f1 f2 f3 f4 f5 f6 f7 z1 z2 z3 z4
       obtain ⟨f1, f2, f3, f4, f5, f6, f7, z1, z2, z3, z4⟩ := HKEEP.out _ (Sat.sub (s56) (by with_reducible repeat first | exact Fr1 | exact Fr2 | (apply Fr3; focus ((repeat (first | exact Tk1 | apply Tk2)); done)) | apply Fr4))
       go_wp2_with fail
       refine (iHeld (B := 6000) (D1 K) (D1_ok HK5.out) (by decide) s56).mono ?_
       rintro e w57 ⟨hln, hp, hc, hhn, rfl, s57⟩
       rw [D1_held] at hhn
       subst hhn
       have HS := Lib.hid s57.below; clear s56 s57 f1 f2 f3 f4 f5 f6 f7 z1 z2 z3 z4
       go_wp2_with fail
       go_ret
       exact ⟨rfl, HS.out⟩

end Go.Proofs.YtpiiklfnakkdiaaGreat
