/- Hm3, Hm4, Rng, Hk, Hk2, Hk3, Hk4: texts that lie apart elsewhere, as one; each under the conditions that it names. -/
import Derived.Test.YtpiiklfnakkdiaaGreatGP
import Derived.Test.YtpiiklfnakkdiaaGreatGG
import Derived.RangeFuncLeaves
import Derived.RangeFuncRecord
import Derived.RangeFuncSeq
import Derived.RangeFuncCalls
import Derived.WalkKit
import Derived.Test.YtpiiklfnakkdiaaGreatGA
import Derived.RangeFuncNested
import Derived.RangeFuncBound
import Derived.Shelf.RegionOpen
import Derived.OwnWalkIn
import Derived.TacticsInMore
import Derived.LoopNIn
import Derived.LoopIn

/- Layer 12's program: a mac's form, size, clone, refusal; under the conditions that each names. -/
namespace Go.Proofs.YtpiiklfnakkdiaaGreat
open Go.RowKit Go.Sep Go.Bv Go.Sha
set_option linter.unusedVariables false
set_option linter.unusedSimpArgs false
def formsH (wide : Bool) (k msg : List Byte) : Nat → List Byte
 | 0 => []
 | 1 => formH wide (xorKey wide k 54 ++ msg)
 | 2 => formH wide (xorKey wide k 54 ++ msg) ++ formH wide (xorKey wide k 92)
 | _ => formH wide (xorKey wide k 54 ++ msg) ++ formH wide (xorKey wide k 92) ++ formH wide (xorKey wide k 54)
/-- A mac's memory. -/
def macForm (wide : Bool) (k msg : List Byte) : List Byte := formsH wide k msg 3
end Go.Proofs.YtpiiklfnakkdiaaGreat

/- Layer 12's program: a mac's form and size, a refused algorithm; layer 12's statements: events; under the conditions that each names. -/
namespace Go.Proofs.YtpiiklfnakkdiaaGreat
open Go.RowKit Go.Sep Go.Bv Go.Sha
set_option linter.unusedVariables false
set_option linter.unusedSimpArgs false
theorem rowBack {W0 w : World} {L : List Assn} {p : Option Addr} {c n : Nat} {vs : List Value} {k : Nat} (h : Sat W0 w (row p c 1 n vs :: L)) (e : n = k) : Sat W0 w (row p c 1 k vs :: L) := e ▸ h
set_option maxHeartbeats 1000000 in
theorem hmacNewNone {W0 w : World} {L : List Assn} (a : Int) (h1 : ¬ a = 1) (h2 : ¬ a = 2) (p v : Value) (hs : Sat W0 w L) :
  Calls Tryz.prog 36 #[p, .int .u8 a, v] w fun e w' => e = .returned (.tuple #[.pointer none, .int .i64 4]) ∧ Sat W0 w' L := by
 go_enter Tryz.func36, Tryz.ntmps36
 go_wp2_with fail
 refine (dOfNone a h1 h2 hs).mono ?_
 rintro e w1 ⟨rfl, s1⟩
 simp only [hbare]
 go_wp2
 refine bodyPost_ret (v := .tuple #[.pointer none, .int .i64 4]) (by simp [results, Tryz.results36, go_sem]) rfl ⟨rfl, (s1.alloc _ _).tail⟩
set_option maxHeartbeats 1000000 in
theorem hmacTagNone {W0 w : World} {L : List Assn} (a : Int) (h1 : ¬ a = 1) (h2 : ¬ a = 2) (p v u : Value) (hs : Sat W0 w L) :
  Calls Tryz.prog 29 #[p, .int .u8 a, v, u] w fun e w' => e = .returned (.tuple #[.slice none 0 0, .int .i64 4]) ∧ Sat W0 w' L := by
 go_enter Tryz.func29, Tryz.ntmps29
 go_wp2_with fail
 refine (hmacNewNone a h1 h2 p v hs).mono ?_
 rintro e w1 ⟨rfl, s1⟩
 go_wp2
 refine bodyPost_ret (v := .tuple #[.slice none 0 0, .int .i64 4]) (by simp [results, Tryz.results29, go_sem]) rfl ⟨rfl, s1⟩
/-- The contracts of a mac over lengths by name. -/
theorem hmacNewF {W0 w : World} {L : List Assn} {cap n : Nat} {m : Bool} {sp : Option Addr} {pv av : Value} (wide : Bool) (p : Option Nat) (rs : List Run3) (key : List Byte) (hn : key.length = n) (hp : pv = ptrO p) (ha : av = .int .u8 (algN wide)) (hcap : n ≤ cap) (hcm : cap ≤ maxLen) (hb : tot rs + 2 * n + 1600 ≤ 2305843009213693952) (hl : rs.length + 4 ≤ 1048576)
  (hs : Sat W0 w (ledO p rs :: bytes m sp key :: L)) :
  Calls Tryz.prog 36 #[pv, av, .slice sp n cap] w fun e w' => ∃ c, e = .returned (.tuple #[.pointer (some ⟨c, 0, none⟩), .int .i64 0]) ∧ Sat W0 w' (mac wide c (blockKey wide key) [] :: ledO p (noteN rs (evK wide) (evS wide) (keyN wide n)) :: bytes m sp key :: L) := by
 subst hn hp ha
 exact hmacNew wide p rs key hcap hcm hb hl hs
theorem hmacWriteF {W0 w : World} {L : List Assn} {c cap n : Nat} {m : Bool} {sp : Option Addr} {pv : Value} (wide : Bool) (p : Option Nat) (rs : List Run3) (k msg bs : List Byte) (hn : bs.length = n) (hp : pv = ptrO p) (hcap : n ≤ cap) (hcm : cap ≤ maxLen) (hb : tot rs + msg.length + n + 128 ≤ 2305843009213693952) (hl : rs.length ≤ 1048576)
  (hs : Sat W0 w (ledO p rs :: bytes m sp bs :: mac wide c k msg :: L)) :
  Calls Tryz.prog 48 #[.pointer (some ⟨c, 0, none⟩), pv, .slice sp n cap] w fun e w' => e = .returned (.int .i64 0) ∧ Sat W0 w' (ledO p (noteN rs (evK wide) (evS wide) ((msg.length + n) / bsz wide - msg.length / bsz wide)) :: bytes m sp bs :: mac wide c k (msg ++ bs) :: L) := by
 subst hn hp
 exact hmacWrite wide p rs k msg bs hcap hcm hb hl hs
theorem hmacSumF {W0 w : World} {L : List Assn} {c : Nat} {pv : Value} (wide : Bool) (p : Option Nat) (rs : List Run3) (key msg : List Byte) (hp : pv = ptrO p) (hb : tot rs + msg.length + 2000 ≤ 2305843009213693952) (hl : rs.length + 4 ≤ 1048576)
  (hs : Sat W0 w (ledO p rs :: mac wide c (blockKey wide key) msg :: L)) :
  Calls Tryz.prog 49 #[.pointer (some ⟨c, 0, none⟩), pv] w fun e w' => ∃ q cq, e = .returned (.tuple #[.slice q (hsz wide) cq, .int .i64 0]) ∧ Sat W0 w' (bytes true q (hmac wide key msg) :: ledO p (noteN rs (evK wide) (evS wide) (endN wide msg.length)) :: mac wide c (blockKey wide key) msg :: L) := by
 subst hp
 refine (hmacSum wide p rs key msg hb hl hs).mono ?_
 rintro e w' ⟨q, cq, rfl, s⟩
 exact ⟨q, cq, rfl, (rowBytes s).2.2.2⟩
theorem hmacTagF {W0 w : World} {L : List Assn} {cap cap2 n n2 : Nat} {m m2 : Bool} {sp sp2 : Option Addr} {pv av : Value} (wide : Bool) (p : Option Nat) (rs : List Run3) (key bs : List Byte) (hn : key.length = n) (hn2 : bs.length = n2) (hp : pv = ptrO p) (ha : av = .int .u8 (algN wide)) (hcap : n ≤ cap) (hcm : cap ≤ maxLen) (hcap2 : n2 ≤ cap2) (hcm2 : cap2 ≤ maxLen) (hb : tot rs + 2 * n + 2 * n2 + 4000 ≤ 2305843009213693952) (hl : rs.length + 8 ≤ 1048576)
  (hs : Sat W0 w (ledO p rs :: bytes m sp key :: bytes m2 sp2 bs :: L)) :
  Calls Tryz.prog 29 #[pv, av, .slice sp n cap, .slice sp2 n2 cap2] w fun e w' => ∃ q cq, e = .returned (.tuple #[.slice q (hsz wide) cq, .int .i64 0]) ∧ hsz wide ≤ cq ∧ cq ≤ maxLen ∧ Sat W0 w' (bytes true q (hmac wide key bs) :: ledO p (noteN rs (evK wide) (evS wide) (keyN wide n + n2 / bsz wide + endN wide n2)) :: bytes m sp key :: bytes m2 sp2 bs :: L) := by
 subst hn hn2 hp ha
 refine (hmacTag wide p rs key bs hcap hcm hcap2 hcm2 hb hl hs).mono ?_
 rintro e w' ⟨q, cq, rfl, s⟩
 obtain ⟨_, h1, h2, s1⟩ := rowBytes s
 exact ⟨q, cq, rfl, h1, h2, s1⟩
end Go.Proofs.YtpiiklfnakkdiaaGreat

/- A range over a function, in the separation logic: the statement; a round; each under the conditions that it names. -/
namespace Go.Sep
open Go.RowKit
set_option linter.unusedVariables false
/-- A loop's record. -/
abbrev loopRec (fn : FuncId) (tmps : Array Value) (ps : Array Tmp) (assign body : Code) (D : Nat) (st : LoopState) (pe : Option Code) : Obj := .loop { state := st, pending := pe, fn, tmps, params := ps, assign, body, defers := D }
/-- What an activation puts among its deferred calls. -/
abbrev markOf (D : Nat) : Deferred := { target := .collected D, args := #[] }
theorem wpIn_rangeSat {F : Fence} {n : Nat} {P : Program} {W0 w : World} {L : List Assn} {g : Operand} {ps : Array Tmp} {assign body : Code} {Q : Exit → Act → World → Prop} {a : Act}
  (hro : F.round = none) (h1 : 1 ≤ n) {gf : Nat} {lb : Array Value} (hg : a.eval g = .func (.func gf) #[] lb) (hFg : F.fn gf) (eg : ∀ args w, (callFunc gf args).run P w = .ok (.enter gf args) w)
  (hs : Sat W0 w L)
  (h : ∀ (fn : FuncId) (l D : Nat) (rd : LoopState → Option Code → Obj) (W1 : World), F.fn fn → l = w.heap.size + 1 → D = w.heap.size → rd = loopRec fn a.tmps ps assign body D → Sat W0 W1 (obj l (rd .ready none) :: obj D (.deferred (some [])) :: L) →
   CallsIn F (n - 1) P gf (#[.func (.yield l) #[] #[]] ++ lb) W1 fun e W' => (∃ v, e = .returned v) ∧ ∃ st pe L', st ≠ .busy ∧ Sat W0 W' (obj l (rd st pe) :: obj D (.deferred (some [])) :: L') ∧
    ∀ W2, Sat W0 W2 (obj D (.deferred (some [])) :: L') → W2.heap[D]? = some (.deferred (some [])) → (match pe with | none => Q .normal { a with defers := markOf D :: a.defers } W2 | some c => c.wpIn F n P Q { a with defers := markOf D :: a.defers } W2)) :
  (Code.rangeFunc g ps assign body).wpIn F n P Q a w := by
 refine wpIn_rangeFunc ?_
 intro fn hfn
 rw [hro]
 have s1 := hs.allocObj (.deferred (some [])) rfl rfl
 have s2 := s1.allocObj (loopRec fn a.tmps ps assign body w.heap.size .ready none) rfl (q := w.heap.size + 1) (by simp)
 refine ⟨w.heap.size + 1, [markOf w.heap.size], (w.alloc (.deferred (some []))).alloc (loopRec fn a.tmps ps assign body w.heap.size .ready none), { target := .fn (.func gf) lb, args := #[.func (.yield (w.heap.size + 1)) #[] #[]] }, (w.alloc (.deferred (some []))).alloc (loopRec fn a.tmps ps assign body w.heap.size .ready none), gf, #[.func (.yield (w.heap.size + 1)) #[] #[]] ++ lb, (w.alloc (.deferred (some []))).alloc (loopRec fn a.tmps ps assign body w.heap.size .ready none), run_enterLoop_outer _ _ _ _ _, ?_, ?_, ?_, fun _ => h1, ?_⟩
 ·simp only [resolve, hg]
  simp [go_sem]
 ·intro f' hf'; simp [Target.leads] at hf'; subst hf'; exact hFg
 ·simp [invoke, go_sem, eg]
 ·refine (h fn (w.heap.size + 1) w.heap.size _ _ hfn rfl rfl rfl s2).mono ?_
  rintro e W' ⟨⟨v, rfl⟩, st, pe, L', hst, s3, h3⟩
  have s4 := s3.putObj (loopRec fn a.tmps ps assign body w.heap.size .exhausted pe) rfl
  have s5 : Sat W0 _ (obj w.heap.size (.deferred (some [])) :: L') := s4.tail
  refine ⟨pe, _, run_endLoop s3.obj.1 hst, ?_⟩
  have h4 := h3 _ s5 s5.obj.1
  cases pe with
  | none => exact h4
  | some c => exact h4
/-- A round: the body is walked from the world in which the record is busy. -/
theorem yieldSat {F : Fence} {n : Nat} {P : Program} {W0 W : World} {L : List Assn} {l D : Nat} {fn : FuncId} {tmps : Array Value} {ps : Array Tmp} {assign body : Code} {args : Array Value} {R : Ending → World → Prop}
  (hsz : args.size = ps.size) (hfn : F.fn fn) (hs : Sat W0 W (obj l (loopRec fn tmps ps assign body D .ready none) :: L)) (a1 : Act)
  (hassign : ∀ K : Act → World → Prop, K a1 W → assign.wpIn (F.inRound l) n P (Exit.then K (fun _ _ _ => False)) { tmps := (ps.zip args).foldl (fun t (p, v) => t.setIfInBounds p v) tmps, defers := [] } W)
  (hbody : ∀ W2, Sat W0 W2 (obj l (loopRec fn tmps ps assign body D .busy none) :: L) → body.wpIn (F.inRound l) n P (fun e _ W3 => ∃ L3, Sat W0 W3 (obj l (loopRec fn tmps ps assign body D .busy none) :: L3) ∧
    (match e with
    | .normal => ∀ W4, Sat W0 W4 (obj l (loopRec fn tmps ps assign body D .ready none) :: L3) → R (.returned (.bool true)) W4
    | .exit id => ∀ W4, Sat W0 W4 (obj l (loopRec fn tmps ps assign body D .done (some (.exit id))) :: L3) → R (.returned (.bool false)) W4
    | .ret => ∀ W4, Sat W0 W4 (obj l (loopRec fn tmps ps assign body D .done (some .ret)) :: L3) → R (.returned (.bool false)) W4
    | _ => False)) a1 W2) :
  YieldAt F n P l args W R := by
 refine ⟨fn, _, assign, body, run_yield hs.obj.1 hsz, roundIn_of_wpIn hfn (hassign _ ⟨_, run_beginRound hs.obj.1 rfl, ?_⟩)⟩
 refine wpIn_mono (hbody _ (hs.putObj (loopRec fn tmps ps assign body D .busy none) rfl)) ?_
 rintro e a3 W3 ⟨L3, s3, h3⟩
 cases e with
 | normal => exact ⟨_, _, run_endRound none s3.obj.1, h3 _ (s3.putObj (loopRec fn tmps ps assign body D .ready none) rfl)⟩
 | ret => exact ⟨_, _, run_endRound (some .ret) s3.obj.1, h3 _ (s3.putObj (loopRec fn tmps ps assign body D .done (some .ret)) rfl)⟩
 | exit id => exact ⟨_, _, run_endRound (some (.exit id)) s3.obj.1, h3 _ (s3.putObj (loopRec fn tmps ps assign body D .done (some (.exit id))) rfl)⟩
 | goto t => exact h3.elim
 | panic c => exact h3.elim
 | outgrown => exact h3.elim
end Go.Sep

/- Layer 15's program: HKDF; under the conditions that each names. -/
namespace Go.Sha
open Go.Bv
/-- T(i): T(0) is empty. -/
def hkT (wide : Bool) (prk info : List Byte) : Nat → List Byte
 | 0 => []
 | i + 1 => hmac wide prk (hkT wide prk info i ++ info ++ [BitVec.ofNat 8 (i + 1)])
/-- The first i of them, one behind the other. -/
def hkOut (wide : Bool) (prk info : List Byte) : Nat → List Byte
 | 0 => []
 | i + 1 => hkOut wide prk info i ++ hkT wide prk info (i + 1)
/-- How many of them n bytes want. -/
def hkM (wide : Bool) (n : Nat) : Nat := (n + hsz wide - 1) / hsz wide
def hkdf (wide : Bool) (prk info : List Byte) (n : Nat) : List Byte := (hkOut wide prk info (hkM wide n)).take n
theorem hkT_len (wide : Bool) (prk info : List Byte) (i : Nat) : (hkT wide prk info i).length = if i = 0 then 0 else hsz wide := by
 cases i with
 | zero => rfl
 | succ i => exact hmac_len _ _ _
theorem hkOut_len (wide : Bool) (prk info : List Byte) (i : Nat) : (hkOut wide prk info i).length = i * hsz wide := by
 induction i with
 | zero => simp [hkOut]
 | succ i ih => rw [hkOut, List.length_append, ih, hkT_len, if_neg (by omega), Nat.succ_mul]
end Go.Sha
namespace Go.Proofs.YtpiiklfnakkdiaaGreat
open Go.RowKit Go.Sep Go.Bv Go.Sha
set_option linter.unusedVariables false
set_option linter.unusedSimpArgs false
/-- How many blocks of the hash a step of Expand takes: t bytes ahead, n of information. -/
def hkStep (wide : Bool) (t n : Nat) : Nat := (t + n + 1) / bsz wide + endN wide (t + n + 1)
def hkCnt (wide : Bool) (n : Nat) : Nat → Nat
 | 0 => 0
 | i + 1 => hkCnt wide n i + hkStep wide (if i = 0 then 0 else hsz wide) n
/-- How many blocks Expand takes. -/
def expN (wide : Bool) (k m n : Nat) : Nat := keyN wide k + hkCnt wide m (hkM wide n)
set_option maxHeartbeats 1000000 in
theorem hkMay {W0 w : World} {L : List Assn} (wide : Bool) (z : Int) (r : Int) (hr : r = if z < 0 then 2 else if 255 * (hsz wide : Int) < z then 9 else 0) (hs : Sat W0 w L) :
  Calls Tryz.prog 32 #[.int .u8 (algN wide), .int .i64 z] w fun e w' => e = .returned (.int .i64 r) ∧ Sat W0 w' L := by
 cases wide
 ·skip
  go_enter Tryz.func32, Tryz.ntmps32
  go_wp2_with fail
  refine (dOf false hs).mono ?_
  rintro e w1 ⟨rfl, s1⟩
  have s2 := s1.alloc (hcells false).toArray 96
  have c1 := s2.at 1 rfl
  have z1 := s2.lt (by simp [hcells])
  simp only [hsz] at hr
  simp only [hcells] at c1 z1 ⊢
  by_cases h1 : z < 0
  ·rw [if_pos h1] at hr
   subst hr
   go_wp2
   go_ret
   exact ⟨rfl, s2.tail⟩
  ·rw [if_neg h1] at hr
   by_cases h2 : 8160 < z
   ·have hr9 : r = 9 := by rw [hr]; exact if_pos (by omega)
    clear hr
    subst hr9
    go_wp2
    go_ret
    exact ⟨rfl, s2.tail⟩
   ·have hr0 : r = 0 := by rw [hr]; exact if_neg (by omega)
    clear hr
    subst hr0
    go_wp2
    go_ret
    exact ⟨rfl, s2.tail⟩
 ·skip
  go_enter Tryz.func32, Tryz.ntmps32
  go_wp2_with fail
  refine (dOf true hs).mono ?_
  rintro e w1 ⟨rfl, s1⟩
  have s2 := s1.alloc (hcells true).toArray 96
  have c1 := s2.at 1 rfl
  have z1 := s2.lt (by simp [hcells])
  simp only [hsz] at hr
  simp only [hcells] at c1 z1 ⊢
  by_cases h1 : z < 0
  ·rw [if_pos h1] at hr
   subst hr
   go_wp2
   go_ret
   exact ⟨rfl, s2.tail⟩
  ·rw [if_neg h1] at hr
   by_cases h2 : 16320 < z
   ·have hr9 : r = 9 := by rw [hr]; exact if_pos (by omega)
    clear hr
    subst hr9
    go_wp2
    go_ret
    exact ⟨rfl, s2.tail⟩
   ·have hr0 : r = 0 := by rw [hr]; exact if_neg (by omega)
    clear hr
    subst hr0
    go_wp2
    go_ret
    exact ⟨rfl, s2.tail⟩
set_option maxHeartbeats 1000000 in
theorem hkMayNone {W0 w : World} {L : List Assn} (a : Int) (h1 : ¬ a = 1) (h2 : ¬ a = 2) (v : Value) (hs : Sat W0 w L) :
  Calls Tryz.prog 32 #[.int .u8 a, v] w fun e w' => e = .returned (.int .i64 4) ∧ Sat W0 w' L := by
 go_enter Tryz.func32, Tryz.ntmps32
 go_wp2_with fail
 refine (dOfNone a h1 h2 hs).mono ?_
 rintro e w1 ⟨rfl, s1⟩
 simp only [hbare]
 go_wp2
 go_ret
 exact ⟨rfl, (s1.alloc _ _).tail⟩
set_option maxHeartbeats 1000000 in
theorem hkBlocks {W0 w : World} {L : List Assn} (pl pm ip : Option Addr) (ni ic : Nat) (hs : Sat W0 w L) :
  Calls Tryz.prog 57 #[.pointer pl, .pointer pm, .slice ip ni ic] w fun e w' => ∃ bl bm bi, e = .returned (.func (.func 88) #[] #[.pointer (some ⟨bm, 0, none⟩), .pointer (some ⟨bl, 0, none⟩), .pointer (some ⟨bi, 0, none⟩)]) ∧ Sat W0 w' (seg true bi 0 [.slice ip ni ic] :: seg true bm 0 [.pointer pm] :: seg true bl 0 [.pointer pl] :: L) := by
 have s := ((hs.allocAt #[.pointer pl] 71 rfl).allocAt #[.pointer pm] 74 (q := w.heap.size + 1) (by simp)).allocAt #[.slice ip ni ic] 24 (q := w.heap.size + 1 + 1) (by simp)
 go_enter Tryz.func57, Tryz.ntmps57
 go_wp2
 go_ret
 exact ⟨_, _, _, rfl, s⟩
end Go.Proofs.YtpiiklfnakkdiaaGreat

/- Layer 15's program: the iterator over T(1), T(2) and so on, and Expand; under the conditions that each names. -/
namespace Go.Sep
open Go.RowKit
set_option linter.unusedVariables false
theorem wplIn_append {F : Fence} {n0 : Nat} {P : Program} {W0 w : World} {L : List Assn} {ops : Array Oper} {rest : List Oper} {o : Oper} {a : Act} {Q : Exit → Act → World → Prop} (hgd : o.guard = none) (s x : Operand) (t : TypeId) (ho : o.op = .call { callee := .builtin .append, args := #[s, x], argTypes := #[t, t] }) {e : TypeId} {i : TypeInfo} {z : Value} {size bytes : Nat}
  (ht : P.underlying t = some (.slice e)) (hi : P.info? e = some i) (hz : i.zero = some z) (hsize : i.size = size) (hby : i.bytes = bytes) (hzs : z.cells.size = size) (hsz : 0 < size)
  {p : Option Addr} {cp n : Nat} {xs : List Value} (hs : Sat W0 w (row p cp size n xs :: L)) (hv : a.eval s = .slice p n cp) (sp : Option Addr) (m c : Nat) (hx : a.eval x = .slice sp m c) (news : List Value) (hl : news.length = m * size)
  (hnews : ∀ j u, news[j]? = some u → ∃ ad, sp = some ad ∧ w.cell? (ad.add j) = some u) (hnil : sp = none → m = 0) (h1 : ∀ u ∈ news, u.oneCell' = true) (h63 : n + m ≤ maxLen) (hbytes : (n + m) * bytes ≤ 140737488355328)
  (h : ∀ p' c' w', Sat W0 w' (row p' c' size (n + m) (xs ++ news) :: L) → wpListIn F n0 P ops Q rest (a.put o.dst (.slice p' (n + m) c')) w') : wpListIn F n0 P ops Q (o :: rest) a w := by
 refine wpListIn_plain hgd fun K hK => ?_
 obtain ⟨p', c', w', hr, h2, h3, h4⟩ := run_append_row (P := P) t o.type e ht hi hz hsize hby hzs hsz hs sp m c news hl hnews hnil h1 h63 hbytes
 unfold Oper.wpIn
 refine ⟨?_, ?_⟩
 ·simp [Oper.about, ho, resolve, Target.leads, Sem.run_pure]
 ·rw [Oper.semAt_plain F _ _ (by rw [ho]; intro c hc'; cases hc')]
  simp only [execOp, ho, resolve, invoke, builtin, Sem.run_bind, Sem.run_pure, Result.andThen_ok, List.map_toArray, List.map_cons, List.map_nil, hv, hx, hr]
  exact hK _ _ (h p' c' w' h2)
end Go.Sep
namespace Go.Proofs.YtpiiklfnakkdiaaGreat
open Go.RowKit Go.Sep Go.Bv Go.Sha
set_option linter.unusedVariables false
set_option linter.unusedSimpArgs false
attribute [local go_sem] Oper.semAt_some
theorem wplIn_app8 {F : Fence} {n0 : Nat} {W0 w : World} {L : List Assn} {ops : Array Oper} {rest : List Oper} {o : Oper} {a : Act} {Q : Exit → Act → World → Prop} (hgd : o.guard = none) (s x : Operand) (ho : o.op = .call { callee := .builtin .append, args := #[s, x], argTypes := #[24, 24] })
  {p : Option Addr} {cp n : Nat} {xs : List Byte} {m : Bool} {q : Option Addr} {k cq : Nat} {ys : List Byte} (hv : a.eval s = .slice p n cp) (hx : a.eval x = .slice q k cq)
  (hs : Sat W0 w (row p cp 1 n (u8s xs) :: bytes m q ys :: L)) (hk : ys.length = k) (hb : n + k ≤ 140737488355328)
  (h : ∀ p' c' w', Sat W0 w' (row p' c' 1 (n + k) (u8s (xs ++ ys)) :: bytes m q ys :: L) → wpListIn F n0 Tryz.prog ops Q rest (a.put o.dst (.slice p' (n + k) c')) w') : wpListIn F n0 Tryz.prog ops Q (o :: rest) a w := by
 obtain ⟨i3, hi3, hz3, hs3, hb3⟩ := info_parts Tryz.info_u8
 have hB : Sat W0 w (bytes m q ys :: row p cp 1 n (u8s xs) :: L) := hs.pull 1
 refine wplIn_append hgd s x 24 ho Tryz.underlying24 hi3 hz3 hs3 hb3 rfl (by decide) hs hv q k cq hx (u8s ys) (by rw [u8s_len, hk, Nat.mul_one]) (bytesNews hB) (bytesNone0 hB hk) (u8s_one _) (by unfold maxLen; omega) (by omega) ?_
 intro p' c' w' h1
 rw [← u8s_append] at h1
 exact h p' c' w' h1
theorem hmacSumC {W0 w : World} {L : List Assn} {c : Nat} {pv : Value} (wide : Bool) (p : Option Nat) (rs : List Run3) (key msg k : List Byte) (hk : k = blockKey wide key) (hp : pv = ptrO p) (hb : tot rs + msg.length + 2000 ≤ 2305843009213693952) (hl : rs.length + 4 ≤ 1048576)
  (hs : Sat W0 w (ledO p rs :: mac wide c k msg :: L)) :
  Calls Tryz.prog 49 #[.pointer (some ⟨c, 0, none⟩), pv] w fun e w' => ∃ q cq, e = .returned (.tuple #[.slice q (hsz wide) cq, .int .i64 0]) ∧ hsz wide ≤ cq ∧ cq ≤ maxLen ∧ Sat W0 w' (bytes true q (hmac wide key msg) :: ledO p (noteN rs (evK wide) (evS wide) (endN wide msg.length)) :: mac wide c k msg :: L) := by
 subst hk hp
 refine (hmacSum wide p rs key msg hb hl hs).mono ?_
 rintro e w' ⟨q, cq, rfl, s⟩
 obtain ⟨_, h1, h2, s1⟩ := rowBytes s
 exact ⟨q, cq, rfl, h1, h2, s1⟩
/-- The message of the i-th step. -/
def hkMsg (wide : Bool) (prk info : List Byte) : Nat → List Byte
 | 0 => []
 | i + 1 => hkT wide prk info i ++ info ++ [BitVec.ofNat 8 (i + 1)]
/-- What the iterator holds behind i steps. -/
abbrev hkOwn (wide : Bool) (p : Option Nat) (rs : List Run3) (prk info k : List Byte) (c bl bm bi : Nat) (mi : Bool) (ip : Option Addr) (ni ic : Nat) (i : Nat) (L : List Assn) : List Assn :=
 ledO p (noteN rs (evK wide) (evS wide) (hkCnt wide ni i)) :: mac wide c k (hkMsg wide prk info i) :: seg true bm 0 [.pointer (some ⟨c, 0, none⟩)] :: seg true bl 0 [ptrO p] :: seg true bi 0 [.slice ip ni ic] :: bytes mi ip info :: L
set_option maxRecDepth 100000 in
set_option maxHeartbeats 1000000 in
theorem hkIter {W0 W : World} (wide : Bool) (p : Option Nat) (rs : List Run3) (prk info k : List Byte) (hk : k = blockKey wide prk) {c bl bm bi : Nat} {mi : Bool} {ip : Option Addr} {ni ic : Nat} (hni : info.length = ni) (hic : ni ≤ ic) (hicm : ic ≤ maxLen)
  (N : Nat) (hN : 1 ≤ N) (hN2 : N ≤ 255) (hb : tot rs + 1000 * ni + 1000000 ≤ 2305843009213693952) (hl : rs.length + 8 ≤ 1048576) (J : Nat → List Assn) (E : World → Prop) (l m : Nat)
  (hY : ∀ i q cq W1, i < N → hsz wide ≤ cq → cq ≤ maxLen → Sat W0 W1 (bytes true q (hkT wide prk info (i + 1)) :: hkOwn wide p rs prk info k c bl bm bi mi ip ni ic (i + 1) (J i)) → YieldAt Fence.wide m Tryz.prog l #[.slice q (hsz wide) cq] W1 fun e W' =>
   (e = .returned (.bool true) ∧ i + 1 < N ∧ Sat W0 W' (bytes true q (hkT wide prk info (i + 1)) :: hkOwn wide p rs prk info k c bl bm bi mi ip ni ic (i + 1) (J (i + 1)))) ∨ (e = .returned (.bool false) ∧ E W'))
  (hs : Sat W0 W (hkOwn wide p rs prk info k c bl bm bi mi ip ni ic 0 (J 0))) :
  CallsIn Fence.wide (m + 1) Tryz.prog 88 #[.func (.yield l) #[] #[], .pointer (some ⟨bm, 0, none⟩), .pointer (some ⟨bl, 0, none⟩), .pointer (some ⟨bi, 0, none⟩)] W fun e W' => (∃ v, e = .returned v) ∧ E W' := by
 have hh := hsz_le wide
 have hh2 := bsz_le wide
 have HB := Lib.hid (And.intro hk (And.intro hni (And.intro hicm (And.intro hb (And.intro hl (And.intro hh hh2)))))); clear hk hni hicm hb hl hh hh2
 have HY := Lib.hid hY; clear hY
 refine callsIn_of_wp Tryz.func88 rfl trivial ?_ rfl
 simp only [Tryz.ntmps88, List.size_toArray, List.length_cons, List.length_nil, Nat.reduceAdd, Nat.reduceSub, Array.replicate_succ, Array.replicate_zero, List.push_toArray, List.append_toArray, List.nil_append, List.cons_append]
 gi_wp2
 gi_loopw [5, 6] (fun t5 t6 wr => ∃ (i : Nat) (tp : Option Addr) (tn tc : Nat), i < N ∧ t6 = .int .u8 ((i + 1 : Nat) : Int) ∧ t5 = .slice tp tn tc ∧ (hkT wide prk info i).length = tn ∧ tn ≤ tc ∧ tc ≤ maxLen ∧ Sat W0 wr (bytes true tp (hkT wide prk info i) :: hkOwn wide p rs prk info k c bl bm bi mi ip ni ic i (J i))) (fun _ t6 _ => 256 - (intOf t6).toNat)
 case atStart => exact ⟨0, none, 0, 0, by omega, rfl, rfl, rfl, Nat.le_refl _, Nat.zero_le _, bytesNil true none hs⟩
 case round =>
  clear hs
  obtain ⟨i, tp, tn, tc, hi, rfl, rfl, htl, htc, htm, s⟩ := hrel
  have HT := Lib.hid (And.intro htl htm); clear htl htm
  simp only [hkOwn] at s
  have hC : ∀ wx, Sat W0 wx (seg true bm 0 [.pointer (some ⟨c, 0, none⟩)] :: seg true bl 0 [ptrO p] :: seg true bi 0 [.slice ip ni ic] :: []) → wx.cell? ⟨bm, 0, none⟩ = some (.pointer (some ⟨c, 0, none⟩)) ∧ wx.cell? ⟨bl, 0, none⟩ = some (ptrO p) ∧ wx.cell? ⟨bi, 0, none⟩ = some (.slice ip ni ic) := fun wx h => ⟨h.at 0 rfl, (h.pull 1 : Sat W0 wx (seg true bl 0 [ptrO p] :: _)).at 0 rfl, (h.pull 2 : Sat W0 wx (seg true bi 0 [.slice ip ni ic] :: _)).at 0 rfl⟩
  have HC := Lib.hid hC; clear hC
  obtain ⟨R, hR⟩ : ∃ R, R = noteN rs (evK wide) (evS wide) (hkCnt wide ni i) := ⟨_, rfl⟩
  obtain ⟨T, hT⟩ : ∃ T, T = hkT wide prk info i := ⟨_, rfl⟩
  have hTl : T.length = tn := by rw [hT]; exact HT.out.1
  have htn : tn ≤ 128 := by
   have := HT.out.1
   rw [hkT_len] at this
   have h1 := HB.out.2.2.2.2.2.1
   have h2 := HB.out.2.2.2.2.2.2
   split at this <;> omega
  have hcnt : hkCnt wide ni i ≤ i * (ni + 600) := by
   have hst : ∀ t, t ≤ 128 → hkStep wide t ni ≤ ni + 600 := by
    intro t ht
    unfold hkStep endN
    cases wide <;> simp only [padN, bsz, roomN] <;> omega
   have h1 := HB.out.2.2.2.2.2.1
   have h2 := HB.out.2.2.2.2.2.2
   clear hT hR hi htn hTl HT s
   induction i with
   | zero => simp [hkCnt]
   | succ i ih =>
    rw [hkCnt, Nat.succ_mul]
    have := hst (if i = 0 then 0 else hsz wide) (by split <;> omega)
    omega
  have hRt : tot R + 3 * ni + 3000 ≤ 2305843009213693952 := by
   rw [hR, tot_noteN]
   have := HB.out.2.2.2.1
   have h3 : i * (ni + 600) ≤ 255 * (ni + 600) := Nat.mul_le_mul_right _ (by omega)
   omega
  have hRl : R.length + 7 ≤ 1048576 := by rw [hR]; have := noteN_len rs (evK wide) (evS wide) (hkCnt wide ni i); have := HB.out.2.2.2.2.1; omega
  rw [← hR, ← hT] at s
  have hv : v8 (BitVec.ofNat 8 (i + 1)) = ((i + 1 : Nat) : Int) := by
   unfold v8; rw [BitVec.toNat_ofNat, Nat.mod_eq_of_lt (by omega)]
  have HR := Lib.hid (And.intro hR (And.intro hT (And.intro hTl (And.intro hRt (And.intro hRl hv))))); clear hR hT hTl hRt hRl hcnt hv
  obtain ⟨m0, l0, i0⟩ := HC.out _ (Sat.sub (s) (by with_reducible repeat first | exact Fr1 | exact Fr2 | (apply Fr3; focus ((repeat (first | exact Tk1 | apply Tk2)); done)) | apply Fr4))
  gi_wp2_with fail
  refine ⟨trivial, callsIn_wide.2 ?_⟩
  refine (hmacReset wide (c := c) k (hkMsg wide prk info i) (by (repeat (first | with_reducible apply Sat.sub (s) | with_reducible apply Sat.alloc' | with_reducible apply Sat.drew | with_reducible apply Sat.drewN)); (repeat (first | with_reducible exact Fr.done | with_reducible exact Fr.nil | (with_reducible apply Fr.cons; (focus ((repeat (first | with_reducible exact Take.here | with_reducible apply Take.there)); done))) | with_reducible apply Fr.skip)); done)).mono ?_
  rintro e w1 ⟨rfl, s1⟩
  clear s m0 l0 i0
  obtain ⟨m0, l0, i0⟩ := HC.out _ (Sat.sub (s1) (by with_reducible repeat first | exact Fr1 | exact Fr2 | (apply Fr3; focus ((repeat (first | exact Tk1 | apply Tk2)); done)) | apply Fr4))
  gi_wp2_with fail
  refine ⟨trivial, callsIn_wide.2 ?_⟩
  refine (hmacWriteF (c := c) wide p R k [] T HR.out.2.2.1 rfl htc HT.out.2 (by have := HR.out.2.2.2.1; simp only [List.length_nil]; omega) (by have := HR.out.2.2.2.2.1; omega) (by (repeat (first | with_reducible apply Sat.sub (s1) | with_reducible apply Sat.alloc' | with_reducible apply Sat.drew | with_reducible apply Sat.drewN)); (repeat (first | with_reducible exact Fr.done | with_reducible exact Fr.nil | (with_reducible apply Fr.cons; (focus ((repeat (first | with_reducible exact Take.here | with_reducible apply Take.there)); done))) | with_reducible apply Fr.skip)); done)).mono ?_
  rintro e w2 ⟨rfl, s2⟩
  clear s1 m0 l0 i0
  simp only [List.nil_append, List.length_nil, Nat.zero_add, Nat.zero_div, Nat.sub_zero] at s2
  obtain ⟨m0, l0, i0⟩ := HC.out _ (Sat.sub (s2) (by with_reducible repeat first | exact Fr1 | exact Fr2 | (apply Fr3; focus ((repeat (first | exact Tk1 | apply Tk2)); done)) | apply Fr4))
  gi_wp2_with fail
  refine ⟨trivial, callsIn_wide.2 ?_⟩
  refine (hmacWriteF (c := c) wide p (noteN R (evK wide) (evS wide) (tn / bsz wide)) k T info HB.out.2.1 rfl hic HB.out.2.2.1 (by rw [tot_noteN, HR.out.2.2.1]; have := HR.out.2.2.2.1; have := Nat.div_le_self tn (bsz wide); omega) (by have := noteN_len R (evK wide) (evS wide) (tn / bsz wide); have := HR.out.2.2.2.2.1; omega) (by (repeat (first | with_reducible apply Sat.sub (s2) | with_reducible apply Sat.alloc' | with_reducible apply Sat.drew | with_reducible apply Sat.drewN)); (repeat (first | with_reducible exact Fr.done | with_reducible exact Fr.nil | (with_reducible apply Fr.cons; (focus ((repeat (first | with_reducible exact Take.here | with_reducible apply Take.there)); done))) | with_reducible apply Fr.skip)); done)).mono ?_
  rintro e w3 ⟨rfl, s3⟩
  clear s2 m0 l0 i0
  rw [HR.out.2.2.1, noteN_add] at s3
  obtain ⟨m0, l0, i0⟩ := HC.out _ (Sat.sub (s3) (by with_reducible repeat first | exact Fr1 | exact Fr2 | (apply Fr3; focus ((repeat (first | exact Tk1 | apply Tk2)); done)) | apply Fr4))
  have s4 := s3.alloc #[.int .u8 ((i + 1 : Nat) : Int)] 5
  rw [show (#[Value.int .u8 ((i + 1 : Nat) : Int)] : Array Value).toList = u8s [BitVec.ofNat 8 (i + 1)] by simp only [u8s, List.map_cons, List.map_nil, HR.out.2.2.2.2.2]] at s4
  gi_wp2_with fail
  refine ⟨trivial, callsIn_wide.2 ?_⟩
  have hcc : tn / bsz wide + ((tn + ni) / bsz wide - tn / bsz wide) = (tn + ni) / bsz wide := Nat.add_sub_cancel' (Nat.div_le_div_right (by omega))
  rw [hcc] at s4
  refine (hmacWriteF (c := c) (n := 1) (cap := 1) wide p (noteN R (evK wide) (evS wide) ((tn + ni) / bsz wide)) k (T ++ info) [BitVec.ofNat 8 (i + 1)] rfl rfl (by decide) (by decide) (by rw [tot_noteN, List.length_append, HR.out.2.2.1, HB.out.2.1]; have := HR.out.2.2.2.1; have := Nat.div_le_self (tn + ni) (bsz wide); omega) (by have := noteN_len R (evK wide) (evS wide) ((tn + ni) / bsz wide); have := HR.out.2.2.2.2.1; omega) (Sat.sub (bytesOf s4) (by with_reducible repeat first | exact Fr1 | exact Fr2 | (apply Fr3; focus ((repeat (first | exact Tk1 | apply Tk2)); done)) | apply Fr4))).mono ?_
  rintro e w4 ⟨rfl, s5⟩
  clear s3 s4 m0 l0 i0
  rw [List.length_append, HR.out.2.2.1, HB.out.2.1, noteN_add, Nat.add_sub_cancel' (Nat.div_le_div_right (by omega))] at s5
  obtain ⟨m0, l0, i0⟩ := HC.out _ (Sat.sub (s5) (by with_reducible repeat first | exact Fr1 | exact Fr2 | (apply Fr3; focus ((repeat (first | exact Tk1 | apply Tk2)); done)) | apply Fr4))
  have hm : T ++ info ++ [BitVec.ofNat 8 (i + 1)] = hkMsg wide prk info (i + 1) := by rw [HR.out.2.1]; rfl
  rw [hm] at s5
  have hml : (hkMsg wide prk info (i + 1)).length = tn + ni + 1 := by rw [← hm]; simp [HR.out.2.2.1, HB.out.2.1]; omega
  have HM := Lib.hid hml; clear hm hml hcc
  gi_wp2_with fail
  refine ⟨trivial, callsIn_wide.2 ?_⟩
  refine (hmacSumC (c := c) wide p (noteN R (evK wide) (evS wide) ((tn + ni + 1) / bsz wide)) prk (hkMsg wide prk info (i + 1)) k HB.out.1 rfl (by rw [tot_noteN, HM.out]; have := HR.out.2.2.2.1; have := Nat.div_le_self (tn + ni + 1) (bsz wide); omega) (by have := noteN_len R (evK wide) (evS wide) ((tn + ni + 1) / bsz wide); have := HR.out.2.2.2.2.1; omega) (by (repeat (first | with_reducible apply Sat.sub (s5) | with_reducible apply Sat.alloc' | with_reducible apply Sat.drew | with_reducible apply Sat.drewN)); (repeat (first | with_reducible exact Fr.done | with_reducible exact Fr.nil | (with_reducible apply Fr.cons; (focus ((repeat (first | with_reducible exact Take.here | with_reducible apply Take.there)); done))) | with_reducible apply Fr.skip)); done)).mono ?_
  rintro e w5 ⟨q, cq, rfl, hq1, hq2, s6⟩
  clear s5 m0 l0 i0
  rw [HM.out, noteN_add, HR.out.1, noteN_add] at s6
  have hct : hkCnt wide ni i + ((tn + ni + 1) / bsz wide + endN wide (tn + ni + 1)) = hkCnt wide ni (i + 1) := by
   rw [hkCnt]
   have := HT.out.1
   rw [hkT_len] at this
   rw [this]; rfl
  rw [hct, show hmac wide prk (hkMsg wide prk info (i + 1)) = hkT wide prk info (i + 1) from rfl] at s6
  clear hct
  have s7 : Sat W0 w5 (bytes true q (hkT wide prk info (i + 1)) :: ledO p (noteN rs (evK wide) (evS wide) (hkCnt wide ni (i + 1))) :: mac wide c k (hkMsg wide prk info (i + 1)) :: seg true bm 0 [.pointer (some ⟨c, 0, none⟩)] :: seg true bl 0 [ptrO p] :: seg true bi 0 [.slice ip ni ic] :: bytes mi ip info :: J i) := (by (repeat (first | with_reducible apply Sat.sub (s6) | with_reducible apply Sat.alloc' | with_reducible apply Sat.drew | with_reducible apply Sat.drewN)); (repeat (first | with_reducible exact Fr.done | with_reducible exact Fr.nil | (with_reducible apply Fr.cons; (focus ((repeat (first | with_reducible exact Take.here | with_reducible apply Take.there)); done))) | with_reducible apply Fr.skip)); done)
  obtain ⟨fn, tmps, assign, body, hy, hRd⟩ := HY.out i q cq w5 hi hq1 hq2 s7
  clear s6 s7
  gi_wp2
  refine hRd.mono ?_
  rintro e w6 (⟨rfl, hi2, s7⟩ | ⟨rfl, hE⟩)
  ·gi_wp2
   go_roundw
   case rel => exact ⟨i + 1, q, hsz wide, cq, hi2, by go_num, rfl, by rw [hkT_len, if_neg (by omega)], hq1, hq2, s7⟩
   case measure => simp [intOf]; omega
  ·gi_wp2
   refine bodyPost_ret (results_none rfl _ _ _) rfl ?_
   exact ⟨⟨_, rfl⟩, hE⟩
end Go.Proofs.YtpiiklfnakkdiaaGreat

/- Layer 15's program: Expand, Extract, Key; under the conditions that each names. -/
namespace Go.Proofs.YtpiiklfnakkdiaaGreat
open Go.RowKit Go.Sep Go.Bv Go.Sha
set_option linter.unusedVariables false
set_option linter.unusedSimpArgs false
attribute [local go_sem] Oper.semAt_some
theorem hideTail {W0 w : World} {A B C : Assn} {Z : List Assn} (h : Sat W0 w (A :: B :: C :: Z)) : ∃ Z', Z' = Z ∧ Sat W0 w (A :: B :: C :: Z') := ⟨Z, rfl, h⟩
/-- A variable in a block of its own that holds a slice of bytes of one's own. -/
def boxB (b : Nat) (bs : List Byte) : Assn := fun x => ∃ q : Option Addr × Nat, sep (seg true b 0 [.slice q.1 bs.length q.2]) (row q.1 q.2 1 bs.length (u8s bs)) x
theorem boxBOpen {W0 w : World} {L : List Assn} {b : Nat} {bs : List Byte} (h : Sat W0 w (boxB b bs :: L)) : ∃ p c, Sat W0 w (seg true b 0 [.slice p bs.length c] :: row p c 1 bs.length (u8s bs) :: L) := by
 obtain ⟨q, h⟩ := h.exOpen
 exact ⟨q.1, q.2, h.sepOpen⟩
theorem boxBShut {W0 w : World} {L : List Assn} {b n : Nat} {bs : List Byte} {p : Option Addr} {c : Nat} (hn : bs.length = n) (h : Sat W0 w (seg true b 0 [.slice p n c] :: row p c 1 n (u8s bs) :: L)) : Sat W0 w (boxB b bs :: L) := by
 subst hn
 exact Sat.exShut (A := fun q : Option Addr × Nat => sep (seg true b 0 [.slice q.1 bs.length q.2]) (row q.1 q.2 1 bs.length (u8s bs))) (p, c) h.sepShut
theorem hkM_bd (wide : Bool) (n : Nat) (h0 : 0 < n) (h1 : n ≤ 255 * hsz wide) : 1 ≤ hkM wide n ∧ hkM wide n ≤ 255 ∧ n ≤ hkM wide n * hsz wide ∧ (hkM wide n - 1) * hsz wide < n := by
 cases wide <;> simp only [hkM, hsz] at h1 ⊢ <;> omega
set_option maxRecDepth 100000 in
set_option maxHeartbeats 2000000 in
theorem hkExpand {W0 w : World} {L : List Assn} (wide : Bool) (p : Option Nat) (rs : List Run3) (prk info : List Byte) {mk mi : Bool} {kp ip : Option Addr} {kn kc ni ic n : Nat} {pv : Value} (hp : pv = ptrO p) (hkn : prk.length = kn) (hkc : kn ≤ kc) (hkm : kc ≤ maxLen) (hni : info.length = ni) (hic : ni ≤ ic) (hicm : ic ≤ maxLen) (hn : n ≤ 255 * hsz wide)
  (hb : tot rs + 2 * kn + 1000 * ni + 2000000 ≤ 2305843009213693952) (hl : rs.length + 16 ≤ 1048576) (hs : Sat W0 w (ledO p rs :: bytes mk kp prk :: bytes mi ip info :: L)) :
  Calls Tryz.prog 34 #[pv, .int .u8 (algN wide), .slice kp kn kc, .slice ip ni ic, .int .i64 (n : Int)] w fun e w' => ∃ q c, e = .returned (.tuple #[.slice q n c, .int .i64 0]) ∧ n ≤ c ∧ c ≤ maxLen ∧ Sat W0 w' (bytes true q (hkdf wide prk info n) :: ledO p (noteN rs (evK wide) (evS wide) (expN wide kn ni n)) :: bytes mk kp prk :: bytes mi ip info :: L) := by
 subst hp
 have hh : hsz wide ≤ 64 := by cases wide <;> decide
 have hkN : keyN wide kn ≤ kn + 4 := by
  unfold keyN
  by_cases h : bsz wide < kn
  ·rw [if_pos h]; cases wide <;> simp only [padN, bsz, roomN] <;> omega
  ·rw [if_neg h]; omega
 have HB := Lib.hid (And.intro hkn (And.intro hkm (And.intro hni (And.intro hicm (And.intro hn (And.intro hb (And.intro hl (And.intro hh hkN)))))))); clear hkn hkm hni hicm hn hb hl hh hkN
 obtain ⟨bn, hbn⟩ : ∃ bn, bn = w.heap.size := ⟨_, rfl⟩
 have s0 := hs.allocAt #[.int .i64 (n : Int)] 3 (q := bn) hbn
 clear hs
 refine (callsIn_wide (n := 3)).1 ?_
 refine callsIn_of_wp_marks Tryz.func34 rfl trivial ?_ rfl
 simp only [Tryz.ntmps34, List.size_toArray, List.length_cons, List.length_nil, Nat.reduceAdd, Nat.reduceSub, Array.replicate_succ, Array.replicate_zero, List.push_toArray, List.append_toArray, List.nil_append, List.cons_append]
 have n0 := s0.at 0 rfl
 gi_wp2_with fail
 refine ⟨trivial, callsIn_wide.2 ?_⟩
 refine (hkMay wide (n : Int) 0 (by rw [if_neg (by omega), if_neg (by have := HB.out.2.2.2.2.1; omega)]) s0).mono ?_
 rintro e w1 ⟨rfl, s1⟩
 rw [← hbn]
 clear s0 n0 hbn
 gi_wp2_with fail
 refine ⟨trivial, callsIn_wide.2 ?_⟩
 refine (hmacNewF wide p rs prk HB.out.1 rfl rfl hkc HB.out.2.1 (by have := HB.out.2.2.2.2.2.1; omega) (by have := HB.out.2.2.2.2.2.2.1; omega) (by (repeat (first | with_reducible apply Sat.sub (s1) | with_reducible apply Sat.alloc' | with_reducible apply Sat.drew | with_reducible apply Sat.drewN)); (repeat (first | with_reducible exact Fr.done | with_reducible exact Fr.nil | (with_reducible apply Fr.cons; (focus ((repeat (first | with_reducible exact Take.here | with_reducible apply Take.there)); done))) | with_reducible apply Fr.skip)); done)).mono ?_
 rintro e w2 ⟨c, rfl, s2⟩
 clear s1
 obtain ⟨k, hk⟩ : ∃ k, k = blockKey wide prk := ⟨_, rfl⟩
 rw [← hk] at s2
 have HK := Lib.hid hk; clear hk
 have hC : ∀ wx, Sat W0 wx (seg true bn 0 [.int .i64 (n : Int)] :: []) → wx.cell? ⟨bn, 0, none⟩ = some (.int .i64 (n : Int)) ∧ bn < wx.heap.size := fun wx h => ⟨h.at 0 rfl, h.lt (by simp)⟩
 have HC := Lib.hid hC; clear hC
 obtain ⟨n0, z0⟩ := HC.out _ (Sat.sub (s2) (by with_reducible repeat first | exact Fr1 | exact Fr2 | (apply Fr3; focus ((repeat (first | exact Tk1 | apply Tk2)); done)) | apply Fr4))
 by_cases hn0 : n = 0
 ·subst hn0
  gi_wp2
  refine ⟨_, results_tmp2 rfl _ _ _, none, 0, rfl, Nat.le_refl _, Nat.zero_le _, ?_⟩
  have e1 : hkdf wide prk info 0 = [] := by simp [hkdf]
  have e2 : expN wide kn ni 0 = keyN wide kn := by cases wide <;> rfl
  rw [e1, e2]
  exact bytesNil true none (by (repeat (first | with_reducible apply Sat.sub (s2) | with_reducible apply Sat.alloc' | with_reducible apply Sat.drew | with_reducible apply Sat.drewN)); (repeat (first | with_reducible exact Fr.done | with_reducible exact Fr.nil | (with_reducible apply Fr.cons; (focus ((repeat (first | with_reducible exact Take.here | with_reducible apply Take.there)); done))) | with_reducible apply Fr.skip)); done)
 ·have hn1 : ¬ (n : Int) = 0 := by omega
  gi_wp2_with fail
  refine ⟨trivial, callsIn_wide.2 ?_⟩
  obtain ⟨bo, hbo⟩ : ∃ bo, bo = w2.heap.size := ⟨_, rfl⟩
  have s3 := s2.allocAt #[.slice none 0 0] 24 (q := bo) hbo
  refine (hkBlocks _ _ ip ni ic s3).mono ?_
  rintro e w3 ⟨bl, bm, bi, rfl, s4'⟩
  rw [← hbo]
  clear s2 s3 hbo n0 z0
  obtain ⟨N, hN⟩ : ∃ N, N = hkM wide n := ⟨_, rfl⟩
  obtain ⟨hN1, hN2, hN3, hN4⟩ := hkM_bd wide n (by omega) HB.out.2.2.2.2.1
  rw [← hN] at hN1 hN2 hN3 hN4
  obtain ⟨R, hR⟩ : ∃ R, R = noteN rs (evK wide) (evS wide) (keyN wide kn) := ⟨_, rfl⟩
  rw [← hR] at s4'
  have hRt : tot R + 1000 * ni + 1000000 ≤ 2305843009213693952 := by rw [hR, tot_noteN]; have := HB.out.2.2.2.2.2.1; have := HB.out.2.2.2.2.2.2.2.2; omega
  have hRl : R.length + 8 ≤ 1048576 := by rw [hR]; have := noteN_len rs (evK wide) (evS wide) (keyN wide kn); have := HB.out.2.2.2.2.2.2.1; omega
  have s4 : Sat W0 w3 (ledO p R :: mac wide c k [] :: seg true bm 0 [.pointer (some ⟨c, 0, none⟩)] :: seg true bl 0 [ptrO p] :: seg true bi 0 [.slice ip ni ic] :: bytes mi ip info :: boxB bo [] :: seg true bn 0 [.int .i64 (n : Int)] :: bytes mk kp prk :: L) := by
   have s5 : Sat W0 w3 (seg true bo 0 [.slice none 0 0] :: ledO p R :: mac wide c k [] :: seg true bm 0 [.pointer (some ⟨c, 0, none⟩)] :: seg true bl 0 [ptrO p] :: seg true bi 0 [.slice ip ni ic] :: bytes mi ip info :: seg true bn 0 [.int .i64 (n : Int)] :: bytes mk kp prk :: L) := (by (repeat (first | with_reducible apply Sat.sub (s4') | with_reducible apply Sat.alloc' | with_reducible apply Sat.drew | with_reducible apply Sat.drewN)); (repeat (first | with_reducible exact Fr.done | with_reducible exact Fr.nil | (with_reducible apply Fr.cons; (focus ((repeat (first | with_reducible exact Take.here | with_reducible apply Take.there)); done))) | with_reducible apply Fr.skip)); done)
   have s6 : Sat W0 w3 (seg true bo 0 [.slice none 0 0] :: row none 0 1 0 (u8s []) :: ledO p R :: mac wide c k [] :: seg true bm 0 [.pointer (some ⟨c, 0, none⟩)] :: seg true bl 0 [ptrO p] :: seg true bi 0 [.slice ip ni ic] :: bytes mi ip info :: seg true bn 0 [.int .i64 (n : Int)] :: bytes mk kp prk :: L) := (s5.rowNil 1).pick [1]
   have s7 := boxBShut (bs := []) (n := 0) (p := none) (c := 0) rfl s6
   exact (by (repeat (first | with_reducible apply Sat.sub (s7) | with_reducible apply Sat.alloc' | with_reducible apply Sat.drew | with_reducible apply Sat.drewN)); (repeat (first | with_reducible exact Fr.done | with_reducible exact Fr.nil | (with_reducible apply Fr.cons; (focus ((repeat (first | with_reducible exact Take.here | with_reducible apply Take.there)); done))) | with_reducible apply Fr.skip)); done)
  clear s4'
  have HR := Lib.hid (And.intro hR (And.intro hRt (And.intro hRl (And.intro hN3 (And.intro hN4 hN))))); clear hR hRt hRl hN3 hN4 hN
  gi_wp2
  refine wpIn_rangeSat (F := Fence.wide) (n := 3) rfl (by decide) (gf := 88) (lb := #[.pointer (some ⟨bm, 0, none⟩), .pointer (some ⟨bl, 0, none⟩), .pointer (some ⟨bi, 0, none⟩)]) rfl trivial (enters_of Tryz.func88 (by kernel_rfl) rfl) s4 ?_
  intro fn l D rd W1 hfn hl hD hrd s5
  clear hl hD
  have s6 : Sat W0 W1 (ledO p R :: mac wide c k [] :: seg true bm 0 [.pointer (some ⟨c, 0, none⟩)] :: seg true bl 0 [ptrO p] :: seg true bi 0 [.slice ip ni ic] :: bytes mi ip info :: obj l (rd .ready none) :: obj D (.deferred (some [])) :: boxB bo [] :: seg true bn 0 [.int .i64 (n : Int)] :: bytes mk kp prk :: L) := (by (repeat (first | with_reducible apply Sat.sub (s5) | with_reducible apply Sat.alloc' | with_reducible apply Sat.drew | with_reducible apply Sat.drewN)); (repeat (first | with_reducible exact Fr.done | with_reducible exact Fr.nil | (with_reducible apply Fr.cons; (focus ((repeat (first | with_reducible exact Take.here | with_reducible apply Take.there)); done))) | with_reducible apply Fr.skip)); done)
  clear s5
  refine hkIter (m := 1) (c := c) (mi := mi) (ip := ip) wide p R prk info k HK.out HB.out.2.2.1 hic HB.out.2.2.2.1 N hN1 hN2 HR.out.2.1 HR.out.2.2.1 (fun i => obj l (rd .ready none) :: obj D (.deferred (some [])) :: boxB bo (hkOut wide prk info i) :: seg true bn 0 [.int .i64 (n : Int)] :: bytes mk kp prk :: L) _ l ?_ s6
  clear s6
  intro i q cq W2 hi hq1 hq2 s6
  clear s4
  simp only [hkOwn] at s6
  subst hrd
  refine yieldSat (L := bytes true q (hkT wide prk info (i + 1)) :: ledO p (noteN R (evK wide) (evS wide) (hkCnt wide ni (i + 1))) :: mac wide c k (hkMsg wide prk info (i + 1)) :: seg true bm 0 [.pointer (some ⟨c, 0, none⟩)] :: seg true bl 0 [ptrO p] :: seg true bi 0 [.slice ip ni ic] :: bytes mi ip info :: obj D (.deferred (some [])) :: boxB bo (hkOut wide prk info i) :: seg true bn 0 [.int .i64 (n : Int)] :: bytes mk kp prk :: L) rfl hfn (by (repeat (first | with_reducible apply Sat.sub (s6) | with_reducible apply Sat.alloc' | with_reducible apply Sat.drew | with_reducible apply Sat.drewN)); (repeat (first | with_reducible exact Fr.done | with_reducible exact Fr.nil | (with_reducible apply Fr.cons; (focus ((repeat (first | with_reducible exact Take.here | with_reducible apply Take.there)); done))) | with_reducible apply Fr.skip)); done) ?a1 ?assign ?body
  case assign =>
   intro K hK
   gi_wp2
   exact hK
  case body =>
   clear s6
   intro W3 s7
   obtain ⟨Z, hZ, s8⟩ := hideTail ((Sat.sub (s7) (by with_reducible repeat first | exact Fr1 | exact Fr2 | (apply Fr3; focus ((repeat (first | exact Tk1 | apply Tk2)); done)) | apply Fr4)) : Sat W0 W3 (boxB bo (hkOut wide prk info i) :: bytes true q (hkT wide prk info (i + 1)) :: seg true bn 0 [.int .i64 (n : Int)] :: _))
   clear s7
   obtain ⟨po, co, s9⟩ := boxBOpen s8
   clear s8
   obtain ⟨u, hu⟩ : ∃ u, u = (hkOut wide prk info i).length := ⟨_, rfl⟩
   have hu2 : u = i * hsz wide := by rw [hu]; exact hkOut_len _ _ _ _
   have hTl : (hkT wide prk info (i + 1)).length = hsz wide := by rw [hkT_len, if_neg (by omega)]
   rw [← hu] at s9
   have hO : ∀ wx pp nn cc, Sat W0 wx (seg true bo 0 [.slice pp nn cc] :: seg true bn 0 [.int .i64 (n : Int)] :: []) → wx.cell? ⟨bo, 0, none⟩ = some (.slice pp nn cc) ∧ wx.frozen? ⟨bo, 0, none⟩ = false ∧ bo < wx.heap.size ∧ wx.cell? ⟨bn, 0, none⟩ = some (.int .i64 (n : Int)) ∧ bn < wx.heap.size ∧ bo ≠ bn := fun wx pp nn cc h => ⟨h.at 0 rfl, h.fr 0 (by simp), h.lt (by simp), (h.pull 1 : Sat W0 wx (seg true bn 0 [.int .i64 (n : Int)] :: _)).at 0 rfl, (h.pull 1 : Sat W0 wx (seg true bn 0 [.int .i64 (n : Int)] :: _)).lt (by simp), Sat.ne' h (by simp) (by simp)⟩
   have HO := Lib.hid hO; clear hO
   have hlen : u + hsz wide = (i + 1) * hsz wide := by rw [hu2, Nat.succ_mul]
   have hsm : u + hsz wide ≤ 255 * 64 := by
    rw [hlen]
    exact Nat.mul_le_mul (by omega) HB.out.2.2.2.2.2.2.2.1
   have hcase : (i + 1 < N ∧ u + hsz wide < n) ∨ (i + 1 = N ∧ n ≤ u + hsz wide) := by
    by_cases h : i + 1 < N
    ·refine .inl ⟨h, ?_⟩
     rw [hlen]
     have h1 : (i + 1) * hsz wide ≤ (N - 1) * hsz wide := Nat.mul_le_mul_right _ (by omega)
     have := HR.out.2.2.2.2.1
     omega
    ·have e : i + 1 = N := by omega
     refine .inr ⟨e, ?_⟩
     rw [hlen, e]
     exact HR.out.2.2.2.1
   have HU := Lib.hid (And.intro hu (And.intro hlen (And.intro hTl hZ))); clear hu hlen hTl hu2 hZ
   obtain ⟨b0, b1, b2, b3, b4, b5⟩ := HO.out _ _ _ _ (Sat.sub (s9) (by with_reducible repeat first | exact Fr1 | exact Fr2 | (apply Fr3; focus ((repeat (first | exact Tk1 | apply Tk2)); done)) | apply Fr4))
   rcases hcase with ⟨hc1, hc2⟩ | ⟨hc1, hc2⟩
   ·gi_wp2_with (gi_at_builtin; refine wplIn_app8 rfl (.tmp 42) (.tmp 43) rfl rfl rfl (by (repeat (first | with_reducible apply Sat.sub (s9) | with_reducible apply Sat.alloc' | with_reducible apply Sat.drew | with_reducible apply Sat.drewN)); (repeat (first | with_reducible exact Fr.done | with_reducible exact Fr.nil | (with_reducible apply Fr.cons; (focus ((repeat (first | with_reducible exact Take.here | with_reducible apply Take.there)); done))) | with_reducible apply Fr.skip)); done) HU.out.2.2.1 (by omega) ?_; intro p9 c9 w9 s10; clear b0 b1 b2 b3 b4 b5; obtain ⟨b0, b1, b2, b3, b4, b5⟩ := HO.out _ _ _ _ (Sat.sub (s10) (by with_reducible repeat first | exact Fr1 | exact Fr2 | (apply Fr3; focus ((repeat (first | exact Tk1 | apply Tk2)); done)) | apply Fr4)))
    have st := ((Sat.sub (s10) (by with_reducible repeat first | exact Fr1 | exact Fr2 | (apply Fr3; focus ((repeat (first | exact Tk1 | apply Tk2)); done)) | apply Fr4)) : Sat W0 w9 (seg true bo 0 [.slice po u co] :: row p9 c9 1 (u + hsz wide) (u8s (hkOut wide prk info i ++ hkT wide prk info (i + 1))) :: bytes true q (hkT wide prk info (i + 1)) :: seg true bn 0 [.int .i64 (n : Int)] :: Z)).store (i := 0) (by simp) (.slice p9 (u + hsz wide) c9) (q := 0) rfl
    have s12 := boxBShut (bs := hkOut wide prk info (i + 1)) (n := u + hsz wide) (by rw [hkOut_len]; exact HU.out.2.1.symm) st
    rw [HU.out.2.2.2] at s12
    clear st s10 b0 b1 b2 b3 b4 b5
    refine ⟨bytes true q (hkT wide prk info (i + 1)) :: ledO p (noteN R (evK wide) (evS wide) (hkCnt wide ni (i + 1))) :: mac wide c k (hkMsg wide prk info (i + 1)) :: seg true bm 0 [.pointer (some ⟨c, 0, none⟩)] :: seg true bl 0 [ptrO p] :: seg true bi 0 [.slice ip ni ic] :: bytes mi ip info :: obj D (.deferred (some [])) :: boxB bo (hkOut wide prk info (i + 1)) :: seg true bn 0 [.int .i64 (n : Int)] :: bytes mk kp prk :: L, (by (repeat (first | with_reducible apply Sat.sub (s12) | with_reducible apply Sat.alloc' | with_reducible apply Sat.drew | with_reducible apply Sat.drewN)); (repeat (first | with_reducible exact Fr.done | with_reducible exact Fr.nil | (with_reducible apply Fr.cons; (focus ((repeat (first | with_reducible exact Take.here | with_reducible apply Take.there)); done))) | with_reducible apply Fr.skip)); done), ?_⟩
    intro W4 s13
    exact (by (repeat (first | with_reducible apply Sat.sub (s13) | with_reducible apply Sat.alloc' | with_reducible apply Sat.drew | with_reducible apply Sat.drewN)); (repeat (first | with_reducible exact Fr.done | with_reducible exact Fr.nil | (with_reducible apply Fr.cons; (focus ((repeat (first | with_reducible exact Take.here | with_reducible apply Take.there)); done))) | with_reducible apply Fr.skip)); done)
   ·gi_wp2_with (gi_at_builtin; refine wplIn_app8 rfl (.tmp 42) (.tmp 43) rfl rfl rfl (by (repeat (first | with_reducible apply Sat.sub (s9) | with_reducible apply Sat.alloc' | with_reducible apply Sat.drew | with_reducible apply Sat.drewN)); (repeat (first | with_reducible exact Fr.done | with_reducible exact Fr.nil | (with_reducible apply Fr.cons; (focus ((repeat (first | with_reducible exact Take.here | with_reducible apply Take.there)); done))) | with_reducible apply Fr.skip)); done) HU.out.2.2.1 (by omega) ?_; intro p9 c9 w9 s10; clear b0 b1 b2 b3 b4 b5; obtain ⟨b0, b1, b2, b3, b4, b5⟩ := HO.out _ _ _ _ (Sat.sub (s10) (by with_reducible repeat first | exact Fr1 | exact Fr2 | (apply Fr3; focus ((repeat (first | exact Tk1 | apply Tk2)); done)) | apply Fr4)))
    have st := ((Sat.sub (s10) (by with_reducible repeat first | exact Fr1 | exact Fr2 | (apply Fr3; focus ((repeat (first | exact Tk1 | apply Tk2)); done)) | apply Fr4)) : Sat W0 w9 (seg true bo 0 [.slice po u co] :: row p9 c9 1 (u + hsz wide) (u8s (hkOut wide prk info i ++ hkT wide prk info (i + 1))) :: bytes true q (hkT wide prk info (i + 1)) :: seg true bn 0 [.int .i64 (n : Int)] :: Z)).store (i := 0) (by simp) (.slice p9 (u + hsz wide) c9) (q := 0) rfl
    have s12 := boxBShut (bs := hkOut wide prk info (i + 1)) (n := u + hsz wide) (by rw [hkOut_len]; exact HU.out.2.1.symm) st
    rw [HU.out.2.2.2] at s12
    clear st s10 b0 b1 b2 b3 b4 b5
    refine ⟨bytes true q (hkT wide prk info (i + 1)) :: ledO p (noteN R (evK wide) (evS wide) (hkCnt wide ni (i + 1))) :: mac wide c k (hkMsg wide prk info (i + 1)) :: seg true bm 0 [.pointer (some ⟨c, 0, none⟩)] :: seg true bl 0 [ptrO p] :: seg true bi 0 [.slice ip ni ic] :: bytes mi ip info :: obj D (.deferred (some [])) :: boxB bo (hkOut wide prk info (i + 1)) :: seg true bn 0 [.int .i64 (n : Int)] :: bytes mk kp prk :: L, (by (repeat (first | with_reducible apply Sat.sub (s12) | with_reducible apply Sat.alloc' | with_reducible apply Sat.drew | with_reducible apply Sat.drewN)); (repeat (first | with_reducible exact Fr.done | with_reducible exact Fr.nil | (with_reducible apply Fr.cons; (focus ((repeat (first | with_reducible exact Take.here | with_reducible apply Take.there)); done))) | with_reducible apply Fr.skip)); done), ?_⟩
    intro W4 s13
    refine ⟨.done, (fun h => by cases h), some (.exit 0), bytes true q (hkT wide prk info (i + 1)) :: ledO p (noteN R (evK wide) (evS wide) (hkCnt wide ni (i + 1))) :: boxB bo (hkOut wide prk info (i + 1)) :: seg true bn 0 [.int .i64 (n : Int)] :: bytes mk kp prk :: bytes mi ip info :: L, (by (repeat (first | with_reducible apply Sat.sub (s13) | with_reducible apply Sat.alloc' | with_reducible apply Sat.drew | with_reducible apply Sat.drewN)); (repeat (first | with_reducible exact Fr.done | with_reducible exact Fr.nil | (with_reducible apply Fr.cons; (focus ((repeat (first | with_reducible exact Take.here | with_reducible apply Take.there)); done))) | with_reducible apply Fr.skip)); done), ?_⟩
    clear s12 s13
    intro W5 s14 hD
    obtain ⟨pu, cu, s15⟩ := boxBOpen ((Sat.sub (s14) (by with_reducible repeat first | exact Fr1 | exact Fr2 | (apply Fr3; focus ((repeat (first | exact Tk1 | apply Tk2)); done)) | apply Fr4)) : Sat W0 W5 (boxB bo (hkOut wide prk info (i + 1)) :: obj D (.deferred (some [])) :: bytes true q (hkT wide prk info (i + 1)) :: ledO p (noteN R (evK wide) (evS wide) (hkCnt wide ni (i + 1))) :: seg true bn 0 [.int .i64 (n : Int)] :: bytes mk kp prk :: bytes mi ip info :: L))
    rw [hkOut_len, ← HU.out.2.1] at s15
    obtain ⟨hv, hcu, hcu2, s16⟩ := rowBytes ((Sat.sub (s15) (by with_reducible repeat first | exact Fr1 | exact Fr2 | (apply Fr3; focus ((repeat (first | exact Tk1 | apply Tk2)); done)) | apply Fr4)) : Sat W0 W5 (row pu cu 1 (u + hsz wide) (u8s (hkOut wide prk info (i + 1))) :: seg true bo 0 [.slice pu (u + hsz wide) cu] :: obj D (.deferred (some [])) :: ledO p (noteN R (evK wide) (evS wide) (hkCnt wide ni (i + 1))) :: seg true bn 0 [.int .i64 (n : Int)] :: bytes mk kp prk :: bytes mi ip info :: L))
    clear s14 s15
    have hX : (hkOut wide prk info (i + 1)).take n = hkdf wide prk info n ∧ ((hkOut wide prk info (i + 1)).take n).length = n := by
     refine ⟨by unfold hkdf; rw [← HR.out.2.2.2.2.2, hc1], ?_⟩
     rw [List.length_take, hv]; omega
    have s17 := bytesTake n s16
    have HX := Lib.hid (And.intro hX hcu2); clear hX hv s16 hcu2
    obtain ⟨b0, b1, b2, b3, b4, b5⟩ := HO.out _ _ _ _ (Sat.sub (s17) (by with_reducible repeat first | exact Fr1 | exact Fr2 | (apply Fr3; focus ((repeat (first | exact Tk1 | apply Tk2)); done)) | apply Fr4))
    have s18 : Sat W0 W5 (row none 0 1 0 (u8s []) :: bytes true pu ((hkOut wide prk info (i + 1)).take n) :: seg true bo 0 [.slice pu (u + hsz wide) cu] :: obj D (.deferred (some [])) :: ledO p (noteN R (evK wide) (evS wide) (hkCnt wide ni (i + 1))) :: seg true bn 0 [.int .i64 (n : Int)] :: bytes mk kp prk :: bytes mi ip info :: L) := s17.rowNil 1
    clear s17
    gi_wp2_with (gi_at_builtin; refine wplIn_app8 (xs := []) rfl (.const (.slice none 0 0)) (.tmp 51) rfl rfl rfl s18 HX.out.1.2 (by omega) ?_; intro p9 c9 w9 s10)
    have hD' := ((Sat.sub (s10) (by with_reducible repeat first | exact Fr1 | exact Fr2 | (apply Fr3; focus ((repeat (first | exact Tk1 | apply Tk2)); done)) | apply Fr4)) : Sat W0 w9 (obj D (.deferred (some [])) :: [])).obj.1
    have s19 := ((Sat.sub (s10) (by with_reducible repeat first | exact Fr1 | exact Fr2 | (apply Fr3; focus ((repeat (first | exact Tk1 | apply Tk2)); done)) | apply Fr4)) : Sat W0 w9 (obj D (.deferred (some [])) :: row p9 c9 1 (0 + n) (u8s ([] ++ (hkOut wide prk info (i + 1)).take n)) :: ledO p (noteN R (evK wide) (evS wide) (hkCnt wide ni (i + 1))) :: bytes mk kp prk :: bytes mi ip info :: L)).putObj (.deferred none) rfl
    refine ⟨by simp, .inl ⟨_, _, rfl, run_takeDeferred hD', ?_⟩⟩
    refine ⟨_, results_tmp2 rfl _ _ _, p9, c9, rfl, ?_⟩
    have s20 : Sat W0 _ (row p9 c9 1 (0 + n) (u8s ([] ++ (hkOut wide prk info (i + 1)).take n)) :: ledO p (noteN R (evK wide) (evS wide) (hkCnt wide ni (i + 1))) :: bytes mk kp prk :: bytes mi ip info :: L) := s19.tail
    rw [Nat.zero_add, List.nil_append, HX.out.1.1, hc1, HR.out.1, noteN_add, HR.out.2.2.2.2.2] at s20
    obtain ⟨-, h1, h2, s21⟩ := rowBytes s20
    exact ⟨h1, h2, s21⟩
end Go.Proofs.YtpiiklfnakkdiaaGreat

/- Layer 15's program: Extract, Key, what is refused; the helpers of its statements; under the conditions that each names. -/
namespace Go.Sha
open Go.Bv
end Go.Sha
namespace Go.Proofs.YtpiiklfnakkdiaaGreat
open Go.RowKit Go.Sep Go.Bv Go.Sha
set_option linter.unusedVariables false
set_option linter.unusedSimpArgs false
theorem hkExtract {W0 w : World} {L : List Assn} {sc kc sn kn : Nat} {m m2 : Bool} {sp kp : Option Addr} {pv av : Value} (wide : Bool) (p : Option Nat) (rs : List Run3) (salt key : List Byte) (hn : salt.length = sn) (hn2 : key.length = kn) (hp : pv = ptrO p) (ha : av = .int .u8 (algN wide)) (hcap : sn ≤ sc) (hcm : sc ≤ maxLen) (hcap2 : kn ≤ kc) (hcm2 : kc ≤ maxLen) (hb : tot rs + 2 * sn + 2 * kn + 4000 ≤ 2305843009213693952) (hl : rs.length + 8 ≤ 1048576)
  (hs : Sat W0 w (ledO p rs :: bytes m sp salt :: bytes m2 kp key :: L)) :
  Calls Tryz.prog 33 #[pv, av, .slice sp sn sc, .slice kp kn kc] w fun e w' => ∃ q cq, e = .returned (.tuple #[.slice q (hsz wide) cq, .int .i64 0]) ∧ hsz wide ≤ cq ∧ cq ≤ maxLen ∧ Sat W0 w' (bytes true q (hmac wide salt key) :: ledO p (noteN rs (evK wide) (evS wide) (keyN wide sn + kn / bsz wide + endN wide kn)) :: bytes m sp salt :: bytes m2 kp key :: L) := by
 subst hp ha
 have HB := Lib.hid (And.intro hn (And.intro hn2 (And.intro hcm (And.intro hcm2 (And.intro hb hl))))); clear hn hn2 hcm hcm2 hb hl
 go_enter Tryz.func33, Tryz.ntmps33
 go_wp2_with fail
 refine (hmacTagF wide p rs salt key HB.out.1 HB.out.2.1 rfl rfl hcap HB.out.2.2.1 hcap2 HB.out.2.2.2.1 HB.out.2.2.2.2.1 HB.out.2.2.2.2.2 hs).mono ?_
 rintro e w1 ⟨q, cq, rfl, h1, h2, s1⟩
 go_wp2
 refine bodyPost_ret (v := .tuple #[.slice q (hsz wide) cq, .int .i64 0]) (by simp [results, Tryz.results33, go_sem]) rfl ⟨q, cq, rfl, h1, h2, s1⟩
/-- How many blocks Key takes: of a salt, a key, an information, n bytes. -/
def hkKeyN (wide : Bool) (sn kn ni n : Nat) : Nat := keyN wide sn + kn / bsz wide + endN wide kn + expN wide (hsz wide) ni n
set_option maxHeartbeats 1000000 in
theorem hkKey {W0 w : World} {L : List Assn} (wide : Bool) (p : Option Nat) (rs : List Run3) (key salt info : List Byte) {mk ms mi : Bool} {kp sp ip : Option Addr} {kn kc sn sc ni ic n : Nat} {pv av : Value} (hp : pv = ptrO p) (ha : av = .int .u8 (algN wide)) (hkn : key.length = kn) (hkc : kn ≤ kc) (hkm : kc ≤ maxLen) (hsn : salt.length = sn) (hsc : sn ≤ sc) (hsm : sc ≤ maxLen) (hni : info.length = ni) (hic : ni ≤ ic) (hicm : ic ≤ maxLen) (hn : n ≤ 255 * hsz wide)
  (hb : tot rs + 4 * kn + 4 * sn + 1000 * ni + 3000000 ≤ 2305843009213693952) (hl : rs.length + 32 ≤ 1048576) (hs : Sat W0 w (ledO p rs :: bytes mk kp key :: bytes ms sp salt :: bytes mi ip info :: L)) :
  Calls Tryz.prog 18 #[pv, av, .slice kp kn kc, .slice sp sn sc, .slice ip ni ic, .int .i64 (n : Int)] w fun e w' => ∃ q c, e = .returned (.tuple #[.slice q n c, .int .i64 0]) ∧ n ≤ c ∧ c ≤ maxLen ∧ Sat W0 w' (bytes true q (hkdf wide (hmac wide salt key) info n) :: ledO p (noteN rs (evK wide) (evS wide) (hkKeyN wide sn kn ni n)) :: bytes mk kp key :: bytes ms sp salt :: bytes mi ip info :: L) := by
 subst hp ha
 have hh : hsz wide ≤ 64 := by cases wide <;> decide
 have hx : keyN wide sn + kn / bsz wide + endN wide kn ≤ sn + 4 + kn + 8 := by
  have h1 : keyN wide sn ≤ sn + 4 := by
   unfold keyN
   by_cases h : bsz wide < sn
   ·rw [if_pos h]; cases wide <;> simp only [padN, bsz, roomN] <;> omega
   ·rw [if_neg h]; omega
  have h2 := Nat.div_le_self kn (bsz wide)
  have h3 : endN wide kn ≤ 8 := by unfold endN; cases wide <;> simp only [padN, bsz, roomN] <;> omega
  omega
 have HB := Lib.hid (And.intro hkn (And.intro hkm (And.intro hsn (And.intro hsm (And.intro hni (And.intro hicm (And.intro hn (And.intro hb (And.intro hl (And.intro hh hx)))))))))); clear hkn hkm hsn hsm hni hicm hn hb hl hh hx
 go_enter Tryz.func18, Tryz.ntmps18
 go_wp2_with fail
 refine (hkMay wide (n : Int) 0 (by rw [if_neg (by omega), if_neg (by have := HB.out.2.2.2.2.2.2.1; omega)]) hs).mono ?_
 rintro e w1 ⟨rfl, s1⟩
 clear hs
 go_wp2_with fail
 refine (hkExtract wide p rs salt key HB.out.2.2.1 HB.out.1 rfl rfl hsc HB.out.2.2.2.1 hkc HB.out.2.1 (by have := HB.out.2.2.2.2.2.2.2.1; omega) (by have := HB.out.2.2.2.2.2.2.2.2.1; omega) (by (repeat (first | with_reducible apply Sat.sub (s1) | with_reducible apply Sat.alloc' | with_reducible apply Sat.drew | with_reducible apply Sat.drewN)); (repeat (first | with_reducible exact Fr.done | with_reducible exact Fr.nil | (with_reducible apply Fr.cons; (focus ((repeat (first | with_reducible exact Take.here | with_reducible apply Take.there)); done))) | with_reducible apply Fr.skip)); done)).mono ?_
 rintro e w2 ⟨q, cq, rfl, hq1, hq2, s2⟩
 clear s1
 go_wp2_with fail
 refine (hkExpand wide p (noteN rs (evK wide) (evS wide) (keyN wide sn + kn / bsz wide + endN wide kn)) (hmac wide salt key) info rfl (hmac_len _ _ _) hq1 hq2 HB.out.2.2.2.2.1 hic HB.out.2.2.2.2.2.1 HB.out.2.2.2.2.2.2.1 (by rw [tot_noteN]; have := HB.out.2.2.2.2.2.2.2.1; have := HB.out.2.2.2.2.2.2.2.2.2.1; have := HB.out.2.2.2.2.2.2.2.2.2.2; omega) (by have := noteN_len rs (evK wide) (evS wide) (keyN wide sn + kn / bsz wide + endN wide kn); have := HB.out.2.2.2.2.2.2.2.2.1; omega) (by (repeat (first | with_reducible apply Sat.sub (s2) | with_reducible apply Sat.alloc' | with_reducible apply Sat.drew | with_reducible apply Sat.drewN)); (repeat (first | with_reducible exact Fr.done | with_reducible exact Fr.nil | (with_reducible apply Fr.cons; (focus ((repeat (first | with_reducible exact Take.here | with_reducible apply Take.there)); done))) | with_reducible apply Fr.skip)); done)).mono ?_
 rintro e w3 ⟨q3, c3, rfl, h1, h2, s3⟩
 clear s2
 rw [noteN_add] at s3
 have HQ := Lib.hid (And.intro h1 (And.intro h2 s3)); clear h1 h2 s3
 go_wp2
 refine bodyPost_ret (v := .tuple #[.slice q3 n c3, .int .i64 0]) (by simp [results, Tryz.results18, go_sem]) rfl ⟨q3, c3, rfl, HQ.out.1, HQ.out.2.1, ?_⟩
 have s4 : Sat W0 w3 (bytes true q3 (hkdf wide (hmac wide salt key) info n) :: ledO p (noteN rs (evK wide) (evS wide) (keyN wide sn + kn / bsz wide + endN wide kn + expN wide (hsz wide) ni n)) :: bytes mk kp key :: bytes ms sp salt :: bytes mi ip info :: L) := by
  have s5 := HQ.out.2.2
  exact (by (repeat (first | with_reducible apply Sat.sub (s5) | with_reducible apply Sat.alloc' | with_reducible apply Sat.drew | with_reducible apply Sat.drewN)); (repeat (first | with_reducible exact Fr.done | with_reducible exact Fr.nil | (with_reducible apply Fr.cons; (focus ((repeat (first | with_reducible exact Take.here | with_reducible apply Take.there)); done))) | with_reducible apply Fr.skip)); done)
 exact s4
theorem hkKeyNone {W0 w : World} {L : List Assn} (a : Int) (h1 : ¬ a = 1) (h2 : ¬ a = 2) (p v u x y : Value) (hs : Sat W0 w L) :
  Calls Tryz.prog 18 #[p, .int .u8 a, v, u, x, y] w fun e w' => e = .returned (.tuple #[.slice none 0 0, .int .i64 4]) ∧ Sat W0 w' L := by
 go_enter Tryz.func18, Tryz.ntmps18
 go_wp2_with fail
 refine (hkMayNone a h1 h2 y hs).mono ?_
 rintro e w1 ⟨rfl, s1⟩
 go_wp2
 refine bodyPost_ret (v := .tuple #[.slice none 0 0, .int .i64 4]) (by simp [results, Tryz.results18, go_sem]) rfl ⟨rfl, s1⟩
/-! ### The helpers of layer 15's statements -/
end Go.Proofs.YtpiiklfnakkdiaaGreat
