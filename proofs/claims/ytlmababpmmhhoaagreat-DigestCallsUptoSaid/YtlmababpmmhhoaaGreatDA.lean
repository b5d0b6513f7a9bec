/- Dcw, Dck, Dcm, Dco: texts that lie apart elsewhere, as one; each under the conditions that it names. -/
import Derived.Test.YtlmababpmmhhoaaGreatRA
import Derived.Test.YtlmababpmmhhoaaGreatL11p
import Derived.Test.YtlmababpmmhhoaaGreatGK
import Derived.Test.YtlmababpmmhhoaaGreatPick
import Derived.Test.YtlmababpmmhhoaaGreatOpn
import Derived.Test.YtlmababpmmhhoaaGreatHeldE
import Derived.Deep.Slices
import Derived.ProofKit
import Derived.OpenShut
import Derived.ChangeOld
import Derived.JoinedCond
import Derived.Carry

/- DigestCalls: what lies in memory between two calls: three states of each kind, two ledgers, what was told; what is kept; under the conditions that each names. -/
namespace Go.Sep
open Go.RowKit
set_option linter.unusedVariables false
/-- All of a list, side by side. -/
def stars : List Assn → Assn
  | [] => emp
  | A :: l => sep A (stars l)
theorem Sat.starsOut {W0 w : World} {A : Assn} : ∀ {l L : List Assn} {k : Nat}, l[k]? = some A → Sat W0 w (stars l :: L) → Sat W0 w (A :: stars (l.eraseIdx k) :: L)
  | [], _, _, hk, _ => by cases hk
  | B :: l, L, 0, hk, h => by
    simp only [List.getElem?_cons_zero, Option.some.injEq] at hk
    subst hk
    exact h.sepOpen
  | B :: l, L, k + 1, hk, h => by
    have h1 : Sat W0 w (stars l :: B :: L) := (Sat.sepOpen h).pull 1
    have h2 := Sat.starsOut (k := k) (by simpa using hk) h1
    have h3 : Sat W0 w (B :: stars (l.eraseIdx k) :: A :: L) := (Sat.sub (h2) (by with_reducible repeat first | exact Fr1 | exact Fr2 | (apply Fr3; focus ((repeat (first | exact Tk1 | apply Tk2)); done)) | apply Fr4))
    have h4 : Sat W0 w (stars ((B :: l).eraseIdx (k + 1)) :: A :: L) := h3.sepShut
    exact h4.pull 1
theorem Sat.starsIn {W0 w : World} {A : Assn} : ∀ {l L : List Assn} {k : Nat}, k < l.length → Sat W0 w (A :: stars (l.eraseIdx k) :: L) → Sat W0 w (stars (l.set k A) :: L)
  | [], _, _, hk, _ => absurd hk (by simp)
  | B :: l, L, 0, hk, h => h.sepShut
  | B :: l, L, k + 1, hk, h => by
    have h1 : Sat W0 w (B :: stars (l.eraseIdx k) :: A :: L) := Sat.sepOpen ((h.pull 1 : Sat W0 w (stars ((B :: l).eraseIdx (k + 1)) :: A :: L)))
    have h2 : Sat W0 w (A :: stars (l.eraseIdx k) :: B :: L) := (Sat.sub (h1) (by with_reducible repeat first | exact Fr1 | exact Fr2 | (apply Fr3; focus ((repeat (first | exact Tk1 | apply Tk2)); done)) | apply Fr4))
    have h3 := Sat.starsIn (k := k) (by simpa using hk) h2
    exact (h3.pull 1 : Sat W0 w (B :: stars (l.set k A) :: L)).sepShut
end Go.Sep
namespace Go.Proofs.YtlmababpmmhhoaaGreat
open Go.RowKit Go.Sep Go.Bv Go.Sha
set_option linter.unusedVariables false
set_option linter.unusedSimpArgs false
theorem tot_take (rs : List Run3) (i : Nat) : tot (rs.take i) ≤ tot rs := by
  have h := tot_append (rs.take i) (rs.drop i)
  rw [List.take_append_drop] at h
  omega
set_option maxRecDepth 100000 in
set_option maxHeartbeats 2000000 in
theorem rledLen {W0 w : World} {L : List Assn} {l : Nat} {rs : List Run3} (hl : rs.length ≤ 1000000000) (hb : tot rs ≤ 4611686018427387904) (hs : Sat W0 w (rled l rs :: L)) :
    Calls Tryz.prog 11 #[.pointer (some ⟨l, 0, none⟩)] w fun e w' => e = .returned (.int .i64 (tot rs : Int)) ∧ w' = w := by
  obtain ⟨p, c, s1⟩ := rledOpen hs
  clear hs
  obtain ⟨n, hn⟩ : ∃ n, n = rs.length := ⟨_, rfl⟩
  rw [← hn] at s1 hl
  have HN := Lib.hid (And.intro hn s1); clear hn s1
  go_enter Tryz.func11, Tryz.ntmps11
  go_wp2
  go_loopw [3, 4] (fun t3 t4 wr => ∃ (i : Nat), i ≤ n ∧ t4 = .int .i64 (i : Int) ∧ t3 = .int .i64 ((tot (rs.take i) : Nat) : Int) ∧ wr = w) (fun _ t4 _ => n - (intOf t4).toNat)
  case atStart => exact ⟨0, Nat.zero_le _, rfl, rfl, rfl⟩
  case round =>
    obtain ⟨i, hi, rfl, rfl, rfl⟩ := hrel
    have s := HN.out.2
    have c0 := s.at 0 rfl
    have z0 := s.lt (by simp)
    by_cases hlt : i < n
    · have hr : Sat W0 wr (row p c 3 n (rs.flatMap enc3) :: _) := s.pull 1
      obtain ⟨hrl, hro⟩ := hr.rowOpen
      rcases hro with ⟨-, -, h0, -, -⟩ | ⟨g, rest, rfl, hcap, hmx, hcl, hg⟩
      · omega
      have hix : i < rs.length := by rw [← HN.out.1]; exact hlt
      obtain ⟨⟨x0, x1, x2⟩, hxx⟩ : ∃ x, x = rs[i] := ⟨_, rfl⟩
      obtain ⟨y0, y1, y2⟩ := row3 hg (k := i) (y := (x0, x1, x2)) (by rw [hxx]; exact List.getElem?_eq_getElem hix)
      have zg := hg.lt (by rw [hcl]; omega)
      have hn2 : tot (rs.take (i + 1)) = tot (rs.take i) + x2 := by
        rw [List.take_succ_eq_append_getElem hix, tot_append, ← hxx]; simp [tot]
      have h1 := tot_take rs (i + 1)
      obtain ⟨T, hT⟩ : ∃ T, T = tot (rs.take i) := ⟨_, rfl⟩
      rw [hn2] at h1
      rw [← hT] at hn2 h1 ⊢
      have hsum : T + x2 ≤ 4611686018427387904 := by omega
      have HX := Lib.hid hn2; clear hxx hn2 hrl hcl hg hr hix hcap hmx s h1 hT y0 y1
      go_wp2
      go_roundw
      case rel => exact ⟨i + 1, by omega, by go_num, by rw [HX.out, Int.natCast_add], by first | trivial | rfl⟩
      case measure => simp [intOf]; omega
    · obtain rfl : i = n := by omega
      have e1 : rs.take i = rs := by rw [HN.out.1]; exact List.take_length
      rw [e1]
      clear s e1
      go_wp2
      go_ret
      exact ⟨rfl, rfl⟩
/-- A place of three: nothing; a state of the program's and one of the document's behind one message; two that were wiped. -/
inductive Sl where
  | no
  | live (wide : Bool) (msg : List Byte) (pb rb : Nat)
  | gone (wide : Bool) (pb rb : Nat)
def slS : Sl → Value
  | .no => .nilIface
  | .live wide _ pb _ => ifv wide pb
  | .gone wide pb _ => ifv wide pb
def slR : Sl → Value
  | .no => .pointer none
  | .live _ _ _ rb => .pointer (some ⟨rb, 0, none⟩)
  | .gone _ _ rb => .pointer (some ⟨rb, 0, none⟩)
def slA : Sl → Assn
  | .no => emp
  | .live wide msg pb rb => sep (dst wide pb msg) (rs11 wide rb msg)
  | .gone wide pb rb => sep (gone wide pb) (rg11 wide rb)
def slN : Sl → Nat
  | .live _ msg _ _ => msg.length
  | _ => 0
/-- The cells of a world. -/
def wCells (l m : Nat) (S : List Sl) (pt : Option Addr) (ct N : Nat) (pw : Option Addr) (cw : Nat) : List Value := S.map slS ++ (S.map slR ++ [.pointer (some ⟨l, 0, none⟩), .pointer (some ⟨m, 0, none⟩), .slice pt N ct, .slice pw N cw])
abbrev wA (x l m : Nat) (S : List Sl) (ts us : List Piece) (pt : Option Addr) (ct : Nat) (pw : Option Addr) (cw N : Nat) (rs : List Run3) (T : List Assn) : List Assn :=
  seg true x 0 (wCells l m S pt ct N pw cw) :: row pt ct 1 N (ts.map pieceV) :: row pw cw 1 N (us.map pieceV) :: ownRows ts :: ownRows us :: ledO (some l) rs :: rledO (some m) rs :: stars (S.map slA) :: T
/-- What holds of them behind i calls that brought M bytes. -/
def okW (M i : Nat) (S : List Sl) (ts us : List Piece) (N : Nat) (rs : List Run3) : Prop :=
  S.length = 3 ∧ ts.length = N ∧ us.length = N ∧ ts.map (fun t => t.2.2) = us.map (fun t => t.2.2) ∧ N ≤ i ∧ (∀ t ∈ ts, t.2.2.length ≤ 1000) ∧ tot rs ≤ 100000 * i ∧ rs.length ≤ 10 * i ∧ ∀ s ∈ S, slN s ≤ M
theorem wc_S {l m : Nat} {S : List Sl} {pt pw : Option Addr} {ct N cw : Nat} (h3 : S.length = 3) (k : Nat) {s : Sl} (hk : S[k]? = some s) : (wCells l m S pt ct N pw cw)[k]? = some (slS s) ∧ (wCells l m S pt ct N pw cw)[3 + k]? = some (slR s) := by
  have hl := (List.getElem?_eq_some_iff.1 hk).1
  unfold wCells
  refine ⟨?_, ?_⟩
  · rw [List.getElem?_append_left (by simpa using hl), List.getElem?_map, hk]; rfl
  · rw [List.getElem?_append_right (by simp; omega), List.getElem?_append_left (by simp; omega), List.getElem?_map]
    rw [show 3 + k - (S.map slS).length = k by simp; omega, hk]; rfl
theorem wc_at {l m : Nat} {S : List Sl} {pt pw : Option Addr} {ct N cw : Nat} (h3 : S.length = 3) : (wCells l m S pt ct N pw cw)[6]? = some (.pointer (some ⟨l, 0, none⟩)) ∧ (wCells l m S pt ct N pw cw)[7]? = some (.pointer (some ⟨m, 0, none⟩)) ∧ (wCells l m S pt ct N pw cw)[8]? = some (.slice pt N ct) ∧ (wCells l m S pt ct N pw cw)[9]? = some (.slice pw N cw) ∧ (wCells l m S pt ct N pw cw).length = 10 := by
  match S, h3 with
  | [a, b, c], _ => exact ⟨rfl, rfl, rfl, rfl, rfl⟩
theorem wc_setS {l m : Nat} {S : List Sl} {pt pw : Option Addr} {ct N cw : Nat} (h3 : S.length = 3) (k : Nat) (hk : k < 3) (a b : Sl) : ((wCells l m S pt ct N pw cw).set k (slS a)).set (3 + k) (slR a) = wCells l m (S.set k a) pt ct N pw cw := by
  match S, h3 with
  | [x, y, z], _ =>
    match k, hk with
    | 0, _ => rfl
    | 1, _ => rfl
    | 2, _ => rfl
theorem wc_setT {l m : Nat} {S : List Sl} {pt pw pt' pw' : Option Addr} {ct N cw ct' cw' N' : Nat} (h3 : S.length = 3) : ((wCells l m S pt ct N pw cw).set 8 (.slice pt' N' ct')).set 9 (.slice pw' N' cw') = wCells l m S pt' ct' N' pw' cw' := by
  match S, h3 with
  | [x, y, z], _ => rfl
end Go.Proofs.YtlmababpmmhhoaaGreat

/- DigestCalls: what was told is kept; a new state of both; under the conditions that each names. -/
namespace Go.Proofs.YtlmababpmmhhoaaGreat
open Go.RowKit Go.Sep Go.Bv Go.Sha
set_option linter.unusedVariables false
set_option linter.unusedSimpArgs false
theorem ownAdd {W0 w : World} {L : List Assn} {p : Option Addr} {c n : Nat} {bs : List Byte} {ts : List Piece} (hn : bs.length = n) (h : Sat W0 w (row p c 1 n (u8s bs) :: ownRows ts :: L)) : Sat W0 w (ownRows (ts ++ [(p, c, bs)]) :: L) := by
  subst hn
  exact ownShut (a := ts) (b := []) (t := (p, c, bs)) (by rw [List.append_nil]; exact h)
theorem ownGet {W0 w : World} {L : List Assn} {t : Piece} {ts : List Piece} (h : Sat W0 w (ownRows (ts ++ [t]) :: L)) : Sat W0 w (row t.1 t.2.1 1 t.2.2.length (u8s t.2.2) :: ownRows ts :: L) := by
  have := ownOpen (a := ts) (b := []) h
  rw [List.append_nil] at this
  exact this
theorem sameRows {W0 w : World} {L : List Assn} {ca cb da db n k : Nat} {pa pb : Option Addr} (xs ys : List Byte) (hn : n ≤ 1000000000000) (he : xs = ys) (hs : Sat W0 w (row pa da 1 n (u8s xs) :: row pb db 1 k (u8s ys) :: L)) :
    Calls Tryz.prog 12 #[.slice pa n ca, .slice pb k cb] w fun e w' => e = .returned (.bool true) ∧ Sat W0 w' (row pa da 1 n (u8s xs) :: row pb db 1 k (u8s ys) :: L) := by
  obtain ⟨h1, -, -, s1⟩ := rowBytes hs
  obtain ⟨h2, -, -, s2⟩ := rowBytes (s1.pull 1)
  have h := sameTrue (ca := ca) (cb := cb) xs ys he (by rw [h1]; unfold maxLen; omega) (s2.pull 1)
  rw [h1, h2] at h
  refine h.mono ?_
  rintro e w' ⟨rfl, m, rfl⟩
  exact ⟨rfl, hs.drewN m⟩
set_option maxRecDepth 100000 in
set_option maxHeartbeats 4000000 in
theorem keep11 {W0 w : World} {L : List Assn} {x l m N n : Nat} {S : List Sl} {ts us : List Piece} {pt pw pa pb : Option Addr} {ct cw ca cb : Nat} {rs : List Run3} (h3 : S.length = 3) (hN : N ≤ 1000) (bs : List Byte) (hn : bs.length = n) (hb : n ≤ 1000)
    (hs : Sat W0 w (row pa ca 1 n (u8s bs) :: row pb cb 1 n (u8s bs) :: wA x l m S ts us pt ct pw cw N rs L)) :
    Calls Tryz.prog 27 #[.pointer (some ⟨x, 0, none⟩), .slice pa n ca, .slice pb n cb] w fun e w' => e = .returned (.bool true) ∧ ∃ pt' ct' pw' cw', Sat W0 w' (wA x l m S (ts ++ [(pa, ca, bs)]) (us ++ [(pb, cb, bs)]) pt' ct' pw' cw' (N + 1) rs L) := by
  obtain ⟨i3, hi3, hz3, hs3, hb3⟩ := info_parts Tryz.info_bss
  have I3 := Lib.hid (And.intro hi3 (And.intro hz3 (And.intro hs3 hb3))); clear hi3 hz3 hs3 hb3
  obtain ⟨-, -, e8, e9, e10⟩ := wc_at (l := l) (m := m) (pt := pt) (pw := pw) (ct := ct) (N := N) (cw := cw) h3
  obtain ⟨C, hC⟩ : ∃ C, C = wCells l m S pt ct N pw cw := ⟨_, rfl⟩
  rw [← hC] at e8 e9 e10
  have s0 : Sat W0 w (seg true x 0 C :: row pt ct 1 N (ts.map pieceV) :: row pw cw 1 N (us.map pieceV) :: row pa ca 1 n (u8s bs) :: row pb cb 1 n (u8s bs) :: ownRows ts :: ownRows us :: ledO (some l) rs :: rledO (some m) rs :: stars (S.map slA) :: L) := by
    rw [hC]; exact (Sat.sub (hs) (by with_reducible repeat first | exact Fr1 | exact Fr2 | (apply Fr3; focus ((repeat (first | exact Tk1 | apply Tk2)); done)) | apply Fr4))
  clear hs
  have HC := Lib.hid (And.intro hC hn); clear hC hn
  have k8 := s0.at 8 e8; have k9 := s0.at 9 e9
  have f8 := s0.fr 8 (by omega); have f9 := s0.fr 9 (by omega)
  have kz := s0.lt (by omega)
  go_enter Tryz.func27, Tryz.ntmps27
  go_wp2_with (first | (at_builtin; refine wpl_append rfl (.tmp 11) (.tmp 13) 35 rfl Tryz.underlying35 I3.out.1 I3.out.2.1 I3.out.2.2.1 I3.out.2.2.2 rfl (by decide) (p := pt) (cp := ct) (n := N) (xs := ts.map pieceV) (L := seg true x 0 C :: row pw cw 1 N (us.map pieceV) :: row pa ca 1 n (u8s bs) :: row pb cb 1 n (u8s bs) :: ownRows ts :: ownRows us :: ledO (some l) rs :: rledO (some m) rs :: stars (S.map slA) :: L) (by have h9 := s0.alloc' (.cells #[.slice pa n ca] 41); exact (Sat.sub (h9) (by with_reducible repeat first | exact Fr1 | exact Fr2 | (apply Fr3; focus ((repeat (first | exact Tk1 | apply Tk2)); done)) | apply Fr4))) rfl (some _) 1 1 rfl [.slice pa n ca] rfl ((s0.alloc #[.slice pa n ca] 41).news) (fun h => by cases h) (by intro u hu; simp only [List.mem_singleton] at hu; subst hu; rfl) (by unfold maxLen; omega) (by omega) ?_; intro p1 d1 wy1 sx1 _ _; have sy1 : Sat W0 wy1 (seg true x 0 C :: row p1 d1 1 (N + 1) (ts.map pieceV ++ [.slice pa n ca]) :: row pw cw 1 N (us.map pieceV) :: row pa ca 1 n (u8s bs) :: row pb cb 1 n (u8s bs) :: ownRows ts :: ownRows us :: ledO (some l) rs :: rledO (some m) rs :: stars (S.map slA) :: L) := (Sat.sub (sx1) (by with_reducible repeat first | exact Fr1 | exact Fr2 | (apply Fr3; focus ((repeat (first | exact Tk1 | apply Tk2)); done)) | apply Fr4)); clear sx1 k8 k9 f8 f9 kz s0; have k8 : wy1.cell? ⟨x, 8, none⟩ = some (.slice pt N ct) := sy1.at 8 e8; have k9 : wy1.cell? ⟨x, 9, none⟩ = some (.slice pw N cw) := sy1.at 9 e9; have f8 := sy1.fr 8 (by simp [e10]); have f9 := sy1.fr 9 (by simp [e10]); have kz := sy1.lt (by simp [e10]); have st1 : Sat W0 _ (seg true x 0 (C.set 8 (.slice p1 (N + 1) d1)) :: row p1 d1 1 (N + 1) (ts.map pieceV ++ [.slice pa n ca]) :: row pw cw 1 N (us.map pieceV) :: row pa ca 1 n (u8s bs) :: row pb cb 1 n (u8s bs) :: ownRows ts :: ownRows us :: ledO (some l) rs :: rledO (some m) rs :: stars (S.map slA) :: L) := sy1.store (i := 8) (by simp [e10]) (.slice p1 (N + 1) d1) (q := 8) (by simp); clear sy1) | (at_builtin; refine wpl_append rfl (.tmp 21) (.tmp 23) 35 rfl Tryz.underlying35 I3.out.1 I3.out.2.1 I3.out.2.2.1 I3.out.2.2.2 rfl (by decide) (p := pw) (cp := cw) (n := N) (xs := us.map pieceV) (L := seg true x 0 (C.set 8 (.slice p1 (N + 1) d1)) :: row p1 d1 1 (N + 1) (ts.map pieceV ++ [.slice pa n ca]) :: row pa ca 1 n (u8s bs) :: row pb cb 1 n (u8s bs) :: ownRows ts :: ownRows us :: ledO (some l) rs :: rledO (some m) rs :: stars (S.map slA) :: L) (by have h9 := st1.alloc' (.cells #[.slice pb n cb] 41); exact (Sat.sub (h9) (by with_reducible repeat first | exact Fr1 | exact Fr2 | (apply Fr3; focus ((repeat (first | exact Tk1 | apply Tk2)); done)) | apply Fr4))) rfl (some _) 1 1 rfl [.slice pb n cb] rfl (by rw [← (by simp : (wy1.setCell ⟨x, 8, none⟩ (.slice p1 (N + 1) d1)).heap.size = wy1.heap.size)]; exact (st1.alloc #[.slice pb n cb] 41).news) (fun h => by cases h) (by intro u hu; simp only [List.mem_singleton] at hu; subst hu; rfl) (by unfold maxLen; omega) (by omega) ?_; intro p2 d2 wy2 sx2 _ _; have sy2 : Sat W0 wy2 (seg true x 0 (C.set 8 (.slice p1 (N + 1) d1)) :: row p1 d1 1 (N + 1) (ts.map pieceV ++ [.slice pa n ca]) :: row p2 d2 1 (N + 1) (us.map pieceV ++ [.slice pb n cb]) :: row pa ca 1 n (u8s bs) :: row pb cb 1 n (u8s bs) :: ownRows ts :: ownRows us :: ledO (some l) rs :: rledO (some m) rs :: stars (S.map slA) :: L) := (Sat.sub (sx2) (by with_reducible repeat first | exact Fr1 | exact Fr2 | (apply Fr3; focus ((repeat (first | exact Tk1 | apply Tk2)); done)) | apply Fr4)); clear sx2 k8 k9 f8 f9 kz st1; have k8 : wy2.cell? ⟨x, 8, none⟩ = some (.slice p1 (N + 1) d1) := sy2.at 8 (by simp [e10]); have k9 : wy2.cell? ⟨x, 9, none⟩ = some (.slice pw N cw) := sy2.at 9 (by simp [e9]); have f8 := sy2.fr 8 (by simp [e10]); have f9 := sy2.fr 9 (by simp [e10]); have kz := sy2.lt (by simp [e10]); have st2 : Sat W0 _ (seg true x 0 ((C.set 8 (.slice p1 (N + 1) d1)).set 9 (.slice p2 (N + 1) d2)) :: row p1 d1 1 (N + 1) (ts.map pieceV ++ [.slice pa n ca]) :: row p2 d2 1 (N + 1) (us.map pieceV ++ [.slice pb n cb]) :: row pa ca 1 n (u8s bs) :: row pb cb 1 n (u8s bs) :: ownRows ts :: ownRows us :: ledO (some l) rs :: rledO (some m) rs :: stars (S.map slA) :: L) := sy2.store (i := 9) (by simp [e10]) (.slice p2 (N + 1) d2) (q := 9) (by simp); clear sy2))
  have s9 : Sat W0 _ (row pa ca 1 n (u8s bs) :: row pb cb 1 n (u8s bs) :: seg true x 0 ((C.set 8 (.slice p1 (N + 1) d1)).set 9 (.slice p2 (N + 1) d2)) :: row p1 d1 1 (N + 1) (ts.map pieceV ++ [.slice pa n ca]) :: row p2 d2 1 (N + 1) (us.map pieceV ++ [.slice pb n cb]) :: ownRows ts :: ownRows us :: ledO (some l) rs :: rledO (some m) rs :: stars (S.map slA) :: L) := (Sat.sub (st2) (by with_reducible repeat first | exact Fr1 | exact Fr2 | (apply Fr3; focus ((repeat (first | exact Tk1 | apply Tk2)); done)) | apply Fr4))
  clear st2 k8 k9 f8 f9 kz
  refine (sameRows bs bs (by omega) rfl s9).mono ?_
  rintro e w9 ⟨rfl, s10⟩
  clear s9
  have sa := ownAdd HC.out.2 ((Sat.sub (s10) (by with_reducible repeat first | exact Fr1 | exact Fr2 | (apply Fr3; focus ((repeat (first | exact Tk1 | apply Tk2)); done)) | apply Fr4)) : Sat W0 w9 (row pa ca 1 n (u8s bs) :: ownRows ts :: row pb cb 1 n (u8s bs) :: seg true x 0 ((C.set 8 (.slice p1 (N + 1) d1)).set 9 (.slice p2 (N + 1) d2)) :: row p1 d1 1 (N + 1) (ts.map pieceV ++ [.slice pa n ca]) :: row p2 d2 1 (N + 1) (us.map pieceV ++ [.slice pb n cb]) :: ownRows us :: ledO (some l) rs :: rledO (some m) rs :: stars (S.map slA) :: L))
  have sb := ownAdd HC.out.2 ((Sat.sub (sa) (by with_reducible repeat first | exact Fr1 | exact Fr2 | (apply Fr3; focus ((repeat (first | exact Tk1 | apply Tk2)); done)) | apply Fr4)) : Sat W0 w9 (row pb cb 1 n (u8s bs) :: ownRows us :: ownRows (ts ++ [(pa, ca, bs)]) :: seg true x 0 ((C.set 8 (.slice p1 (N + 1) d1)).set 9 (.slice p2 (N + 1) d2)) :: row p1 d1 1 (N + 1) (ts.map pieceV ++ [.slice pa n ca]) :: row p2 d2 1 (N + 1) (us.map pieceV ++ [.slice pb n cb]) :: ledO (some l) rs :: rledO (some m) rs :: stars (S.map slA) :: L))
  have hm1 : ts.map pieceV ++ [.slice pa n ca] = (ts ++ [(pa, ca, bs)]).map pieceV := by simp [pieceV, HC.out.2]
  have hm2 : us.map pieceV ++ [.slice pb n cb] = (us ++ [(pb, cb, bs)]).map pieceV := by simp [pieceV, HC.out.2]
  rw [hm1, hm2, HC.out.1, wc_setT h3] at sb
  have sc : Sat W0 w9 (wA x l m S (ts ++ [(pa, ca, bs)]) (us ++ [(pb, cb, bs)]) p1 d1 p2 d2 (N + 1) rs L) := (Sat.sub (sb) (by with_reducible repeat first | exact Fr1 | exact Fr2 | (apply Fr3; focus ((repeat (first | exact Tk1 | apply Tk2)); done)) | apply Fr4))
  have HS := Lib.hid sc; clear s10 sa sb sc hm1 hm2
  go_wp2_with fail
  go_ret
  exact ⟨rfl, p1, d1, p2, d2, HS.out⟩
end Go.Proofs.YtlmababpmmhhoaaGreat

/- DigestCalls: a new state of both; under the conditions that each names. -/
namespace Go.Proofs.YtlmababpmmhhoaaGreat
open Go.RowKit Go.Sep Go.Bv Go.Sha
set_option linter.unusedVariables false
set_option linter.unusedSimpArgs false
theorem starsPut {W0 w : World} {L : List Assn} {S : List Sl} {k : Nat} {a b : Sl} (hk : S[k]? = some a) (h : Sat W0 w (slA b :: stars ((S.map slA).eraseIdx k) :: L)) : Sat W0 w (stars ((S.set k b).map slA) :: L) := by
  rw [List.map_set]
  exact Sat.starsIn (by simpa using (List.getElem?_eq_some_iff.1 hk).1) h
theorem starsGet {W0 w : World} {L : List Assn} {S : List Sl} {k : Nat} {a : Sl} (hk : S[k]? = some a) (h : Sat W0 w (stars (S.map slA) :: L)) : Sat W0 w (slA a :: stars ((S.map slA).eraseIdx k) :: L) :=
  Sat.starsOut (by rw [List.getElem?_map, hk]; rfl) h
theorem wc_set1 {l m : Nat} {S : List Sl} {pt pw : Option Addr} {ct N cw : Nat} (h3 : S.length = 3) (k : Nat) (hk : k < 3) (v : Value) : ∀ j, 3 ≤ j → ((wCells l m S pt ct N pw cw).set k v)[j]? = (wCells l m S pt ct N pw cw)[j]? := fun j hj => by
  rw [List.getElem?_set_ne (by omega)]
set_option maxRecDepth 100000 in
set_option maxHeartbeats 4000000 in
theorem made11 {W0 w : World} {L : List Assn} {x l m N k : Nat} {S : List Sl} {ts us : List Piece} {pt pw : Option Addr} {ct cw : Nat} {rs : List Run3} (h3 : S.length = 3) (hk : k < 3) (wide : Bool) {av : Value} (hav : av = .int .u8 (algN wide))
    (hs : Sat W0 w (wA x l m S ts us pt ct pw cw N rs L)) :
    Calls Tryz.prog 8 #[.pointer (some ⟨x, 0, none⟩), .int .i64 (k : Int), av] w fun e w' => e = .returned (.bool true) ∧ ∃ pb rb, Sat W0 w' (wA x l m (S.set k (.live wide [] pb rb)) ts us pt ct pw cw N rs L) := by
  subst hav
  obtain ⟨sk, hsk⟩ : ∃ s, S[k]? = some s := ⟨_, List.getElem?_eq_getElem (by omega)⟩
  obtain ⟨e0, e3⟩ := wc_S (l := l) (m := m) (pt := pt) (pw := pw) (ct := ct) (N := N) (cw := cw) h3 k hsk
  obtain ⟨-, -, -, -, e10⟩ := wc_at (l := l) (m := m) (pt := pt) (pw := pw) (ct := ct) (N := N) (cw := cw) h3
  obtain ⟨C, hC⟩ : ∃ C, C = wCells l m S pt ct N pw cw := ⟨_, rfl⟩
  rw [← hC] at e0 e3 e10
  have s0 : Sat W0 w (seg true x 0 C :: row pt ct 1 N (ts.map pieceV) :: row pw cw 1 N (us.map pieceV) :: ownRows ts :: ownRows us :: ledO (some l) rs :: rledO (some m) rs :: stars (S.map slA) :: L) := by
    rw [hC]; exact hs
  clear hs
  have HC := Lib.hid (And.intro hC (And.intro hsk (And.intro e0 (And.intro e3 e10)))); clear hC hsk e0 e3 e10
  have hk3 : (k : Int) < 3 := by omega
  cases wide
  · simp only [algN]
    go_enter Tryz.func8, Tryz.ntmps8
    go_wp2_with fail
    refine (dOf false s0).mono ?_
    rintro e w1 ⟨rfl, s1⟩
    clear s0
    obtain ⟨bh, hbh⟩ : ∃ bx, bx = w1.heap.size := ⟨_, rfl⟩
    have s1a : Sat W0 _ (seg true bh 0 [.int .u8 1, .int .i64 32, .int .i64 64, .int .u8 1, .int .i64 64, .func (.func 32) #[] #[], .func (.func 34) #[] #[]] :: _) := s1.allocAt (hcells false).toArray 63 (q := bh) hbh
    have HB := Lib.hid (And.intro hbh s1a); clear hbh s1a s1
    simp only [hcells]
    go_wp2_with fail
    rw [← HB.out.1]
    refine (rOf false HB.out.2).mono ?_
    rintro e w2 ⟨rfl, s2⟩
    clear HB
    obtain ⟨br, hbr⟩ : ∃ bx, bx = w2.heap.size := ⟨_, rfl⟩
    have s3 : Sat W0 _ (seg true br 0 [.int .u8 1, .int .i64 32, .int .i64 64, .int .u8 1, .int .i64 64] :: _) := s2.allocAt (rcells false).toArray 67 (q := br) hbr
    have HB := Lib.hid (And.intro hbr s3); clear hbr
    simp only [rcells] at s3 ⊢
    have f5 := ((Sat.sub (s3) (by with_reducible repeat first | exact Fr1 | exact Fr2 | (apply Fr3; focus ((repeat (first | exact Tk1 | apply Tk2)); done)) | apply Fr4)) : Sat W0 _ (seg true bh 0 [.int .u8 1, .int .i64 32, .int .i64 64, .int .u8 1, .int .i64 64, .func (.func 32) #[] #[], .func (.func 34) #[] #[]] :: [])).at 5 rfl
    have z5 := ((Sat.sub (s3) (by with_reducible repeat first | exact Fr1 | exact Fr2 | (apply Fr3; focus ((repeat (first | exact Tk1 | apply Tk2)); done)) | apply Fr4)) : Sat W0 _ (seg true bh 0 [.int .u8 1, .int .i64 32, .int .i64 64, .int .u8 1, .int .i64 64, .func (.func 32) #[] #[], .func (.func 34) #[] #[]] :: [])).lt (by simp)
    go_wp2_with fail
    rw [← HB.out.1]
    clear HB f5 z5
    have s3d := s3.drew
    refine region_E (fun w' => w'.cell? ⟨bh, 5, none⟩ = some (.func (.func 32) #[] #[]) ∧ bh < w'.heap.size) [3] (by kernel_rfl) ?_
    have hHeld := (And.intro (((Sat.sub (s3d) (by with_reducible repeat first | exact Fr1 | exact Fr2 | (apply Fr3; focus ((repeat (first | exact Tk1 | apply Tk2)); done)) | apply Fr4)) : Sat W0 _ (seg true bh 0 [.int .u8 1, .int .i64 32, .int .i64 64, .int .u8 1, .int .i64 64, .func (.func 32) #[] #[], .func (.func 34) #[] #[]] :: [])).at 5 rfl) (((Sat.sub (s3d) (by with_reducible repeat first | exact Fr1 | exact Fr2 | (apply Fr3; focus ((repeat (first | exact Tk1 | apply Tk2)); done)) | apply Fr4)) : Sat W0 _ (seg true bh 0 [.int .u8 1, .int .i64 32, .int .i64 64, .int .u8 1, .int .i64 64, .func (.func 32) #[] #[], .func (.func 34) #[] #[]] :: [])).lt (by simp)))
    iterate 6
     first | refine autoT hHeld (by rfl) (by rfl) (x := ?_) (v := ?_) ?_ (by kernel_rfl) ?_ ?_ ?_ | refine autoP (by rfl) (x := ?_) (v := ?_) ?_ (by kernel_rfl) ?_ ?_ ?_
     rotate_left 2
     · (simp only [gE1, gE2, gE3]; rfl)
     · exact fun _ _ _ h => h
     · refine Or.inl ⟨by rfl, fun w hSw => ?_⟩
       (try dsimp only at hSw)
       go_simp
       try (with_reducible rfl)
     try simp only [pA1, pA2, pA3, pA4]
    refine anyE_one (i := 4) (x := ?_) ?_ (by kernel_rfl) (fun K hK => ?_)
    rotate_left
    · (simp only [gE1, gE2, gE3]; rfl)
    go_simp
    refine (dNew false s3d).mono ?_
    rintro e w4 ⟨pb, rfl, s4⟩
    simp only [ifv]
    go_wp2_with fail
    have hKp := (And.intro (((Sat.sub (s4) (by with_reducible repeat first | exact Fr1 | exact Fr2 | (apply Fr3; focus ((repeat (first | exact Tk1 | apply Tk2)); done)) | apply Fr4)) : Sat W0 _ (seg true bh 0 [.int .u8 1, .int .i64 32, .int .i64 64, .int .u8 1, .int .i64 64, .func (.func 32) #[] #[], .func (.func 34) #[] #[]] :: [])).at 5 rfl) (((Sat.sub (s4) (by with_reducible repeat first | exact Fr1 | exact Fr2 | (apply Fr3; focus ((repeat (first | exact Tk1 | apply Tk2)); done)) | apply Fr4)) : Sat W0 _ (seg true bh 0 [.int .u8 1, .int .i64 32, .int .i64 64, .int .u8 1, .int .i64 64, .func (.func 32) #[] #[], .func (.func 34) #[] #[]] :: [])).lt (by simp)))
    refine hK.out _ _ hKp ?_
    clear hK K hHeld
    have hHeld := hKp
    clear hKp
    try simp only [pA1, pA2, pA3, pA4]
    have s5 : Sat W0 w4 (seg true x 0 C :: seg true br 0 [.int .u8 1, .int .i64 32, .int .i64 64, .int .u8 1, .int .i64 64] :: dst false pb [] :: row pt ct 1 N (ts.map pieceV) :: row pw cw 1 N (us.map pieceV) :: ownRows ts :: ownRows us :: ledO (some l) rs :: rledO (some m) rs :: stars (S.map slA) :: L) := (Sat.sub (s4) (by with_reducible repeat first | exact Fr1 | exact Fr2 | (apply Fr3; focus ((repeat (first | exact Tk1 | apply Tk2)); done)) | apply Fr4))
    have x0 := s5.at k HC.out.2.2.1
    have xf := s5.fr k (by rw [HC.out.2.2.2.2]; omega)
    have xz := s5.lt (by rw [HC.out.2.2.2.2]; omega)
    iterate 1
     first | refine autoT hHeld (by rfl) (by rfl) (x := ?_) (v := ?_) ?_ (by kernel_rfl) ?_ ?_ ?_ | refine autoP (by rfl) (x := ?_) (v := ?_) ?_ (by kernel_rfl) ?_ ?_ ?_
     rotate_left 2
     · (simp only [gE1, gE2, gE3]; rfl)
     · exact fun _ _ _ h => h
     · refine Or.inl ⟨by rfl, fun w hSw => ?_⟩
       (try dsimp only at hSw)
       go_simp
       try (with_reducible rfl)
     try simp only [pA1, pA2, pA3, pA4]
    refine anyE_last (i := 8) (x := ?_) ?_ (by kernel_rfl) (by kernel_rfl) (fun K hK => ?_)
    rotate_left
    · (simp only [gE1, gE2, gE3]; rfl)
    go_simp
    refine hK.out _ _ ?_
    clear hK K
    try simp only [pA1, pA2, pA3, pA4]
    have s6 : Sat W0 _ (seg true x 0 (C.set k (ifv false pb)) :: seg true br 0 [.int .u8 1, .int .i64 32, .int .i64 64, .int .u8 1, .int .i64 64] :: dst false pb [] :: row pt ct 1 N (ts.map pieceV) :: row pw cw 1 N (us.map pieceV) :: ownRows ts :: ownRows us :: ledO (some l) rs :: rledO (some m) rs :: stars (S.map slA) :: L) := s5.store (i := k) (by rw [HC.out.2.2.2.2]; omega) (ifv false pb) (q := k) (by simp)
    clear s3 s3d s4 s5 x0 xf xz
    refine anyE_done (by kernel_rfl) ?_ _
    go_wp2_with fail
    have s6d := s6.drew
    refine region_E (fun w' => w'.cell? ⟨br, 0, none⟩ = some (.int .u8 1) ∧ w'.cell? ⟨br, 1, none⟩ = some (.int .i64 32) ∧ w'.cell? ⟨br, 2, none⟩ = some (.int .i64 64) ∧ w'.cell? ⟨br, 3, none⟩ = some (.int .u8 1) ∧ w'.cell? ⟨br, 4, none⟩ = some (.int .i64 64) ∧ br < w'.heap.size) [2] (by kernel_rfl) ?_
    have hHeld := (And.intro (((Sat.sub (s6d) (by with_reducible repeat first | exact Fr1 | exact Fr2 | (apply Fr3; focus ((repeat (first | exact Tk1 | apply Tk2)); done)) | apply Fr4)) : Sat W0 _ (seg true br 0 [.int .u8 1, .int .i64 32, .int .i64 64, .int .u8 1, .int .i64 64] :: [])).at 0 rfl) (And.intro (((Sat.sub (s6d) (by with_reducible repeat first | exact Fr1 | exact Fr2 | (apply Fr3; focus ((repeat (first | exact Tk1 | apply Tk2)); done)) | apply Fr4)) : Sat W0 _ (seg true br 0 [.int .u8 1, .int .i64 32, .int .i64 64, .int .u8 1, .int .i64 64] :: [])).at 1 rfl) (And.intro (((Sat.sub (s6d) (by with_reducible repeat first | exact Fr1 | exact Fr2 | (apply Fr3; focus ((repeat (first | exact Tk1 | apply Tk2)); done)) | apply Fr4)) : Sat W0 _ (seg true br 0 [.int .u8 1, .int .i64 32, .int .i64 64, .int .u8 1, .int .i64 64] :: [])).at 2 rfl) (And.intro (((Sat.sub (s6d) (by with_reducible repeat first | exact Fr1 | exact Fr2 | (apply Fr3; focus ((repeat (first | exact Tk1 | apply Tk2)); done)) | apply Fr4)) : Sat W0 _ (seg true br 0 [.int .u8 1, .int .i64 32, .int .i64 64, .int .u8 1, .int .i64 64] :: [])).at 3 rfl) (And.intro (((Sat.sub (s6d) (by with_reducible repeat first | exact Fr1 | exact Fr2 | (apply Fr3; focus ((repeat (first | exact Tk1 | apply Tk2)); done)) | apply Fr4)) : Sat W0 _ (seg true br 0 [.int .u8 1, .int .i64 32, .int .i64 64, .int .u8 1, .int .i64 64] :: [])).at 4 rfl) (((Sat.sub (s6d) (by with_reducible repeat first | exact Fr1 | exact Fr2 | (apply Fr3; focus ((repeat (first | exact Tk1 | apply Tk2)); done)) | apply Fr4)) : Sat W0 _ (seg true br 0 [.int .u8 1, .int .i64 32, .int .i64 64, .int .u8 1, .int .i64 64] :: [])).lt (by simp)))))))
    iterate 5
     first | refine autoT hHeld (by rfl) (by rfl) (x := ?_) (v := ?_) ?_ (by kernel_rfl) ?_ ?_ ?_ | refine autoP (by rfl) (x := ?_) (v := ?_) ?_ (by kernel_rfl) ?_ ?_ ?_
     rotate_left 2
     · (simp only [gE1, gE2, gE3]; rfl)
     · exact fun _ _ _ h => h
     · refine Or.inl ⟨by rfl, fun w hSw => ?_⟩
       (try dsimp only at hSw)
       go_simp
       try (with_reducible rfl)
     try simp only [pA1, pA2, pA3, pA4]
    refine anyE_one (i := 3) (x := ?_) ?_ (by kernel_rfl) (fun K hK => ?_)
    rotate_left
    · (simp only [gE1, gE2, gE3]; rfl)
    go_simp
    refine (rs11New false s6d).mono ?_
    rintro e w7 ⟨rb, rfl, s7⟩
    go_wp2_with fail
    have hKp := (And.intro (((Sat.sub (s7) (by with_reducible repeat first | exact Fr1 | exact Fr2 | (apply Fr3; focus ((repeat (first | exact Tk1 | apply Tk2)); done)) | apply Fr4)) : Sat W0 _ (seg true br 0 [.int .u8 1, .int .i64 32, .int .i64 64, .int .u8 1, .int .i64 64] :: [])).at 0 rfl) (And.intro (((Sat.sub (s7) (by with_reducible repeat first | exact Fr1 | exact Fr2 | (apply Fr3; focus ((repeat (first | exact Tk1 | apply Tk2)); done)) | apply Fr4)) : Sat W0 _ (seg true br 0 [.int .u8 1, .int .i64 32, .int .i64 64, .int .u8 1, .int .i64 64] :: [])).at 1 rfl) (And.intro (((Sat.sub (s7) (by with_reducible repeat first | exact Fr1 | exact Fr2 | (apply Fr3; focus ((repeat (first | exact Tk1 | apply Tk2)); done)) | apply Fr4)) : Sat W0 _ (seg true br 0 [.int .u8 1, .int .i64 32, .int .i64 64, .int .u8 1, .int .i64 64] :: [])).at 2 rfl) (And.intro (((Sat.sub (s7) (by with_reducible repeat first | exact Fr1 | exact Fr2 | (apply Fr3; focus ((repeat (first | exact Tk1 | apply Tk2)); done)) | apply Fr4)) : Sat W0 _ (seg true br 0 [.int .u8 1, .int .i64 32, .int .i64 64, .int .u8 1, .int .i64 64] :: [])).at 3 rfl) (And.intro (((Sat.sub (s7) (by with_reducible repeat first | exact Fr1 | exact Fr2 | (apply Fr3; focus ((repeat (first | exact Tk1 | apply Tk2)); done)) | apply Fr4)) : Sat W0 _ (seg true br 0 [.int .u8 1, .int .i64 32, .int .i64 64, .int .u8 1, .int .i64 64] :: [])).at 4 rfl) (((Sat.sub (s7) (by with_reducible repeat first | exact Fr1 | exact Fr2 | (apply Fr3; focus ((repeat (first | exact Tk1 | apply Tk2)); done)) | apply Fr4)) : Sat W0 _ (seg true br 0 [.int .u8 1, .int .i64 32, .int .i64 64, .int .u8 1, .int .i64 64] :: [])).lt (by simp)))))))
    refine hK.out _ _ hKp ?_
    clear hK K hHeld
    have hHeld := hKp
    clear hKp
    try simp only [pA1, pA2, pA3, pA4]
    have s8 : Sat W0 w7 (seg true x 0 (C.set k (ifv false pb)) :: rs11 false rb [] :: dst false pb [] :: row pt ct 1 N (ts.map pieceV) :: row pw cw 1 N (us.map pieceV) :: ownRows ts :: ownRows us :: ledO (some l) rs :: rledO (some m) rs :: stars (S.map slA) :: L) := (Sat.sub (s7) (by with_reducible repeat first | exact Fr1 | exact Fr2 | (apply Fr3; focus ((repeat (first | exact Tk1 | apply Tk2)); done)) | apply Fr4))
    have x0 := s8.at (3 + k) (by rw [List.getElem?_set_ne (by omega)]; exact HC.out.2.2.2.1)
    have xf := s8.fr (3 + k) (by rw [List.length_set, HC.out.2.2.2.2]; omega)
    have xz := s8.lt (by rw [List.length_set, HC.out.2.2.2.2]; omega)
    iterate 1
     first | refine autoT hHeld (by rfl) (by rfl) (x := ?_) (v := ?_) ?_ (by kernel_rfl) ?_ ?_ ?_ | refine autoP (by rfl) (x := ?_) (v := ?_) ?_ (by kernel_rfl) ?_ ?_ ?_
     rotate_left 2
     · (simp only [gE1, gE2, gE3]; rfl)
     · exact fun _ _ _ h => h
     · refine Or.inl ⟨by rfl, fun w hSw => ?_⟩
       (try dsimp only at hSw)
       go_simp
       try (with_reducible rfl)
     try simp only [pA1, pA2, pA3, pA4]
    refine anyE_last (i := 7) (x := ?_) ?_ (by kernel_rfl) (by kernel_rfl) (fun K hK => ?_)
    rotate_left
    · (simp only [gE1, gE2, gE3]; rfl)
    go_simp
    refine hK.out _ _ ?_
    clear hK K
    try simp only [pA1, pA2, pA3, pA4]
    have s9 : Sat W0 _ (seg true x 0 ((C.set k (ifv false pb)).set (3 + k) (.pointer (some ⟨rb, 0, none⟩))) :: rs11 false rb [] :: dst false pb [] :: row pt ct 1 N (ts.map pieceV) :: row pw cw 1 N (us.map pieceV) :: ownRows ts :: ownRows us :: ledO (some l) rs :: rledO (some m) rs :: stars (S.map slA) :: L) := s8.store (i := 3 + k) (by rw [List.length_set, HC.out.2.2.2.2]; omega) (.pointer (some ⟨rb, 0, none⟩)) (q := 3 + k) (by simp)
    clear s6 s6d s7 s8 x0 xf xz
    refine anyE_done (by kernel_rfl) ?_ _
    have x0 : World.cell? _ ⟨x, k, none⟩ = some (ifv false pb) := s9.at k (by rw [List.getElem?_set_ne (by omega), List.getElem?_set_self (by rw [HC.out.2.2.2.2]; omega)])
    have xz := s9.lt (by rw [List.length_set, List.length_set, HC.out.2.2.2.2]; omega)
    have hset : (C.set k (ifv false pb)).set (3 + k) (.pointer (some ⟨rb, 0, none⟩)) = wCells l m (S.set k (.live false [] pb rb)) pt ct N pw cw := by
      rw [HC.out.1]; exact wc_setS h3 k hk (.live false [] pb rb) (.live false [] pb rb)
    have sg := starsGet HC.out.2.1 ((Sat.sub (s9) (by with_reducible repeat first | exact Fr1 | exact Fr2 | (apply Fr3; focus ((repeat (first | exact Tk1 | apply Tk2)); done)) | apply Fr4)) : Sat W0 _ (stars (S.map slA) :: seg true x 0 ((C.set k (ifv false pb)).set (3 + k) (.pointer (some ⟨rb, 0, none⟩))) :: rs11 false rb [] :: dst false pb [] :: row pt ct 1 N (ts.map pieceV) :: row pw cw 1 N (us.map pieceV) :: ownRows ts :: ownRows us :: ledO (some l) rs :: rledO (some m) rs :: L))
    have sh : Sat W0 _ (slA (.live false [] pb rb) :: _) := Sat.sepShut ((Sat.sub (sg) (by with_reducible repeat first | exact Fr1 | exact Fr2 | (apply Fr3; focus ((repeat (first | exact Tk1 | apply Tk2)); done)) | apply Fr4)) : Sat W0 _ (dst false pb [] :: rs11 false rb [] :: stars ((S.map slA).eraseIdx k) :: seg true x 0 ((C.set k (ifv false pb)).set (3 + k) (.pointer (some ⟨rb, 0, none⟩))) :: row pt ct 1 N (ts.map pieceV) :: row pw cw 1 N (us.map pieceV) :: ownRows ts :: ownRows us :: ledO (some l) rs :: rledO (some m) rs :: L))
    have si := starsPut HC.out.2.1 sh
    rw [hset] at si
    have sj : Sat W0 _ (wA x l m (S.set k (.live false [] pb rb)) ts us pt ct pw cw N rs L) := (Sat.sub (si) (by with_reducible repeat first | exact Fr1 | exact Fr2 | (apply Fr3; focus ((repeat (first | exact Tk1 | apply Tk2)); done)) | apply Fr4))
    have HS := Lib.hid sj; clear s9 sg sh si sj hset
    simp only [ifv] at x0
    go_wp2_with fail
    go_ret
    exact ⟨rfl, pb, rb, HS.out⟩
  · simp only [algN]
    go_enter Tryz.func8, Tryz.ntmps8
    go_wp2_with fail
    refine (dOf true s0).mono ?_
    rintro e w1 ⟨rfl, s1⟩
    clear s0
    obtain ⟨bh, hbh⟩ : ∃ bx, bx = w1.heap.size := ⟨_, rfl⟩
    have s1a : Sat W0 _ (seg true bh 0 [.int .u8 2, .int .i64 64, .int .i64 128, .int .u8 2, .int .i64 128, .func (.func 35) #[] #[], .func (.func 37) #[] #[]] :: _) := s1.allocAt (hcells true).toArray 63 (q := bh) hbh
    have HB := Lib.hid (And.intro hbh s1a); clear hbh s1a s1
    simp only [hcells]
    go_wp2_with fail
    rw [← HB.out.1]
    refine (rOf true HB.out.2).mono ?_
    rintro e w2 ⟨rfl, s2⟩
    clear HB
    obtain ⟨br, hbr⟩ : ∃ bx, bx = w2.heap.size := ⟨_, rfl⟩
    have s3 : Sat W0 _ (seg true br 0 [.int .u8 2, .int .i64 64, .int .i64 128, .int .u8 2, .int .i64 128] :: _) := s2.allocAt (rcells true).toArray 67 (q := br) hbr
    have HB := Lib.hid (And.intro hbr s3); clear hbr
    simp only [rcells] at s3 ⊢
    have f5 := ((Sat.sub (s3) (by with_reducible repeat first | exact Fr1 | exact Fr2 | (apply Fr3; focus ((repeat (first | exact Tk1 | apply Tk2)); done)) | apply Fr4)) : Sat W0 _ (seg true bh 0 [.int .u8 2, .int .i64 64, .int .i64 128, .int .u8 2, .int .i64 128, .func (.func 35) #[] #[], .func (.func 37) #[] #[]] :: [])).at 5 rfl
    have z5 := ((Sat.sub (s3) (by with_reducible repeat first | exact Fr1 | exact Fr2 | (apply Fr3; focus ((repeat (first | exact Tk1 | apply Tk2)); done)) | apply Fr4)) : Sat W0 _ (seg true bh 0 [.int .u8 2, .int .i64 64, .int .i64 128, .int .u8 2, .int .i64 128, .func (.func 35) #[] #[], .func (.func 37) #[] #[]] :: [])).lt (by simp)
    go_wp2_with fail
    rw [← HB.out.1]
    clear HB f5 z5
    have s3d := s3.drew
    refine region_E (fun w' => w'.cell? ⟨bh, 5, none⟩ = some (.func (.func 35) #[] #[]) ∧ bh < w'.heap.size) [3] (by kernel_rfl) ?_
    have hHeld := (And.intro (((Sat.sub (s3d) (by with_reducible repeat first | exact Fr1 | exact Fr2 | (apply Fr3; focus ((repeat (first | exact Tk1 | apply Tk2)); done)) | apply Fr4)) : Sat W0 _ (seg true bh 0 [.int .u8 2, .int .i64 64, .int .i64 128, .int .u8 2, .int .i64 128, .func (.func 35) #[] #[], .func (.func 37) #[] #[]] :: [])).at 5 rfl) (((Sat.sub (s3d) (by with_reducible repeat first | exact Fr1 | exact Fr2 | (apply Fr3; focus ((repeat (first | exact Tk1 | apply Tk2)); done)) | apply Fr4)) : Sat W0 _ (seg true bh 0 [.int .u8 2, .int .i64 64, .int .i64 128, .int .u8 2, .int .i64 128, .func (.func 35) #[] #[], .func (.func 37) #[] #[]] :: [])).lt (by simp)))
    iterate 6
     first | refine autoT hHeld (by rfl) (by rfl) (x := ?_) (v := ?_) ?_ (by kernel_rfl) ?_ ?_ ?_ | refine autoP (by rfl) (x := ?_) (v := ?_) ?_ (by kernel_rfl) ?_ ?_ ?_
     rotate_left 2
     · (simp only [gE1, gE2, gE3]; rfl)
     · exact fun _ _ _ h => h
     · refine Or.inl ⟨by rfl, fun w hSw => ?_⟩
       (try dsimp only at hSw)
       go_simp
       try (with_reducible rfl)
     try simp only [pA1, pA2, pA3, pA4]
    refine anyE_one (i := 4) (x := ?_) ?_ (by kernel_rfl) (fun K hK => ?_)
    rotate_left
    · (simp only [gE1, gE2, gE3]; rfl)
    go_simp
    refine (dNew true s3d).mono ?_
    rintro e w4 ⟨pb, rfl, s4⟩
    simp only [ifv]
    go_wp2_with fail
    have hKp := (And.intro (((Sat.sub (s4) (by with_reducible repeat first | exact Fr1 | exact Fr2 | (apply Fr3; focus ((repeat (first | exact Tk1 | apply Tk2)); done)) | apply Fr4)) : Sat W0 _ (seg true bh 0 [.int .u8 2, .int .i64 64, .int .i64 128, .int .u8 2, .int .i64 128, .func (.func 35) #[] #[], .func (.func 37) #[] #[]] :: [])).at 5 rfl) (((Sat.sub (s4) (by with_reducible repeat first | exact Fr1 | exact Fr2 | (apply Fr3; focus ((repeat (first | exact Tk1 | apply Tk2)); done)) | apply Fr4)) : Sat W0 _ (seg true bh 0 [.int .u8 2, .int .i64 64, .int .i64 128, .int .u8 2, .int .i64 128, .func (.func 35) #[] #[], .func (.func 37) #[] #[]] :: [])).lt (by simp)))
    refine hK.out _ _ hKp ?_
    clear hK K hHeld
    have hHeld := hKp
    clear hKp
    try simp only [pA1, pA2, pA3, pA4]
    have s5 : Sat W0 w4 (seg true x 0 C :: seg true br 0 [.int .u8 2, .int .i64 64, .int .i64 128, .int .u8 2, .int .i64 128] :: dst true pb [] :: row pt ct 1 N (ts.map pieceV) :: row pw cw 1 N (us.map pieceV) :: ownRows ts :: ownRows us :: ledO (some l) rs :: rledO (some m) rs :: stars (S.map slA) :: L) := (Sat.sub (s4) (by with_reducible repeat first | exact Fr1 | exact Fr2 | (apply Fr3; focus ((repeat (first | exact Tk1 | apply Tk2)); done)) | apply Fr4))
    have x0 := s5.at k HC.out.2.2.1
    have xf := s5.fr k (by rw [HC.out.2.2.2.2]; omega)
    have xz := s5.lt (by rw [HC.out.2.2.2.2]; omega)
    iterate 1
     first | refine autoT hHeld (by rfl) (by rfl) (x := ?_) (v := ?_) ?_ (by kernel_rfl) ?_ ?_ ?_ | refine autoP (by rfl) (x := ?_) (v := ?_) ?_ (by kernel_rfl) ?_ ?_ ?_
     rotate_left 2
     · (simp only [gE1, gE2, gE3]; rfl)
     · exact fun _ _ _ h => h
     · refine Or.inl ⟨by rfl, fun w hSw => ?_⟩
       (try dsimp only at hSw)
       go_simp
       try (with_reducible rfl)
     try simp only [pA1, pA2, pA3, pA4]
    refine anyE_last (i := 8) (x := ?_) ?_ (by kernel_rfl) (by kernel_rfl) (fun K hK => ?_)
    rotate_left
    · (simp only [gE1, gE2, gE3]; rfl)
    go_simp
    refine hK.out _ _ ?_
    clear hK K
    try simp only [pA1, pA2, pA3, pA4]
    have s6 : Sat W0 _ (seg true x 0 (C.set k (ifv true pb)) :: seg true br 0 [.int .u8 2, .int .i64 64, .int .i64 128, .int .u8 2, .int .i64 128] :: dst true pb [] :: row pt ct 1 N (ts.map pieceV) :: row pw cw 1 N (us.map pieceV) :: ownRows ts :: ownRows us :: ledO (some l) rs :: rledO (some m) rs :: stars (S.map slA) :: L) := s5.store (i := k) (by rw [HC.out.2.2.2.2]; omega) (ifv true pb) (q := k) (by simp)
    clear s3 s3d s4 s5 x0 xf xz
    refine anyE_done (by kernel_rfl) ?_ _
    go_wp2_with fail
    have s6d := s6.drew
    refine region_E (fun w' => w'.cell? ⟨br, 0, none⟩ = some (.int .u8 2) ∧ w'.cell? ⟨br, 1, none⟩ = some (.int .i64 64) ∧ w'.cell? ⟨br, 2, none⟩ = some (.int .i64 128) ∧ w'.cell? ⟨br, 3, none⟩ = some (.int .u8 2) ∧ w'.cell? ⟨br, 4, none⟩ = some (.int .i64 128) ∧ br < w'.heap.size) [2] (by kernel_rfl) ?_
    have hHeld := (And.intro (((Sat.sub (s6d) (by with_reducible repeat first | exact Fr1 | exact Fr2 | (apply Fr3; focus ((repeat (first | exact Tk1 | apply Tk2)); done)) | apply Fr4)) : Sat W0 _ (seg true br 0 [.int .u8 2, .int .i64 64, .int .i64 128, .int .u8 2, .int .i64 128] :: [])).at 0 rfl) (And.intro (((Sat.sub (s6d) (by with_reducible repeat first | exact Fr1 | exact Fr2 | (apply Fr3; focus ((repeat (first | exact Tk1 | apply Tk2)); done)) | apply Fr4)) : Sat W0 _ (seg true br 0 [.int .u8 2, .int .i64 64, .int .i64 128, .int .u8 2, .int .i64 128] :: [])).at 1 rfl) (And.intro (((Sat.sub (s6d) (by with_reducible repeat first | exact Fr1 | exact Fr2 | (apply Fr3; focus ((repeat (first | exact Tk1 | apply Tk2)); done)) | apply Fr4)) : Sat W0 _ (seg true br 0 [.int .u8 2, .int .i64 64, .int .i64 128, .int .u8 2, .int .i64 128] :: [])).at 2 rfl) (And.intro (((Sat.sub (s6d) (by with_reducible repeat first | exact Fr1 | exact Fr2 | (apply Fr3; focus ((repeat (first | exact Tk1 | apply Tk2)); done)) | apply Fr4)) : Sat W0 _ (seg true br 0 [.int .u8 2, .int .i64 64, .int .i64 128, .int .u8 2, .int .i64 128] :: [])).at 3 rfl) (And.intro (((Sat.sub (s6d) (by with_reducible repeat first | exact Fr1 | exact Fr2 | (apply Fr3; focus ((repeat (first | exact Tk1 | apply Tk2)); done)) | apply Fr4)) : Sat W0 _ (seg true br 0 [.int .u8 2, .int .i64 64, .int .i64 128, .int .u8 2, .int .i64 128] :: [])).at 4 rfl) (((Sat.sub (s6d) (by with_reducible repeat first | exact Fr1 | exact Fr2 | (apply Fr3; focus ((repeat (first | exact Tk1 | apply Tk2)); done)) | apply Fr4)) : Sat W0 _ (seg true br 0 [.int .u8 2, .int .i64 64, .int .i64 128, .int .u8 2, .int .i64 128] :: [])).lt (by simp)))))))
    iterate 5
     first | refine autoT hHeld (by rfl) (by rfl) (x := ?_) (v := ?_) ?_ (by kernel_rfl) ?_ ?_ ?_ | refine autoP (by rfl) (x := ?_) (v := ?_) ?_ (by kernel_rfl) ?_ ?_ ?_
     rotate_left 2
     · (simp only [gE1, gE2, gE3]; rfl)
     · exact fun _ _ _ h => h
     · refine Or.inl ⟨by rfl, fun w hSw => ?_⟩
       (try dsimp only at hSw)
       go_simp
       try (with_reducible rfl)
     try simp only [pA1, pA2, pA3, pA4]
    refine anyE_one (i := 3) (x := ?_) ?_ (by kernel_rfl) (fun K hK => ?_)
    rotate_left
    · (simp only [gE1, gE2, gE3]; rfl)
    go_simp
    refine (rs11New true s6d).mono ?_
    rintro e w7 ⟨rb, rfl, s7⟩
    go_wp2_with fail
    have hKp := (And.intro (((Sat.sub (s7) (by with_reducible repeat first | exact Fr1 | exact Fr2 | (apply Fr3; focus ((repeat (first | exact Tk1 | apply Tk2)); done)) | apply Fr4)) : Sat W0 _ (seg true br 0 [.int .u8 2, .int .i64 64, .int .i64 128, .int .u8 2, .int .i64 128] :: [])).at 0 rfl) (And.intro (((Sat.sub (s7) (by with_reducible repeat first | exact Fr1 | exact Fr2 | (apply Fr3; focus ((repeat (first | exact Tk1 | apply Tk2)); done)) | apply Fr4)) : Sat W0 _ (seg true br 0 [.int .u8 2, .int .i64 64, .int .i64 128, .int .u8 2, .int .i64 128] :: [])).at 1 rfl) (And.intro (((Sat.sub (s7) (by with_reducible repeat first | exact Fr1 | exact Fr2 | (apply Fr3; focus ((repeat (first | exact Tk1 | apply Tk2)); done)) | apply Fr4)) : Sat W0 _ (seg true br 0 [.int .u8 2, .int .i64 64, .int .i64 128, .int .u8 2, .int .i64 128] :: [])).at 2 rfl) (And.intro (((Sat.sub (s7) (by with_reducible repeat first | exact Fr1 | exact Fr2 | (apply Fr3; focus ((repeat (first | exact Tk1 | apply Tk2)); done)) | apply Fr4)) : Sat W0 _ (seg true br 0 [.int .u8 2, .int .i64 64, .int .i64 128, .int .u8 2, .int .i64 128] :: [])).at 3 rfl) (And.intro (((Sat.sub (s7) (by with_reducible repeat first | exact Fr1 | exact Fr2 | (apply Fr3; focus ((repeat (first | exact Tk1 | apply Tk2)); done)) | apply Fr4)) : Sat W0 _ (seg true br 0 [.int .u8 2, .int .i64 64, .int .i64 128, .int .u8 2, .int .i64 128] :: [])).at 4 rfl) (((Sat.sub (s7) (by with_reducible repeat first | exact Fr1 | exact Fr2 | (apply Fr3; focus ((repeat (first | exact Tk1 | apply Tk2)); done)) | apply Fr4)) : Sat W0 _ (seg true br 0 [.int .u8 2, .int .i64 64, .int .i64 128, .int .u8 2, .int .i64 128] :: [])).lt (by simp)))))))
    refine hK.out _ _ hKp ?_
    clear hK K hHeld
    have hHeld := hKp
    clear hKp
    try simp only [pA1, pA2, pA3, pA4]
    have s8 : Sat W0 w7 (seg true x 0 (C.set k (ifv true pb)) :: rs11 true rb [] :: dst true pb [] :: row pt ct 1 N (ts.map pieceV) :: row pw cw 1 N (us.map pieceV) :: ownRows ts :: ownRows us :: ledO (some l) rs :: rledO (some m) rs :: stars (S.map slA) :: L) := (Sat.sub (s7) (by with_reducible repeat first | exact Fr1 | exact Fr2 | (apply Fr3; focus ((repeat (first | exact Tk1 | apply Tk2)); done)) | apply Fr4))
    have x0 := s8.at (3 + k) (by rw [List.getElem?_set_ne (by omega)]; exact HC.out.2.2.2.1)
    have xf := s8.fr (3 + k) (by rw [List.length_set, HC.out.2.2.2.2]; omega)
    have xz := s8.lt (by rw [List.length_set, HC.out.2.2.2.2]; omega)
    iterate 1
     first | refine autoT hHeld (by rfl) (by rfl) (x := ?_) (v := ?_) ?_ (by kernel_rfl) ?_ ?_ ?_ | refine autoP (by rfl) (x := ?_) (v := ?_) ?_ (by kernel_rfl) ?_ ?_ ?_
     rotate_left 2
     · (simp only [gE1, gE2, gE3]; rfl)
     · exact fun _ _ _ h => h
     · refine Or.inl ⟨by rfl, fun w hSw => ?_⟩
       (try dsimp only at hSw)
       go_simp
       try (with_reducible rfl)
     try simp only [pA1, pA2, pA3, pA4]
    refine anyE_last (i := 7) (x := ?_) ?_ (by kernel_rfl) (by kernel_rfl) (fun K hK => ?_)
    rotate_left
    · (simp only [gE1, gE2, gE3]; rfl)
    go_simp
    refine hK.out _ _ ?_
    clear hK K
    try simp only [pA1, pA2, pA3, pA4]
    have s9 : Sat W0 _ (seg true x 0 ((C.set k (ifv true pb)).set (3 + k) (.pointer (some ⟨rb, 0, none⟩))) :: rs11 true rb [] :: dst true pb [] :: row pt ct 1 N (ts.map pieceV) :: row pw cw 1 N (us.map pieceV) :: ownRows ts :: ownRows us :: ledO (some l) rs :: rledO (some m) rs :: stars (S.map slA) :: L) := s8.store (i := 3 + k) (by rw [List.length_set, HC.out.2.2.2.2]; omega) (.pointer (some ⟨rb, 0, none⟩)) (q := 3 + k) (by simp)
    clear s6 s6d s7 s8 x0 xf xz
    refine anyE_done (by kernel_rfl) ?_ _
    have x0 : World.cell? _ ⟨x, k, none⟩ = some (ifv true pb) := s9.at k (by rw [List.getElem?_set_ne (by omega), List.getElem?_set_self (by rw [HC.out.2.2.2.2]; omega)])
    have xz := s9.lt (by rw [List.length_set, List.length_set, HC.out.2.2.2.2]; omega)
    have hset : (C.set k (ifv true pb)).set (3 + k) (.pointer (some ⟨rb, 0, none⟩)) = wCells l m (S.set k (.live true [] pb rb)) pt ct N pw cw := by
      rw [HC.out.1]; exact wc_setS h3 k hk (.live true [] pb rb) (.live true [] pb rb)
    have sg := starsGet HC.out.2.1 ((Sat.sub (s9) (by with_reducible repeat first | exact Fr1 | exact Fr2 | (apply Fr3; focus ((repeat (first | exact Tk1 | apply Tk2)); done)) | apply Fr4)) : Sat W0 _ (stars (S.map slA) :: seg true x 0 ((C.set k (ifv true pb)).set (3 + k) (.pointer (some ⟨rb, 0, none⟩))) :: rs11 true rb [] :: dst true pb [] :: row pt ct 1 N (ts.map pieceV) :: row pw cw 1 N (us.map pieceV) :: ownRows ts :: ownRows us :: ledO (some l) rs :: rledO (some m) rs :: L))
    have sh : Sat W0 _ (slA (.live true [] pb rb) :: _) := Sat.sepShut ((Sat.sub (sg) (by with_reducible repeat first | exact Fr1 | exact Fr2 | (apply Fr3; focus ((repeat (first | exact Tk1 | apply Tk2)); done)) | apply Fr4)) : Sat W0 _ (dst true pb [] :: rs11 true rb [] :: stars ((S.map slA).eraseIdx k) :: seg true x 0 ((C.set k (ifv true pb)).set (3 + k) (.pointer (some ⟨rb, 0, none⟩))) :: row pt ct 1 N (ts.map pieceV) :: row pw cw 1 N (us.map pieceV) :: ownRows ts :: ownRows us :: ledO (some l) rs :: rledO (some m) rs :: L))
    have si := starsPut HC.out.2.1 sh
    rw [hset] at si
    have sj : Sat W0 _ (wA x l m (S.set k (.live true [] pb rb)) ts us pt ct pw cw N rs L) := (Sat.sub (si) (by with_reducible repeat first | exact Fr1 | exact Fr2 | (apply Fr3; focus ((repeat (first | exact Tk1 | apply Tk2)); done)) | apply Fr4))
    have HS := Lib.hid sj; clear s9 sg sh si sj hset
    simp only [ifv] at x0
    go_wp2_with fail
    go_ret
    exact ⟨rfl, pb, rb, HS.out⟩
end Go.Proofs.YtlmababpmmhhoaaGreat

/- DigestCalls: its calls as an argument; what lay in memory when the call began is there still; under the conditions that each names. -/
namespace Go.Sep
open Go.RowKit
set_option linter.unusedVariables false
theorem Sat.argW {W w : World} {L : List Assn} {b o : Nat} {vs : List Value} (h : Sat W w L) (hc : ∀ i v, vs[i]? = some v → W.cell? ⟨b, o + i, none⟩ = some v) : Sat W w (seg false b o vs :: L) := by
  have hold := h
  obtain ⟨hb, hs, hf⟩ := h
  refine ⟨hb, Hp.of (fun b' o' => if b' = b ∧ o ≤ o' then (vs[o' - o]?).map (false, ·) else none) :: hs, .cons ?_ (Hp.of_ok ?_) (fun k hk => Hp.of_dis ?_) hf⟩
  · intro i v hv
    show (if _ then _ else _) = _
    rw [if_pos ⟨rfl, by omega⟩, Nat.add_sub_cancel_left, hv]; rfl
  · intro b' o' m v hx
    split at hx
    · rename_i e
      obtain ⟨rfl, ho⟩ := e
      simp only [Option.map_eq_some_iff, Prod.mk.injEq] at hx
      obtain ⟨u, hu, rfl, rfl⟩ := hx
      refine ⟨?_, fun h => by cases h⟩
      have := hold.old (hc _ _ hu)
      rwa [show o + (o' - o) = o' by omega] at this
    · cases hx
  · intro b' o' x y hx hy
    split at hx
    · rename_i e
      obtain ⟨rfl, ho⟩ := e
      simp only [Option.map_eq_some_iff] at hx
      obtain ⟨u, hu, rfl⟩ := hx
      have h0 := hc _ _ hu
      have h1 := hold.old h0
      rw [show o + (o' - o) = o' by omega] at h1 h0
      obtain ⟨h2, h3⟩ := (hf.okAll k hk).1 b' o' y.1 y.2 hy
      have h4 : y.1 = false := by
        cases hy1 : y.1 with
        | false => rfl
        | true =>
          have h5 := (h3 hy1).2
          have h6 := World.block_lt_of_cell? W _ h0
          exact absurd h6 (Nat.not_lt.2 h5)
      rw [h1] at h2
      cases h2
      obtain ⟨y1, y2⟩ := y
      simp only at h4
      subst h4
      exact ⟨rfl, rfl⟩
    · cases hx
end Go.Sep
namespace Go.Proofs.YtlmababpmmhhoaaGreat
open Go.RowKit Go.Sep Go.Bv Go.Sha
open Go.ChangeShapes Go.WideShapes Go.ChangeAt Go.Deep
set_option linter.unusedVariables false
set_option linter.unusedSimpArgs false
theorem IsBytes.satW {W w : World} {L : List Assn} {p : Option Addr} {n c : Nat} {bs : List Byte} (h : IsBytes W p n c bs) (hs : Sat W w L) : Sat W w (bytes false p bs :: L) := by
  obtain ⟨_, _, _, rfl | ⟨b, o, rfl, hc⟩⟩ := h
  · exact bytesNil false p hs
  · exact bytesOf (hs.argW hc)
/-- A call: three numbers, a slice with its bytes, an algorithm. -/
abbrev ActX := Int × Int × Int × (Option Addr × Nat × Nat × List Byte) × Int
def encX (y : ActX) : List Value := [.int .i64 y.1, .int .i64 y.2.1, .int .i64 y.2.2.1, .slice y.2.2.2.1.1 y.2.2.2.1.2.1 y.2.2.2.1.2.2.1, .int .u8 y.2.2.2.2]
def lenX (y : ActX) : Nat := y.2.2.2.1.2.1
def IsX (W : World) (p : Option Addr) (xs : List ActX) : Prop := ∀ i y, xs[i]? = some y → IsBytes W y.2.2.2.1.1 y.2.2.2.1.2.1 y.2.2.2.1.2.2.1 y.2.2.2.1.2.2.2 ∧ ∃ b o, p = some ⟨b, o, none⟩ ∧ ∀ k u, (encX y)[k]? = some u → W.cell? ⟨b, o + i * 5 + k, none⟩ = some u
theorem cells_actx : Tryz.prog.cellsOf 43 = 5 := by kernel_rfl
theorem cells_sl8x : Tryz.prog.cellsOf 41 = 1 := by kernel_rfl
theorem cells_intx : Tryz.prog.cellsOf 3 = 1 := by kernel_rfl
theorem cells_algx : Tryz.prog.cellsOf 39 = 1 := by kernel_rfl
theorem addO {b o n : Nat} : (Addr.mk b o none).add n = ⟨b, o + n, none⟩ := by unfold Addr.add; split <;> simp_all
theorem bulk_sum {H : Type} (D : Nat → DataW H) (g : Nat → Nat) : ∀ (l : List Nat), (∀ i ∈ l, g i ≤ Rows.uptoBulk (D i)) → (l.map g).sum ≤ Rows.uptoBulkAll (l.map D)
  | [], _ => Nat.zero_le _
  | x :: l, h => by
    simp only [List.map_cons, List.sum_cons, Rows.uptoBulkAll]
    have h1 := h x (by simp)
    have h2 := bulk_sum D g l fun i hi => h i (by simp [hi])
    omega
set_option maxRecDepth 100000 in
theorem trod_actx {H : Type} {enc : TypeId × Value → H} {W : World} {base : Nat} {held : Bool} {fuel : Nat} {cs : List Value} (hcl : cs.length = 5) {x : DataW H × List MemPlace} (hf : DataW.trod enc Tryz.prog W base (fun _ => true) held fuel 43 cs = some x) :
    ∃ q : ActX, cs = encX q ∧ IsBytes W q.2.2.2.1.1 q.2.2.2.1.2.1 q.2.2.2.1.2.2.1 q.2.2.2.1.2.2.2 ∧ lenX q ≤ Rows.uptoBulk x.1 := by
  obtain ⟨xs, n, _, hx, hl, hlen, hfld⟩ := DataW.trod_struct Tryz.underlying43 hf
  match xs, hlen with
  | [x0, x1, x2, x3, x4], _ =>
    have f0 : DataW.trod enc Tryz.prog W base (fun _ => true) held n 3 ((cs.drop 0).take (Tryz.prog.cellsOf 3)) = some x0 := hfld 0 _ rfl
    have f1 : DataW.trod enc Tryz.prog W base (fun _ => true) held n 3 ((cs.drop 1).take (Tryz.prog.cellsOf 3)) = some x1 := hfld 1 _ rfl
    have f2 : DataW.trod enc Tryz.prog W base (fun _ => true) held n 3 ((cs.drop 2).take (Tryz.prog.cellsOf 3)) = some x2 := hfld 2 _ rfl
    have f3 : DataW.trod enc Tryz.prog W base (fun _ => true) held n 41 ((cs.drop 3).take (Tryz.prog.cellsOf 41)) = some x3 := hfld 3 _ rfl
    have f4 : DataW.trod enc Tryz.prog W base (fun _ => true) held n 39 ((cs.drop 4).take (Tryz.prog.cellsOf 39)) = some x4 := hfld 4 _ rfl
    rw [cells_algx] at f4
    rw [cells_sl8x] at f3
    rw [cells_intx] at f0 f1 f2
    match hc : cs, hcl with
    | [c0, c1, c2, c3, c4], _ =>
      obtain ⟨z0, h0, _, hw0⟩ := DataW.trod_int Tryz.underlying3 f0
      obtain ⟨z1, h1, _, hw1⟩ := DataW.trod_int Tryz.underlying3 f1
      obtain ⟨z2, h2, _, hw2⟩ := DataW.trod_int Tryz.underlying3 f2
      obtain ⟨z4, h4, _, hw4⟩ := DataW.trod_int Tryz.underlying39 f4
      obtain ⟨y1, y2⟩ := x3
      obtain ⟨q1, h3, hb1, hu1⟩ := trod_bytes f3
      simp only [List.drop_zero, List.drop_succ_cons, List.take_succ_cons, List.take_zero, List.cons.injEq, and_true] at h0 h1 h2 h3 h4
      subst h0 h1 h2 h3 h4
      refine ⟨(z0, z1, z2, (q1.1, q1.2.1, q1.2.2.1, q1.2.2.2), z4), rfl, hb1, ?_⟩
      obtain ⟨xd, xp⟩ := x
      simp only [Prod.mk.injEq] at hx
      obtain ⟨rfl, _⟩ := hx
      simp only [List.map_cons, List.map_nil, Rows.uptoBulk, Rows.uptoBulkAll, lenX]
      have := hb1.2.1
      omega
instance : Inhabited ActX := ⟨(0, 0, 0, (none, 0, 0, []), 0)⟩
set_option maxRecDepth 100000 in
theorem open_actx {H : Type} {enc : TypeId × Value → H} {W : World} {base b0 : Nat} {held : Bool} {v : Value} {d : DataW H} {p : List MemPlace} (hv : Value.okWide Tryz.prog W .any b0 22 v) (h : DataW.Trod enc Tryz.prog W base (fun _ => true) held 22 v d p) :
    ∃ q : Option Addr × Nat × Nat × List ActX, v = .slice q.1 q.2.1 q.2.2.1 ∧ IsX W q.1 q.2.2.2 ∧ (Rows.uptoBulk d ≤ 1048576 → (q.2.2.2.map lenX).sum ≤ 1048576) ∧ q.2.2.2.length = q.2.1 ∧ q.2.1 ≤ q.2.2.1 ∧ q.2.2.1 ≤ maxLen := by
  obtain ⟨a, len, cap, rfl⟩ := okWide_slice Tryz.underlying22 hv
  obtain ⟨fuel, hf⟩ := h
  rcases open_slice Tryz.underlying22 hf with ⟨hcs, hx⟩ | ⟨x, l, c, m, n, D, Pl, hcs, _, hl, hm, hmm, hx, hi⟩
  · simp [Value.cells] at hcs
    obtain ⟨rfl, rfl, rfl⟩ := hcs
    exact ⟨(none, 0, 0, []), rfl, (fun i x hx => by simp at hx), (fun _ => Nat.zero_le _), rfl, Nat.le_refl _, Nat.zero_le _⟩
  · simp [Value.cells] at hcs
    obtain ⟨rfl, rfl, rfl⟩ := hcs
    simp only [if_true] at hmm
    subst hmm
    rw [cells_actx] at hi
    have key : ∀ i, i < len → ∃ y : ActX, IsBytes W y.2.2.2.1.1 y.2.2.2.1.2.1 y.2.2.2.1.2.2.1 y.2.2.2.1.2.2.2 ∧ lenX y ≤ Rows.uptoBulk (D i) ∧ ∃ b o, x = ⟨b, o, none⟩ ∧ ∀ k u, (encX y)[k]? = some u → W.cell? ⟨b, o + i * 5 + k, none⟩ = some u := by
      intro i hil
      obtain ⟨cs', hc, ht⟩ := hi i (by omega)
      obtain ⟨_, hcl, hat⟩ := World.cells?_some hc
      obtain ⟨q, h1, h2, h3⟩ := trod_actx hcl ht
      have hx0 : x.spot = none := by
        obtain ⟨cs0, hc0, _⟩ := hi 0 (by omega)
        obtain ⟨_, hcl0, hat0⟩ := World.cells?_some hc0
        have h4 : W.cell? ((x.add (0 * 5)).add 0) = some (cs0[0]'(by omega)) := by rw [hat0 0 (by omega), List.getElem?_eq_getElem (by omega)]
        rw [Nat.zero_mul] at h4
        have e0 : x.add 0 = x := by unfold Addr.add; rw [if_pos rfl]
        rw [e0, e0] at h4
        exact spot_none h4
      obtain ⟨b, o, sp⟩ := x
      simp only at hx0
      subst hx0
      refine ⟨q, h2, h3, b, o, rfl, fun k u hu => ?_⟩
      have hk : k < 5 := (List.getElem?_eq_some_iff.1 hu).1
      have h4 := hat k (by omega)
      rw [addO, addO] at h4
      rw [h4, ← hu, ← h1]
    obtain ⟨f, hff⟩ := choose_lt (p := fun i (y : ActX) => IsBytes W y.2.2.2.1.1 y.2.2.2.1.2.1 y.2.2.2.1.2.2.1 y.2.2.2.1.2.2.2 ∧ lenX y ≤ Rows.uptoBulk (D i) ∧ ∃ b o, x = ⟨b, o, none⟩ ∧ ∀ k u, (encX y)[k]? = some u → W.cell? ⟨b, o + i * 5 + k, none⟩ = some u) key
    simp only [Prod.mk.injEq] at hx
    obtain ⟨rfl, _⟩ := hx
    refine ⟨(some x, len, _, (List.range len).map f), rfl, fun i y hy => ?_, fun hbd => ?_, by simp, hl, hm⟩
    · simp only [List.getElem?_map, Option.map_eq_some_iff] at hy
      obtain ⟨j, hj, rfl⟩ := hy
      have hjl := (List.getElem?_eq_some_iff.1 hj).1
      rw [List.length_range] at hjl
      obtain rfl : i = j := by
        have := (List.getElem?_eq_some_iff.1 hj).2
        simpa using this
      obtain ⟨g1, g2, b, o, rfl, g4⟩ := hff i hjl
      exact ⟨g1, b, o, rfl, g4⟩
    · have h6 := bulk_sum D (fun i => lenX (f i)) (List.range len) fun i hi => (hff i (List.mem_range.1 hi)).2.1
      simp only [Rows.uptoBulk] at hbd
      have h7 : ((List.range len).map f).map lenX = (List.range len).map fun i => lenX (f i) := by rw [List.map_map]; rfl
      rw [h7]
      omega
end Go.Proofs.YtlmababpmmhhoaaGreat
