/- Lists of lists of bytes: append of one, CutInto; under the conditions that each names. -/
import Derived.Test.YtmohabidfalhoaaRo
namespace Go.Proofs.Ytmohabidfalhoaa
open Go.RowKit Go.Sep Go.Bv Go.Sha
set_option linter.unusedVariables false
set_option linter.unusedSimpArgs false
theorem Try.info_bss : (Try.prog.info? 39).map (fun i => (i.zero, i.size, i.bytes)) = some (some (.slice none 0 0), 1, 24) := by kernel_rfl
section
variable {W0 w : World} {L : List Assn} {ops : Array Oper} {rest : List Oper} {o : Oper} {a : Act} {Q : Exit → Act → World → Prop}
theorem wpl_appP (hgd : o.guard = none) (s x : Operand) (ho : o.op = .call { callee := .builtin .append, args := #[s, x], argTypes := #[54, 54] })
    {p : Option Addr} {cp n g : Nat} {vs : List Value} {v : Value} (hv : a.eval s = .slice p n cp) (hx : a.eval x = .slice (some ⟨g, 0, none⟩) 1 1)
    (hs : Sat W0 w (row p cp 1 n vs :: seg true g 0 [v] :: L)) (h1 : v.oneCell' = true) (hb : n + 1 ≤ 1000000000)
    (h : ∀ p' c' w', Sat W0 w' (row p' c' 1 (n + 1) (vs ++ [v]) :: L) → wpList Try.prog ops Q rest (a.put o.dst (.slice p' (n + 1) c')) w') : wpList Try.prog ops Q (o :: rest) a w := by
  obtain ⟨i3, hi3, hz3, hs3, hb3⟩ := info_parts Try.info_bss
  have hB : Sat W0 w (seg true g 0 [v] :: row p cp 1 n vs :: L) := hs.pull 1
  refine wpl_append hgd s x 54 ho Try.underlying54 hi3 hz3 hs3 hb3 rfl (by decide) hs hv (some ⟨g, 0, none⟩) 1 1 hx [v] rfl hB.news (fun h => by cases h) (by simpa using h1) (by unfold maxLen; omega) (by omega) ?_
  intro p' c' w' h2 _ _
  exact h p' c' w' (h2.drop 1)
end
theorem bytesDropAny {W0 w : World} {L : List Assn} {m : Bool} {b o : Nat} {bs : List Byte} (n : Nat) (q : Option Addr) (hq : n < bs.length → q = some ⟨b, o + n, none⟩) (h : Sat W0 w (bytes m (some ⟨b, o, none⟩) bs :: L)) : Sat W0 w (bytes m q (bs.drop n) :: L) :=
  h.imp fun x hx => by
    by_cases hn : n < bs.length
    · rcases hx with rfl | ⟨b', o', e, hx⟩
      · exact .inl (by simp)
      · cases e
        refine .inr ⟨b, o + n, hq hn, fun i v hv => ?_⟩
        rw [Nat.add_assoc]
        refine hx (n + i) v ?_
        simp only [u8s, List.getElem?_map, List.getElem?_drop] at hv ⊢
        exact hv
    · exact .inl (List.drop_eq_nil_of_le (by omega))
theorem pieceV_one (t : Piece) : (pieceV t).oneCell' = true := rfl
/-- Pieces, and what lies in them. -/
def flatP (ts : List Piece) : List Byte := ts.flatMap fun t => t.2.2
def okP (ts : List Piece) : Prop := ∀ t ∈ ts, t.2.2.length ≤ t.2.1 ∧ t.2.1 ≤ maxLen
theorem flatP_snoc (ts : List Piece) (t : Piece) : flatP (ts ++ [t]) = flatP ts ++ t.2.2 := by simp [flatP]
theorem okP_snoc {ts : List Piece} {t : Piece} (h : okP ts) (h1 : t.2.2.length ≤ t.2.1) (h2 : t.2.1 ≤ maxLen) : okP (ts ++ [t]) := by
  intro u hu
  rcases List.mem_append.1 hu with hu | hu
  · exact h u hu
  · rw [List.mem_singleton.1 hu]; exact ⟨h1, h2⟩
set_option maxRecDepth 100000 in
set_option maxHeartbeats 1000000 in
theorem cutInto {W0 w : World} {L : List Assn} {pp pc : Option Addr} {cp cc n k : Nat} (P C : List Byte) (hP : P.length = n) (hC : C.length = k) (hn : n ≤ 1000000000) (hk : k ≤ 100000000) (hcp : n ≤ cp) (hcm : cp ≤ maxLen) (hs : Sat W0 w (bytes false pp P :: bytes false pc C :: L)) :
    Calls Try.prog 34 #[.slice pp n cp, .slice pc k cc] w fun e w' => ∃ (q : Option Addr) (c : Nat) (ts : List Piece), e = .returned (.slice q ts.length c) ∧ 0 < ts.length ∧ flatP ts = P ∧ okP ts ∧ Sat W0 w' (row q c 1 ts.length (ts.map pieceV) :: allRo ts :: bytes false pp P :: bytes false pc C :: L) := by
  unfold maxLen at hcm
  have HN := Lib.hid (And.intro hP hC); clear hP hC
  go_enter Try.func34, Try.ntmps34
  go_wp2
  go_loopw [0, 5, 6] (fun t0 t5 t6 wr => ∃ (i j l : Nat) (q : Option Addr) (cq : Nat) (po : Option Addr) (co : Nat) (ts : List Piece), i ≤ k ∧ ts.length = i ∧ j + l = n ∧ l ≤ cq ∧ cq ≤ 9223372036854775807 ∧ t6 = .int .i64 (i : Int) ∧ t0 = .slice q l cq ∧ t5 = .slice po i co ∧ flatP ts = P.take j ∧ okP ts ∧ Sat W0 wr (row po co 1 i (ts.map pieceV) :: allRo ts :: bytes false q (P.drop j) :: bytes false pp P :: bytes false pc C :: L)) (fun _ _ t6 _ => k - (intOf t6).toNat)
  case atStart => exact ⟨0, 0, n, pp, cp, none, 0, [], Nat.zero_le _, rfl, by omega, hcp, hcm, rfl, rfl, rfl, by simp [flatP], (fun t ht => by cases ht), ((allNil (bytesDup hs)).rowNil 1)⟩
  case round =>
    clear hs
    obtain ⟨i, j, l, q, cq, po, co, ts, hi, hts, hjl, hlq, hcq, rfl, rfl, rfl, hfl, hok, s⟩ := hrel
    have hdl : (P.drop j).length = l := by rw [List.length_drop, HN.out.1]; omega
    have HJ := Lib.hid (And.intro hts (And.intro hfl (And.intro hok (And.intro hdl hjl)))); clear hts hfl hok hdl hjl
    by_cases hin : i < k ∧ 0 < l
    · obtain ⟨hik, hl0⟩ := hin
      obtain ⟨b, o, rfl, s1⟩ := bytesCell ((by (repeat (first | with_reducible apply Sat.sub (s) | with_reducible apply Sat.alloc' | with_reducible apply Sat.drew | with_reducible apply Sat.drewN)); (repeat (first | with_reducible exact Fr.done | with_reducible exact Fr.nil | (with_reducible apply Fr.cons; (focus ((repeat (first | with_reducible exact Take.here | with_reducible apply Take.there)); done))) | with_reducible apply Fr.skip)); done) : Sat W0 wr (bytes false q (P.drop j) :: bytes false pc C :: row po co 1 i (ts.map pieceV) :: allRo ts :: bytes false pp P :: L)) (by intro h; have := HJ.out.2.2.2.1; rw [h] at this; simp at this; omega)
      obtain ⟨bc, oc, rfl, s2⟩ := bytesCell (s1.pull 1 : Sat W0 wr (bytes false pc C :: _)) (by intro h; have := HN.out.2; rw [h] at this; simp at this; omega)
      have cc1 := s2.cell (u8s_get _ i (by rw [HN.out.2]; exact hik))
      have s3 : Sat W0 wr (bytes false (some ⟨bc, oc, none⟩) C :: seg false b o (u8s (P.drop j)) :: _) := bytesOf s2
      have s4 : Sat W0 wr (bytes false (some ⟨b, o, none⟩) (P.drop j) :: bytes false (some ⟨bc, oc, none⟩) C :: row po co 1 i (ts.map pieceV) :: allRo ts :: bytes false pp P :: L) := bytesOf (s3.pull 1)
      have s5 := bytesDup s4
      clear s s1 s2 s3 s4
      obtain ⟨y, hy⟩ : ∃ y : Nat, (y : Int) = v8 (C.getD i 0) := ⟨(C.getD i 0).toNat, rfl⟩
      rw [← hy] at cc1
      have hy2 : y < 256 := by have := (v8_bd (C.getD i 0)).2; omega
      clear hy
      obtain ⟨r, hr⟩ : ∃ r, r = y % 200 := ⟨_, rfl⟩
      have er : (y : Int) % 200 = (r : Int) := by omega
      have er2 : (y : Int).tmod 200 = (r : Int) := by rw [Int.tmod_eq_emod_of_nonneg (by omega)]; exact er
      have hr2 : r < 200 := by omega
      clear hr
      by_cases hrl : l < r
      · have hx : ((P.drop j).take l).length = l := by rw [List.length_take, HJ.out.2.2.2.1]; omega
        obtain ⟨T, hT⟩ : ∃ T, T = (P.drop j).take l := ⟨_, rfl⟩
        have s6 := bytesTake l s5
        rw [← hT] at hx s6
        have hrl' : (l : Int) < (r : Int) := by omega
        have hjl := HJ.out.2.2.2.2
        have HX := Lib.hid (And.intro hx hT); clear hx hT hjl
        go_wp2_with fail
        refine (copyS T HX.out.1 (by omega) s6).mono ?_
        rintro e w2 ⟨p7, c7, rfl, s7⟩
        clear s5 s6
        obtain ⟨-, hc71, hc72, s8⟩ := rowBytes s7
        have s9 : Sat W0 _ (seg true w2.heap.size 0 [.slice p7 l c7] :: _) := s8.alloc #[.slice p7 l c7] 39
        have HC := Lib.hid hc72; clear hc72 s7 s8
        go_wp2_with (at_builtin; refine wpl_appP rfl (.tmp 31) (.tmp 36) rfl rfl rfl (by (repeat (first | with_reducible apply Sat.sub (s9) | with_reducible apply Sat.alloc' | with_reducible apply Sat.drew | with_reducible apply Sat.drewN)); (repeat (first | with_reducible exact Fr.done | with_reducible exact Fr.nil | (with_reducible apply Fr.cons; (focus ((repeat (first | with_reducible exact Take.here | with_reducible apply Take.there)); done))) | with_reducible apply Fr.skip)); done) (by rfl) (by omega) ?_; intro p9 c9 w9 s10)
        all_goals
          go_roundw
          case rel =>
            have hlen : (i + 1 = (ts ++ [((p7, c7, T) : Piece)]).length) := by simp [HJ.out.1]
            have u1 : Sat W0 w9 (bytes true p7 T :: allRo ts :: bytes false (some ⟨b, o, none⟩) (P.drop j) :: row p9 c9 1 (i + 1) (ts.map pieceV ++ [.slice p7 l c7]) :: bytes false pp P :: bytes false (some ⟨bc, oc, none⟩) C :: L) := (by (repeat (first | with_reducible apply Sat.sub (s10) | with_reducible apply Sat.alloc' | with_reducible apply Sat.drew | with_reducible apply Sat.drewN)); (repeat (first | with_reducible exact Fr.done | with_reducible exact Fr.nil | (with_reducible apply Fr.cons; (focus ((repeat (first | with_reducible exact Take.here | with_reducible apply Take.there)); done))) | with_reducible apply Fr.skip)); done)
            have u2 := allPush (t := ((p7, c7, T) : Piece)) u1
            have u3 : Sat W0 w9 (bytes false (some ⟨b, o, none⟩) (P.drop j) :: row p9 c9 1 (i + 1) (ts.map pieceV ++ [.slice p7 l c7]) :: allRo (ts ++ [((p7, c7, T) : Piece)]) :: bytes false pp P :: bytes false (some ⟨bc, oc, none⟩) C :: L) := (by (repeat (first | with_reducible apply Sat.sub (u2) | with_reducible apply Sat.alloc' | with_reducible apply Sat.drew | with_reducible apply Sat.drewN)); (repeat (first | with_reducible exact Fr.done | with_reducible exact Fr.nil | (with_reducible apply Fr.cons; (focus ((repeat (first | with_reducible exact Take.here | with_reducible apply Take.there)); done))) | with_reducible apply Fr.skip)); done)
            have e1 : ts.map pieceV ++ [Value.slice p7 l c7] = (ts ++ [((p7, c7, T) : Piece)]).map pieceV := by rw [List.map_append]; simp only [List.map_cons, List.map_nil, pieceV]; rw [HX.out.1]
            rw [e1] at u3
            have e2 : flatP (ts ++ [((p7, c7, T) : Piece)]) = P.take (j + l) := by rw [flatP_snoc, HJ.out.2.1, List.take_add]; show _ ++ T = _; rw [HX.out.2]
            have u5 : ∀ q' : Option Addr, (l < l → q' = some ⟨b, o + l, none⟩) → Sat W0 w9 (row p9 c9 1 (i + 1) ((ts ++ [((p7, c7, T) : Piece)]).map pieceV) :: allRo (ts ++ [((p7, c7, T) : Piece)]) :: bytes false q' (P.drop (j + l)) :: bytes false pp P :: bytes false (some ⟨bc, oc, none⟩) C :: L) := by
              intro q' hq'
              have u4 := bytesDropAny l q' (by rw [HJ.out.2.2.2.1]; exact hq') u3
              rw [List.drop_drop] at u4
              exact (by (repeat (first | with_reducible apply Sat.sub (u4) | with_reducible apply Sat.alloc' | with_reducible apply Sat.drew | with_reducible apply Sat.drewN)); (repeat (first | with_reducible exact Fr.done | with_reducible exact Fr.nil | (with_reducible apply Fr.cons; (focus ((repeat (first | with_reducible exact Take.here | with_reducible apply Take.there)); done))) | with_reducible apply Fr.skip)); done)
            refine ⟨i + 1, j + l, 0, _, cq - l, p9, c9, ts ++ [((p7, c7, T) : Piece)], by omega, hlen.symm, by have := HJ.out.2.2.2.2; omega, by omega, by omega, by go_num, rfl, rfl, e2, okP_snoc HJ.out.2.2.1 (by show T.length ≤ c7; rw [HX.out.1]; exact hc71) HC.out, ?_⟩
            first
              | exact u5 _ (fun h => rfl)
              | exact u5 _ (fun h => by first | rw [if_neg (by omega)] | (exfalso; omega))
          case measure => simp [intOf]; omega
      · have hx : ((P.drop j).take r).length = r := by rw [List.length_take, HJ.out.2.2.2.1]; omega
        obtain ⟨T, hT⟩ : ∃ T, T = (P.drop j).take r := ⟨_, rfl⟩
        have s6 := bytesTake r s5
        rw [← hT] at hx s6
        have hrl' : ¬ (l : Int) < (r : Int) := by omega
        have hjl := HJ.out.2.2.2.2
        have HX := Lib.hid (And.intro hx hT); clear hx hT hjl
        go_wp2_with fail
        refine (copyS T HX.out.1 (by omega) s6).mono ?_
        rintro e w2 ⟨p7, c7, rfl, s7⟩
        clear s5 s6
        obtain ⟨-, hc71, hc72, s8⟩ := rowBytes s7
        have s9 : Sat W0 _ (seg true w2.heap.size 0 [.slice p7 r c7] :: _) := s8.alloc #[.slice p7 r c7] 39
        have HC := Lib.hid hc72; clear hc72 s7 s8
        go_wp2_with (at_builtin; refine wpl_appP rfl (.tmp 31) (.tmp 36) rfl rfl rfl (by (repeat (first | with_reducible apply Sat.sub (s9) | with_reducible apply Sat.alloc' | with_reducible apply Sat.drew | with_reducible apply Sat.drewN)); (repeat (first | with_reducible exact Fr.done | with_reducible exact Fr.nil | (with_reducible apply Fr.cons; (focus ((repeat (first | with_reducible exact Take.here | with_reducible apply Take.there)); done))) | with_reducible apply Fr.skip)); done) (by rfl) (by omega) ?_; intro p9 c9 w9 s10)
        all_goals
          go_roundw
          case rel =>
            have hlen : (i + 1 = (ts ++ [((p7, c7, T) : Piece)]).length) := by simp [HJ.out.1]
            have u1 : Sat W0 w9 (bytes true p7 T :: allRo ts :: bytes false (some ⟨b, o, none⟩) (P.drop j) :: row p9 c9 1 (i + 1) (ts.map pieceV ++ [.slice p7 r c7]) :: bytes false pp P :: bytes false (some ⟨bc, oc, none⟩) C :: L) := (by (repeat (first | with_reducible apply Sat.sub (s10) | with_reducible apply Sat.alloc' | with_reducible apply Sat.drew | with_reducible apply Sat.drewN)); (repeat (first | with_reducible exact Fr.done | with_reducible exact Fr.nil | (with_reducible apply Fr.cons; (focus ((repeat (first | with_reducible exact Take.here | with_reducible apply Take.there)); done))) | with_reducible apply Fr.skip)); done)
            have u2 := allPush (t := ((p7, c7, T) : Piece)) u1
            have u3 : Sat W0 w9 (bytes false (some ⟨b, o, none⟩) (P.drop j) :: row p9 c9 1 (i + 1) (ts.map pieceV ++ [.slice p7 r c7]) :: allRo (ts ++ [((p7, c7, T) : Piece)]) :: bytes false pp P :: bytes false (some ⟨bc, oc, none⟩) C :: L) := (by (repeat (first | with_reducible apply Sat.sub (u2) | with_reducible apply Sat.alloc' | with_reducible apply Sat.drew | with_reducible apply Sat.drewN)); (repeat (first | with_reducible exact Fr.done | with_reducible exact Fr.nil | (with_reducible apply Fr.cons; (focus ((repeat (first | with_reducible exact Take.here | with_reducible apply Take.there)); done))) | with_reducible apply Fr.skip)); done)
            have e1 : ts.map pieceV ++ [Value.slice p7 r c7] = (ts ++ [((p7, c7, T) : Piece)]).map pieceV := by rw [List.map_append]; simp only [List.map_cons, List.map_nil, pieceV]; rw [HX.out.1]
            rw [e1] at u3
            have e2 : flatP (ts ++ [((p7, c7, T) : Piece)]) = P.take (j + r) := by rw [flatP_snoc, HJ.out.2.1, List.take_add]; show _ ++ T = _; rw [HX.out.2]
            have u5 : ∀ q' : Option Addr, (r < l → q' = some ⟨b, o + r, none⟩) → Sat W0 w9 (row p9 c9 1 (i + 1) ((ts ++ [((p7, c7, T) : Piece)]).map pieceV) :: allRo (ts ++ [((p7, c7, T) : Piece)]) :: bytes false q' (P.drop (j + r)) :: bytes false pp P :: bytes false (some ⟨bc, oc, none⟩) C :: L) := by
              intro q' hq'
              have u4 := bytesDropAny r q' (by rw [HJ.out.2.2.2.1]; exact hq') u3
              rw [List.drop_drop] at u4
              exact (by (repeat (first | with_reducible apply Sat.sub (u4) | with_reducible apply Sat.alloc' | with_reducible apply Sat.drew | with_reducible apply Sat.drewN)); (repeat (first | with_reducible exact Fr.done | with_reducible exact Fr.nil | (with_reducible apply Fr.cons; (focus ((repeat (first | with_reducible exact Take.here | with_reducible apply Take.there)); done))) | with_reducible apply Fr.skip)); done)
            refine ⟨i + 1, j + r, l - r, _, cq - r, p9, c9, ts ++ [((p7, c7, T) : Piece)], by omega, hlen.symm, by have := HJ.out.2.2.2.2; omega, by omega, by omega, by go_num, rfl, rfl, e2, okP_snoc HJ.out.2.2.1 (by show T.length ≤ c7; rw [HX.out.1]; exact hc71) HC.out, ?_⟩
            first
              | exact u5 _ (fun h => rfl)
              | exact u5 _ (fun h => by first | rw [if_neg (by omega)] | (exfalso; omega))
          case measure => simp [intOf]; omega
    · have hdl := HJ.out.2.2.2.1
      have hend : i < k → l = 0 := by intro h; by_cases h0 : 0 < l; exact absurd ⟨h, h0⟩ hin; omega
      have hfl : flatP ts ++ P.drop j = P := by rw [HJ.out.2.1, List.take_append_drop]
      have hjl := HJ.out.2.2.2.2
      have HX := Lib.hid (And.intro hdl hfl); clear hdl hfl hjl hin
      by_cases hik : i < k
      · skip
        obtain rfl : l = 0 := hend hik
        clear hend
        go_wp2_with fail
        refine (copyS (P.drop j) HX.out.1 (by have := HJ.out.2.2.2.2; omega) (by (repeat (first | with_reducible apply Sat.sub (s) | with_reducible apply Sat.alloc' | with_reducible apply Sat.drew | with_reducible apply Sat.drewN)); (repeat (first | with_reducible exact Fr.done | with_reducible exact Fr.nil | (with_reducible apply Fr.cons; (focus ((repeat (first | with_reducible exact Take.here | with_reducible apply Take.there)); done))) | with_reducible apply Fr.skip)); done)).mono ?_
        rintro e w2 ⟨p7, c7, rfl, s7⟩
        clear s
        obtain ⟨-, hc71, hc72, s8⟩ := rowBytes s7
        have s9 : Sat W0 _ (seg true w2.heap.size 0 [.slice p7 0 c7] :: _) := s8.alloc #[.slice p7 0 c7] 39
        have HC := Lib.hid hc72; clear hc72 s7 s8
        go_wp2_with (at_builtin; refine wpl_appP rfl (.tmp 41) (.tmp 44) rfl rfl rfl (by (repeat (first | with_reducible apply Sat.sub (s9) | with_reducible apply Sat.alloc' | with_reducible apply Sat.drew | with_reducible apply Sat.drewN)); (repeat (first | with_reducible exact Fr.done | with_reducible exact Fr.nil | (with_reducible apply Fr.cons; (focus ((repeat (first | with_reducible exact Take.here | with_reducible apply Take.there)); done))) | with_reducible apply Fr.skip)); done) (by rfl) (by omega) ?_; intro p9 c9 w9 s10)
        go_ret
        obtain ⟨T, hT⟩ : ∃ T, T = P.drop j := ⟨_, rfl⟩
        have hX := HX.out
        rw [← hT] at s10 hX
        have hlen : (i + 1 = (ts ++ [((p7, c7, T) : Piece)]).length) := by simp [HJ.out.1]
        have u1 : Sat W0 w9 (bytes true p7 T :: allRo ts :: row p9 c9 1 (i + 1) (ts.map pieceV ++ [.slice p7 0 c7]) :: bytes false pp P :: bytes false pc C :: L) := (by (repeat (first | with_reducible apply Sat.sub (s10) | with_reducible apply Sat.alloc' | with_reducible apply Sat.drew | with_reducible apply Sat.drewN)); (repeat (first | with_reducible exact Fr.done | with_reducible exact Fr.nil | (with_reducible apply Fr.cons; (focus ((repeat (first | with_reducible exact Take.here | with_reducible apply Take.there)); done))) | with_reducible apply Fr.skip)); done)
        have u2 := allPush (t := ((p7, c7, T) : Piece)) u1
        have e1 : ts.map pieceV ++ [Value.slice p7 0 c7] = (ts ++ [((p7, c7, T) : Piece)]).map pieceV := by rw [List.map_append]; simp only [List.map_cons, List.map_nil, pieceV]; rw [hX.1]
        rw [e1] at u2
        refine ⟨p9, c9, ts ++ [((p7, c7, T) : Piece)], by rw [← hlen]; rfl, by rw [← hlen]; omega, by rw [flatP_snoc]; exact hX.2, okP_snoc HJ.out.2.2.1 (by show T.length ≤ c7; rw [hX.1]; exact hc71) HC.out, ?_⟩
        rw [← hlen]
        exact (by (repeat (first | with_reducible apply Sat.sub (u2) | with_reducible apply Sat.alloc' | with_reducible apply Sat.drew | with_reducible apply Sat.drewN)); (repeat (first | with_reducible exact Fr.done | with_reducible exact Fr.nil | (with_reducible apply Fr.cons; (focus ((repeat (first | with_reducible exact Take.here | with_reducible apply Take.there)); done))) | with_reducible apply Fr.skip)); done)
      · skip
        clear hend
        go_wp2_with fail
        refine (copyS (P.drop j) HX.out.1 (by have := HJ.out.2.2.2.2; omega) (by (repeat (first | with_reducible apply Sat.sub (s) | with_reducible apply Sat.alloc' | with_reducible apply Sat.drew | with_reducible apply Sat.drewN)); (repeat (first | with_reducible exact Fr.done | with_reducible exact Fr.nil | (with_reducible apply Fr.cons; (focus ((repeat (first | with_reducible exact Take.here | with_reducible apply Take.there)); done))) | with_reducible apply Fr.skip)); done)).mono ?_
        rintro e w2 ⟨p7, c7, rfl, s7⟩
        clear s
        obtain ⟨-, hc71, hc72, s8⟩ := rowBytes s7
        have s9 : Sat W0 _ (seg true w2.heap.size 0 [.slice p7 l c7] :: _) := s8.alloc #[.slice p7 l c7] 39
        have HC := Lib.hid hc72; clear hc72 s7 s8
        go_wp2_with (at_builtin; refine wpl_appP rfl (.tmp 41) (.tmp 44) rfl rfl rfl (by (repeat (first | with_reducible apply Sat.sub (s9) | with_reducible apply Sat.alloc' | with_reducible apply Sat.drew | with_reducible apply Sat.drewN)); (repeat (first | with_reducible exact Fr.done | with_reducible exact Fr.nil | (with_reducible apply Fr.cons; (focus ((repeat (first | with_reducible exact Take.here | with_reducible apply Take.there)); done))) | with_reducible apply Fr.skip)); done) (by rfl) (by omega) ?_; intro p9 c9 w9 s10)
        go_ret
        obtain ⟨T, hT⟩ : ∃ T, T = P.drop j := ⟨_, rfl⟩
        have hX := HX.out
        rw [← hT] at s10 hX
        have hlen : (i + 1 = (ts ++ [((p7, c7, T) : Piece)]).length) := by simp [HJ.out.1]
        have u1 : Sat W0 w9 (bytes true p7 T :: allRo ts :: row p9 c9 1 (i + 1) (ts.map pieceV ++ [.slice p7 l c7]) :: bytes false pp P :: bytes false pc C :: L) := (by (repeat (first | with_reducible apply Sat.sub (s10) | with_reducible apply Sat.alloc' | with_reducible apply Sat.drew | with_reducible apply Sat.drewN)); (repeat (first | with_reducible exact Fr.done | with_reducible exact Fr.nil | (with_reducible apply Fr.cons; (focus ((repeat (first | with_reducible exact Take.here | with_reducible apply Take.there)); done))) | with_reducible apply Fr.skip)); done)
        have u2 := allPush (t := ((p7, c7, T) : Piece)) u1
        have e1 : ts.map pieceV ++ [Value.slice p7 l c7] = (ts ++ [((p7, c7, T) : Piece)]).map pieceV := by rw [List.map_append]; simp only [List.map_cons, List.map_nil, pieceV]; rw [hX.1]
        rw [e1] at u2
        refine ⟨p9, c9, ts ++ [((p7, c7, T) : Piece)], by rw [← hlen]; rfl, by rw [← hlen]; omega, by rw [flatP_snoc]; exact hX.2, okP_snoc HJ.out.2.2.1 (by show T.length ≤ c7; rw [hX.1]; exact hc71) HC.out, ?_⟩
        rw [← hlen]
        exact (by (repeat (first | with_reducible apply Sat.sub (u2) | with_reducible apply Sat.alloc' | with_reducible apply Sat.drew | with_reducible apply Sat.drewN)); (repeat (first | with_reducible exact Fr.done | with_reducible exact Fr.nil | (with_reducible apply Fr.cons; (focus ((repeat (first | with_reducible exact Take.here | with_reducible apply Take.there)); done))) | with_reducible apply Fr.skip)); done)
end Go.Proofs.Ytmohabidfalhoaa
