
import Derived.Test.YtbefjaodpbgpcaaGreatGJ
import Derived.Test.YtbefjaodpbgpcaaGreatGA
import Derived.Test.YtbefjaodpbgpcaaGreatGI
import Derived.Deep.MidRow
set_option linter.unusedVariables false
set_option linter.unusedSimpArgs false
set_option maxRecDepth 100000
set_option maxHeartbeats 16000000
namespace Go.Sep
open Go.RowKit
theorem Sat.range {W0 w : World} {L : List Assn} {m : Bool} {b o : Nat} {vs : List Value} (h : Sat W0 w (seg m b o vs :: L)) : w.rangeAt b o vs := fun _ _ hv => h.cell hv
end Go.Sep
namespace Go.Proofs.YtbefjaodpbgpcaaGreat
open Go.RowKit Go.Sep Go.Bv Go.Aes
theorem noteN_one' (rs : List Run3) (k s : Int) : note rs k s 1 = noteN rs k s 1 := by unfold noteN; rw [if_neg (by decide)]
theorem build_z16 (w : World) : (Instr.build 210 #[]).run Tryz.prog w = .ok (.agg (u8s z16).toArray) w := by kernel_rfl
theorem z16_len : z16.length = 16 := rfl
theorem cmS_facts {W0 w : World} {L : List Assn} {b n : Nat} {pv : Value} {k1 k2 ch wt : List Byte} (h3 : ch.length = 16) (h : Sat W0 w (cmS b pv k1 k2 ch wt n L)) : (w.cell? ⟨b, 0, none⟩ = some pv ∧ w.rangeAt b 33 (u8s ch) ∧ w.rangeAt b 49 (u8s wt) ∧ w.there b 33 16 ∧ b < w.heap.size) := by
 have a3 : Sat W0 w (seg true b 33 (u8s ch) :: _) := h.pull 3
 have a4 : Sat W0 w (seg true b 49 (u8s wt) :: _) := h.pull 4
 exact ⟨h.at 0 rfl, a3.range, a4.range, a3.there (by rw [u8s_len, h3]; exact Nat.le_refl _), h.lt (by simp)⟩
section
variable {P : Program} {o : Oper} {a : Act} {K : Act → World → Prop} {Q : Exit → Act → World → Prop} {W0 w : World} {L : List Assn} {T : TypeId} {n : Nat}
theorem wp_st8a (hdst : o.dst = none) (x y : Operand) (ho : o.op = .store T x y) {b off : Nat} {B C : List Byte} (hs : Sat W0 w (seg true b off (u8s B) :: L)) (hi : (P.info? T).map (·.size) = some n) (hx : a.eval x = .pointer (some ⟨b, off, none⟩)) (hy : a.eval y = .agg (u8s C).toArray) (hC : C.length = n) (hB : B.length = n)
  (h : ∀ w', Sat W0 w' (seg true b off (u8s C) :: L) → K a w') : Oper.wp P o a w K Q := by
 obtain ⟨w', hr, hs'⟩ := Sat.run_storeCells (P := P) off 0 (u8s C) 0 (u8s B) w hs rfl (by rw [u8s_len, u8s_len]; omega) (u8s_one _)
 have hst : (storeVar T ⟨b, off, none⟩ (.agg (u8s C).toArray)).run P w = .ok () w' := by
  cases hq' : P.info? T with
  | none => simp [hq'] at hi
  | some i =>
   have hsz : i.size = (u8s C).length := by rw [u8s_len, hC]; simpa [hq'] using hi
   simp [storeVar, sizeOf, typeInfo, hq', Value.cells, hsz, hr]
 unfold Oper.wp execOp
 simp only [ho, hx, hy, Instr.storeAt, Instr.sureAddr, Sem.run_bind, Sem.run_pure, Result.andThen_ok, hst]
 have hh := h w' (hs'.to (by rw [setL_u8s B C 0 (by omega)]; unfold putB; rw [List.take_zero, List.nil_append, List.drop_eq_nil_of_le (by omega), List.append_nil]))
 simp only [Oper.upon, hdst]
 exact hh
end
theorem bytesSrc {W0 w : World} {L : List Assn} {m : Bool} {bp op : Nat} {P : List Byte} (j k : Nat) (h : Sat W0 w (bytes m (some ⟨bp, op, none⟩) P :: L)) : ∀ i v, (u8s ((P.drop j).take k))[i]? = some v → ∃ ad, (some ⟨bp, op + j, none⟩ : Option Addr) = some ad ∧ w.cell? (ad.add i) = some v := by
 intro i v hv
 have hv2 : (u8s P)[j + i]? = some v := by
  rw [← u8s_take, ← u8s_drop, List.getElem?_take] at hv
  by_cases e : i < k
  ·rw [if_pos e, List.getElem?_drop] at hv; exact hv
  ·rw [if_neg e] at hv; cases hv
 obtain ⟨b', o', e, s⟩ := bytesCell h (by intro h0; subst h0; simp [u8s] at hv2)
 injection e with e
 injection e with e1 e2 _
 subst e1; subst e2
 refine ⟨_, rfl, ?_⟩
 have hc := s.cell hv2
 by_cases e0 : i = 0
 ·subst e0; simpa [Addr.add] using hc
 ·simpa [Addr.add, e0, Nat.add_assoc] using hc
theorem cfold_inv (E : List Byte → List Byte) (hE : ∀ x, x.length = 16 → (E x).length = 16) : ∀ (p : List Byte) (ch wt : List Byte) (n : Nat), ch.length = 16 → wt.length = 16 → n ≤ 16 → (cfold E (ch, wt, n) p).1.length = 16 ∧ (cfold E (ch, wt, n) p).2.1.length = 16 ∧ (cfold E (ch, wt, n) p).2.2 = cwait n p.length
 | [], ch, wt, n, h1, h2, h3 => by
  refine ⟨h1, h2, ?_⟩
  show n = cwait n 0
  unfold cwait
  by_cases h : n = 0
  ·subst h; rfl
  ·rw [if_neg (by omega)]; omega
 | x :: p, ch, wt, n, h1, h2, h3 => by
  show (cfold E (cstep E (ch, wt, n) x) p).1.length = 16 ∧ (cfold E (cstep E (ch, wt, n) x) p).2.1.length = 16 ∧ (cfold E (cstep E (ch, wt, n) x) p).2.2 = cwait n (p.length + 1)
  by_cases h : n = 16
  ·subst h
   have hs : cstep E (ch, wt, 16) x = (E (xorL ch wt), z16.set 0 x, 1) := if_pos rfl
   rw [hs]
   obtain ⟨i1, i2, i3⟩ := cfold_inv E hE p (E (xorL ch wt)) (z16.set 0 x) 1 (hE _ (by rw [xorL_len _ _ (by rw [h1, h2])]; exact h1)) (by simp [z16]) (by decide)
   refine ⟨i1, i2, i3.trans ?_⟩
   unfold cwait
   rw [if_neg (by omega), if_neg (by omega)]
   omega
  ·have hs : cstep E (ch, wt, n) x = (ch, wt.set n x, n + 1) := if_neg h
   rw [hs]
   obtain ⟨i1, i2, i3⟩ := cfold_inv E hE p ch (wt.set n x) (n + 1) h1 (by rw [List.length_set, h2]) (by omega)
   refine ⟨i1, i2, i3.trans ?_⟩
   unfold cwait
   rw [if_neg (by omega), if_neg (by omega), show n + 1 + p.length = n + (p.length + 1) by omega]
theorem cmacWrite {W0 w : World} {L : List Assn} {m : Bool} {b c kl n cap : Nat} {pp : Option Addr} {pv : Value} (p : Option Nat) (rs : List Run3) (ks k1 k2 ch wt P : List Byte) (n0 : Nat) (hp : pv = ptrO p) (hP : P.length = n) (hks : ks.length = 240) (hch : ch.length = 16) (hwt : wt.length = 16) (hn0 : n0 ≤ 16) (hk0 : 0 < kl) (hk : kl ≤ 32) (hcap : n ≤ cap) (hcm : cap ≤ maxLen) (hb : tot rs + n + 32 ≤ 4611686018427387904) (hl : rs.length + 1 ≤ 4294967296)
  (hs : Sat W0 w (ledO p rs :: bytes m pp P :: cmS b (.pointer (some ⟨c, 0, none⟩)) k1 k2 ch wt n0 (cipS c kl ks L))) :
  Calls Tryz.prog 131 #[.pointer (some ⟨b, 0, none⟩), pv, .slice pp n cap] w fun e w' => e = .returned (.int .i64 0) ∧ Sat W0 w' (ledO p (noteN rs 5 (kl : Int) (cblocks n0 n)) :: bytes m pp P :: cmS b (.pointer (some ⟨c, 0, none⟩)) k1 k2 (cfold (aesEnc kl ks) (ch, wt, n0) P).1 (cfold (aesEnc kl ks) (ch, wt, n0) P).2.1 (cfold (aesEnc kl ks) (ch, wt, n0) P).2.2 (cipS c kl ks L)) := by
 subst hp
 unfold maxLen at hcm
 obtain ⟨E, hE⟩ : ∃ E, E = aesEnc kl ks := ⟨_, rfl⟩
 have hEl : ∀ x, x.length = 16 → (E x).length = 16 := fun x hx => by rw [hE]; exact aesEnc_len kl ks x hks hx hk
 have hst : cfold E (ch, wt, n0) (P.take 0) = (ch, wt, n0) := by rw [List.take_zero]; rfl
 have hinv : ∀ j, j ≤ n → (cfold E (ch, wt, n0) (P.take j)).1.length = 16 ∧ (cfold E (ch, wt, n0) (P.take j)).2.1.length = 16 ∧ (cfold E (ch, wt, n0) (P.take j)).2.2 = cwait n0 j := fun j hj => by
  have := cfold_inv E hEl (P.take j) ch wt n0 hch hwt hn0
  rwa [List.length_take, hP, Nat.min_eq_left hj] at this
 have happ : ∀ j k, cfold E (ch, wt, n0) (P.take (j + k)) = cfold E (cfold E (ch, wt, n0) (P.take j)) ((P.drop j).take k) := fun j k => by rw [← cfold_append, ← List.take_add]
 have hfin : P.take n = P := List.take_of_length_le (by omega)
 have henc := fun (w : World) (L : List Assn) (r : List Run3) (x : List Byte) (hx : x.length = 16) (bv : Value) (hbv : bv = .agg (u8s x).toArray) (h1 : tot r + 1 ≤ 4611686018427387904) (h2 : r.length ≤ 4294967296) (s : Sat W0 w (ledO p r :: cipS c kl ks L)) => aesEncryptF p r ks x rfl hbv hks hx hk0 hk h1 h2 s
 rw [← hE] at henc ⊢
 obtain ⟨F, hF⟩ : ∃ F : Nat → CSt, F = fun j => cfold E (ch, wt, n0) (P.take j) := ⟨_, rfl⟩
 have hF0 : F 0 = (ch, wt, n0) := by rw [hF]; exact hst
 have hFn : F n = cfold E (ch, wt, n0) P := by rw [hF]; show cfold E (ch, wt, n0) (P.take n) = _; rw [hfin]
 have hFi : ∀ j, j ≤ n → (F j).1.length = 16 ∧ (F j).2.1.length = 16 ∧ (F j).2.2 = cwait n0 j := by rw [hF]; exact hinv
 have hFa : ∀ j k, F (j + k) = cfold E (F j) ((P.drop j).take k) := by rw [hF]; exact happ
 rw [← hFn]
 have hN0 : noteN rs 5 (kl : Int) (cblocks n0 0) = rs := by unfold cblocks; rw [show (n0 + 0 - 1) / 16 = 0 by omega]; rfl
 have HN := Lib.hid (And.intro hP (And.intro hEl (And.intro henc (And.intro hF0 (And.intro hFi (And.intro hFa (And.intro hb (And.intro hl hN0)))))))); clear hP hEl henc hF0 hFi hFa hb hl hN0 hF hst hinv happ hfin hFn hE hks hk
 have z0 : b < w.heap.size := satLt (hs.pull 2 : Sat W0 w (seg true b 0 [.pointer (some ⟨c, 0, none⟩)] :: _)) (by simp)
 go_enter Tryz.func131, Tryz.ntmps131
 go_wp2_with fail
 refine (cmacMade (hs.f : Sat W0 w (seg true b 0 [.pointer (some ⟨c, 0, none⟩)] :: []))).mono ?_
 rintro e w1 ⟨rfl, rfl⟩
 go_wp2_with fail
 go_loopw [2] (fun t2 wr => ∃ (j l : Nat) (q : Option Addr) (cq : Nat), j + l = n ∧ l ≤ cq ∧ cq ≤ 9223372036854775807 ∧ t2 = .slice q l cq ∧ (0 < l → ∃ bp op, pp = some ⟨bp, op, none⟩ ∧ q = some ⟨bp, op + j, none⟩) ∧ Sat W0 wr (ledO p (noteN rs 5 (kl : Int) (cblocks n0 j)) :: bytes m pp P :: cmS b (.pointer (some ⟨c, 0, none⟩)) k1 k2 (F j).1 (F j).2.1 (F j).2.2 (cipS c kl ks L))) (fun t2 _ => match t2 with | .slice _ l _ => l | _ => 0)
 case atStart =>
  refine ⟨0, n, pp, cap, by omega, hcap, hcm, rfl, ?_, ?_⟩
  ·intro h
   obtain ⟨bp, op, e, _⟩ := bytesCell (hs.pull 1 : Sat W0 w1 (bytes m pp P :: _)) (by intro h0; have := HN.out.1; rw [h0] at this; simp at this; omega)
   exact ⟨bp, op, e, e⟩
  ·rw [HN.out.2.2.2.2.2.2.2.2, HN.out.2.2.2.1]
   exact hs
 case round =>
  clear hs z0
  obtain ⟨j, l, q, cq, hjl, hlq, hcq, rfl, hpq, s⟩ := hrel
  by_cases hl0 : 0 < l
  ·obtain ⟨bp, op, rfl, rfl⟩ := hpq hl0
   clear hpq
   obtain ⟨i1, i2, i3⟩ := HN.out.2.2.2.2.1 j (by omega)
   have hFa := HN.out.2.2.2.2.2.1 j
   obtain ⟨⟨C, V, nn⟩, hS⟩ : ∃ S, S = F j := ⟨_, rfl⟩
   rw [← hS] at s i1 i2 i3 hFa
   simp only at s i1 i2 i3 hFa
   have hnn : nn ≤ 16 := by rw [i3]; unfold cwait; split <;> omega
   obtain ⟨cb, hcb⟩ : ∃ cb, cb = cblocks n0 j := ⟨_, rfl⟩
   rw [← hcb] at s
   by_cases hfull : nn = 16
   ·subst hfull
    have hcn : ∀ k, 1 ≤ k → k ≤ 16 → cblocks n0 (j + k) = cb + 1 := by
     intro k hk1 hk2
     rw [hcb]
     unfold cblocks
     unfold cwait at i3
     split at i3
     ·omega
     ·omega
    have hG : ∀ k, 1 ≤ k → k ≤ l → k ≤ 16 → F (j + k) = (E (xorL C V), putB z16 0 ((P.drop j).take k), 0 + k) := by
     intro k hk1 hk2 hk3
     have hdl : ((P.drop j).take k).length = k := by rw [List.length_take, List.length_drop, HN.out.1]; omega
     rw [hFa k, cfold_full E _ C V (by intro h; rw [h] at hdl; simp at hdl; omega), cfold_room E _ _ _ _ (by rw [hdl]; omega) rfl, hdl]
    have hXl : (xorL C V).length = 16 := by rw [xorL_len _ _ (by rw [i1, i2])]; exact i1
    have hEl := HN.out.2.1 _ hXl
    have hcbb : cb ≤ n + 16 := by rw [hcb]; unfold cblocks; omega
    have hu16 := Tryz.underlying210
    have hz1 : (Tryz.prog.info? 210).map (·.size) = some (u8s C).length := by rw [u8s_len, i1]; exact Tryz.size_b16
    have hz2 : (Tryz.prog.info? 210).map (·.size) = some (u8s V).length := by rw [u8s_len, i2]; exact Tryz.size_b16
    obtain ⟨G, hGd⟩ : ∃ G, G = E (xorL C V) := ⟨_, rfl⟩
    rw [← hGd] at hG hEl
    have hz3 : (Tryz.prog.info? 210).map (·.size) = some (u8s G).length := by rw [u8s_len, hEl]; exact Tryz.size_b16
    have hg16 : (u8s G).length = 16 := by rw [u8s_len, hEl]
    have hg1 := u8s_one G
    have HX := Lib.hid (And.intro i1 (And.intro i2 (And.intro hcn (And.intro hG (And.intro hXl (And.intro hEl (And.intro hGd hcbb))))))); clear i1 i2 i3 hcn hG hXl hEl hGd hFa hS hcb hcbb
    obtain ⟨c0, r33, r49, th33, zb⟩ := cmS_facts HX.out.1 (s.f : Sat W0 wr (cmS b (.pointer (some ⟨c, 0, none⟩)) k1 k2 C V 16 []))
    have c65 : wr.cell? ⟨b, 65, none⟩ = some (.int .i64 16) := (s.f : Sat W0 wr (seg true b 65 [.int .i64 ((16 : Nat) : Int)] :: [])).cell (i := 0) rfl
    have hHK : ∀ wx X, Sat W0 wx (cmS b (.pointer (some ⟨c, 0, none⟩)) k1 k2 C V 16 X) → (wx.cell? ⟨b, 0, none⟩ = some (.pointer (some ⟨c, 0, none⟩)) ∧ wx.rangeAt b 33 (u8s C) ∧ wx.rangeAt b 49 (u8s V) ∧ wx.there b 33 16 ∧ b < wx.heap.size) := fun wx X h => cmS_facts HX.out.1 h
    have HK := Lib.hid hHK; clear hHK
    go_wp2_with fail
    refine region_E (fun w' => w'.cell? ⟨b, 0, none⟩ = some (.pointer (some ⟨c, 0, none⟩)) ∧ w'.rangeAt b 33 (u8s C) ∧ w'.rangeAt b 49 (u8s V) ∧ w'.there b 33 16 ∧ b < w'.heap.size) [4, 9, 13] (by kernel_rfl) ?_
    have hHeld := HK.out _ _ s.drew.f
    have s' := s.drew
    clear s
    iterate 9
     first | refine autoT' hHeld (h := ?_) | refine autoP' (h := ?_)
     try simp only [pA1, pA2, pA3, pA4]
    refine anyE_take (i := 9) (x := ?_) (v := ?_) ?_ (by kernel_rfl) (by kernel_rfl) (by kernel_rfl) (by kernel_rfl) ?_ ?_ hHeld ?_
    rotate_left 2
    ·(simp only [gE1, gE2, gE3]; rfl)
    ·exact fun _ _ _ h => h
    ·refine yieldsIf_load_mid ?_ 210 (.tmp 28) ?_ b 33 ?_ (u8s C) _ ?_ hu16 rfl hz1
     ·rfl
     ·rfl
     ·rfl
     ·intro w hSw
      exact hSw.2.1
    try simp only [pA1, pA2, pA3, pA4]
    iterate 3
     first | refine autoT' hHeld (h := ?_) | refine autoP' (h := ?_)
     try simp only [pA1, pA2, pA3, pA4]
    refine anyE_take (i := 13) (x := ?_) (v := ?_) ?_ (by kernel_rfl) (by kernel_rfl) (by kernel_rfl) (by kernel_rfl) ?_ ?_ hHeld ?_
    rotate_left 2
    ·(simp only [gE1, gE2, gE3]; rfl)
    ·exact fun _ _ _ h => h
    ·refine yieldsIf_load_mid ?_ 210 (.tmp 32) ?_ b 49 ?_ (u8s V) _ ?_ hu16 rfl hz2
     ·rfl
     ·rfl
     ·rfl
     ·intro w hSw
      exact hSw.2.2.1
    try simp only [pA1, pA2, pA3, pA4]
    refine anyE_one' (i := 14) (h := fun K hK => ?_)
    go_simp
    refine (cmacXored C V rfl rfl HX.out.1 HX.out.2.1 s').mono ?_
    rintro e w6 ⟨rfl, sx⟩
    clear s'
    go_wp2_with fail
    have hKp := (HK.out _ _ sx.f)
    refine hK.out _ _ hKp ?_
    clear hK K hHeld
    have hHeld := hKp
    clear hKp
    try simp only [pA1, pA2, pA3, pA4]
    refine anyE_one' (i := 15) (h := fun K hK => ?_)
    go_simp
    refine (HN.out.2.2.1 _ (bytes m (some ⟨bp, op, none⟩) P :: cmS b (.pointer (some ⟨c, 0, none⟩)) k1 k2 C V 16 L) (noteN rs 5 (kl : Int) cb) (xorL C V) HX.out.2.2.2.2.1 _ rfl (by rw [tot_noteN]; have := HN.out.2.2.2.2.2.2.1; have := HX.out.2.2.2.2.2.2.2; omega) (by have := noteN_len rs 5 (kl : Int) cb; have := HN.out.2.2.2.2.2.2.2.1; omega) sx.g).mono ?_
    rintro e w7 ⟨rfl, sy⟩
    rw [← HX.out.2.2.2.2.2.2.1]
    clear sx
    go_wp2_with fail
    have hKp := (HK.out _ _ sy.f)
    refine hK.out _ _ hKp ?_
    clear hK K hHeld
    have hHeld := hKp
    clear hKp
    try simp only [pA1, pA2, pA3, pA4]
    iterate 5
     first | refine autoT' hHeld (h := ?_) | refine autoP' (h := ?_)
     try simp only [pA1, pA2, pA3, pA4]
    refine anyE_last' (i := 21) (h := fun K hK => ?_)
    rw [if_pos (by rfl)]
    refine wp_st8a rfl _ _ rfl (sy.f : Sat W0 w7 (seg true b 33 (u8s C) :: seg true b 0 [.pointer (some ⟨c, 0, none⟩)] :: seg true b 1 (u8s k1) :: seg true b 17 (u8s k2) :: seg true b 49 (u8s V) :: seg true b 65 [.int .i64 ((16 : Nat) : Int)] :: ledO p (note (noteN rs 5 (kl : Int) cb) 5 (kl : Int) 1) :: bytes m (some ⟨bp, op, none⟩) P :: cipS c kl ks L)) Tryz.size_b16 rfl rfl HX.out.2.2.2.2.2.1 HX.out.1 ?_
    intro w8 s8
    try simp only [pA1, pA2, pA3, pA4]
    refine hK.out _ _ ?_
    clear hK K
    try simp only [pA1, pA2, pA3, pA4]
    refine anyE_done (by kernel_rfl) ?_ _
    rw [noteN_note] at s8
    clear sy hHeld
    have s9 : Sat W0 w8 (seg true b 49 (u8s V) :: seg true b 33 (u8s G) :: seg true b 0 [.pointer (some ⟨c, 0, none⟩)] :: seg true b 1 (u8s k1) :: seg true b 17 (u8s k2) :: seg true b 65 [.int .i64 ((16 : Nat) : Int)] :: ledO p (noteN rs 5 (kl : Int) (cb + 1)) :: bytes m (some ⟨bp, op, none⟩) P :: cipS c kl ks L) := s8.f
    clear s8
    have zb8 := satLt s9 (by rw [u8s_len, HX.out.2.1]; decide)
    have hb0 := fun w => build_z16 w
    go_wp2_with (first | (refine wpl_build rfl 210 rfl (.agg (u8s z16).toArray) (by simp only [List.map_toArray, List.map_nil]; exact hb0 _) ?_) | (refine wpl_st8a rfl rfl (.tmp 44) (.tmp 42) rfl s9 Tryz.size_b16 rfl rfl z16_len HX.out.2.1 ?_; intro w9 s10; have zb9 := satLt s10 (by rw [u8s_len, z16_len]; decide); have cc65 := (s10.f : Sat W0 w9 (seg true b 65 [.int .i64 ((16 : Nat) : Int)] :: [])).cell (i := 0) rfl; have fr65 := ((s10.f : Sat W0 w9 (seg true b 65 [.int .i64 ((16 : Nat) : Int)] :: [])).free (i := 0) (by decide)).1))
    have s11 : Sat W0 (w9.setCell ⟨b, 65, none⟩ (.int .i64 0)) (seg true b 65 [.int .i64 0] :: _) := (s10.f : Sat W0 w9 (seg true b 65 [.int .i64 ((16 : Nat) : Int)] :: seg true b 49 (u8s z16) :: seg true b 33 (u8s G) :: seg true b 0 [.pointer (some ⟨c, 0, none⟩)] :: seg true b 1 (u8s k1) :: seg true b 17 (u8s k2) :: ledO p (noteN rs 5 (kl : Int) (cb + 1)) :: bytes m (some ⟨bp, op, none⟩) P :: cipS c kl ks L)).store (i := 0) (by decide) (.int .i64 0) (q := 65) rfl
    obtain ⟨wT, hwT⟩ : ∃ wT, wT = w9.setCell ⟨b, 65, none⟩ (.int .i64 0) := ⟨_, rfl⟩
    obtain ⟨n1, hn1⟩ : ∃ n1 : Nat, n1 = 0 := ⟨_, rfl⟩
    have hcell0 : Value.int .i64 0 = Value.int .i64 (n1 : Int) := by rw [hn1]; rfl
    rw [← hwT] at s11 ⊢
    rw [hcell0] at s11
    have hn16 : n1 < 16 := by omega
    obtain ⟨WT, hWT⟩ : ∃ WT, WT = z16 := ⟨_, rfl⟩
    rw [← hWT] at s11
    have hWl : WT.length = 16 := by rw [hWT]; rfl
    have hFin : ∀ k, k = Nat.min l (16 - n1) → noteN rs 5 (kl : Int) (cblocks n0 (j + k)) = noteN rs 5 (kl : Int) (cb + 1) ∧ F (j + k) = (G, putB WT n1 ((P.drop j).take k), n1 + k) := fun k hk => by
     have h1 : 1 ≤ k := by rw [hk, hn1]; exact (Nat.le_min).2 ⟨by omega, by decide⟩
     have h2 : k ≤ l := by rw [hk]; exact Nat.min_le_left _ _
     have h3 : k ≤ 16 := by rw [hk, hn1]; exact Nat.min_le_right _ _
     refine ⟨by rw [HX.out.2.2.1 k h1 h3], ?_⟩
     rw [HX.out.2.2.2.1 k h1 h2 h3, hWT, hn1]
    have HT := Lib.hid (And.intro hWl hFin); clear hWl hFin hWT hn1 hwT hcell0 s9 s10 HX hg16 hz1 hz2 hz3 hg1 zb8 zb9 cc65 fr65
    have sT : Sat W0 wT (seg true b 49 (u8s WT) :: seg true b 65 [.int .i64 (n1 : Int)] :: seg true b 33 (u8s G) :: seg true b 0 [.pointer (some ⟨c, 0, none⟩)] :: seg true b 1 (u8s k1) :: seg true b 17 (u8s k2) :: ledO p (noteN rs 5 (kl : Int) (cb + 1)) :: bytes m (some ⟨bp, op, none⟩) P :: cipS c kl ks L) := s11.f
    clear s11
    have zT := satLt sT (by rw [u8s_len, HT.out.1]; decide)
    have c65 : wT.cell? ⟨b, 65, none⟩ = some (.int .i64 (n1 : Int)) := (sT.pull 1 : Sat W0 wT (seg true b 65 [.int .i64 (n1 : Int)] :: _)).cell (i := 0) rfl
    have hsl := fun w => run_sliceFrom (P := Tryz.prog) (T := 210) (U := 5) Tryz.underlying210 (by kernel_rfl) b 49 n1 hn16 w
    refine wp_region_quiet_tail_lit 9 (by kernel_rfl) (by kernel_rfl) ?_
    simp only [List.take_succ_cons, List.take_zero, List.drop_succ_cons, List.drop_zero]
    repeat (go_big_quiet_step (fail))
    refine wpQuiet_nil ?_
    rintro _ ⟨nq, rfl⟩
    obtain ⟨k, hk⟩ : ∃ k, k = Nat.min l (16 - n1) := ⟨_, rfl⟩
    have hkl : k ≤ l := by rw [hk]; exact Nat.min_le_left _ _
    have hk16 : k ≤ 16 - n1 := by rw [hk]; exact Nat.min_le_right _ _
    have hk1 : 1 ≤ k := by rw [hk]; exact (Nat.le_min).2 ⟨by omega, by omega⟩
    have hxl : (u8s ((P.drop j).take k)).length = k := by rw [u8s_len, List.length_take, List.length_drop, HN.out.1]; omega
    have hsrc := bytesSrc (bp := bp) (op := op) j k (((sT.drewN nq)).f : Sat W0 (wT.drewN nq) (bytes m (some ⟨bp, op, none⟩) P :: []))
    have hmin : (u8s ((P.drop j).take k)).length = Nat.min l (16 - n1) := by rw [hxl, hk]
    have hfit : n1 + (u8s ((P.drop j).take k)).length ≤ (u8s WT).length := by rw [hxl, u8s_len, HT.out.1]; omega
    have hput : setL (u8s WT) n1 (u8s ((P.drop j).take k)) = u8s (putB WT n1 ((P.drop j).take k)) := setL_u8s _ _ _ (by rw [← u8s_len ((P.drop j).take k), hxl, HT.out.1]; omega)
    have hwr : IntKind.i64.wrap ((n1 : Int) + (k : Int)) = ((n1 + k : Nat) : Int) := by rw [IntKind.wrap_i64]; omega
    have hF := HT.out.2 k hk
    have hcq2 : k ≤ cq := by omega
    have HC := Lib.hid (And.intro hsrc (And.intro hmin (And.intro hfit (And.intro hput (And.intro hxl (And.intro hF hk1)))))); clear hsrc hmin hfit hput hxl hF hk hk1 hk16 HT c65
    have s12 := sT.drewN nq
    clear sT
    refine wpl_copy rfl (.tmp 54) (.tmp 55) 25 25 rfl Tryz.underlying25 (by kernel_rfl) s12 n1 (49 + n1) (16 - n1) (16 - n1) l cq (some ⟨bp, op + j, none⟩) (u8s ((P.drop j).take k)) rfl rfl rfl HC.out.2.1 HC.out.2.2.1 HC.out.1 (u8s_one _) ?_
    intro w13 s13
    rw [HC.out.2.2.2.1] at s13
    rw [HC.out.2.2.2.2.1]
    have s14 : Sat W0 w13 (seg true b 65 [.int .i64 (n1 : Int)] :: seg true b 49 (u8s (putB WT n1 ((P.drop j).take k))) :: seg true b 33 (u8s G) :: seg true b 0 [.pointer (some ⟨c, 0, none⟩)] :: seg true b 1 (u8s k1) :: seg true b 17 (u8s k2) :: ledO p (noteN rs 5 (kl : Int) (cb + 1)) :: bytes m (some ⟨bp, op, none⟩) P :: cipS c kl ks L) := s13.pull 1
    have zC := satLt s14 (by simp)
    have c65 : w13.cell? ⟨b, 65, none⟩ = some (.int .i64 (n1 : Int)) := s14.cell (i := 0) rfl
    have f65 : w13.frozen? ⟨b, 65, none⟩ = false := (s14.free (i := 0) (by simp)).1
    have s15 := s14.store (i := 0) (by simp) (.int .i64 ((n1 : Int) + (k : Int))) (q := 65) rfl
    clear s12 s13 s14 hsl
    go_wp2_with fail
    go_roundw
    case rel =>
     have hk1 := HC.out.2.2.2.2.2.2
     refine ⟨j + k, l - k, _, cq - k, by omega, by omega, by omega, rfl, fun h => ⟨bp, op, rfl, by rw [if_neg (by omega), Nat.add_assoc]⟩, ?_⟩
     rw [HC.out.2.2.2.2.2.1.1, HC.out.2.2.2.2.2.1.2, show ((n1 : Int) + (k : Int)) = ((n1 + k : Nat) : Int) by omega]
     have s16 : Sat W0 (w13.setCell ⟨b, 65, none⟩ (.int .i64 ((n1 + k : Nat) : Int))) (seg true b 65 [.int .i64 ((n1 + k : Nat) : Int)] :: _) := s15.to (by rw [show ((n1 : Int) + (k : Int)) = ((n1 + k : Nat) : Int) by omega]; rfl)
     exact s16.f
    case measure =>
     have hk1 := HC.out.2.2.2.2.2.2
     simp only
     omega
   ·obtain ⟨n1, hn1⟩ : ∃ n1, n1 = nn := ⟨_, rfl⟩
    rw [← hn1] at s i3 hFa hnn hfull
    have hn16 : n1 < 16 := by omega
    have hne : ((n1 : Int) == 16) = false := by simp; omega
    have hFin : ∀ k, k = Nat.min l (16 - n1) → noteN rs 5 (kl : Int) (cblocks n0 (j + k)) = noteN rs 5 (kl : Int) cb ∧ F (j + k) = (C, putB V n1 ((P.drop j).take k), n1 + k) := fun k hk => by
     have h2 : k ≤ l := by rw [hk]; exact Nat.min_le_left _ _
     have h3 : k ≤ 16 - n1 := by rw [hk]; exact Nat.min_le_right _ _
     have hdl : ((P.drop j).take k).length = k := by rw [List.length_take, List.length_drop, HN.out.1]; omega
     refine ⟨?_, ?_⟩
     ·congr 1
      rw [hcb]
      unfold cblocks
      unfold cwait at i3
      split at i3 <;> omega
     ·rw [hFa k, cfold_room E _ _ _ _ (by rw [hdl]; omega) i2, hdl]
    obtain ⟨WT, hWT⟩ : ∃ WT, WT = V := ⟨_, rfl⟩
    rw [← hWT] at i2 hFin s
    have HT := Lib.hid (And.intro i2 hFin); clear i1 i2 i3 hFin hWT hFa hnn hfull hn1 hS hcb
    have c65 : wr.cell? ⟨b, 65, none⟩ = some (.int .i64 (n1 : Int)) := (s.f : Sat W0 wr (seg true b 65 [.int .i64 (n1 : Int)] :: [])).cell (i := 0) rfl
    have zb := satLt (s.f : Sat W0 wr (seg true b 65 [.int .i64 (n1 : Int)] :: [])) (by simp)
    go_wp2_with fail
    obtain ⟨wT, hwT⟩ : ∃ wT, wT = wr := ⟨_, rfl⟩
    rw [← hwT] at s ⊢
    clear hwT c65 zb
    have sT : Sat W0 wT (seg true b 49 (u8s WT) :: seg true b 65 [.int .i64 (n1 : Int)] :: seg true b 33 (u8s C) :: seg true b 0 [.pointer (some ⟨c, 0, none⟩)] :: seg true b 1 (u8s k1) :: seg true b 17 (u8s k2) :: ledO p (noteN rs 5 (kl : Int) cb) :: bytes m (some ⟨bp, op, none⟩) P :: cipS c kl ks L) := s.f
    clear s
    have zT := satLt sT (by rw [u8s_len, HT.out.1]; decide)
    have c65 : wT.cell? ⟨b, 65, none⟩ = some (.int .i64 (n1 : Int)) := (sT.pull 1 : Sat W0 wT (seg true b 65 [.int .i64 (n1 : Int)] :: _)).cell (i := 0) rfl
    have hsl := fun w => run_sliceFrom (P := Tryz.prog) (T := 210) (U := 5) Tryz.underlying210 (by kernel_rfl) b 49 n1 hn16 w
    refine wp_region_quiet_tail_lit 9 (by kernel_rfl) (by kernel_rfl) ?_
    simp only [List.take_succ_cons, List.take_zero, List.drop_succ_cons, List.drop_zero]
    repeat (go_big_quiet_step (fail))
    refine wpQuiet_nil ?_
    rintro _ ⟨nq, rfl⟩
    obtain ⟨k, hk⟩ : ∃ k, k = Nat.min l (16 - n1) := ⟨_, rfl⟩
    have hkl : k ≤ l := by rw [hk]; exact Nat.min_le_left _ _
    have hk16 : k ≤ 16 - n1 := by rw [hk]; exact Nat.min_le_right _ _
    have hk1 : 1 ≤ k := by rw [hk]; exact (Nat.le_min).2 ⟨by omega, by omega⟩
    have hxl : (u8s ((P.drop j).take k)).length = k := by rw [u8s_len, List.length_take, List.length_drop, HN.out.1]; omega
    have hsrc := bytesSrc (bp := bp) (op := op) j k (((sT.drewN nq)).f : Sat W0 (wT.drewN nq) (bytes m (some ⟨bp, op, none⟩) P :: []))
    have hmin : (u8s ((P.drop j).take k)).length = Nat.min l (16 - n1) := by rw [hxl, hk]
    have hfit : n1 + (u8s ((P.drop j).take k)).length ≤ (u8s WT).length := by rw [hxl, u8s_len, HT.out.1]; omega
    have hput : setL (u8s WT) n1 (u8s ((P.drop j).take k)) = u8s (putB WT n1 ((P.drop j).take k)) := setL_u8s _ _ _ (by rw [← u8s_len ((P.drop j).take k), hxl, HT.out.1]; omega)
    have hwr : IntKind.i64.wrap ((n1 : Int) + (k : Int)) = ((n1 + k : Nat) : Int) := by rw [IntKind.wrap_i64]; omega
    have hF := HT.out.2 k hk
    have hcq2 : k ≤ cq := by omega
    have HC := Lib.hid (And.intro hsrc (And.intro hmin (And.intro hfit (And.intro hput (And.intro hxl (And.intro hF hk1)))))); clear hsrc hmin hfit hput hxl hF hk hk1 hk16 HT c65
    have s12 := sT.drewN nq
    clear sT
    refine wpl_copy rfl (.tmp 54) (.tmp 55) 25 25 rfl Tryz.underlying25 (by kernel_rfl) s12 n1 (49 + n1) (16 - n1) (16 - n1) l cq (some ⟨bp, op + j, none⟩) (u8s ((P.drop j).take k)) rfl rfl rfl HC.out.2.1 HC.out.2.2.1 HC.out.1 (u8s_one _) ?_
    intro w13 s13
    rw [HC.out.2.2.2.1] at s13
    rw [HC.out.2.2.2.2.1]
    have s14 : Sat W0 w13 (seg true b 65 [.int .i64 (n1 : Int)] :: seg true b 49 (u8s (putB WT n1 ((P.drop j).take k))) :: seg true b 33 (u8s C) :: seg true b 0 [.pointer (some ⟨c, 0, none⟩)] :: seg true b 1 (u8s k1) :: seg true b 17 (u8s k2) :: ledO p (noteN rs 5 (kl : Int) cb) :: bytes m (some ⟨bp, op, none⟩) P :: cipS c kl ks L) := s13.pull 1
    have zC := satLt s14 (by simp)
    have c65 : w13.cell? ⟨b, 65, none⟩ = some (.int .i64 (n1 : Int)) := s14.cell (i := 0) rfl
    have f65 : w13.frozen? ⟨b, 65, none⟩ = false := (s14.free (i := 0) (by simp)).1
    have s15 := s14.store (i := 0) (by simp) (.int .i64 ((n1 : Int) + (k : Int))) (q := 65) rfl
    clear s12 s13 s14 hsl
    go_wp2_with fail
    go_roundw
    case rel =>
     have hk1 := HC.out.2.2.2.2.2.2
     refine ⟨j + k, l - k, _, cq - k, by omega, by omega, by omega, rfl, fun h => ⟨bp, op, rfl, by rw [if_neg (by omega), Nat.add_assoc]⟩, ?_⟩
     rw [HC.out.2.2.2.2.2.1.1, HC.out.2.2.2.2.2.1.2, show ((n1 : Int) + (k : Int)) = ((n1 + k : Nat) : Int) by omega]
     have s16 : Sat W0 (w13.setCell ⟨b, 65, none⟩ (.int .i64 ((n1 + k : Nat) : Int))) (seg true b 65 [.int .i64 ((n1 + k : Nat) : Int)] :: _) := s15.to (by rw [show ((n1 : Int) + (k : Int)) = ((n1 + k : Nat) : Int) by omega]; rfl)
     exact s16.f
    case measure =>
     have hk1 := HC.out.2.2.2.2.2.2
     simp only
     omega
  ·obtain rfl : l = 0 := by omega
   obtain rfl : j = n := by omega
   have HS := Lib.hid s; clear s
   go_wp2_with fail
   exact bodyPost_ret (v := .int .i64 0) (by simp [results, Tryz.results131, go_sem]) rfl ⟨rfl, HS.out⟩
end Go.Proofs.YtbefjaodpbgpcaaGreat
