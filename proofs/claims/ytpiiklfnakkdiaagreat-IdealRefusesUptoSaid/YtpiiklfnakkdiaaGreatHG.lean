/- Idl17, Idl18: texts that lie apart elsewhere, as one; each under the conditions that it names. -/
import Derived.Test.YtpiiklfnakkdiaaGreatIdl12
import Derived.Test.YtpiiklfnakkdiaaGreatIdl14
import Derived.Test.YtpiiklfnakkdiaaGreatIdl15
import Derived.Test.YtpiiklfnakkdiaaGreatIdl16
import Derived.Test.YtpiiklfnakkdiaaGreatGG

/- The ideal vault: any operation, all kinds; what is held stays such as may be held; each under the conditions that it names. -/
namespace Go.Proofs.YtpiiklfnakkdiaaGreat
open Go.RowKit Go.Sep Go.Bv Go.Kec Go.Aes Go.Sha
set_option linter.unusedVariables false
set_option linter.unusedSimpArgs false
theorem iAt_some {S : Slots} (hS : S.length = 64) {h : Int} {sess : Bool} {e : Int} {H : Hold} (hx : iAt S h sess = (e, some H)) : e = 0 ∧ some H ∈ S ∧ (H.alg != 0) = sess := by
 rcases iAt_cases S hS h sess with ⟨h1, _⟩ | ⟨_, _, H', h2, ⟨h3, h4⟩ | ⟨h3, _⟩⟩
 ·rw [h1] at hx; cases hx
 ·rw [h3] at hx; cases hx; exact ⟨rfl, mem_of_get h2, h4⟩
 ·rw [h3] at hx; cases hx
theorem Hold.kb_le {B : Nat} {H : Hold} (h : H.ok B) : H.kb.length ≤ 512 := by
 cases H with
 | key k => exact h
 | sn K o k c m => exact h.2.1
theorem kindA_most : ∀ a, 1 ≤ a → a ≤ 7 → (kindA a).most = mostA a
 | 0, h, _ => by omega
 | 1, _, _ => rfl
 | 2, _, _ => rfl
 | 3, _, _ => rfl
 | 4, _, _ => rfl
 | 5, _, _ => rfl
 | 6, _, _ => rfl
 | 7, _, _ => rfl
 | n + 8, _, h => by omega
theorem kindA_fits {a out : Nat} {k d : List Byte} (h1 : 1 ≤ a) (h7 : a ≤ 7) (ho : 1 ≤ out) (hm : out ≤ mostA a) (hk : k.length ≤ 512) (h3 : a = 3 → k.length = 16 ∨ k.length = 24 ∨ k.length = 32) (hd : a < 4 → d = []) (hd4 : d.length ≤ 64) : (kindA a).fits k d out := by
 refine ⟨ho, by rw [kindA_most a h1 h7]; exact hm, by omega, ?_⟩
 rcases (by omega : a = 1 ∨ a = 2 ∨ a = 3 ∨ a = 4 ∨ a = 5 ∨ a = 6 ∨ a = 7) with rfl | rfl | rfl | rfl | rfl | rfl | rfl
 ·exact hd (by decide)
 ·exact hd (by decide)
 ·exact ⟨hd (by decide), h3 rfl⟩
 ·exact hd4
 ·exact hd4
 ·exact hd4
 ·exact hd4
theorem iPut_ok {B : Nat} {S : Slots} {o : OpC} (h : okS B S) : okS B (iPut S o).1 := by
 unfold iPut
 split
 ·exact h
 ·rename_i h1
  exact iTake_ok h (by show o.data.length ≤ 512; omega)
theorem iBegin_ok {B : Nat} {S : Slots} {o : OpC} (h : okS B S) : okS B (iBegin S o).1 := by
 unfold iBegin
 split
 ·exact h
 ·rename_i e H hx
  obtain ⟨_, hmem, _⟩ := iAt_some h.1 hx
  have hk := Hold.kb_le (h.2 H hmem)
  split
  ·exact h
  ·rename_i c1
   split
   ·exact h
   ·rename_i c2
    split
    ·exact h
    ·rename_i c3
     split
     ·exact h
     ·rename_i c4
      split
      ·exact h
      ·rename_i c5
       refine iTake_ok h ⟨kindA_fits (by omega) (by omega) (by omega) (by omega) hk (fun h3 => Classical.byContradiction fun h4 => c1 ⟨h3, h4⟩) (fun h4 => List.eq_nil_of_length_eq_zero (by omega)) (by omega), hk, Nat.zero_le _⟩
theorem iUpdate_ok {B : Nat} {S : Slots} {o : OpC} (h : okS B S) : okS (B + 65536) (iUpdate S o).1 := by
 have hB := okS_mono h (Nat.le_add_right B 65536)
 unfold iUpdate
 split
 ·exact hB
 ·rename_i e H hx
  obtain ⟨_, hmem, hs⟩ := iAt_some h.1 hx
  split
  ·exact hB
  ·rename_i c1
   refine okS_set hB _ _ fun H' e1 => ?_
   cases e1
   obtain ⟨K, q, k, c, m, rfl⟩ := Hold.alg_ses hs
   obtain ⟨h1, h2, h3⟩ := h.2 _ hmem
   refine ⟨h1, h2, ?_⟩
   rw [List.length_append]
   omega
theorem iEnd_ok {B : Nat} {S : Slots} {o : OpC} (h : okS B S) : okS B (iEnd S o).1 := by
 unfold iEnd
 split
 ·exact h
 ·split
  ·split
   ·exact okS_set h _ _ fun H' e1 => by cases e1
   ·exact h
  ·exact okS_set h _ _ fun H' e1 => by cases e1
theorem iAny_some {S : Slots} (hS : S.length = 64) {h : Int} {e : Int} {H : Hold} (hx : iAny S h = (e, some H)) : e = 0 ∧ some H ∈ S := by
 unfold iAny at hx
 split at hx
 ·exact ⟨(iAt_some hS hx).1, (iAt_some hS hx).2.1⟩
 ·exact ⟨(iAt_some hS hx).1, (iAt_some hS hx).2.1⟩
theorem iSimple_ok {B : Nat} {S : Slots} {o : OpC} (h : okS B S) : okS B (iSimple S o).1 := by
 unfold iSimple
 split
 ·exact h
 ·rename_i e H hx
  have hm : some H ∈ S := by
   split at hx
   ·exact (iAt_some h.1 hx).2.1
   ·exact (iAny_some h.1 hx).2
  split
  ·exact h
  ·split
   ·exact iTake_ok h (h.2 H hm)
   ·exact okS_set h _ _ fun H' e1 => by cases e1
theorem iHkdf_ok {B : Nat} {S : Slots} {o : OpC} (h : okS B S) : okS B (iHkdf S o).1 := by
 unfold iHkdf
 split
 ·exact h
 ·split
  ·exact h
  ·split
   ·exact h
   ·split
    ·exact h
    ·rename_i c
     split
     ·exact h
     ·refine iTake_ok h ?_
      show (hkdf _ _ _ _).length ≤ 512
      unfold hkdf
      rw [List.length_take]
      omega
theorem iPbkdf_ok {B : Nat} {S : Slots} {o : OpC} (h : okS B S) : okS B (iPbkdf S o).1 := by
 unfold iPbkdf
 split
 ·exact h
 ·split
  ·exact h
  ·split
   ·exact h
   ·split
    ·exact h
    ·split
     ·exact h
     ·rename_i c
      split
      ·exact h
      ·refine iTake_ok h ?_
       show (List.take _ _).length ≤ 512
       rw [List.length_take]
       omega
theorem iDo_ok {B : Nat} {S : Slots} {o : OpC} (h : okS B S) : okS (B + 65536) (iDo S o).1 := by
 have hB : ∀ S', okS B S' → okS (B + 65536) S' := fun S' h' => okS_mono h' (Nat.le_add_right _ _)
 unfold iDo
 split
 ·exact hB _ (iPut_ok h)
 ·exact hB _ (iBegin_ok h)
 ·exact iUpdate_ok h
 ·exact hB _ (iEnd_ok h)
 ·exact hB _ (iEnd_ok h)
 ·exact hB _ (iSimple_ok h)
 ·exact hB _ (iHkdf_ok h)
 ·exact hB _ (iPbkdf_ok h)
 ·exact hB _ (iSimple_ok h)
 ·exact hB _ (iSimple_ok h)
 ·exact hB _ h
/-- Any operation. -/
theorem iDoW {W0 w : World} {L : List Assn} {v B : Nat} {md mm : Bool} {dp ep : Option Addr} {dn dc en ec : Nat} (S : Slots) (kd : Nat) (hd : Int) (ag : Nat) (ct ot : Int) (data more : List Byte) (hS : okS B S) (hB : B ≤ 1000000000) (hdn : data.length = dn) (hdc : dn ≤ dc) (hdm : dc ≤ maxLen) (hdb : dn ≤ 1000000000) (hen : more.length = en) (hec : en ≤ ec) (hem : ec ≤ maxLen)
  (hs : Sat W0 w (vaultA v S :: bytes md dp data :: bytes mm ep more :: L)) :
  Calls Tryz.prog 10 #[.pointer (some ⟨v, 0, none⟩), .agg #[.int .u8 (kd : Int), .int .i64 hd, .int .u8 (ag : Int), .int .i64 ct, .int .i64 ot, .slice dp dn dc, .slice ep en ec]] w fun e w' => ansP W0 v (iDo S ⟨kd, hd, ag, ct, ot, data, more⟩) (bytes md dp data :: bytes mm ep more :: L) e w' := by
 have hput := fun (w : World) (X : List Assn) (s : Sat W0 w (vaultA v S :: bytes md dp data :: bytes mm ep more :: X)) => iPutW (dc := dc) (en := en) (ec := ec) S kd hd ag ct ot data more hS.1 hdn hdb s
 have hbeg := fun (w : World) (X : List Assn) (s : Sat W0 w (vaultA v S :: bytes md dp data :: bytes mm ep more :: X)) => iBeginW (dc := dc) (en := en) (ec := ec) S kd hd ag ct ot data more hS hB hdn hdb s
 have hupd := fun (w : World) (X : List Assn) (s : Sat W0 w (vaultA v S :: bytes md dp data :: bytes mm ep more :: X)) => iUpdateW (dc := dc) (en := en) (ec := ec) S kd hd ag ct ot data more hS hB hdn hdb s
 have hend := fun (w : World) (X : List Assn) (s : Sat W0 w (vaultA v S :: bytes md dp data :: bytes mm ep more :: X)) => iEndW (dc := dc) (en := en) (ec := ec) S kd hd ag ct ot data more hS hB hdn hdb s
 have hsim := fun (w : World) (X : List Assn) (s : Sat W0 w (vaultA v S :: bytes md dp data :: bytes mm ep more :: X)) => iSimpleW (dn := dn) (dc := dc) (en := en) (ec := ec) S kd hd ag ct ot data more hS hB s
 have hhk := fun (h : kd = 7) (w : World) (X : List Assn) (s : Sat W0 w (vaultA v S :: bytes md dp data :: bytes mm ep more :: X)) => iHkdfW (dn := dn) (dc := dc) (en := en) (ec := ec) S kd h hd ag ct ot data more hS hB hdn hdc hdm hen hec hem s
 have hpb := fun (h : kd = 8) (w : World) (X : List Assn) (s : Sat W0 w (vaultA v S :: bytes md dp data :: bytes mm ep more :: X)) => iPbkdfW (dn := dn) (dc := dc) (en := en) (ec := ec) S kd h hd ag ct ot data more hS hB hdn hdc hdm hen hec hem s
 rcases (by omega : kd = 1 ∨ kd = 2 ∨ kd = 3 ∨ kd = 4 ∨ kd = 5 ∨ kd = 6 ∨ kd = 7 ∨ kd = 8 ∨ kd = 9 ∨ kd = 10 ∨ (kd = 0 ∨ 10 < kd)) with h | h | h | h | h | h | h | h | h | h | h
 ·subst h; exact iDo_fn (fid := 41) S (iPut S ⟨1, hd, ag, ct, ot, data, more⟩) 1 hd ag ct ot data more (ix := 0) (fun x y w => by kernel_rfl) (by kernel_rfl) hput hs
 ·subst h; exact iDo_fn (fid := 42) S (iBegin S ⟨2, hd, ag, ct, ot, data, more⟩) 2 hd ag ct ot data more (ix := 1) (fun x y w => by kernel_rfl) (by kernel_rfl) hbeg hs
 ·subst h; exact iDo_fn (fid := 43) S (iUpdate S ⟨3, hd, ag, ct, ot, data, more⟩) 3 hd ag ct ot data more (ix := 2) (fun x y w => by kernel_rfl) (by kernel_rfl) hupd hs
 ·subst h; exact iDo_fn (fid := 44) S (iEnd S ⟨4, hd, ag, ct, ot, data, more⟩) 4 hd ag ct ot data more (ix := 3) (fun x y w => by kernel_rfl) (by kernel_rfl) hend hs
 ·subst h; exact iDo_fn (fid := 44) S (iEnd S ⟨5, hd, ag, ct, ot, data, more⟩) 5 hd ag ct ot data more (ix := 4) (fun x y w => by kernel_rfl) (by kernel_rfl) hend hs
 ·subst h; exact iDo_fn (fid := 46) S (iSimple S ⟨6, hd, ag, ct, ot, data, more⟩) 6 hd ag ct ot data more (ix := 7) (fun x y w => by kernel_rfl) (by kernel_rfl) hsim hs
 ·subst h; exact iDo_fn (fid := 45) S (iHkdf S ⟨7, hd, ag, ct, ot, data, more⟩) 7 hd ag ct ot data more (ix := 5) (fun x y w => by kernel_rfl) (by kernel_rfl) (hhk rfl) hs
 ·subst h; exact iDo_fn (fid := 45) S (iPbkdf S ⟨8, hd, ag, ct, ot, data, more⟩) 8 hd ag ct ot data more (ix := 6) (fun x y w => by kernel_rfl) (by kernel_rfl) (hpb rfl) hs
 ·subst h; exact iDo_fn (fid := 46) S (iSimple S ⟨9, hd, ag, ct, ot, data, more⟩) 9 hd ag ct ot data more (ix := 8) (fun x y w => by kernel_rfl) (by kernel_rfl) hsim hs
 ·subst h; exact iDo_fn (fid := 46) S (iSimple S ⟨10, hd, ag, ct, ot, data, more⟩) 10 hd ag ct ot data more (ix := 9) (fun x y w => by kernel_rfl) (by kernel_rfl) hsim hs
 ·have e0 : iDo S ⟨kd, hd, ag, ct, ot, data, more⟩ = (S, noA 3) := by
   unfold iDo
   simp only
   rcases h with rfl | h
   ·rfl
   ·obtain ⟨n, rfl⟩ : ∃ n, kd = n + 11 := ⟨kd - 11, by omega⟩
    rfl
  rw [e0]
  refine iDo_none S kd hd ag ct ot data more ?_ hs
  have hz : ∀ j : Int, 1 ≤ j → j ≤ 10 → Instr.sameNow (.int .u8) (.int .u8 (kd : Int)) (.int .u8 j) = some false := by
   intro j h1 h2
   have h3 : ((kd : Int) == j) = false := by rw [beq_eq_false_iff_ne]; omega
   simp [Instr.sameNow, h3]
  simp [kindsM, Instr.findNow, hz]
end Go.Proofs.YtpiiklfnakkdiaaGreat

/- The ideal vault: an operation whose answer is known; a row of holdings opened; the document's examples; under the conditions that each names. -/
namespace Go.Proofs.YtpiiklfnakkdiaaGreat
open Go.RowKit Go.Sep Go.Bv Go.Kec Go.Aes Go.Sha
set_option linter.unusedVariables false
set_option linter.unusedSimpArgs false
theorem iDoX {W0 w : World} {L : List Assn} {v B : Nat} {md mm : Bool} {dp ep : Option Addr} {dn dc en ec bn : Nat} {v0 v1 v2 v3 v4 : Value} {S S' : Slots} (kd : Nat) (hd : Int) (ag : Nat) (ct ot : Int) (data more : List Byte) {code : Int} {h : Nat} {same : Bool} {bs : List Byte}
  (e0 : iDo S ⟨kd, hd, ag, ct, ot, data, more⟩ = (S', ⟨code, h, same, bs⟩)) (hbn : bs.length = bn) (h0 : v0 = .int .u8 (kd : Int)) (h1 : v1 = .int .i64 hd) (h2 : v2 = .int .u8 (ag : Int)) (h3 : v3 = .int .i64 ct) (h4 : v4 = .int .i64 ot)
  (hS : okS B S) (hB : B ≤ 1000000000) (hdn : data.length = dn) (hdc : dn ≤ dc) (hdm : dc ≤ maxLen) (hdb : dn ≤ 1000000000) (hen : more.length = en) (hec : en ≤ ec) (hem : ec ≤ maxLen)
  (hs : Sat W0 w (vaultA v S :: bytes md dp data :: bytes mm ep more :: L)) :
  Calls Tryz.prog 10 #[.pointer (some ⟨v, 0, none⟩), .agg #[v0, v1, v2, v3, v4, .slice dp dn dc, .slice ep en ec]] w fun e w' => ∃ q c, e = .returned (.agg #[.int .i64 code, .int .i64 (h : Int), .bool same, .slice q bn c]) ∧ bn ≤ c ∧ c ≤ maxLen ∧ Sat W0 w' (vaultA v S' :: bytes true q bs :: bytes md dp data :: bytes mm ep more :: L) := by
 subst h0 h1 h2 h3 h4 hbn
 refine (iDoW S kd hd ag ct ot data more hS hB hdn hdc hdm hdb hen hec hem hs).mono ?_
 rw [e0]
 exact fun e w' h => h
theorem iDoY {W0 w : World} {L : List Assn} {v B : Nat} {md : Bool} {dp : Option Addr} {dn dc bn : Nat} {v0 v1 v2 v3 v4 : Value} {S S' : Slots} (kd : Nat) (hd : Int) (ag : Nat) (ct ot : Int) (data : List Byte) {code : Int} {h : Nat} {same : Bool} {bs : List Byte}
  (e0 : iDo S ⟨kd, hd, ag, ct, ot, data, []⟩ = (S', ⟨code, h, same, bs⟩)) (hbn : bs.length = bn) (h0 : v0 = .int .u8 (kd : Int)) (h1 : v1 = .int .i64 hd) (h2 : v2 = .int .u8 (ag : Int)) (h3 : v3 = .int .i64 ct) (h4 : v4 = .int .i64 ot)
  (hS : okS B S) (hB : B ≤ 1000000000) (hdn : data.length = dn) (hdc : dn ≤ dc) (hdm : dc ≤ maxLen) (hdb : dn ≤ 1000000000)
  (hs : Sat W0 w (vaultA v S :: bytes md dp data :: L)) :
  Calls Tryz.prog 10 #[.pointer (some ⟨v, 0, none⟩), .agg #[v0, v1, v2, v3, v4, .slice dp dn dc, .slice none 0 0]] w fun e w' => ∃ q c, e = .returned (.agg #[.int .i64 code, .int .i64 (h : Int), .bool same, .slice q bn c]) ∧ bn ≤ c ∧ c ≤ maxLen ∧ Sat W0 w' (vaultA v S' :: bytes true q bs :: bytes md dp data :: L) := by
 have s1 := bytesNil true none hs
 refine (iDoX (mm := true) (ep := none) (ec := 0) kd hd ag ct ot data [] e0 hbn h0 h1 h2 h3 h4 hS hB hdn hdc hdm hdb rfl (Nat.le_refl _) (Nat.zero_le _) ((Sat.sub (s1) (by with_reducible repeat first | exact Fr1 | exact Fr2 | (apply Fr3; focus ((repeat (first | exact Tk1 | apply Tk2)); done)) | apply Fr4)) : Sat W0 w (vaultA v S :: bytes md dp data :: bytes true none [] :: L))).mono ?_
 rintro e w' ⟨q, c, rfl, g1, g2, s2⟩
 exact ⟨q, c, rfl, g1, g2, (Sat.sub (s2) (by with_reducible repeat first | exact Fr1 | exact Fr2 | (apply Fr3; focus ((repeat (first | exact Tk1 | apply Tk2)); done)) | apply Fr4))⟩
theorem iDoZ {W0 w : World} {L : List Assn} {v B : Nat} {bn : Nat} {v0 v1 v2 v3 v4 : Value} {S S' : Slots} (kd : Nat) (hd : Int) (ag : Nat) (ct ot : Int) {code : Int} {h : Nat} {same : Bool} {bs : List Byte}
  (e0 : iDo S ⟨kd, hd, ag, ct, ot, [], []⟩ = (S', ⟨code, h, same, bs⟩)) (hbn : bs.length = bn) (h0 : v0 = .int .u8 (kd : Int)) (h1 : v1 = .int .i64 hd) (h2 : v2 = .int .u8 (ag : Int)) (h3 : v3 = .int .i64 ct) (h4 : v4 = .int .i64 ot)
  (hS : okS B S) (hB : B ≤ 1000000000)
  (hs : Sat W0 w (vaultA v S :: L)) :
  Calls Tryz.prog 10 #[.pointer (some ⟨v, 0, none⟩), .agg #[v0, v1, v2, v3, v4, .slice none 0 0, .slice none 0 0]] w fun e w' => ∃ q c, e = .returned (.agg #[.int .i64 code, .int .i64 (h : Int), .bool same, .slice q bn c]) ∧ bn ≤ c ∧ c ≤ maxLen ∧ Sat W0 w' (vaultA v S' :: bytes true q bs :: L) := by
 have s1 := bytesNil true none hs
 refine (iDoY (md := true) (dp := none) (dc := 0) kd hd ag ct ot [] e0 hbn h0 h1 h2 h3 h4 hS hB rfl (Nat.le_refl _) (Nat.zero_le _) (by decide) ((Sat.sub (s1) (by with_reducible repeat first | exact Fr1 | exact Fr2 | (apply Fr3; focus ((repeat (first | exact Tk1 | apply Tk2)); done)) | apply Fr4)) : Sat W0 w (vaultA v S :: bytes true none [] :: L))).mono ?_
 rintro e w' ⟨q, c, rfl, g1, g2, s2⟩
 exact ⟨q, c, rfl, g1, g2, (Sat.sub (s2) (by with_reducible repeat first | exact Fr1 | exact Fr2 | (apply Fr3; focus ((repeat (first | exact Tk1 | apply Tk2)); done)) | apply Fr4))⟩
theorem partsAt {W0 w : World} : ∀ {X : List HRow} {L : List Assn} {j : Nat} {x : HRow}, X[j]? = some x → Sat W0 w (partsA X :: L) → ∃ R : Assn, Sat W0 w (partA x :: R :: L) ∧ ∀ w' L', Sat W0 w' (partA x :: R :: L') → Sat W0 w' (partsA X :: L')
 | [], _, _, _, h, _ => by simp at h
 | y :: X, L, 0, x, h, s => by
  simp only [List.getElem?_cons_zero, Option.some.injEq] at h
  subst h
  exact ⟨partsA X, Sat.sepOpen s, fun w' L' s' => Sat.sepShut s'⟩
 | y :: X, L, j + 1, x, h, s => by
  have h1 : X[j]? = some x := by simpa using h
  have s1 : Sat W0 w (partA y :: partsA X :: L) := Sat.sepOpen s
  obtain ⟨R, s2, back⟩ := partsAt h1 (s1.pull 1 : Sat W0 w (partsA X :: partA y :: L))
  refine ⟨sep (partA y) R, ?_, fun w' L' s' => ?_⟩
  ·have s3 : Sat W0 w (partA y :: R :: partA x :: L) := s2.sub (.cons (.there (.there .here)) (.cons (.there .here) (.cons .here .done)))
   exact (Sat.sepShut s3).pull 1
  ·have s4 : Sat W0 w' (sep (partA y) R :: partA x :: L') := s'.pull 1
   have s5 : Sat W0 w' (partA y :: R :: partA x :: L') := Sat.sepOpen s4
   have s6 := back _ _ (s5.sub (.cons (.there (.there .here)) (.cons (.there .here) (.cons .here .done))) : Sat W0 w' (partA x :: R :: partA y :: L'))
   exact Sat.sepShut (s6.pull 1 : Sat W0 w' (partA y :: partsA X :: L'))
theorem encH_at (X : List HRow) {j k : Nat} {x : HRow} (rest : List Value) (h : X[j]? = some x) (hk : k < 6) : (X.flatMap encH ++ rest)[j * 6 + k]? = (encH x)[k]? := by
 have hj := (List.getElem?_eq_some_iff.1 h).1
 have hx := (List.getElem?_eq_some_iff.1 h).2
 have hl : j * 6 + k < (X.flatMap encH).length := by rw [fm_len lenH]; omega
 rw [List.getElem?_append_left hl, fm_get lenH X j k hj hk, hx]
/-- One of the holdings of a row, with its bytes. -/
theorem heldAt {W0 w : World} {L : List Assn} {p : Option Addr} {c j i : Nat} {H : Hold} {l : List (Nat × Hold)} (hl : l[j]? = some (i, H)) (h : Sat W0 w (heldsA p c l :: L)) :
  ∃ (g : Nat) (q : HQ) (R : Assn), p = some ⟨g, 0, none⟩ ∧ l.length ≤ c ∧ c ≤ maxLen ∧ q.ok H ∧ H.mb.length ≤ q.mc ∧ q.mc ≤ maxLen ∧ (∀ w' L', Sat W0 w' (R :: L') → g < w'.heap.size ∧ ∀ k u, (holdC i H q)[k]? = some u → w'.cell? ⟨g, j * 6 + k, none⟩ = some u) ∧
   Sat W0 w (bytes true q.kp H.kb :: bytes true q.cp H.cb :: bytes true q.mp H.mb :: R :: L) ∧ ∀ w' L', Sat W0 w' (bytes true q.kp H.kb :: bytes true q.cp H.cb :: bytes true q.mp H.mb :: R :: L') → Sat W0 w' (heldsA p c l :: L') := by
 obtain ⟨X, hX, hok, s1⟩ := heldsOpen h
 obtain ⟨x, hx, hxe⟩ : ∃ x, X[j]? = some x ∧ nmH x = (i, H) := by
  rw [← hX, List.getElem?_map] at hl
  rcases hxx : X[j]? with _ | x
  ·rw [hxx] at hl; cases hl
  ·rw [hxx] at hl
   exact ⟨x, rfl, by simpa using hl⟩
 obtain ⟨i', H', q⟩ := x
 simp only [nmH, Prod.mk.injEq] at hxe
 obtain ⟨rfl, rfl⟩ := hxe
 have hlen : X.length = l.length := by rw [← hX, List.length_map]
 have hjl := (List.getElem?_eq_some_iff.1 hx).1
 obtain ⟨hrl, ⟨-, -, h0, -, -⟩ | ⟨g, rest, rfl, hcap, hmx, hcl, s2⟩⟩ := s1.rowOpen
 ·omega
 obtain ⟨RP, s3, back⟩ := partsAt hx (s2.pull 1 : Sat W0 w (partsA X :: seg true g 0 (X.flatMap encH ++ rest) :: L))
 have s4 : Sat W0 w (bytes true q.kp H'.kb :: bytes true q.cp H'.cb :: row q.mp q.mc 1 H'.mb.length (u8s H'.mb) :: RP :: seg true g 0 (X.flatMap encH ++ rest) :: L) := Sat.bigOpen (K := [bytes true q.kp H'.kb, bytes true q.cp H'.cb, row q.mp q.mc 1 H'.mb.length (u8s H'.mb)]) s3
 obtain ⟨_, hm1, hm2, RM, s5, back2⟩ := rowWand ((Sat.sub (s4) (by with_reducible repeat first | exact Fr1 | exact Fr2 | (apply Fr3; focus ((repeat (first | exact Tk1 | apply Tk2)); done)) | apply Fr4)) : Sat W0 w (row q.mp q.mc 1 H'.mb.length (u8s H'.mb) :: bytes true q.kp H'.kb :: bytes true q.cp H'.cb :: RP :: seg true g 0 (X.flatMap encH ++ rest) :: L))
 refine ⟨g, q, sep (seg true g 0 (X.flatMap encH ++ rest)) (sep RP RM), rfl, by omega, hmx, hok _ (List.mem_of_getElem? hx), hm1, hm2, fun w' L' s => ?_, ?_, fun w' L' s => ?_⟩
 ·have t1 := Sat.sepOpen s
  refine ⟨t1.lt (by rw [hcl]; omega), fun k u hu => ?_⟩
  have hk : k < 6 := (List.getElem?_eq_some_iff.1 hu).1
  exact t1.at (j * 6 + k) (by rw [encH_at X rest hx hk]; exact hu)
 ·have t1 : Sat W0 w (RP :: RM :: seg true g 0 (X.flatMap encH ++ rest) :: bytes true q.kp H'.kb :: bytes true q.cp H'.cb :: bytes true q.mp H'.mb :: L) := (Sat.sub (s5) (by with_reducible repeat first | exact Fr1 | exact Fr2 | (apply Fr3; focus ((repeat (first | exact Tk1 | apply Tk2)); done)) | apply Fr4))
  have t2 : Sat W0 w (seg true g 0 (X.flatMap encH ++ rest) :: sep RP RM :: bytes true q.kp H'.kb :: bytes true q.cp H'.cb :: bytes true q.mp H'.mb :: L) := (Sat.sepShut t1).pull 1
  have t3 := Sat.sepShut t2
  exact (Sat.sub (t3) (by with_reducible repeat first | exact Fr1 | exact Fr2 | (apply Fr3; focus ((repeat (first | exact Tk1 | apply Tk2)); done)) | apply Fr4))
 ·have t1 : Sat W0 w' (sep (seg true g 0 (X.flatMap encH ++ rest)) (sep RP RM) :: bytes true q.kp H'.kb :: bytes true q.cp H'.cb :: bytes true q.mp H'.mb :: L') := (Sat.sub (s) (by with_reducible repeat first | exact Fr1 | exact Fr2 | (apply Fr3; focus ((repeat (first | exact Tk1 | apply Tk2)); done)) | apply Fr4))
  have t2 : Sat W0 w' (sep RP RM :: seg true g 0 (X.flatMap encH ++ rest) :: bytes true q.kp H'.kb :: bytes true q.cp H'.cb :: bytes true q.mp H'.mb :: L') := (Sat.sepOpen t1).pull 1
  have t3 : Sat W0 w' (RP :: RM :: seg true g 0 (X.flatMap encH ++ rest) :: bytes true q.kp H'.kb :: bytes true q.cp H'.cb :: bytes true q.mp H'.mb :: L') := Sat.sepOpen t2
  have t4 := back2 _ _ ((Sat.sub (t3) (by with_reducible repeat first | exact Fr1 | exact Fr2 | (apply Fr3; focus ((repeat (first | exact Tk1 | apply Tk2)); done)) | apply Fr4)) : Sat W0 w' (bytes true q.mp H'.mb :: RM :: RP :: seg true g 0 (X.flatMap encH ++ rest) :: bytes true q.kp H'.kb :: bytes true q.cp H'.cb :: L'))
  have t5 : Sat W0 w' (bytes true q.kp H'.kb :: bytes true q.cp H'.cb :: row q.mp q.mc 1 H'.mb.length (u8s H'.mb) :: RP :: seg true g 0 (X.flatMap encH ++ rest) :: L') := (Sat.sub (t4) (by with_reducible repeat first | exact Fr1 | exact Fr2 | (apply Fr3; focus ((repeat (first | exact Tk1 | apply Tk2)); done)) | apply Fr4))
  have t6 : Sat W0 w' (partA (i', H', q) :: RP :: seg true g 0 (X.flatMap encH ++ rest) :: L') := Sat.bigShut (K := [bytes true q.kp H'.kb, bytes true q.cp H'.cb, row q.mp q.mc 1 H'.mb.length (u8s H'.mb)]) t5
  have t7 := back _ _ t6
  have t8 : Sat W0 w' (seg true g 0 (X.flatMap encH ++ rest) :: partsA X :: L') := t7.pull 1
  exact heldsShut X hX hok (t8.rowMade hrl hcl hcap hmx)
end Go.Proofs.YtpiiklfnakkdiaaGreat
