
import Derived.Test.YtbefjaodpbgpcaaGreatVd1
set_option linter.unusedVariables false
set_option linter.unusedSimpArgs false
set_option maxRecDepth 100000
set_option maxHeartbeats 16000000
namespace Go.Proofs.YtbefjaodpbgpcaaGreat
open Go.RowKit Go.Sep Go.Bv Go.Kec Go.Aes Go.Sha
theorem calls_none {kd : Nat} (hk : kd = 0 ∨ 10 < kd) (v : Nat) : Instr.findNow (.int .u8) (.int .u8 (kd : Int)) (callsM v).toList 0 = some none := by
 have hz : ∀ j : Int, 1 ≤ j → j ≤ 10 → Instr.sameNow (.int .u8) (.int .u8 (kd : Int)) (.int .u8 j) = some false := by
  intro j h1 h2
  have h3 : ((kd : Int) == j) = false := by rw [beq_eq_false_iff_ne]; omega
  simp [Instr.sameNow, h3]
 simp [callsM, Instr.findNow, hz]
theorem coreV_none {S : Sts SesD} {o : OpC} {rs : List Run3} (hk : o.kind = 0 ∨ 10 < o.kind) : coreV S o rs = (S, noA 3, rs) := by
 obtain ⟨kd, hd, ag, ct, ot, data, more⟩ := o
 simp only at hk
 rcases hk with rfl | hk
 ·rfl
 ·obtain ⟨n, rfl⟩ : ∃ n, kd = n + 11 := ⟨kd - 11, by omega⟩
  rfl
theorem doVW {W0 w : World} {L : List Assn} {v : Nat} {l : Option Nat} {md mm : Bool} {B : Nat} {S : Sts SesD} {rs : List Run3} {x : OpM} (hV : okV B S) (hB : B + 65536 ≤ 1000000000) (hR : tot rs + 1 ≤ 1000000000000000 ∧ rs.length + 1 ≤ 1000000) (hf : x.fine)
  (hs : Sat W0 w (ledO l rs :: vlt sesI v l S :: bytes md x.dp x.data :: bytes mm x.ep x.more :: L)) :
  Calls Tryz.prog 15 #[.pointer (some ⟨v, 0, none⟩), x.v] w fun e w' => ansV sesI W0 v l (doV S x.c rs) (bytes md x.dp x.data :: bytes mm x.ep x.more :: L) e w' := by
 have hg := coreV_grown (o := x.c) (rs := note rs 11 (x.kd : Int) 1) hV hB
 obtain ⟨hR1, hR2⟩ := hR
 have hl := note_len rs 11 (x.kd : Int) 1
 have ht : tot (note rs 11 (x.kd : Int) 1) = tot rs + 1 := tot_note _ _ _ _
 obtain ⟨g1, g2, g3⟩ := hg
 have hRm : Roomy (note rs 11 (x.kd : Int) 1) := ⟨by omega, by omega⟩
 have hA : tot rs + 1 ≤ 4611686018427387904 ∧ rs.length ≤ 4294967296 := ⟨by omega, by omega⟩
 have hA2 : tot (coreV S x.c (note rs 11 (x.kd : Int) 1)).2.2 + 1 ≤ 4611686018427387904 ∧ (coreV S x.c (note rs 11 (x.kd : Int) 1)).2.2.length ≤ 4294967296 := ⟨by omega, by omega⟩
 have hN : tot rs + 2 ≤ 4611686018427387904 ∧ rs.length + 1 ≤ 4294967296 := ⟨by omega, by omega⟩
 obtain ⟨kd, hd, ag, ct, ot, dp, dn, dc, ep, en, ec, data, more⟩ := x
 obtain ⟨⟨hk0, hag⟩, ⟨hdn, hdc, hdm⟩, ⟨hen, hec, hem⟩, hdb, heb⟩ := hf
 simp only at hk0 hag hdn hdc hdm hen hec hem hdb heb hs hRm hA hA2 hN
 clear g1 g2 g3 ht hl hR1 hR2
 by_cases h0 : kd = 0 ∨ 10 < kd
 ·have e0 : doV S (OpM.c ⟨kd, hd, ag, ct, ot, dp, dn, dc, ep, en, ec, data, more⟩) rs = (S, noA 3, note (note rs 11 (kd : Int) 1) 12 3 1) := by
   unfold doV
   rw [coreV_none (by exact h0)]
   rfl
  rw [e0]
  exact vDo_none S kd hd ag ct ot data more hk0 (calls_none h0) hN hs
 have hk : kd = 1 ∨ kd = 2 ∨ kd = 3 ∨ kd = 4 ∨ kd = 5 ∨ kd = 6 ∨ kd = 7 ∨ kd = 8 ∨ kd = 9 ∨ kd = 10 := by omega
 clear h0 hk0
 rcases hk with rfl | rfl | rfl | rfl | rfl | rfl | rfl | rfl | rfl | rfl
 ·exact vDo_fn (ix := 0) (fid := 49) S (coreV S ⟨1, hd, ag, ct, ot, data, more⟩ (note rs 11 1 1)) 1 hd ag ct ot data more (by decide) (fun x y w => by kernel_rfl) (fun v => by rfl) hA hA2
   (fun w X s => vPutW S 1 hd ag ct ot data more hdn s) hs
 ·exact vDo_fn (ix := 1) (fid := 50) S (coreV S ⟨2, hd, ag, ct, ot, data, more⟩ (note rs 11 2 1)) 2 hd ag ct ot data more (by decide) (fun x y w => by kernel_rfl) (fun v => by rfl) hA hA2
   (fun w X s => vBeginW (B := B) S 2 hd ag ct ot data more hV hB hRm hdn hdc hdm s) hs
 ·exact vDo_fn (ix := 2) (fid := 51) S (coreV S ⟨3, hd, ag, ct, ot, data, more⟩ (note rs 11 3 1)) 3 hd ag ct ot data more (by decide) (fun x y w => by kernel_rfl) (fun v => by rfl) hA hA2
   (fun w X s => vUpdateW (B := B) S 3 hd ag ct ot data more hV hB hRm hdn hdc hdm s) hs
 ·exact vDo_fn (ix := 3) (fid := 52) S (coreV S ⟨4, hd, ag, ct, ot, data, more⟩ (note rs 11 4 1)) 4 hd ag ct ot data more (by decide) (fun x y w => by kernel_rfl) (fun v => by rfl) hA hA2
   (fun w X s => vFinishW (B := B) S 4 hd ag ct ot data more hV hB hRm hdn hdc hdm s) hs
 ·exact vDo_fn (ix := 4) (fid := 53) S (coreV S ⟨5, hd, ag, ct, ot, data, more⟩ (note rs 11 5 1)) 5 hd ag ct ot data more (by decide) (fun x y w => by kernel_rfl) (fun v => by rfl) hA hA2
   (fun w X s => vVerifyW (B := B) S 5 hd ag ct ot data more hV hB hRm hdn hdc hdm s) hs
 ·exact vDo_fn (ix := 5) (fid := 54) S (coreV S ⟨6, hd, ag, ct, ot, data, more⟩ (note rs 11 6 1)) 6 hd ag ct ot data more (by decide) (fun x y w => by kernel_rfl) (fun v => by rfl) hA hA2
   (fun w X s => vCloneW (B := B) S 6 hd ag ct ot data more hV hB hRm hdn hdc hdm s) hs
 ·exact vDo_fn (ix := 6) (fid := 55) S (coreV S ⟨7, hd, ag, ct, ot, data, more⟩ (note rs 11 7 1)) 7 hd ag ct ot data more (by decide) (fun x y w => by kernel_rfl) (fun v => by rfl) hA hA2
   (fun w X s => vHkdfW (B := B) S 7 hd ag ct ot data more hV hB hRm hdn hdc hdm hen hec hem (Nat.le_trans hdb (by decide)) (Nat.le_trans heb (by decide)) s) hs
 ·exact vDo_fn (ix := 7) (fid := 56) S (coreV S ⟨8, hd, ag, ct, ot, data, more⟩ (note rs 11 8 1)) 8 hd ag ct ot data more (by decide) (fun x y w => by kernel_rfl) (fun v => by rfl) hA hA2
   (fun w X s => vPbkdfW (B := B) S 8 hd ag ct ot data more hV hB hRm hdn hdc hdm hen hec hem (Nat.le_trans hdb (by decide)) (Nat.le_trans heb (by decide)) s) hs
 ·exact vDo_fn (ix := 8) (fid := 57) S (coreV S ⟨9, hd, ag, ct, ot, data, more⟩ (note rs 11 9 1)) 9 hd ag ct ot data more (by decide) (fun x y w => by kernel_rfl) (fun v => by rfl) hA hA2
   (fun w X s => vRevealW S 9 hd ag ct ot data more s) hs
 ·exact vDo_fn (ix := 9) (fid := 58) S (coreV S ⟨10, hd, ag, ct, ot, data, more⟩ (note rs 11 10 1)) 10 hd ag ct ot data more (by decide) (fun x y w => by kernel_rfl) (fun v => by rfl) hA hA2
   (fun w X s => vDropW (B := B) S 10 hd ag ct ot data more hV hB hRm hdn hdc hdm s) hs
theorem doV_next {B D : Nat} {S : Sts SesD} {o : OpC} {rs : List Run3} (hV : okV B S) (hB : B + 65536 ≤ 1000000000) (hD : o.data.length ≤ D ∨ 65536 ≤ D) :
  (doV S o rs).1.length = S.length ∧ okV (B + D) (doV S o rs).1 ∧ tot rs + 2 ≤ tot (doV S o rs).2.2 ∧ tot (doV S o rs).2.2 ≤ tot rs + B + 3000000002 ∧ (doV S o rs).2.2.length ≤ rs.length + 5 := by
 obtain ⟨g1, g2, g3⟩ := coreV_grown (o := o) (rs := note rs 11 (o.kind : Int) 1) hV hB
 have h1 := coreV_ok (o := o) (rs := note rs 11 (o.kind : Int) 1) hV hD
 have h2 := coreV_len S o (note rs 11 (o.kind : Int) 1)
 have hl := note_len rs 11 (o.kind : Int) 1
 rw [tot_note] at g2 g3
 have e : (doV S o rs).2.2 = note (coreV S o (note rs 11 (o.kind : Int) 1)).2.2 12 (coreV S o (note rs 11 (o.kind : Int) 1)).2.1.code 1 := rfl
 have h3 := note_len (coreV S o (note rs 11 (o.kind : Int) 1)).2.2 12 (coreV S o (note rs 11 (o.kind : Int) 1)).2.1.code 1
 rw [e, tot_note]
 exact ⟨h2, h1, by omega, by omega, by omega⟩
theorem okV0 : okV 0 (List.replicate 64 none) := okV_iff.2 (fun t ht => by rw [List.mem_replicate] at ht; cases ht.2)
end Go.Proofs.YtbefjaodpbgpcaaGreat
