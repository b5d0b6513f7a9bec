
import Derived.Test.YtbefjaodpbgpcaaGreatVs1
import Derived.Test.YtbefjaodpbgpcaaGreatHG
set_option linter.unusedVariables false
set_option linter.unusedSimpArgs false
set_option maxRecDepth 100000
set_option maxHeartbeats 16000000
namespace Go.Proofs.YtbefjaodpbgpcaaGreat
open Go.RowKit Go.Sep Go.Bv Go.Kec Go.Aes Go.Sha
def okV (B : Nat) (S : Sts SesD) : Prop := ∀ t, some t ∈ S → (match t with | .key k => k.length ≤ 512 | .ses x => x.ok B)
theorem okV_ses {B : Nat} {T : List (Slt SesD)} (h : okV B (T.map Slt.th)) {k m s : Nat} {x : SesD} (hk : T[k]? = some ⟨m, some (.ses x s)⟩) : x.ok B :=
 h (.ses x) (List.mem_map.2 ⟨_, List.mem_of_getElem? hk, rfl⟩)
theorem okV_key {B : Nat} {T : List (Slt SesD)} (h : okV B (T.map Slt.th)) {k m c : Nat} {p : Option Addr} {b : List Byte} (hk : T[k]? = some ⟨m, some (.key b p c)⟩) : b.length ≤ 512 :=
 h (.key b) (List.mem_map.2 ⟨_, List.mem_of_getElem? hk, rfl⟩)
theorem roomyN {rs : List Run3} (h : Roomy rs) (k s : Int) (n : Nat) (hn : n ≤ 2000000) : tot (noteN rs k s n) + 1 ≤ 4611686018427387904 ∧ (noteN rs k s n).length ≤ 4294967296 := by
 have h1 := h.1
 have h2 := h.2
 have h3 := noteN_len rs k s n
 rw [tot_noteN]
 omega
end Go.Proofs.YtbefjaodpbgpcaaGreat
