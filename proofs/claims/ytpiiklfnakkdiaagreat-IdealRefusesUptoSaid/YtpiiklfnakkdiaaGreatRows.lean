/-
  No cell of these rows narrows 'for every input' (looked for: loops, veiled, ifaces, maps, wideKeys, modest, calm, conditions, laid).
  DERIVED. THE GIVEN ROWS OF THIS SEAT. 5 by the template 'for every input the law returns true; each argument reads behind the call as it read before'; 0 by the template 'total and deterministic' (their statements: YtpiiklfnakkdiaaGreatTotals.lean).
  GIVEN WITH THE SEED: the statements are not yours to turn. If you find one false, say at which input.
  Laid BY PROGRAM, IN A SANDBOX (cutbox-rows.mjs): the forced cells as the released guide's own fill.sh prints them over the translation 46aee33c15fd5a06… (all of the seat's roots in one cut). By AI agents, Wed Nov 11 2026. No macro, syntax, notation, axiom, sorry.
-/
import Derived.Test.YtpiiklfnakkdiaaGreatChecked
import GoSem.Claim
import GoSem.ClaimJoined
import GoSem.ClaimMapViews
import Derived.JoinedTies
import Derived.KernelRfl
namespace Go.Proofs.YtpiiklfnakkdiaaGreat
/- THE CELL 'sum', in the pinned program and in every row, IS THE sha256 OF THE DUMP (.gsa) THAT YtpiiklfnakkdiaaGreatProg.lean LOADS. Nothing in Lean hashes anything: it is a label: what it is worth is what the hold of that sum in a sandbox is worth. -/
noncomputable def Tryz.pinned : Pinned := { name := "ytpiiklfnakkdiaagreat", sum := "46aee33c15fd5a06633da3e726c7601756aa7a947f820e3287eaae1f5887ab44", checked := Tryz.checked }
namespace Rows
def none {H : Type} : Left H := { results := [], args := [] }

/-- 'turnkeylaw25.IdealNone': WHATEVER THE INPUT: true; the input reads as it did. -/
def idealNoneSpec : ChangeSpec := { name := "idealNone", fn := fun _ => fun
  | [d] => { results := [.lit (.bool true)], args := [d] }
  | _ => none }
def idealNoneRow : OpenClaim := { program := "ytpiiklfnakkdiaagreat", sum := "46aee33c15fd5a06633da3e726c7601756aa7a947f820e3287eaae1f5887ab44", func := "turnkey/turnkeylaw25.IdealNone", spec := "idealNone", unfollowed := true, recurses := true, apart := false }
def IdealNoneSaid : Prop := idealNoneRow.holds Tryz.pinned (OpenSpec.ofChange idealNoneSpec)

/-- ITS FALSE NEIGHBOUR: 'it returns false'. Refute it at one input. -/
def idealNoneWrong : ChangeSpec := { name := "idealNone", fn := fun _ => fun
  | [d] => { results := [.lit (.bool false)], args := [d] }
  | _ => none }
def IdealNoneWrongFalsely : Prop := idealNoneRow.holds Tryz.pinned (OpenSpec.ofChange idealNoneWrong)

/-- 'turnkeylaw25.IdealPieces': WHATEVER THE INPUT: true; the input reads as it did. -/
def idealPiecesSpec : ChangeSpec := { name := "idealPieces", fn := fun _ => fun
  | [d1, d2, d3, d4, d5, d6, d7] => { results := [.lit (.bool true)], args := [d1, d2, d3, d4, d5, d6, d7] }
  | _ => none }
def idealPiecesRow : OpenClaim := { program := "ytpiiklfnakkdiaagreat", sum := "46aee33c15fd5a06633da3e726c7601756aa7a947f820e3287eaae1f5887ab44", func := "turnkey/turnkeylaw25.IdealPieces", spec := "idealPieces", unfollowed := true, recurses := true, apart := false }
def IdealPiecesSaid : Prop := idealPiecesRow.holds Tryz.pinned (OpenSpec.ofChange idealPiecesSpec)

/-- ITS FALSE NEIGHBOUR: 'it returns false'. Refute it at one input. -/
def idealPiecesWrong : ChangeSpec := { name := "idealPieces", fn := fun _ => fun
  | [d1, d2, d3, d4, d5, d6, d7] => { results := [.lit (.bool false)], args := [d1, d2, d3, d4, d5, d6, d7] }
  | _ => none }
def IdealPiecesWrongFalsely : Prop := idealPiecesRow.holds Tryz.pinned (OpenSpec.ofChange idealPiecesWrong)

/-- 'turnkeylaw25.IdealDerives': WHATEVER THE INPUT: true; the input reads as it did. -/
def idealDerivesSpec : ChangeSpec := { name := "idealDerives", fn := fun _ => fun
  | [d1, d2, d3, d4, d5, d6] => { results := [.lit (.bool true)], args := [d1, d2, d3, d4, d5, d6] }
  | _ => none }
def idealDerivesRow : OpenClaim := { program := "ytpiiklfnakkdiaagreat", sum := "46aee33c15fd5a06633da3e726c7601756aa7a947f820e3287eaae1f5887ab44", func := "turnkey/turnkeylaw25.IdealDerives", spec := "idealDerives", unfollowed := true, recurses := true, apart := false }
def IdealDerivesSaid : Prop := idealDerivesRow.holds Tryz.pinned (OpenSpec.ofChange idealDerivesSpec)

/-- ITS FALSE NEIGHBOUR: 'it returns false'. Refute it at one input. -/
def idealDerivesWrong : ChangeSpec := { name := "idealDerives", fn := fun _ => fun
  | [d1, d2, d3, d4, d5, d6] => { results := [.lit (.bool false)], args := [d1, d2, d3, d4, d5, d6] }
  | _ => none }
def IdealDerivesWrongFalsely : Prop := idealDerivesRow.holds Tryz.pinned (OpenSpec.ofChange idealDerivesWrong)

/-- 'turnkeylaw25.IdealRefuses': WHATEVER THE INPUT: true; the input reads as it did. -/
def idealRefusesSpec : ChangeSpec := { name := "idealRefuses", fn := fun _ => fun
  | [d] => { results := [.lit (.bool true)], args := [d] }
  | _ => none }
def idealRefusesRow : OpenClaim := { program := "ytpiiklfnakkdiaagreat", sum := "46aee33c15fd5a06633da3e726c7601756aa7a947f820e3287eaae1f5887ab44", func := "turnkey/turnkeylaw25.IdealRefuses", spec := "idealRefuses", unfollowed := true, recurses := true, apart := false }
def IdealRefusesSaid : Prop := idealRefusesRow.holds Tryz.pinned (OpenSpec.ofChange idealRefusesSpec)

/-- ITS FALSE NEIGHBOUR: 'it returns false'. Refute it at one input. -/
def idealRefusesWrong : ChangeSpec := { name := "idealRefuses", fn := fun _ => fun
  | [d] => { results := [.lit (.bool false)], args := [d] }
  | _ => none }
def IdealRefusesWrongFalsely : Prop := idealRefusesRow.holds Tryz.pinned (OpenSpec.ofChange idealRefusesWrong)

/-- 'turnkeylaw25.IdealKnown': WHATEVER THE INPUT: true; the input reads as it did. -/
def idealKnownSpec : ChangeSpec := { name := "idealKnown", fn := fun _ => fun
  | [] => { results := [.lit (.bool true)], args := [] }
  | _ => none }
def idealKnownRow : OpenClaim := { program := "ytpiiklfnakkdiaagreat", sum := "46aee33c15fd5a06633da3e726c7601756aa7a947f820e3287eaae1f5887ab44", func := "turnkey/turnkeylaw25.IdealKnown", spec := "idealKnown", unfollowed := true, recurses := true, apart := false }
def IdealKnownSaid : Prop := idealKnownRow.holds Tryz.pinned (OpenSpec.ofChange idealKnownSpec)

/-- ITS FALSE NEIGHBOUR: 'it returns false'. Refute it at one input. -/
def idealKnownWrong : ChangeSpec := { name := "idealKnown", fn := fun _ => fun
  | [] => { results := [.lit (.bool false)], args := [] }
  | _ => none }
def IdealKnownWrongFalsely : Prop := idealKnownRow.holds Tryz.pinned (OpenSpec.ofChange idealKnownWrong)

/- THE SECOND FORM. 'bulk': how many values and letters a reading holds, each counted each time it is reached (what is shared counts as often as it is met; a slice's spare places count too). A statement '..UptoSaid' is the law's where the arguments, and the package variables that the reading takes, are together of bulk at most 1048576: NARROWER than '..Said'. Prove '..Said' where nothing that the law and all that it calls make is longer than what came in: it says more and counts as full. Else prove '..UptoSaid'. A law counts once. -/
mutual
def uptoBulk {H : Type} : DataW H → Nat
  | .lit (.string bytes) => bytes.length + 1
  | .lit _ => 1
  | .nil => 1
  | .ptr d => uptoBulk d + 1
  | .slice elems spare => uptoBulkAll elems + uptoBulkAll spare + 1
  | .agg parts => uptoBulkAll parts + 1
  | .iface _ d => uptoBulk d + 1
  | .map entries => uptoBulkEntries entries + 1
  | .held _ => 1
def uptoBulkAll {H : Type} : List (DataW H) → Nat
  | [] => 0
  | d :: r => uptoBulk d + uptoBulkAll r
def uptoBulkEntries {H : Type} : List (Lit × DataW H) → Nat
  | [] => 0
  | x :: r => uptoBulkEntry x + uptoBulkEntries r
def uptoBulkEntry {H : Type} : Lit × DataW H → Nat
  | (.string bytes, d) => bytes.length + uptoBulk d + 1
  | (_, d) => uptoBulk d + 1
 end
def uptoSmall : (H : Type) → List (DataW H) → Bool := fun _ ds => decide (uptoBulkAll ds ≤ 1048576)
def OpenSpec.upto (s : _root_.Go.ChangeSpec) : _root_.Go.OpenSpec := { _root_.Go.OpenSpec.ofChange s with cond := some uptoSmall }

/-- 'turnkeylaw25.IdealNone', WHERE WHAT IT READS IS OF BULK AT MOST 1048576: true; the input reads as it did. -/
def idealNoneUptoRow : OpenClaim := { program := "ytpiiklfnakkdiaagreat", sum := "46aee33c15fd5a06633da3e726c7601756aa7a947f820e3287eaae1f5887ab44", func := "turnkey/turnkeylaw25.IdealNone", spec := "idealNone", unfollowed := true, recurses := true, apart := false, narrowed := true }
def IdealNoneUptoSaid : Prop := idealNoneUptoRow.holds Tryz.pinned (OpenSpec.upto idealNoneSpec)

/-- 'turnkeylaw25.IdealPieces', WHERE WHAT IT READS IS OF BULK AT MOST 1048576: true; the input reads as it did. -/
def idealPiecesUptoRow : OpenClaim := { program := "ytpiiklfnakkdiaagreat", sum := "46aee33c15fd5a06633da3e726c7601756aa7a947f820e3287eaae1f5887ab44", func := "turnkey/turnkeylaw25.IdealPieces", spec := "idealPieces", unfollowed := true, recurses := true, apart := false, narrowed := true }
def IdealPiecesUptoSaid : Prop := idealPiecesUptoRow.holds Tryz.pinned (OpenSpec.upto idealPiecesSpec)

/-- 'turnkeylaw25.IdealDerives', WHERE WHAT IT READS IS OF BULK AT MOST 1048576: true; the input reads as it did. -/
def idealDerivesUptoRow : OpenClaim := { program := "ytpiiklfnakkdiaagreat", sum := "46aee33c15fd5a06633da3e726c7601756aa7a947f820e3287eaae1f5887ab44", func := "turnkey/turnkeylaw25.IdealDerives", spec := "idealDerives", unfollowed := true, recurses := true, apart := false, narrowed := true }
def IdealDerivesUptoSaid : Prop := idealDerivesUptoRow.holds Tryz.pinned (OpenSpec.upto idealDerivesSpec)

/-- 'turnkeylaw25.IdealRefuses', WHERE WHAT IT READS IS OF BULK AT MOST 1048576: true; the input reads as it did. -/
def idealRefusesUptoRow : OpenClaim := { program := "ytpiiklfnakkdiaagreat", sum := "46aee33c15fd5a06633da3e726c7601756aa7a947f820e3287eaae1f5887ab44", func := "turnkey/turnkeylaw25.IdealRefuses", spec := "idealRefuses", unfollowed := true, recurses := true, apart := false, narrowed := true }
def IdealRefusesUptoSaid : Prop := idealRefusesUptoRow.holds Tryz.pinned (OpenSpec.upto idealRefusesSpec)

/-- 'turnkeylaw25.IdealKnown', WHERE WHAT IT READS IS OF BULK AT MOST 1048576: true; the input reads as it did. -/
def idealKnownUptoRow : OpenClaim := { program := "ytpiiklfnakkdiaagreat", sum := "46aee33c15fd5a06633da3e726c7601756aa7a947f820e3287eaae1f5887ab44", func := "turnkey/turnkeylaw25.IdealKnown", spec := "idealKnown", unfollowed := true, recurses := true, apart := false, narrowed := true }
def IdealKnownUptoSaid : Prop := idealKnownUptoRow.holds Tryz.pinned (OpenSpec.upto idealKnownSpec)

end Rows
end Go.Proofs.YtpiiklfnakkdiaaGreat
