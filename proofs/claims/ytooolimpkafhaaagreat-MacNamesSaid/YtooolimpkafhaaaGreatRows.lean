/-
  No cell of these rows narrows 'for every input' (looked for: loops, veiled, ifaces, maps, wideKeys, modest, calm, conditions, laid).
  DERIVED. THE GIVEN ROWS OF THIS SEAT. 6 by the template 'for every input the law returns true; each argument reads behind the call as it read before'; 0 by the template 'total and deterministic' (their statements: YtooolimpkafhaaaGreatTotals.lean).
  GIVEN WITH THE SEED: the statements are not yours to turn. If you find one false, say at which input.
  Laid BY PROGRAM, IN A SANDBOX (cutbox-rows.mjs): the forced cells as the released guide's own fill.sh prints them over the translation 10e92756c3e30fb5… (all of the seat's roots in one cut). By AI agents, Wed Nov 11 2026. No macro, syntax, notation, axiom, sorry.
-/
import Derived.Test.YtooolimpkafhaaaGreatChecked
import GoSem.Claim
import GoSem.ClaimJoined
import GoSem.ClaimMapViews
import Derived.JoinedTies
import Derived.KernelRfl
namespace Go.Proofs.YtooolimpkafhaaaGreat
/- THE CELL 'sum', in the pinned program and in every row, IS THE sha256 OF THE DUMP (.gsa) THAT YtooolimpkafhaaaGreatProg.lean LOADS. Nothing in Lean hashes anything: it is a label: what it is worth is what the hold of that sum in a sandbox is worth. -/
noncomputable def Tryz.pinned : Pinned := { name := "ytooolimpkafhaaagreat", sum := "10e92756c3e30fb509b3129f94e3eae35df77a562477e762d5ff4f40212d13c8", checked := Tryz.checked }
namespace Rows
def none {H : Type} : Left H := { results := [], args := [] }

/-- 'turnkeylaw17.MacBegins': WHATEVER THE INPUT: true; the input reads as it did. -/
def macBeginsSpec : ChangeSpec := { name := "macBegins", fn := fun _ => fun
  | [d] => { results := [.lit (.bool true)], args := [d] }
  | _ => none }
def macBeginsRow : OpenClaim := { program := "ytooolimpkafhaaagreat", sum := "10e92756c3e30fb509b3129f94e3eae35df77a562477e762d5ff4f40212d13c8", func := "turnkey/turnkeylaw17.MacBegins", spec := "macBegins", unfollowed := true, recurses := true, apart := false }
def MacBeginsSaid : Prop := macBeginsRow.holds Tryz.pinned (OpenSpec.ofChange macBeginsSpec)

/-- ITS FALSE NEIGHBOUR: 'it returns false'. Refute it at one input. -/
def macBeginsWrong : ChangeSpec := { name := "macBegins", fn := fun _ => fun
  | [d] => { results := [.lit (.bool false)], args := [d] }
  | _ => none }
def MacBeginsWrongFalsely : Prop := macBeginsRow.holds Tryz.pinned (OpenSpec.ofChange macBeginsWrong)

/-- 'turnkeylaw17.MacNames': WHATEVER THE INPUT: true; the input reads as it did. -/
def macNamesSpec : ChangeSpec := { name := "macNames", fn := fun _ => fun
  | [] => { results := [.lit (.bool true)], args := [] }
  | _ => none }
def macNamesRow : OpenClaim := { program := "ytooolimpkafhaaagreat", sum := "10e92756c3e30fb509b3129f94e3eae35df77a562477e762d5ff4f40212d13c8", func := "turnkey/turnkeylaw17.MacNames", spec := "macNames", unfollowed := true, recurses := true, apart := false }
def MacNamesSaid : Prop := macNamesRow.holds Tryz.pinned (OpenSpec.ofChange macNamesSpec)

/-- ITS FALSE NEIGHBOUR: 'it returns false'. Refute it at one input. -/
def macNamesWrong : ChangeSpec := { name := "macNames", fn := fun _ => fun
  | [] => { results := [.lit (.bool false)], args := [] }
  | _ => none }
def MacNamesWrongFalsely : Prop := macNamesRow.holds Tryz.pinned (OpenSpec.ofChange macNamesWrong)

/-- 'turnkeylaw17.MacLedger': WHATEVER THE INPUT: true; the input reads as it did. -/
def macLedgerSpec : ChangeSpec := { name := "macLedger", fn := fun _ => fun
  | [d1, d2, d3] => { results := [.lit (.bool true)], args := [d1, d2, d3] }
  | _ => none }
def macLedgerRow : OpenClaim := { program := "ytooolimpkafhaaagreat", sum := "10e92756c3e30fb509b3129f94e3eae35df77a562477e762d5ff4f40212d13c8", func := "turnkey/turnkeylaw17.MacLedger", spec := "macLedger", unfollowed := true, recurses := true, apart := false }
def MacLedgerSaid : Prop := macLedgerRow.holds Tryz.pinned (OpenSpec.ofChange macLedgerSpec)

/-- ITS FALSE NEIGHBOUR: 'it returns false'. Refute it at one input. -/
def macLedgerWrong : ChangeSpec := { name := "macLedger", fn := fun _ => fun
  | [d1, d2, d3] => { results := [.lit (.bool false)], args := [d1, d2, d3] }
  | _ => none }
def MacLedgerWrongFalsely : Prop := macLedgerRow.holds Tryz.pinned (OpenSpec.ofChange macLedgerWrong)

/-- 'turnkeylaw17.MacPieces': WHATEVER THE INPUT: true; the input reads as it did. -/
def macPiecesSpec : ChangeSpec := { name := "macPieces", fn := fun _ => fun
  | [d1, d2, d3] => { results := [.lit (.bool true)], args := [d1, d2, d3] }
  | _ => none }
def macPiecesRow : OpenClaim := { program := "ytooolimpkafhaaagreat", sum := "10e92756c3e30fb509b3129f94e3eae35df77a562477e762d5ff4f40212d13c8", func := "turnkey/turnkeylaw17.MacPieces", spec := "macPieces", unfollowed := true, recurses := true, apart := false }
def MacPiecesSaid : Prop := macPiecesRow.holds Tryz.pinned (OpenSpec.ofChange macPiecesSpec)

/-- ITS FALSE NEIGHBOUR: 'it returns false'. Refute it at one input. -/
def macPiecesWrong : ChangeSpec := { name := "macPieces", fn := fun _ => fun
  | [d1, d2, d3] => { results := [.lit (.bool false)], args := [d1, d2, d3] }
  | _ => none }
def MacPiecesWrongFalsely : Prop := macPiecesRow.holds Tryz.pinned (OpenSpec.ofChange macPiecesWrong)

/-- 'turnkeylaw17.MacCalls': WHATEVER THE INPUT: true; the input reads as it did. -/
def macCallsSpec : ChangeSpec := { name := "macCalls", fn := fun _ => fun
  | [d1, d2, d3] => { results := [.lit (.bool true)], args := [d1, d2, d3] }
  | _ => none }
def macCallsRow : OpenClaim := { program := "ytooolimpkafhaaagreat", sum := "10e92756c3e30fb509b3129f94e3eae35df77a562477e762d5ff4f40212d13c8", func := "turnkey/turnkeylaw17.MacCalls", spec := "macCalls", unfollowed := true, recurses := true, apart := false }
def MacCallsSaid : Prop := macCallsRow.holds Tryz.pinned (OpenSpec.ofChange macCallsSpec)

/-- ITS FALSE NEIGHBOUR: 'it returns false'. Refute it at one input. -/
def macCallsWrong : ChangeSpec := { name := "macCalls", fn := fun _ => fun
  | [d1, d2, d3] => { results := [.lit (.bool false)], args := [d1, d2, d3] }
  | _ => none }
def MacCallsWrongFalsely : Prop := macCallsRow.holds Tryz.pinned (OpenSpec.ofChange macCallsWrong)

/-- 'turnkeylaw17.MacNone': WHATEVER THE INPUT: true; the input reads as it did. -/
def macNoneSpec : ChangeSpec := { name := "macNone", fn := fun _ => fun
  | [d1, d2] => { results := [.lit (.bool true)], args := [d1, d2] }
  | _ => none }
def macNoneRow : OpenClaim := { program := "ytooolimpkafhaaagreat", sum := "10e92756c3e30fb509b3129f94e3eae35df77a562477e762d5ff4f40212d13c8", func := "turnkey/turnkeylaw17.MacNone", spec := "macNone", unfollowed := true, recurses := true, apart := false }
def MacNoneSaid : Prop := macNoneRow.holds Tryz.pinned (OpenSpec.ofChange macNoneSpec)

/-- ITS FALSE NEIGHBOUR: 'it returns false'. Refute it at one input. -/
def macNoneWrong : ChangeSpec := { name := "macNone", fn := fun _ => fun
  | [d1, d2] => { results := [.lit (.bool false)], args := [d1, d2] }
  | _ => none }
def MacNoneWrongFalsely : Prop := macNoneRow.holds Tryz.pinned (OpenSpec.ofChange macNoneWrong)

/- THE SECOND FORM. 'bulk': how many values and letters a reading holds, each counted each time it is reached (what is shared counts as often as it is met; a slice's spare places count too). A statement '..UptoSaid' is the law's where the arguments, and the package variables that the reading takes, are together of bulk at most 1048576: NARROWER than '..Said'. Prove '..Said' where nothing that the law and all that it calls make is longer than what came in: it says more and counts as full. Else prove '..UptoSaid'. A law counts once. -/
mutual
def uptoBulk {H : Type} : DataW H → Nat
  | .lit (.string bytes) => bytes.length + 1
  | .lit _ => 1
  | .nil => 1
  | .ptr d => uptoBulk d + 1
  | .slice elems spare => uptoBulkAll elems + uptoBulkAll spare + 1
  | .agg parts => uptoBulkAll parts + 1
  | .iface _ d => uptoBulk d + 1
  | .map entries => uptoBulkEntries entries + 1
  | .held _ => 1
def uptoBulkAll {H : Type} : List (DataW H) → Nat
  | [] => 0
  | d :: r => uptoBulk d + uptoBulkAll r
def uptoBulkEntries {H : Type} : List (Lit × DataW H) → Nat
  | [] => 0
  | x :: r => uptoBulkEntry x + uptoBulkEntries r
def uptoBulkEntry {H : Type} : Lit × DataW H → Nat
  | (.string bytes, d) => bytes.length + uptoBulk d + 1
  | (_, d) => uptoBulk d + 1
 end
def uptoSmall : (H : Type) → List (DataW H) → Bool := fun _ ds => decide (uptoBulkAll ds ≤ 1048576)
def OpenSpec.upto (s : _root_.Go.ChangeSpec) : _root_.Go.OpenSpec := { _root_.Go.OpenSpec.ofChange s with cond := some uptoSmall }

/-- 'turnkeylaw17.MacBegins', WHERE WHAT IT READS IS OF BULK AT MOST 1048576: true; the input reads as it did. -/
def macBeginsUptoRow : OpenClaim := { program := "ytooolimpkafhaaagreat", sum := "10e92756c3e30fb509b3129f94e3eae35df77a562477e762d5ff4f40212d13c8", func := "turnkey/turnkeylaw17.MacBegins", spec := "macBegins", unfollowed := true, recurses := true, apart := false, narrowed := true }
def MacBeginsUptoSaid : Prop := macBeginsUptoRow.holds Tryz.pinned (OpenSpec.upto macBeginsSpec)

/-- 'turnkeylaw17.MacNames', WHERE WHAT IT READS IS OF BULK AT MOST 1048576: true; the input reads as it did. -/
def macNamesUptoRow : OpenClaim := { program := "ytooolimpkafhaaagreat", sum := "10e92756c3e30fb509b3129f94e3eae35df77a562477e762d5ff4f40212d13c8", func := "turnkey/turnkeylaw17.MacNames", spec := "macNames", unfollowed := true, recurses := true, apart := false, narrowed := true }
def MacNamesUptoSaid : Prop := macNamesUptoRow.holds Tryz.pinned (OpenSpec.upto macNamesSpec)

/-- 'turnkeylaw17.MacLedger', WHERE WHAT IT READS IS OF BULK AT MOST 1048576: true; the input reads as it did. -/
def macLedgerUptoRow : OpenClaim := { program := "ytooolimpkafhaaagreat", sum := "10e92756c3e30fb509b3129f94e3eae35df77a562477e762d5ff4f40212d13c8", func := "turnkey/turnkeylaw17.MacLedger", spec := "macLedger", unfollowed := true, recurses := true, apart := false, narrowed := true }
def MacLedgerUptoSaid : Prop := macLedgerUptoRow.holds Tryz.pinned (OpenSpec.upto macLedgerSpec)

/-- 'turnkeylaw17.MacPieces', WHERE WHAT IT READS IS OF BULK AT MOST 1048576: true; the input reads as it did. -/
def macPiecesUptoRow : OpenClaim := { program := "ytooolimpkafhaaagreat", sum := "10e92756c3e30fb509b3129f94e3eae35df77a562477e762d5ff4f40212d13c8", func := "turnkey/turnkeylaw17.MacPieces", spec := "macPieces", unfollowed := true, recurses := true, apart := false, narrowed := true }
def MacPiecesUptoSaid : Prop := macPiecesUptoRow.holds Tryz.pinned (OpenSpec.upto macPiecesSpec)

/-- 'turnkeylaw17.MacCalls', WHERE WHAT IT READS IS OF BULK AT MOST 1048576: true; the input reads as it did. -/
def macCallsUptoRow : OpenClaim := { program := "ytooolimpkafhaaagreat", sum := "10e92756c3e30fb509b3129f94e3eae35df77a562477e762d5ff4f40212d13c8", func := "turnkey/turnkeylaw17.MacCalls", spec := "macCalls", unfollowed := true, recurses := true, apart := false, narrowed := true }
def MacCallsUptoSaid : Prop := macCallsUptoRow.holds Tryz.pinned (OpenSpec.upto macCallsSpec)

/-- 'turnkeylaw17.MacNone', WHERE WHAT IT READS IS OF BULK AT MOST 1048576: true; the input reads as it did. -/
def macNoneUptoRow : OpenClaim := { program := "ytooolimpkafhaaagreat", sum := "10e92756c3e30fb509b3129f94e3eae35df77a562477e762d5ff4f40212d13c8", func := "turnkey/turnkeylaw17.MacNone", spec := "macNone", unfollowed := true, recurses := true, apart := false, narrowed := true }
def MacNoneUptoSaid : Prop := macNoneUptoRow.holds Tryz.pinned (OpenSpec.upto macNoneSpec)

end Rows
end Go.Proofs.YtooolimpkafhaaaGreat
