/-
  No cell of these rows narrows 'for every input' (looked for: loops, veiled, ifaces, maps, wideKeys, modest, calm, conditions, laid).
  DERIVED. THE GIVEN ROWS OF THIS SEAT. 15 by the template 'for every input the law returns true; each argument reads behind the call as it read before'; 0 by the template 'total and deterministic' (their statements: YtmohabidfalhoaaTotals.lean).
  GIVEN WITH THE SEED: the statements are not yours to turn. If you find one false, say at which input.
  Laid BY PROGRAM, IN A SANDBOX (cutbox-rows.mjs): the forced cells as the released guide's own fill.sh prints them over the translation a349999c92ede94d… (all of the seat's roots in one cut). By AI agents, Wed Nov 11 2026. No macro, syntax, notation, axiom, sorry.
-/
import Derived.Test.YtmohabidfalhoaaChecked
import GoSem.Claim
import GoSem.ClaimJoined
import GoSem.ClaimMapViews
import Derived.JoinedTies
import Derived.KernelRfl
namespace Go.Proofs.Ytmohabidfalhoaa
/- THE CELL 'sum', in the pinned program and in every row, IS THE sha256 OF THE DUMP (.gsa) THAT YtmohabidfalhoaaProg.lean LOADS. Nothing in Lean hashes anything: it is a label: what it is worth is what the hold of that sum in a sandbox is worth. -/
noncomputable def Try.pinned : Pinned := { name := "ytmohabidfalhoaa", sum := "a349999c92ede94dd5be99b909f4836ec59fb57073ddc9540868b982fc80f9d0", checked := Try.checked }
namespace Rows
def none {H : Type} : Left H := { results := [], args := [] }

/-- 'turnkeylaw11.DigestNames': WHATEVER THE INPUT: true; the input reads as it did. -/
def digestNamesSpec : ChangeSpec := { name := "digestNames", fn := fun _ => fun
  | [] => { results := [.lit (.bool true)], args := [] }
  | _ => none }
def digestNamesRow : OpenClaim := { program := "ytmohabidfalhoaa", sum := "a349999c92ede94dd5be99b909f4836ec59fb57073ddc9540868b982fc80f9d0", func := "turnkey/turnkeylaw11.DigestNames", spec := "digestNames", unfollowed := true, recurses := true, apart := false }
def DigestNamesSaid : Prop := digestNamesRow.holds Try.pinned (OpenSpec.ofChange digestNamesSpec)

/-- ITS FALSE NEIGHBOUR: 'it returns false'. Refute it at one input. -/
def digestNamesWrong : ChangeSpec := { name := "digestNames", fn := fun _ => fun
  | [] => { results := [.lit (.bool false)], args := [] }
  | _ => none }
def DigestNamesWrongFalsely : Prop := digestNamesRow.holds Try.pinned (OpenSpec.ofChange digestNamesWrong)

/-- 'turnkeylaw11.DigestSums': WHATEVER THE INPUT: true; the input reads as it did. -/
def digestSumsSpec : ChangeSpec := { name := "digestSums", fn := fun _ => fun
  | [d1, d2] => { results := [.lit (.bool true)], args := [d1, d2] }
  | _ => none }
def digestSumsRow : OpenClaim := { program := "ytmohabidfalhoaa", sum := "a349999c92ede94dd5be99b909f4836ec59fb57073ddc9540868b982fc80f9d0", func := "turnkey/turnkeylaw11.DigestSums", spec := "digestSums", unfollowed := true, recurses := true, apart := false }
def DigestSumsSaid : Prop := digestSumsRow.holds Try.pinned (OpenSpec.ofChange digestSumsSpec)

/-- ITS FALSE NEIGHBOUR: 'it returns false'. Refute it at one input. -/
def digestSumsWrong : ChangeSpec := { name := "digestSums", fn := fun _ => fun
  | [d1, d2] => { results := [.lit (.bool false)], args := [d1, d2] }
  | _ => none }
def DigestSumsWrongFalsely : Prop := digestSumsRow.holds Try.pinned (OpenSpec.ofChange digestSumsWrong)

/-- 'turnkeylaw11.DigestPieces': WHATEVER THE INPUT: true; the input reads as it did. -/
def digestPiecesSpec : ChangeSpec := { name := "digestPieces", fn := fun _ => fun
  | [d1, d2, d3] => { results := [.lit (.bool true)], args := [d1, d2, d3] }
  | _ => none }
def digestPiecesRow : OpenClaim := { program := "ytmohabidfalhoaa", sum := "a349999c92ede94dd5be99b909f4836ec59fb57073ddc9540868b982fc80f9d0", func := "turnkey/turnkeylaw11.DigestPieces", spec := "digestPieces", unfollowed := true, recurses := true, apart := false }
def DigestPiecesSaid : Prop := digestPiecesRow.holds Try.pinned (OpenSpec.ofChange digestPiecesSpec)

/-- ITS FALSE NEIGHBOUR: 'it returns false'. Refute it at one input. -/
def digestPiecesWrong : ChangeSpec := { name := "digestPieces", fn := fun _ => fun
  | [d1, d2, d3] => { results := [.lit (.bool false)], args := [d1, d2, d3] }
  | _ => none }
def DigestPiecesWrongFalsely : Prop := digestPiecesRow.holds Try.pinned (OpenSpec.ofChange digestPiecesWrong)

/-- 'turnkeylaw12.HmacTags': WHATEVER THE INPUT: true; the input reads as it did. -/
def hmacTagsSpec : ChangeSpec := { name := "hmacTags", fn := fun _ => fun
  | [d1, d2, d3] => { results := [.lit (.bool true)], args := [d1, d2, d3] }
  | _ => none }
def hmacTagsRow : OpenClaim := { program := "ytmohabidfalhoaa", sum := "a349999c92ede94dd5be99b909f4836ec59fb57073ddc9540868b982fc80f9d0", func := "turnkey/turnkeylaw12.HmacTags", spec := "hmacTags", unfollowed := true, recurses := true, apart := false }
def HmacTagsSaid : Prop := hmacTagsRow.holds Try.pinned (OpenSpec.ofChange hmacTagsSpec)

/-- ITS FALSE NEIGHBOUR: 'it returns false'. Refute it at one input. -/
def hmacTagsWrong : ChangeSpec := { name := "hmacTags", fn := fun _ => fun
  | [d1, d2, d3] => { results := [.lit (.bool false)], args := [d1, d2, d3] }
  | _ => none }
def HmacTagsWrongFalsely : Prop := hmacTagsRow.holds Try.pinned (OpenSpec.ofChange hmacTagsWrong)

/-- 'turnkeylaw12.HmacInside': WHATEVER THE INPUT: true; the input reads as it did. -/
def hmacInsideSpec : ChangeSpec := { name := "hmacInside", fn := fun _ => fun
  | [d1, d2, d3] => { results := [.lit (.bool true)], args := [d1, d2, d3] }
  | _ => none }
def hmacInsideRow : OpenClaim := { program := "ytmohabidfalhoaa", sum := "a349999c92ede94dd5be99b909f4836ec59fb57073ddc9540868b982fc80f9d0", func := "turnkey/turnkeylaw12.HmacInside", spec := "hmacInside", unfollowed := true, recurses := true, apart := false }
def HmacInsideSaid : Prop := hmacInsideRow.holds Try.pinned (OpenSpec.ofChange hmacInsideSpec)

/-- ITS FALSE NEIGHBOUR: 'it returns false'. Refute it at one input. -/
def hmacInsideWrong : ChangeSpec := { name := "hmacInside", fn := fun _ => fun
  | [d1, d2, d3] => { results := [.lit (.bool false)], args := [d1, d2, d3] }
  | _ => none }
def HmacInsideWrongFalsely : Prop := hmacInsideRow.holds Try.pinned (OpenSpec.ofChange hmacInsideWrong)

/-- 'turnkeylaw11.DigestWiped': WHATEVER THE INPUT: true; the input reads as it did. -/
def digestWipedSpec : ChangeSpec := { name := "digestWiped", fn := fun _ => fun
  | [d1, d2] => { results := [.lit (.bool true)], args := [d1, d2] }
  | _ => none }
def digestWipedRow : OpenClaim := { program := "ytmohabidfalhoaa", sum := "a349999c92ede94dd5be99b909f4836ec59fb57073ddc9540868b982fc80f9d0", func := "turnkey/turnkeylaw11.DigestWiped", spec := "digestWiped", unfollowed := true, recurses := true, apart := false }
def DigestWipedSaid : Prop := digestWipedRow.holds Try.pinned (OpenSpec.ofChange digestWipedSpec)

/-- ITS FALSE NEIGHBOUR: 'it returns false'. Refute it at one input. -/
def digestWipedWrong : ChangeSpec := { name := "digestWiped", fn := fun _ => fun
  | [d1, d2] => { results := [.lit (.bool false)], args := [d1, d2] }
  | _ => none }
def DigestWipedWrongFalsely : Prop := digestWipedRow.holds Try.pinned (OpenSpec.ofChange digestWipedWrong)

/-- 'turnkeylaw12.HmacNames': WHATEVER THE INPUT: true; the input reads as it did. -/
def hmacNamesSpec : ChangeSpec := { name := "hmacNames", fn := fun _ => fun
  | [] => { results := [.lit (.bool true)], args := [] }
  | _ => none }
def hmacNamesRow : OpenClaim := { program := "ytmohabidfalhoaa", sum := "a349999c92ede94dd5be99b909f4836ec59fb57073ddc9540868b982fc80f9d0", func := "turnkey/turnkeylaw12.HmacNames", spec := "hmacNames", unfollowed := true, recurses := true, apart := false }
def HmacNamesSaid : Prop := hmacNamesRow.holds Try.pinned (OpenSpec.ofChange hmacNamesSpec)

/-- ITS FALSE NEIGHBOUR: 'it returns false'. Refute it at one input. -/
def hmacNamesWrong : ChangeSpec := { name := "hmacNames", fn := fun _ => fun
  | [] => { results := [.lit (.bool false)], args := [] }
  | _ => none }
def HmacNamesWrongFalsely : Prop := hmacNamesRow.holds Try.pinned (OpenSpec.ofChange hmacNamesWrong)

/-- 'turnkeylaw12.HmacPieces': WHATEVER THE INPUT: true; the input reads as it did. -/
def hmacPiecesSpec : ChangeSpec := { name := "hmacPieces", fn := fun _ => fun
  | [d1, d2, d3, d4, d5] => { results := [.lit (.bool true)], args := [d1, d2, d3, d4, d5] }
  | _ => none }
def hmacPiecesRow : OpenClaim := { program := "ytmohabidfalhoaa", sum := "a349999c92ede94dd5be99b909f4836ec59fb57073ddc9540868b982fc80f9d0", func := "turnkey/turnkeylaw12.HmacPieces", spec := "hmacPieces", unfollowed := true, recurses := true, apart := false }
def HmacPiecesSaid : Prop := hmacPiecesRow.holds Try.pinned (OpenSpec.ofChange hmacPiecesSpec)

/-- ITS FALSE NEIGHBOUR: 'it returns false'. Refute it at one input. -/
def hmacPiecesWrong : ChangeSpec := { name := "hmacPieces", fn := fun _ => fun
  | [d1, d2, d3, d4, d5] => { results := [.lit (.bool false)], args := [d1, d2, d3, d4, d5] }
  | _ => none }
def HmacPiecesWrongFalsely : Prop := hmacPiecesRow.holds Try.pinned (OpenSpec.ofChange hmacPiecesWrong)

/-- 'turnkeylaw15.HkdfSteps': WHATEVER THE INPUT: true; the input reads as it did. -/
def hkdfStepsSpec : ChangeSpec := { name := "hkdfSteps", fn := fun _ => fun
  | [d1, d2, d3, d4, d5, d6] => { results := [.lit (.bool true)], args := [d1, d2, d3, d4, d5, d6] }
  | _ => none }
def hkdfStepsRow : OpenClaim := { program := "ytmohabidfalhoaa", sum := "a349999c92ede94dd5be99b909f4836ec59fb57073ddc9540868b982fc80f9d0", func := "turnkey/turnkeylaw15.HkdfSteps", spec := "hkdfSteps", unfollowed := true, recurses := true, apart := false }
def HkdfStepsSaid : Prop := hkdfStepsRow.holds Try.pinned (OpenSpec.ofChange hkdfStepsSpec)

/-- ITS FALSE NEIGHBOUR: 'it returns false'. Refute it at one input. -/
def hkdfStepsWrong : ChangeSpec := { name := "hkdfSteps", fn := fun _ => fun
  | [d1, d2, d3, d4, d5, d6] => { results := [.lit (.bool false)], args := [d1, d2, d3, d4, d5, d6] }
  | _ => none }
def HkdfStepsWrongFalsely : Prop := hkdfStepsRow.holds Try.pinned (OpenSpec.ofChange hkdfStepsWrong)

/-- 'turnkeylaw16.Pbkdf2Joins': WHATEVER THE INPUT: true; the input reads as it did. -/
def pbkdf2JoinsSpec : ChangeSpec := { name := "pbkdf2Joins", fn := fun _ => fun
  | [d1, d2, d3, d4, d5, d6] => { results := [.lit (.bool true)], args := [d1, d2, d3, d4, d5, d6] }
  | _ => none }
def pbkdf2JoinsRow : OpenClaim := { program := "ytmohabidfalhoaa", sum := "a349999c92ede94dd5be99b909f4836ec59fb57073ddc9540868b982fc80f9d0", func := "turnkey/turnkeylaw16.Pbkdf2Joins", spec := "pbkdf2Joins", unfollowed := true, recurses := true, apart := false }
def Pbkdf2JoinsSaid : Prop := pbkdf2JoinsRow.holds Try.pinned (OpenSpec.ofChange pbkdf2JoinsSpec)

/-- ITS FALSE NEIGHBOUR: 'it returns false'. Refute it at one input. -/
def pbkdf2JoinsWrong : ChangeSpec := { name := "pbkdf2Joins", fn := fun _ => fun
  | [d1, d2, d3, d4, d5, d6] => { results := [.lit (.bool false)], args := [d1, d2, d3, d4, d5, d6] }
  | _ => none }
def Pbkdf2JoinsWrongFalsely : Prop := pbkdf2JoinsRow.holds Try.pinned (OpenSpec.ofChange pbkdf2JoinsWrong)

/-- 'turnkeylaw16.Pbkdf2Hides': WHATEVER THE INPUT: true; the input reads as it did. -/
def pbkdf2HidesSpec : ChangeSpec := { name := "pbkdf2Hides", fn := fun _ => fun
  | [d1, d2, d3, d4, d5, d6] => { results := [.lit (.bool true)], args := [d1, d2, d3, d4, d5, d6] }
  | _ => none }
def pbkdf2HidesRow : OpenClaim := { program := "ytmohabidfalhoaa", sum := "a349999c92ede94dd5be99b909f4836ec59fb57073ddc9540868b982fc80f9d0", func := "turnkey/turnkeylaw16.Pbkdf2Hides", spec := "pbkdf2Hides", unfollowed := true, recurses := true, apart := false }
def Pbkdf2HidesSaid : Prop := pbkdf2HidesRow.holds Try.pinned (OpenSpec.ofChange pbkdf2HidesSpec)

/-- ITS FALSE NEIGHBOUR: 'it returns false'. Refute it at one input. -/
def pbkdf2HidesWrong : ChangeSpec := { name := "pbkdf2Hides", fn := fun _ => fun
  | [d1, d2, d3, d4, d5, d6] => { results := [.lit (.bool false)], args := [d1, d2, d3, d4, d5, d6] }
  | _ => none }
def Pbkdf2HidesWrongFalsely : Prop := pbkdf2HidesRow.holds Try.pinned (OpenSpec.ofChange pbkdf2HidesWrong)

/-- 'turnkeylaw15.HkdfPublic': WHATEVER THE INPUT: true; the input reads as it did. -/
def hkdfPublicSpec : ChangeSpec := { name := "hkdfPublic", fn := fun _ => fun
  | [d1, d2, d3, d4, d5, d6, d7] => { results := [.lit (.bool true)], args := [d1, d2, d3, d4, d5, d6, d7] }
  | _ => none }
def hkdfPublicRow : OpenClaim := { program := "ytmohabidfalhoaa", sum := "a349999c92ede94dd5be99b909f4836ec59fb57073ddc9540868b982fc80f9d0", func := "turnkey/turnkeylaw15.HkdfPublic", spec := "hkdfPublic", unfollowed := true, recurses := true, apart := false }
def HkdfPublicSaid : Prop := hkdfPublicRow.holds Try.pinned (OpenSpec.ofChange hkdfPublicSpec)

/-- ITS FALSE NEIGHBOUR: 'it returns false'. Refute it at one input. -/
def hkdfPublicWrong : ChangeSpec := { name := "hkdfPublic", fn := fun _ => fun
  | [d1, d2, d3, d4, d5, d6, d7] => { results := [.lit (.bool false)], args := [d1, d2, d3, d4, d5, d6, d7] }
  | _ => none }
def HkdfPublicWrongFalsely : Prop := hkdfPublicRow.holds Try.pinned (OpenSpec.ofChange hkdfPublicWrong)

/-- 'turnkeylaw16.Pbkdf2Means': WHATEVER THE INPUT: true; the input reads as it did. -/
def pbkdf2MeansSpec : ChangeSpec := { name := "pbkdf2Means", fn := fun _ => fun
  | [d1, d2, d3, d4, d5] => { results := [.lit (.bool true)], args := [d1, d2, d3, d4, d5] }
  | _ => none }
def pbkdf2MeansRow : OpenClaim := { program := "ytmohabidfalhoaa", sum := "a349999c92ede94dd5be99b909f4836ec59fb57073ddc9540868b982fc80f9d0", func := "turnkey/turnkeylaw16.Pbkdf2Means", spec := "pbkdf2Means", unfollowed := true, recurses := true, apart := false }
def Pbkdf2MeansSaid : Prop := pbkdf2MeansRow.holds Try.pinned (OpenSpec.ofChange pbkdf2MeansSpec)

/-- ITS FALSE NEIGHBOUR: 'it returns false'. Refute it at one input. -/
def pbkdf2MeansWrong : ChangeSpec := { name := "pbkdf2Means", fn := fun _ => fun
  | [d1, d2, d3, d4, d5] => { results := [.lit (.bool false)], args := [d1, d2, d3, d4, d5] }
  | _ => none }
def Pbkdf2MeansWrongFalsely : Prop := pbkdf2MeansRow.holds Try.pinned (OpenSpec.ofChange pbkdf2MeansWrong)

/-- 'turnkeylaw15.HkdfNames': WHATEVER THE INPUT: true; the input reads as it did. -/
def hkdfNamesSpec : ChangeSpec := { name := "hkdfNames", fn := fun _ => fun
  | [] => { results := [.lit (.bool true)], args := [] }
  | _ => none }
def hkdfNamesRow : OpenClaim := { program := "ytmohabidfalhoaa", sum := "a349999c92ede94dd5be99b909f4836ec59fb57073ddc9540868b982fc80f9d0", func := "turnkey/turnkeylaw15.HkdfNames", spec := "hkdfNames", unfollowed := true, recurses := true, apart := false }
def HkdfNamesSaid : Prop := hkdfNamesRow.holds Try.pinned (OpenSpec.ofChange hkdfNamesSpec)

/-- ITS FALSE NEIGHBOUR: 'it returns false'. Refute it at one input. -/
def hkdfNamesWrong : ChangeSpec := { name := "hkdfNames", fn := fun _ => fun
  | [] => { results := [.lit (.bool false)], args := [] }
  | _ => none }
def HkdfNamesWrongFalsely : Prop := hkdfNamesRow.holds Try.pinned (OpenSpec.ofChange hkdfNamesWrong)

/-- 'turnkeylaw16.Pbkdf2Known': WHATEVER THE INPUT: true; the input reads as it did. -/
def pbkdf2KnownSpec : ChangeSpec := { name := "pbkdf2Known", fn := fun _ => fun
  | [] => { results := [.lit (.bool true)], args := [] }
  | _ => none }
def pbkdf2KnownRow : OpenClaim := { program := "ytmohabidfalhoaa", sum := "a349999c92ede94dd5be99b909f4836ec59fb57073ddc9540868b982fc80f9d0", func := "turnkey/turnkeylaw16.Pbkdf2Known", spec := "pbkdf2Known", unfollowed := true, recurses := true, apart := false }
def Pbkdf2KnownSaid : Prop := pbkdf2KnownRow.holds Try.pinned (OpenSpec.ofChange pbkdf2KnownSpec)

/-- ITS FALSE NEIGHBOUR: 'it returns false'. Refute it at one input. -/
def pbkdf2KnownWrong : ChangeSpec := { name := "pbkdf2Known", fn := fun _ => fun
  | [] => { results := [.lit (.bool false)], args := [] }
  | _ => none }
def Pbkdf2KnownWrongFalsely : Prop := pbkdf2KnownRow.holds Try.pinned (OpenSpec.ofChange pbkdf2KnownWrong)

/- THE SECOND FORM. 'bulk': how many values and letters a reading holds, each counted each time it is reached (what is shared counts as often as it is met; a slice's spare places count too). A statement '..UptoSaid' is the law's where the arguments, and the package variables that the reading takes, are together of bulk at most 1048576: NARROWER than '..Said'. Prove '..Said' where nothing that the law and all that it calls make is longer than what came in: it says more and counts as full. Else prove '..UptoSaid'. A law counts once. -/
mutual
def uptoBulk {H : Type} : DataW H → Nat
  | .lit (.string bytes) => bytes.length + 1
  | .lit _ => 1
  | .nil => 1
  | .ptr d => uptoBulk d + 1
  | .slice elems spare => uptoBulkAll elems + uptoBulkAll spare + 1
  | .agg parts => uptoBulkAll parts + 1
  | .iface _ d => uptoBulk d + 1
  | .map entries => uptoBulkEntries entries + 1
  | .held _ => 1
def uptoBulkAll {H : Type} : List (DataW H) → Nat
  | [] => 0
  | d :: r => uptoBulk d + uptoBulkAll r
def uptoBulkEntries {H : Type} : List (Lit × DataW H) → Nat
  | [] => 0
  | x :: r => uptoBulkEntry x + uptoBulkEntries r
def uptoBulkEntry {H : Type} : Lit × DataW H → Nat
  | (.string bytes, d) => bytes.length + uptoBulk d + 1
  | (_, d) => uptoBulk d + 1
 end
def uptoSmall : (H : Type) → List (DataW H) → Bool := fun _ ds => decide (uptoBulkAll ds ≤ 1048576)
def OpenSpec.upto (s : _root_.Go.ChangeSpec) : _root_.Go.OpenSpec := { _root_.Go.OpenSpec.ofChange s with cond := some uptoSmall }

/-- 'turnkeylaw11.DigestNames', WHERE WHAT IT READS IS OF BULK AT MOST 1048576: true; the input reads as it did. -/
def digestNamesUptoRow : OpenClaim := { program := "ytmohabidfalhoaa", sum := "a349999c92ede94dd5be99b909f4836ec59fb57073ddc9540868b982fc80f9d0", func := "turnkey/turnkeylaw11.DigestNames", spec := "digestNames", unfollowed := true, recurses := true, apart := false, narrowed := true }
def DigestNamesUptoSaid : Prop := digestNamesUptoRow.holds Try.pinned (OpenSpec.upto digestNamesSpec)

/-- 'turnkeylaw11.DigestSums', WHERE WHAT IT READS IS OF BULK AT MOST 1048576: true; the input reads as it did. -/
def digestSumsUptoRow : OpenClaim := { program := "ytmohabidfalhoaa", sum := "a349999c92ede94dd5be99b909f4836ec59fb57073ddc9540868b982fc80f9d0", func := "turnkey/turnkeylaw11.DigestSums", spec := "digestSums", unfollowed := true, recurses := true, apart := false, narrowed := true }
def DigestSumsUptoSaid : Prop := digestSumsUptoRow.holds Try.pinned (OpenSpec.upto digestSumsSpec)

/-- 'turnkeylaw11.DigestPieces', WHERE WHAT IT READS IS OF BULK AT MOST 1048576: true; the input reads as it did. -/
def digestPiecesUptoRow : OpenClaim := { program := "ytmohabidfalhoaa", sum := "a349999c92ede94dd5be99b909f4836ec59fb57073ddc9540868b982fc80f9d0", func := "turnkey/turnkeylaw11.DigestPieces", spec := "digestPieces", unfollowed := true, recurses := true, apart := false, narrowed := true }
def DigestPiecesUptoSaid : Prop := digestPiecesUptoRow.holds Try.pinned (OpenSpec.upto digestPiecesSpec)

/-- 'turnkeylaw12.HmacTags', WHERE WHAT IT READS IS OF BULK AT MOST 1048576: true; the input reads as it did. -/
def hmacTagsUptoRow : OpenClaim := { program := "ytmohabidfalhoaa", sum := "a349999c92ede94dd5be99b909f4836ec59fb57073ddc9540868b982fc80f9d0", func := "turnkey/turnkeylaw12.HmacTags", spec := "hmacTags", unfollowed := true, recurses := true, apart := false, narrowed := true }
def HmacTagsUptoSaid : Prop := hmacTagsUptoRow.holds Try.pinned (OpenSpec.upto hmacTagsSpec)

/-- 'turnkeylaw12.HmacInside', WHERE WHAT IT READS IS OF BULK AT MOST 1048576: true; the input reads as it did. -/
def hmacInsideUptoRow : OpenClaim := { program := "ytmohabidfalhoaa", sum := "a349999c92ede94dd5be99b909f4836ec59fb57073ddc9540868b982fc80f9d0", func := "turnkey/turnkeylaw12.HmacInside", spec := "hmacInside", unfollowed := true, recurses := true, apart := false, narrowed := true }
def HmacInsideUptoSaid : Prop := hmacInsideUptoRow.holds Try.pinned (OpenSpec.upto hmacInsideSpec)

/-- 'turnkeylaw11.DigestWiped', WHERE WHAT IT READS IS OF BULK AT MOST 1048576: true; the input reads as it did. -/
def digestWipedUptoRow : OpenClaim := { program := "ytmohabidfalhoaa", sum := "a349999c92ede94dd5be99b909f4836ec59fb57073ddc9540868b982fc80f9d0", func := "turnkey/turnkeylaw11.DigestWiped", spec := "digestWiped", unfollowed := true, recurses := true, apart := false, narrowed := true }
def DigestWipedUptoSaid : Prop := digestWipedUptoRow.holds Try.pinned (OpenSpec.upto digestWipedSpec)

/-- 'turnkeylaw12.HmacNames', WHERE WHAT IT READS IS OF BULK AT MOST 1048576: true; the input reads as it did. -/
def hmacNamesUptoRow : OpenClaim := { program := "ytmohabidfalhoaa", sum := "a349999c92ede94dd5be99b909f4836ec59fb57073ddc9540868b982fc80f9d0", func := "turnkey/turnkeylaw12.HmacNames", spec := "hmacNames", unfollowed := true, recurses := true, apart := false, narrowed := true }
def HmacNamesUptoSaid : Prop := hmacNamesUptoRow.holds Try.pinned (OpenSpec.upto hmacNamesSpec)

/-- 'turnkeylaw12.HmacPieces', WHERE WHAT IT READS IS OF BULK AT MOST 1048576: true; the input reads as it did. -/
def hmacPiecesUptoRow : OpenClaim := { program := "ytmohabidfalhoaa", sum := "a349999c92ede94dd5be99b909f4836ec59fb57073ddc9540868b982fc80f9d0", func := "turnkey/turnkeylaw12.HmacPieces", spec := "hmacPieces", unfollowed := true, recurses := true, apart := false, narrowed := true }
def HmacPiecesUptoSaid : Prop := hmacPiecesUptoRow.holds Try.pinned (OpenSpec.upto hmacPiecesSpec)

/-- 'turnkeylaw15.HkdfSteps', WHERE WHAT IT READS IS OF BULK AT MOST 1048576: true; the input reads as it did. -/
def hkdfStepsUptoRow : OpenClaim := { program := "ytmohabidfalhoaa", sum := "a349999c92ede94dd5be99b909f4836ec59fb57073ddc9540868b982fc80f9d0", func := "turnkey/turnkeylaw15.HkdfSteps", spec := "hkdfSteps", unfollowed := true, recurses := true, apart := false, narrowed := true }
def HkdfStepsUptoSaid : Prop := hkdfStepsUptoRow.holds Try.pinned (OpenSpec.upto hkdfStepsSpec)

/-- 'turnkeylaw16.Pbkdf2Joins', WHERE WHAT IT READS IS OF BULK AT MOST 1048576: true; the input reads as it did. -/
def pbkdf2JoinsUptoRow : OpenClaim := { program := "ytmohabidfalhoaa", sum := "a349999c92ede94dd5be99b909f4836ec59fb57073ddc9540868b982fc80f9d0", func := "turnkey/turnkeylaw16.Pbkdf2Joins", spec := "pbkdf2Joins", unfollowed := true, recurses := true, apart := false, narrowed := true }
def Pbkdf2JoinsUptoSaid : Prop := pbkdf2JoinsUptoRow.holds Try.pinned (OpenSpec.upto pbkdf2JoinsSpec)

/-- 'turnkeylaw16.Pbkdf2Hides', WHERE WHAT IT READS IS OF BULK AT MOST 1048576: true; the input reads as it did. -/
def pbkdf2HidesUptoRow : OpenClaim := { program := "ytmohabidfalhoaa", sum := "a349999c92ede94dd5be99b909f4836ec59fb57073ddc9540868b982fc80f9d0", func := "turnkey/turnkeylaw16.Pbkdf2Hides", spec := "pbkdf2Hides", unfollowed := true, recurses := true, apart := false, narrowed := true }
def Pbkdf2HidesUptoSaid : Prop := pbkdf2HidesUptoRow.holds Try.pinned (OpenSpec.upto pbkdf2HidesSpec)

/-- 'turnkeylaw15.HkdfPublic', WHERE WHAT IT READS IS OF BULK AT MOST 1048576: true; the input reads as it did. -/
def hkdfPublicUptoRow : OpenClaim := { program := "ytmohabidfalhoaa", sum := "a349999c92ede94dd5be99b909f4836ec59fb57073ddc9540868b982fc80f9d0", func := "turnkey/turnkeylaw15.HkdfPublic", spec := "hkdfPublic", unfollowed := true, recurses := true, apart := false, narrowed := true }
def HkdfPublicUptoSaid : Prop := hkdfPublicUptoRow.holds Try.pinned (OpenSpec.upto hkdfPublicSpec)

/-- 'turnkeylaw16.Pbkdf2Means', WHERE WHAT IT READS IS OF BULK AT MOST 1048576: true; the input reads as it did. -/
def pbkdf2MeansUptoRow : OpenClaim := { program := "ytmohabidfalhoaa", sum := "a349999c92ede94dd5be99b909f4836ec59fb57073ddc9540868b982fc80f9d0", func := "turnkey/turnkeylaw16.Pbkdf2Means", spec := "pbkdf2Means", unfollowed := true, recurses := true, apart := false, narrowed := true }
def Pbkdf2MeansUptoSaid : Prop := pbkdf2MeansUptoRow.holds Try.pinned (OpenSpec.upto pbkdf2MeansSpec)

/-- 'turnkeylaw15.HkdfNames', WHERE WHAT IT READS IS OF BULK AT MOST 1048576: true; the input reads as it did. -/
def hkdfNamesUptoRow : OpenClaim := { program := "ytmohabidfalhoaa", sum := "a349999c92ede94dd5be99b909f4836ec59fb57073ddc9540868b982fc80f9d0", func := "turnkey/turnkeylaw15.HkdfNames", spec := "hkdfNames", unfollowed := true, recurses := true, apart := false, narrowed := true }
def HkdfNamesUptoSaid : Prop := hkdfNamesUptoRow.holds Try.pinned (OpenSpec.upto hkdfNamesSpec)

/-- 'turnkeylaw16.Pbkdf2Known', WHERE WHAT IT READS IS OF BULK AT MOST 1048576: true; the input reads as it did. -/
def pbkdf2KnownUptoRow : OpenClaim := { program := "ytmohabidfalhoaa", sum := "a349999c92ede94dd5be99b909f4836ec59fb57073ddc9540868b982fc80f9d0", func := "turnkey/turnkeylaw16.Pbkdf2Known", spec := "pbkdf2Known", unfollowed := true, recurses := true, apart := false, narrowed := true }
def Pbkdf2KnownUptoSaid : Prop := pbkdf2KnownUptoRow.holds Try.pinned (OpenSpec.upto pbkdf2KnownSpec)

end Rows
end Go.Proofs.Ytmohabidfalhoaa
