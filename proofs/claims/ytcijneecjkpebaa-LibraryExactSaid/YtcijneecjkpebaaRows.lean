/-
  No cell of these rows narrows 'for every input' (looked for: loops, veiled, ifaces, maps, wideKeys, modest, calm, conditions, laid).
  DERIVED. THE GIVEN ROWS OF THIS SEAT. 12 by the template 'for every input the law returns true; each argument reads behind the call as it read before'; 0 by the template 'total and deterministic' (their statements: YtcijneecjkpebaaTotals.lean).
  GIVEN WITH THE SEED: the statements are not yours to turn. If you find one false, say at which input.
  Laid BY PROGRAM, IN A SANDBOX (cutbox-rows.mjs): the forced cells as the released guide's own fill.sh prints them over the translation 217902a8a4379b9a… (all of the seat's roots in one cut). By AI agents, Wed Nov 11 2026. No macro, syntax, notation, axiom, sorry.
-/
import Derived.Test.YtcijneecjkpebaaChecked
import GoSem.Claim
import GoSem.ClaimJoined
import GoSem.ClaimMapViews
import Derived.JoinedTies
import Derived.KernelRfl
namespace Go.Proofs.Ytcijneecjkpebaa
/- THE CELL 'sum', in the pinned program and in every row, IS THE sha256 OF THE DUMP (.gsa) THAT YtcijneecjkpebaaProg.lean LOADS. Nothing in Lean hashes anything: it is a label: what it is worth is what the hold of that sum in a sandbox is worth. -/
noncomputable def Try.pinned : Pinned := { name := "ytcijneecjkpebaa", sum := "217902a8a4379b9a291da9846ee42fea5c58a8b74eed48cdc4819b78f8e394d2", checked := Try.checked }
namespace Rows
def none {H : Type} : Left H := { results := [], args := [] }

/-- 'quicksilverlaw08.LibraryValues': WHATEVER THE INPUT: true; the input reads as it did. -/
def libraryValuesSpec : ChangeSpec := { name := "libraryValues", fn := fun _ => fun
  | [d1, d2, d3] => { results := [.lit (.bool true)], args := [d1, d2, d3] }
  | _ => none }
def libraryValuesRow : OpenClaim := { program := "ytcijneecjkpebaa", sum := "217902a8a4379b9a291da9846ee42fea5c58a8b74eed48cdc4819b78f8e394d2", func := "quicksilver/quicksilverlaw08.LibraryValues", spec := "libraryValues", unfollowed := true, recurses := true, apart := false }
def LibraryValuesSaid : Prop := libraryValuesRow.holds Try.pinned (OpenSpec.ofChange libraryValuesSpec)

/-- ITS FALSE NEIGHBOUR: 'it returns false'. Refute it at one input. -/
def libraryValuesWrong : ChangeSpec := { name := "libraryValues", fn := fun _ => fun
  | [d1, d2, d3] => { results := [.lit (.bool false)], args := [d1, d2, d3] }
  | _ => none }
def LibraryValuesWrongFalsely : Prop := libraryValuesRow.holds Try.pinned (OpenSpec.ofChange libraryValuesWrong)

/-- 'quicksilverlaw08.LibraryPlaces': WHATEVER THE INPUT: true; the input reads as it did. -/
def libraryPlacesSpec : ChangeSpec := { name := "libraryPlaces", fn := fun _ => fun
  | [d1, d2] => { results := [.lit (.bool true)], args := [d1, d2] }
  | _ => none }
def libraryPlacesRow : OpenClaim := { program := "ytcijneecjkpebaa", sum := "217902a8a4379b9a291da9846ee42fea5c58a8b74eed48cdc4819b78f8e394d2", func := "quicksilver/quicksilverlaw08.LibraryPlaces", spec := "libraryPlaces", unfollowed := true, recurses := true, apart := false }
def LibraryPlacesSaid : Prop := libraryPlacesRow.holds Try.pinned (OpenSpec.ofChange libraryPlacesSpec)

/-- ITS FALSE NEIGHBOUR: 'it returns false'. Refute it at one input. -/
def libraryPlacesWrong : ChangeSpec := { name := "libraryPlaces", fn := fun _ => fun
  | [d1, d2] => { results := [.lit (.bool false)], args := [d1, d2] }
  | _ => none }
def LibraryPlacesWrongFalsely : Prop := libraryPlacesRow.holds Try.pinned (OpenSpec.ofChange libraryPlacesWrong)

/-- 'quicksilverlaw08.LibraryBuilds': WHATEVER THE INPUT: true; the input reads as it did. -/
def libraryBuildsSpec : ChangeSpec := { name := "libraryBuilds", fn := fun _ => fun
  | [d1, d2, d3] => { results := [.lit (.bool true)], args := [d1, d2, d3] }
  | _ => none }
def libraryBuildsRow : OpenClaim := { program := "ytcijneecjkpebaa", sum := "217902a8a4379b9a291da9846ee42fea5c58a8b74eed48cdc4819b78f8e394d2", func := "quicksilver/quicksilverlaw08.LibraryBuilds", spec := "libraryBuilds", unfollowed := true, recurses := true, apart := false }
def LibraryBuildsSaid : Prop := libraryBuildsRow.holds Try.pinned (OpenSpec.ofChange libraryBuildsSpec)

/-- ITS FALSE NEIGHBOUR: 'it returns false'. Refute it at one input. -/
def libraryBuildsWrong : ChangeSpec := { name := "libraryBuilds", fn := fun _ => fun
  | [d1, d2, d3] => { results := [.lit (.bool false)], args := [d1, d2, d3] }
  | _ => none }
def LibraryBuildsWrongFalsely : Prop := libraryBuildsRow.holds Try.pinned (OpenSpec.ofChange libraryBuildsWrong)

/-- 'quicksilverlaw08.LibraryKnown': WHATEVER THE INPUT: true; the input reads as it did. -/
def libraryKnownSpec : ChangeSpec := { name := "libraryKnown", fn := fun _ => fun
  | [] => { results := [.lit (.bool true)], args := [] }
  | _ => none }
def libraryKnownRow : OpenClaim := { program := "ytcijneecjkpebaa", sum := "217902a8a4379b9a291da9846ee42fea5c58a8b74eed48cdc4819b78f8e394d2", func := "quicksilver/quicksilverlaw08.LibraryKnown", spec := "libraryKnown", unfollowed := true, recurses := true, apart := false }
def LibraryKnownSaid : Prop := libraryKnownRow.holds Try.pinned (OpenSpec.ofChange libraryKnownSpec)

/-- ITS FALSE NEIGHBOUR: 'it returns false'. Refute it at one input. -/
def libraryKnownWrong : ChangeSpec := { name := "libraryKnown", fn := fun _ => fun
  | [] => { results := [.lit (.bool false)], args := [] }
  | _ => none }
def LibraryKnownWrongFalsely : Prop := libraryKnownRow.holds Try.pinned (OpenSpec.ofChange libraryKnownWrong)

/-- 'quicksilverlaw08.LibraryExact': WHATEVER THE INPUT: true; the input reads as it did. -/
def libraryExactSpec : ChangeSpec := { name := "libraryExact", fn := fun _ => fun
  | [d1, d2, d3] => { results := [.lit (.bool true)], args := [d1, d2, d3] }
  | _ => none }
def libraryExactRow : OpenClaim := { program := "ytcijneecjkpebaa", sum := "217902a8a4379b9a291da9846ee42fea5c58a8b74eed48cdc4819b78f8e394d2", func := "quicksilver/quicksilverlaw08.LibraryExact", spec := "libraryExact", unfollowed := true, recurses := true, apart := false }
def LibraryExactSaid : Prop := libraryExactRow.holds Try.pinned (OpenSpec.ofChange libraryExactSpec)

/-- ITS FALSE NEIGHBOUR: 'it returns false'. Refute it at one input. -/
def libraryExactWrong : ChangeSpec := { name := "libraryExact", fn := fun _ => fun
  | [d1, d2, d3] => { results := [.lit (.bool false)], args := [d1, d2, d3] }
  | _ => none }
def LibraryExactWrongFalsely : Prop := libraryExactRow.holds Try.pinned (OpenSpec.ofChange libraryExactWrong)

/-- 'quicksilverlaw08.LibraryPatches': WHATEVER THE INPUT: true; the input reads as it did. -/
def libraryPatchesSpec : ChangeSpec := { name := "libraryPatches", fn := fun _ => fun
  | [d1, d2, d3] => { results := [.lit (.bool true)], args := [d1, d2, d3] }
  | _ => none }
def libraryPatchesRow : OpenClaim := { program := "ytcijneecjkpebaa", sum := "217902a8a4379b9a291da9846ee42fea5c58a8b74eed48cdc4819b78f8e394d2", func := "quicksilver/quicksilverlaw08.LibraryPatches", spec := "libraryPatches", unfollowed := true, recurses := true, apart := false }
def LibraryPatchesSaid : Prop := libraryPatchesRow.holds Try.pinned (OpenSpec.ofChange libraryPatchesSpec)

/-- ITS FALSE NEIGHBOUR: 'it returns false'. Refute it at one input. -/
def libraryPatchesWrong : ChangeSpec := { name := "libraryPatches", fn := fun _ => fun
  | [d1, d2, d3] => { results := [.lit (.bool false)], args := [d1, d2, d3] }
  | _ => none }
def LibraryPatchesWrongFalsely : Prop := libraryPatchesRow.holds Try.pinned (OpenSpec.ofChange libraryPatchesWrong)

/-- 'quicksilverlaw08.LibraryTapes': WHATEVER THE INPUT: true; the input reads as it did. -/
def libraryTapesSpec : ChangeSpec := { name := "libraryTapes", fn := fun _ => fun
  | [d1, d2] => { results := [.lit (.bool true)], args := [d1, d2] }
  | _ => none }
def libraryTapesRow : OpenClaim := { program := "ytcijneecjkpebaa", sum := "217902a8a4379b9a291da9846ee42fea5c58a8b74eed48cdc4819b78f8e394d2", func := "quicksilver/quicksilverlaw08.LibraryTapes", spec := "libraryTapes", unfollowed := true, recurses := true, apart := false }
def LibraryTapesSaid : Prop := libraryTapesRow.holds Try.pinned (OpenSpec.ofChange libraryTapesSpec)

/-- ITS FALSE NEIGHBOUR: 'it returns false'. Refute it at one input. -/
def libraryTapesWrong : ChangeSpec := { name := "libraryTapes", fn := fun _ => fun
  | [d1, d2] => { results := [.lit (.bool false)], args := [d1, d2] }
  | _ => none }
def LibraryTapesWrongFalsely : Prop := libraryTapesRow.holds Try.pinned (OpenSpec.ofChange libraryTapesWrong)

/-- 'quicksilverlaw08.LibraryJust': WHATEVER THE INPUT: true; the input reads as it did. -/
def libraryJustSpec : ChangeSpec := { name := "libraryJust", fn := fun _ => fun
  | [d1, d2] => { results := [.lit (.bool true)], args := [d1, d2] }
  | _ => none }
def libraryJustRow : OpenClaim := { program := "ytcijneecjkpebaa", sum := "217902a8a4379b9a291da9846ee42fea5c58a8b74eed48cdc4819b78f8e394d2", func := "quicksilver/quicksilverlaw08.LibraryJust", spec := "libraryJust", unfollowed := true, recurses := true, apart := false }
def LibraryJustSaid : Prop := libraryJustRow.holds Try.pinned (OpenSpec.ofChange libraryJustSpec)

/-- ITS FALSE NEIGHBOUR: 'it returns false'. Refute it at one input. -/
def libraryJustWrong : ChangeSpec := { name := "libraryJust", fn := fun _ => fun
  | [d1, d2] => { results := [.lit (.bool false)], args := [d1, d2] }
  | _ => none }
def LibraryJustWrongFalsely : Prop := libraryJustRow.holds Try.pinned (OpenSpec.ofChange libraryJustWrong)

/-- 'quicksilverlaw08.LibraryDiff': WHATEVER THE INPUT: true; the input reads as it did. -/
def libraryDiffSpec : ChangeSpec := { name := "libraryDiff", fn := fun _ => fun
  | [d1, d2] => { results := [.lit (.bool true)], args := [d1, d2] }
  | _ => none }
def libraryDiffRow : OpenClaim := { program := "ytcijneecjkpebaa", sum := "217902a8a4379b9a291da9846ee42fea5c58a8b74eed48cdc4819b78f8e394d2", func := "quicksilver/quicksilverlaw08.LibraryDiff", spec := "libraryDiff", unfollowed := true, recurses := true, apart := false }
def LibraryDiffSaid : Prop := libraryDiffRow.holds Try.pinned (OpenSpec.ofChange libraryDiffSpec)

/-- ITS FALSE NEIGHBOUR: 'it returns false'. Refute it at one input. -/
def libraryDiffWrong : ChangeSpec := { name := "libraryDiff", fn := fun _ => fun
  | [d1, d2] => { results := [.lit (.bool false)], args := [d1, d2] }
  | _ => none }
def LibraryDiffWrongFalsely : Prop := libraryDiffRow.holds Try.pinned (OpenSpec.ofChange libraryDiffWrong)

/-- 'quicksilverlaw08.LibraryRound': WHATEVER THE INPUT: true; the input reads as it did. -/
def libraryRoundSpec : ChangeSpec := { name := "libraryRound", fn := fun _ => fun
  | [d1, d2, d3] => { results := [.lit (.bool true)], args := [d1, d2, d3] }
  | _ => none }
def libraryRoundRow : OpenClaim := { program := "ytcijneecjkpebaa", sum := "217902a8a4379b9a291da9846ee42fea5c58a8b74eed48cdc4819b78f8e394d2", func := "quicksilver/quicksilverlaw08.LibraryRound", spec := "libraryRound", unfollowed := true, recurses := true, apart := false }
def LibraryRoundSaid : Prop := libraryRoundRow.holds Try.pinned (OpenSpec.ofChange libraryRoundSpec)

/-- ITS FALSE NEIGHBOUR: 'it returns false'. Refute it at one input. -/
def libraryRoundWrong : ChangeSpec := { name := "libraryRound", fn := fun _ => fun
  | [d1, d2, d3] => { results := [.lit (.bool false)], args := [d1, d2, d3] }
  | _ => none }
def LibraryRoundWrongFalsely : Prop := libraryRoundRow.holds Try.pinned (OpenSpec.ofChange libraryRoundWrong)

/-- 'quicksilverlaw08.LibraryAll': WHATEVER THE INPUT: true; the input reads as it did. -/
def libraryAllSpec : ChangeSpec := { name := "libraryAll", fn := fun _ => fun
  | [d] => { results := [.lit (.bool true)], args := [d] }
  | _ => none }
def libraryAllRow : OpenClaim := { program := "ytcijneecjkpebaa", sum := "217902a8a4379b9a291da9846ee42fea5c58a8b74eed48cdc4819b78f8e394d2", func := "quicksilver/quicksilverlaw08.LibraryAll", spec := "libraryAll", unfollowed := true, recurses := true, apart := false }
def LibraryAllSaid : Prop := libraryAllRow.holds Try.pinned (OpenSpec.ofChange libraryAllSpec)

/-- ITS FALSE NEIGHBOUR: 'it returns false'. Refute it at one input. -/
def libraryAllWrong : ChangeSpec := { name := "libraryAll", fn := fun _ => fun
  | [d] => { results := [.lit (.bool false)], args := [d] }
  | _ => none }
def LibraryAllWrongFalsely : Prop := libraryAllRow.holds Try.pinned (OpenSpec.ofChange libraryAllWrong)

/-- 'quicksilverlaw08.LibraryAnywhere': WHATEVER THE INPUT: true; the input reads as it did. -/
def libraryAnywhereSpec : ChangeSpec := { name := "libraryAnywhere", fn := fun _ => fun
  | [d1, d2, d3] => { results := [.lit (.bool true)], args := [d1, d2, d3] }
  | _ => none }
def libraryAnywhereRow : OpenClaim := { program := "ytcijneecjkpebaa", sum := "217902a8a4379b9a291da9846ee42fea5c58a8b74eed48cdc4819b78f8e394d2", func := "quicksilver/quicksilverlaw08.LibraryAnywhere", spec := "libraryAnywhere", unfollowed := true, recurses := true, apart := false }
def LibraryAnywhereSaid : Prop := libraryAnywhereRow.holds Try.pinned (OpenSpec.ofChange libraryAnywhereSpec)

/-- ITS FALSE NEIGHBOUR: 'it returns false'. Refute it at one input. -/
def libraryAnywhereWrong : ChangeSpec := { name := "libraryAnywhere", fn := fun _ => fun
  | [d1, d2, d3] => { results := [.lit (.bool false)], args := [d1, d2, d3] }
  | _ => none }
def LibraryAnywhereWrongFalsely : Prop := libraryAnywhereRow.holds Try.pinned (OpenSpec.ofChange libraryAnywhereWrong)

/- THE SECOND FORM. 'bulk': how many values and letters a reading holds, each counted each time it is reached (what is shared counts as often as it is met; a slice's spare places count too). A statement '..UptoSaid' is the law's where the arguments, and the package variables that the reading takes, are together of bulk at most 1048576: NARROWER than '..Said'. Prove '..Said' where nothing that the law and all that it calls make is longer than what came in: it says more and counts as full. Else prove '..UptoSaid'. A law counts once. -/
mutual
def uptoBulk {H : Type} : DataW H → Nat
  | .lit (.string bytes) => bytes.length + 1
  | .lit _ => 1
  | .nil => 1
  | .ptr d => uptoBulk d + 1
  | .slice elems spare => uptoBulkAll elems + uptoBulkAll spare + 1
  | .agg parts => uptoBulkAll parts + 1
  | .iface _ d => uptoBulk d + 1
  | .map entries => uptoBulkEntries entries + 1
  | .held _ => 1
def uptoBulkAll {H : Type} : List (DataW H) → Nat
  | [] => 0
  | d :: r => uptoBulk d + uptoBulkAll r
def uptoBulkEntries {H : Type} : List (Lit × DataW H) → Nat
  | [] => 0
  | x :: r => uptoBulkEntry x + uptoBulkEntries r
def uptoBulkEntry {H : Type} : Lit × DataW H → Nat
  | (.string bytes, d) => bytes.length + uptoBulk d + 1
  | (_, d) => uptoBulk d + 1
 end
def uptoSmall : (H : Type) → List (DataW H) → Bool := fun _ ds => decide (uptoBulkAll ds ≤ 1048576)
def OpenSpec.upto (s : _root_.Go.ChangeSpec) : _root_.Go.OpenSpec := { _root_.Go.OpenSpec.ofChange s with cond := some uptoSmall }

/-- 'quicksilverlaw08.LibraryValues', WHERE WHAT IT READS IS OF BULK AT MOST 1048576: true; the input reads as it did. -/
def libraryValuesUptoRow : OpenClaim := { program := "ytcijneecjkpebaa", sum := "217902a8a4379b9a291da9846ee42fea5c58a8b74eed48cdc4819b78f8e394d2", func := "quicksilver/quicksilverlaw08.LibraryValues", spec := "libraryValues", unfollowed := true, recurses := true, apart := false, narrowed := true }
def LibraryValuesUptoSaid : Prop := libraryValuesUptoRow.holds Try.pinned (OpenSpec.upto libraryValuesSpec)

/-- 'quicksilverlaw08.LibraryPlaces', WHERE WHAT IT READS IS OF BULK AT MOST 1048576: true; the input reads as it did. -/
def libraryPlacesUptoRow : OpenClaim := { program := "ytcijneecjkpebaa", sum := "217902a8a4379b9a291da9846ee42fea5c58a8b74eed48cdc4819b78f8e394d2", func := "quicksilver/quicksilverlaw08.LibraryPlaces", spec := "libraryPlaces", unfollowed := true, recurses := true, apart := false, narrowed := true }
def LibraryPlacesUptoSaid : Prop := libraryPlacesUptoRow.holds Try.pinned (OpenSpec.upto libraryPlacesSpec)

/-- 'quicksilverlaw08.LibraryBuilds', WHERE WHAT IT READS IS OF BULK AT MOST 1048576: true; the input reads as it did. -/
def libraryBuildsUptoRow : OpenClaim := { program := "ytcijneecjkpebaa", sum := "217902a8a4379b9a291da9846ee42fea5c58a8b74eed48cdc4819b78f8e394d2", func := "quicksilver/quicksilverlaw08.LibraryBuilds", spec := "libraryBuilds", unfollowed := true, recurses := true, apart := false, narrowed := true }
def LibraryBuildsUptoSaid : Prop := libraryBuildsUptoRow.holds Try.pinned (OpenSpec.upto libraryBuildsSpec)

/-- 'quicksilverlaw08.LibraryKnown', WHERE WHAT IT READS IS OF BULK AT MOST 1048576: true; the input reads as it did. -/
def libraryKnownUptoRow : OpenClaim := { program := "ytcijneecjkpebaa", sum := "217902a8a4379b9a291da9846ee42fea5c58a8b74eed48cdc4819b78f8e394d2", func := "quicksilver/quicksilverlaw08.LibraryKnown", spec := "libraryKnown", unfollowed := true, recurses := true, apart := false, narrowed := true }
def LibraryKnownUptoSaid : Prop := libraryKnownUptoRow.holds Try.pinned (OpenSpec.upto libraryKnownSpec)

/-- 'quicksilverlaw08.LibraryExact', WHERE WHAT IT READS IS OF BULK AT MOST 1048576: true; the input reads as it did. -/
def libraryExactUptoRow : OpenClaim := { program := "ytcijneecjkpebaa", sum := "217902a8a4379b9a291da9846ee42fea5c58a8b74eed48cdc4819b78f8e394d2", func := "quicksilver/quicksilverlaw08.LibraryExact", spec := "libraryExact", unfollowed := true, recurses := true, apart := false, narrowed := true }
def LibraryExactUptoSaid : Prop := libraryExactUptoRow.holds Try.pinned (OpenSpec.upto libraryExactSpec)

/-- 'quicksilverlaw08.LibraryPatches', WHERE WHAT IT READS IS OF BULK AT MOST 1048576: true; the input reads as it did. -/
def libraryPatchesUptoRow : OpenClaim := { program := "ytcijneecjkpebaa", sum := "217902a8a4379b9a291da9846ee42fea5c58a8b74eed48cdc4819b78f8e394d2", func := "quicksilver/quicksilverlaw08.LibraryPatches", spec := "libraryPatches", unfollowed := true, recurses := true, apart := false, narrowed := true }
def LibraryPatchesUptoSaid : Prop := libraryPatchesUptoRow.holds Try.pinned (OpenSpec.upto libraryPatchesSpec)

/-- 'quicksilverlaw08.LibraryTapes', WHERE WHAT IT READS IS OF BULK AT MOST 1048576: true; the input reads as it did. -/
def libraryTapesUptoRow : OpenClaim := { program := "ytcijneecjkpebaa", sum := "217902a8a4379b9a291da9846ee42fea5c58a8b74eed48cdc4819b78f8e394d2", func := "quicksilver/quicksilverlaw08.LibraryTapes", spec := "libraryTapes", unfollowed := true, recurses := true, apart := false, narrowed := true }
def LibraryTapesUptoSaid : Prop := libraryTapesUptoRow.holds Try.pinned (OpenSpec.upto libraryTapesSpec)

/-- 'quicksilverlaw08.LibraryJust', WHERE WHAT IT READS IS OF BULK AT MOST 1048576: true; the input reads as it did. -/
def libraryJustUptoRow : OpenClaim := { program := "ytcijneecjkpebaa", sum := "217902a8a4379b9a291da9846ee42fea5c58a8b74eed48cdc4819b78f8e394d2", func := "quicksilver/quicksilverlaw08.LibraryJust", spec := "libraryJust", unfollowed := true, recurses := true, apart := false, narrowed := true }
def LibraryJustUptoSaid : Prop := libraryJustUptoRow.holds Try.pinned (OpenSpec.upto libraryJustSpec)

/-- 'quicksilverlaw08.LibraryDiff', WHERE WHAT IT READS IS OF BULK AT MOST 1048576: true; the input reads as it did. -/
def libraryDiffUptoRow : OpenClaim := { program := "ytcijneecjkpebaa", sum := "217902a8a4379b9a291da9846ee42fea5c58a8b74eed48cdc4819b78f8e394d2", func := "quicksilver/quicksilverlaw08.LibraryDiff", spec := "libraryDiff", unfollowed := true, recurses := true, apart := false, narrowed := true }
def LibraryDiffUptoSaid : Prop := libraryDiffUptoRow.holds Try.pinned (OpenSpec.upto libraryDiffSpec)

/-- 'quicksilverlaw08.LibraryRound', WHERE WHAT IT READS IS OF BULK AT MOST 1048576: true; the input reads as it did. -/
def libraryRoundUptoRow : OpenClaim := { program := "ytcijneecjkpebaa", sum := "217902a8a4379b9a291da9846ee42fea5c58a8b74eed48cdc4819b78f8e394d2", func := "quicksilver/quicksilverlaw08.LibraryRound", spec := "libraryRound", unfollowed := true, recurses := true, apart := false, narrowed := true }
def LibraryRoundUptoSaid : Prop := libraryRoundUptoRow.holds Try.pinned (OpenSpec.upto libraryRoundSpec)

/-- 'quicksilverlaw08.LibraryAll', WHERE WHAT IT READS IS OF BULK AT MOST 1048576: true; the input reads as it did. -/
def libraryAllUptoRow : OpenClaim := { program := "ytcijneecjkpebaa", sum := "217902a8a4379b9a291da9846ee42fea5c58a8b74eed48cdc4819b78f8e394d2", func := "quicksilver/quicksilverlaw08.LibraryAll", spec := "libraryAll", unfollowed := true, recurses := true, apart := false, narrowed := true }
def LibraryAllUptoSaid : Prop := libraryAllUptoRow.holds Try.pinned (OpenSpec.upto libraryAllSpec)

/-- 'quicksilverlaw08.LibraryAnywhere', WHERE WHAT IT READS IS OF BULK AT MOST 1048576: true; the input reads as it did. -/
def libraryAnywhereUptoRow : OpenClaim := { program := "ytcijneecjkpebaa", sum := "217902a8a4379b9a291da9846ee42fea5c58a8b74eed48cdc4819b78f8e394d2", func := "quicksilver/quicksilverlaw08.LibraryAnywhere", spec := "libraryAnywhere", unfollowed := true, recurses := true, apart := false, narrowed := true }
def LibraryAnywhereUptoSaid : Prop := libraryAnywhereUptoRow.holds Try.pinned (OpenSpec.upto libraryAnywhereSpec)

end Rows
end Go.Proofs.Ytcijneecjkpebaa
