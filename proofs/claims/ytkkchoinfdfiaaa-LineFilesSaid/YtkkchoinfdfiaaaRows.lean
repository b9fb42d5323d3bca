/-
  No cell of these rows narrows 'for every input' (looked for: loops, veiled, ifaces, maps, wideKeys, modest, calm, conditions, laid).
  DERIVED. THE GIVEN ROWS OF THIS SEAT. 17 by the template 'for every input the law returns true; each argument reads behind the call as it read before'; 0 by the template 'total and deterministic' (their statements: YtkkchoinfdfiaaaTotals.lean).
  GIVEN WITH THE SEED: the statements are not yours to turn. If you find one false, say at which input.
  Laid BY PROGRAM, IN A SANDBOX (cutbox-rows.mjs): the forced cells as the released guide's own fill.sh prints them over the translation c1c5a040915a2564… (all of the seat's roots in one cut). By AI agents, Wed Nov 11 2026. No macro, syntax, notation, axiom, sorry.
-/
import Derived.Test.YtkkchoinfdfiaaaChecked
import GoSem.Claim
import GoSem.ClaimJoined
import GoSem.ClaimMapViews
import Derived.JoinedTies
import Derived.KernelRfl
namespace Go.Proofs.Ytkkchoinfdfiaaa
/- THE CELL 'sum', in the pinned program and in every row, IS THE sha256 OF THE DUMP (.gsa) THAT YtkkchoinfdfiaaaProg.lean LOADS. Nothing in Lean hashes anything: it is a label: what it is worth is what the hold of that sum in a sandbox is worth. -/
noncomputable def Try.pinned : Pinned := { name := "ytkkchoinfdfiaaa", sum := "c1c5a040915a2564a800015ad27202384d7ac25e4111a5e9c622201c4ff244a9", checked := Try.checked }
namespace Rows
def none {H : Type} : Left H := { results := [], args := [] }

/-- 'quicksilverlaw01.LineNames': WHATEVER THE INPUT: true; the input reads as it did. -/
def lineNamesSpec : ChangeSpec := { name := "lineNames", fn := fun _ => fun
  | [d] => { results := [.lit (.bool true)], args := [d] }
  | _ => none }
def lineNamesRow : OpenClaim := { program := "ytkkchoinfdfiaaa", sum := "c1c5a040915a2564a800015ad27202384d7ac25e4111a5e9c622201c4ff244a9", func := "quicksilver/quicksilverlaw01.LineNames", spec := "lineNames", unfollowed := true, recurses := true, plainKeys := false, apart := false }
def LineNamesSaid : Prop := lineNamesRow.holds Try.pinned (OpenSpec.ofChange lineNamesSpec)

/-- ITS FALSE NEIGHBOUR: 'it returns false'. Refute it at one input. -/
def lineNamesWrong : ChangeSpec := { name := "lineNames", fn := fun _ => fun
  | [d] => { results := [.lit (.bool false)], args := [d] }
  | _ => none }
def LineNamesWrongFalsely : Prop := lineNamesRow.holds Try.pinned (OpenSpec.ofChange lineNamesWrong)

/-- 'quicksilverlaw01.LinePasses': WHATEVER THE INPUT: true; the input reads as it did. -/
def linePassesSpec : ChangeSpec := { name := "linePasses", fn := fun _ => fun
  | [d1, d2, d3] => { results := [.lit (.bool true)], args := [d1, d2, d3] }
  | _ => none }
def linePassesRow : OpenClaim := { program := "ytkkchoinfdfiaaa", sum := "c1c5a040915a2564a800015ad27202384d7ac25e4111a5e9c622201c4ff244a9", func := "quicksilver/quicksilverlaw01.LinePasses", spec := "linePasses", unfollowed := true, recurses := true, plainKeys := false, apart := false }
def LinePassesSaid : Prop := linePassesRow.holds Try.pinned (OpenSpec.ofChange linePassesSpec)

/-- ITS FALSE NEIGHBOUR: 'it returns false'. Refute it at one input. -/
def linePassesWrong : ChangeSpec := { name := "linePasses", fn := fun _ => fun
  | [d1, d2, d3] => { results := [.lit (.bool false)], args := [d1, d2, d3] }
  | _ => none }
def LinePassesWrongFalsely : Prop := linePassesRow.holds Try.pinned (OpenSpec.ofChange linePassesWrong)

/-- 'quicksilverlaw01.LineCans': WHATEVER THE INPUT: true; the input reads as it did. -/
def lineCansSpec : ChangeSpec := { name := "lineCans", fn := fun _ => fun
  | [d1, d2] => { results := [.lit (.bool true)], args := [d1, d2] }
  | _ => none }
def lineCansRow : OpenClaim := { program := "ytkkchoinfdfiaaa", sum := "c1c5a040915a2564a800015ad27202384d7ac25e4111a5e9c622201c4ff244a9", func := "quicksilver/quicksilverlaw01.LineCans", spec := "lineCans", unfollowed := true, recurses := true, plainKeys := false, apart := false }
def LineCansSaid : Prop := lineCansRow.holds Try.pinned (OpenSpec.ofChange lineCansSpec)

/-- ITS FALSE NEIGHBOUR: 'it returns false'. Refute it at one input. -/
def lineCansWrong : ChangeSpec := { name := "lineCans", fn := fun _ => fun
  | [d1, d2] => { results := [.lit (.bool false)], args := [d1, d2] }
  | _ => none }
def LineCansWrongFalsely : Prop := lineCansRow.holds Try.pinned (OpenSpec.ofChange lineCansWrong)

/-- 'quicksilverlaw01.LineNexts': WHATEVER THE INPUT: true; the input reads as it did. -/
def lineNextsSpec : ChangeSpec := { name := "lineNexts", fn := fun _ => fun
  | [d1, d2, d3] => { results := [.lit (.bool true)], args := [d1, d2, d3] }
  | _ => none }
def lineNextsRow : OpenClaim := { program := "ytkkchoinfdfiaaa", sum := "c1c5a040915a2564a800015ad27202384d7ac25e4111a5e9c622201c4ff244a9", func := "quicksilver/quicksilverlaw01.LineNexts", spec := "lineNexts", unfollowed := true, recurses := true, plainKeys := false, apart := false }
def LineNextsSaid : Prop := lineNextsRow.holds Try.pinned (OpenSpec.ofChange lineNextsSpec)

/-- ITS FALSE NEIGHBOUR: 'it returns false'. Refute it at one input. -/
def lineNextsWrong : ChangeSpec := { name := "lineNexts", fn := fun _ => fun
  | [d1, d2, d3] => { results := [.lit (.bool false)], args := [d1, d2, d3] }
  | _ => none }
def LineNextsWrongFalsely : Prop := lineNextsRow.holds Try.pinned (OpenSpec.ofChange lineNextsWrong)

/-- 'quicksilverlaw01.LineRounds': WHATEVER THE INPUT: true; the input reads as it did. -/
def lineRoundsSpec : ChangeSpec := { name := "lineRounds", fn := fun _ => fun
  | [d1, d2, d3] => { results := [.lit (.bool true)], args := [d1, d2, d3] }
  | _ => none }
def lineRoundsRow : OpenClaim := { program := "ytkkchoinfdfiaaa", sum := "c1c5a040915a2564a800015ad27202384d7ac25e4111a5e9c622201c4ff244a9", func := "quicksilver/quicksilverlaw01.LineRounds", spec := "lineRounds", unfollowed := true, recurses := true, plainKeys := false, apart := false }
def LineRoundsSaid : Prop := lineRoundsRow.holds Try.pinned (OpenSpec.ofChange lineRoundsSpec)

/-- ITS FALSE NEIGHBOUR: 'it returns false'. Refute it at one input. -/
def lineRoundsWrong : ChangeSpec := { name := "lineRounds", fn := fun _ => fun
  | [d1, d2, d3] => { results := [.lit (.bool false)], args := [d1, d2, d3] }
  | _ => none }
def LineRoundsWrongFalsely : Prop := lineRoundsRow.holds Try.pinned (OpenSpec.ofChange lineRoundsWrong)

/-- 'quicksilverlaw01.LineBack': WHATEVER THE INPUT: true; the input reads as it did. -/
def lineBackSpec : ChangeSpec := { name := "lineBack", fn := fun _ => fun
  | [d1, d2, d3] => { results := [.lit (.bool true)], args := [d1, d2, d3] }
  | _ => none }
def lineBackRow : OpenClaim := { program := "ytkkchoinfdfiaaa", sum := "c1c5a040915a2564a800015ad27202384d7ac25e4111a5e9c622201c4ff244a9", func := "quicksilver/quicksilverlaw01.LineBack", spec := "lineBack", unfollowed := true, recurses := true, plainKeys := false, apart := false }
def LineBackSaid : Prop := lineBackRow.holds Try.pinned (OpenSpec.ofChange lineBackSpec)

/-- ITS FALSE NEIGHBOUR: 'it returns false'. Refute it at one input. -/
def lineBackWrong : ChangeSpec := { name := "lineBack", fn := fun _ => fun
  | [d1, d2, d3] => { results := [.lit (.bool false)], args := [d1, d2, d3] }
  | _ => none }
def LineBackWrongFalsely : Prop := lineBackRow.holds Try.pinned (OpenSpec.ofChange lineBackWrong)

/-- 'quicksilverlaw01.LineWithin': WHATEVER THE INPUT: true; the input reads as it did. -/
def lineWithinSpec : ChangeSpec := { name := "lineWithin", fn := fun _ => fun
  | [d1, d2, d3] => { results := [.lit (.bool true)], args := [d1, d2, d3] }
  | _ => none }
def lineWithinRow : OpenClaim := { program := "ytkkchoinfdfiaaa", sum := "c1c5a040915a2564a800015ad27202384d7ac25e4111a5e9c622201c4ff244a9", func := "quicksilver/quicksilverlaw01.LineWithin", spec := "lineWithin", unfollowed := true, recurses := true, plainKeys := false, apart := false }
def LineWithinSaid : Prop := lineWithinRow.holds Try.pinned (OpenSpec.ofChange lineWithinSpec)

/-- ITS FALSE NEIGHBOUR: 'it returns false'. Refute it at one input. -/
def lineWithinWrong : ChangeSpec := { name := "lineWithin", fn := fun _ => fun
  | [d1, d2, d3] => { results := [.lit (.bool false)], args := [d1, d2, d3] }
  | _ => none }
def LineWithinWrongFalsely : Prop := lineWithinRow.holds Try.pinned (OpenSpec.ofChange lineWithinWrong)

/-- 'quicksilverlaw01.LineNarrower': WHATEVER THE INPUT: true; the input reads as it did. -/
def lineNarrowerSpec : ChangeSpec := { name := "lineNarrower", fn := fun _ => fun
  | [d1, d2, d3] => { results := [.lit (.bool true)], args := [d1, d2, d3] }
  | _ => none }
def lineNarrowerRow : OpenClaim := { program := "ytkkchoinfdfiaaa", sum := "c1c5a040915a2564a800015ad27202384d7ac25e4111a5e9c622201c4ff244a9", func := "quicksilver/quicksilverlaw01.LineNarrower", spec := "lineNarrower", unfollowed := true, recurses := true, plainKeys := false, apart := false }
def LineNarrowerSaid : Prop := lineNarrowerRow.holds Try.pinned (OpenSpec.ofChange lineNarrowerSpec)

/-- ITS FALSE NEIGHBOUR: 'it returns false'. Refute it at one input. -/
def lineNarrowerWrong : ChangeSpec := { name := "lineNarrower", fn := fun _ => fun
  | [d1, d2, d3] => { results := [.lit (.bool false)], args := [d1, d2, d3] }
  | _ => none }
def LineNarrowerWrongFalsely : Prop := lineNarrowerRow.holds Try.pinned (OpenSpec.ofChange lineNarrowerWrong)

/-- 'quicksilverlaw01.LineBeats': WHATEVER THE INPUT: true; the input reads as it did. -/
def lineBeatsSpec : ChangeSpec := { name := "lineBeats", fn := fun _ => fun
  | [d1, d2, d3] => { results := [.lit (.bool true)], args := [d1, d2, d3] }
  | _ => none }
def lineBeatsRow : OpenClaim := { program := "ytkkchoinfdfiaaa", sum := "c1c5a040915a2564a800015ad27202384d7ac25e4111a5e9c622201c4ff244a9", func := "quicksilver/quicksilverlaw01.LineBeats", spec := "lineBeats", unfollowed := true, recurses := true, plainKeys := false, apart := false }
def LineBeatsSaid : Prop := lineBeatsRow.holds Try.pinned (OpenSpec.ofChange lineBeatsSpec)

/-- ITS FALSE NEIGHBOUR: 'it returns false'. Refute it at one input. -/
def lineBeatsWrong : ChangeSpec := { name := "lineBeats", fn := fun _ => fun
  | [d1, d2, d3] => { results := [.lit (.bool false)], args := [d1, d2, d3] }
  | _ => none }
def LineBeatsWrongFalsely : Prop := lineBeatsRow.holds Try.pinned (OpenSpec.ofChange lineBeatsWrong)

/-- 'quicksilverlaw01.LineShifts': WHATEVER THE INPUT: true; the input reads as it did. -/
def lineShiftsSpec : ChangeSpec := { name := "lineShifts", fn := fun _ => fun
  | [d1, d2] => { results := [.lit (.bool true)], args := [d1, d2] }
  | _ => none }
def lineShiftsRow : OpenClaim := { program := "ytkkchoinfdfiaaa", sum := "c1c5a040915a2564a800015ad27202384d7ac25e4111a5e9c622201c4ff244a9", func := "quicksilver/quicksilverlaw01.LineShifts", spec := "lineShifts", unfollowed := true, recurses := true, plainKeys := false, apart := false }
def LineShiftsSaid : Prop := lineShiftsRow.holds Try.pinned (OpenSpec.ofChange lineShiftsSpec)

/-- ITS FALSE NEIGHBOUR: 'it returns false'. Refute it at one input. -/
def lineShiftsWrong : ChangeSpec := { name := "lineShifts", fn := fun _ => fun
  | [d1, d2] => { results := [.lit (.bool false)], args := [d1, d2] }
  | _ => none }
def LineShiftsWrongFalsely : Prop := lineShiftsRow.holds Try.pinned (OpenSpec.ofChange lineShiftsWrong)

/-- 'quicksilverlaw01.LineOvens': WHATEVER THE INPUT: true; the input reads as it did. -/
def lineOvensSpec : ChangeSpec := { name := "lineOvens", fn := fun _ => fun
  | [d1, d2] => { results := [.lit (.bool true)], args := [d1, d2] }
  | _ => none }
def lineOvensRow : OpenClaim := { program := "ytkkchoinfdfiaaa", sum := "c1c5a040915a2564a800015ad27202384d7ac25e4111a5e9c622201c4ff244a9", func := "quicksilver/quicksilverlaw01.LineOvens", spec := "lineOvens", unfollowed := true, recurses := true, plainKeys := false, apart := false }
def LineOvensSaid : Prop := lineOvensRow.holds Try.pinned (OpenSpec.ofChange lineOvensSpec)

/-- ITS FALSE NEIGHBOUR: 'it returns false'. Refute it at one input. -/
def lineOvensWrong : ChangeSpec := { name := "lineOvens", fn := fun _ => fun
  | [d1, d2] => { results := [.lit (.bool false)], args := [d1, d2] }
  | _ => none }
def LineOvensWrongFalsely : Prop := lineOvensRow.holds Try.pinned (OpenSpec.ofChange lineOvensWrong)

/-- 'quicksilverlaw01.LineSafe': WHATEVER THE INPUT: true; the input reads as it did. -/
def lineSafeSpec : ChangeSpec := { name := "lineSafe", fn := fun _ => fun
  | [d1, d2, d3] => { results := [.lit (.bool true)], args := [d1, d2, d3] }
  | _ => none }
def lineSafeRow : OpenClaim := { program := "ytkkchoinfdfiaaa", sum := "c1c5a040915a2564a800015ad27202384d7ac25e4111a5e9c622201c4ff244a9", func := "quicksilver/quicksilverlaw01.LineSafe", spec := "lineSafe", unfollowed := true, recurses := true, plainKeys := false, apart := false }
def LineSafeSaid : Prop := lineSafeRow.holds Try.pinned (OpenSpec.ofChange lineSafeSpec)

/-- ITS FALSE NEIGHBOUR: 'it returns false'. Refute it at one input. -/
def lineSafeWrong : ChangeSpec := { name := "lineSafe", fn := fun _ => fun
  | [d1, d2, d3] => { results := [.lit (.bool false)], args := [d1, d2, d3] }
  | _ => none }
def LineSafeWrongFalsely : Prop := lineSafeRow.holds Try.pinned (OpenSpec.ofChange lineSafeWrong)

/-- 'quicksilverlaw01.LineLonger': WHATEVER THE INPUT: true; the input reads as it did. -/
def lineLongerSpec : ChangeSpec := { name := "lineLonger", fn := fun _ => fun
  | [d1, d2, d3] => { results := [.lit (.bool true)], args := [d1, d2, d3] }
  | _ => none }
def lineLongerRow : OpenClaim := { program := "ytkkchoinfdfiaaa", sum := "c1c5a040915a2564a800015ad27202384d7ac25e4111a5e9c622201c4ff244a9", func := "quicksilver/quicksilverlaw01.LineLonger", spec := "lineLonger", unfollowed := true, recurses := true, plainKeys := false, apart := false }
def LineLongerSaid : Prop := lineLongerRow.holds Try.pinned (OpenSpec.ofChange lineLongerSpec)

/-- ITS FALSE NEIGHBOUR: 'it returns false'. Refute it at one input. -/
def lineLongerWrong : ChangeSpec := { name := "lineLonger", fn := fun _ => fun
  | [d1, d2, d3] => { results := [.lit (.bool false)], args := [d1, d2, d3] }
  | _ => none }
def LineLongerWrongFalsely : Prop := lineLongerRow.holds Try.pinned (OpenSpec.ofChange lineLongerWrong)

/-- 'quicksilverlaw01.LineKnown': WHATEVER THE INPUT: true; the input reads as it did. -/
def lineKnownSpec : ChangeSpec := { name := "lineKnown", fn := fun _ => fun
  | [] => { results := [.lit (.bool true)], args := [] }
  | _ => none }
def lineKnownRow : OpenClaim := { program := "ytkkchoinfdfiaaa", sum := "c1c5a040915a2564a800015ad27202384d7ac25e4111a5e9c622201c4ff244a9", func := "quicksilver/quicksilverlaw01.LineKnown", spec := "lineKnown", unfollowed := true, recurses := true, plainKeys := false, apart := false }
def LineKnownSaid : Prop := lineKnownRow.holds Try.pinned (OpenSpec.ofChange lineKnownSpec)

/-- ITS FALSE NEIGHBOUR: 'it returns false'. Refute it at one input. -/
def lineKnownWrong : ChangeSpec := { name := "lineKnown", fn := fun _ => fun
  | [] => { results := [.lit (.bool false)], args := [] }
  | _ => none }
def LineKnownWrongFalsely : Prop := lineKnownRow.holds Try.pinned (OpenSpec.ofChange lineKnownWrong)

/-- 'quicksilverlaw01.LineOven': WHATEVER THE INPUT: true; the input reads as it did. -/
def lineOvenSpec : ChangeSpec := { name := "lineOven", fn := fun _ => fun
  | [d1, d2, d3] => { results := [.lit (.bool true)], args := [d1, d2, d3] }
  | _ => none }
def lineOvenRow : OpenClaim := { program := "ytkkchoinfdfiaaa", sum := "c1c5a040915a2564a800015ad27202384d7ac25e4111a5e9c622201c4ff244a9", func := "quicksilver/quicksilverlaw01.LineOven", spec := "lineOven", unfollowed := true, recurses := true, plainKeys := false, apart := false }
def LineOvenSaid : Prop := lineOvenRow.holds Try.pinned (OpenSpec.ofChange lineOvenSpec)

/-- ITS FALSE NEIGHBOUR: 'it returns false'. Refute it at one input. -/
def lineOvenWrong : ChangeSpec := { name := "lineOven", fn := fun _ => fun
  | [d1, d2, d3] => { results := [.lit (.bool false)], args := [d1, d2, d3] }
  | _ => none }
def LineOvenWrongFalsely : Prop := lineOvenRow.holds Try.pinned (OpenSpec.ofChange lineOvenWrong)

/-- 'quicksilverlaw01.LineFiles': WHATEVER THE INPUT: true; the input reads as it did. -/
def lineFilesSpec : ChangeSpec := { name := "lineFiles", fn := fun _ => fun
  | [d1, d2, d3] => { results := [.lit (.bool true)], args := [d1, d2, d3] }
  | _ => none }
def lineFilesRow : OpenClaim := { program := "ytkkchoinfdfiaaa", sum := "c1c5a040915a2564a800015ad27202384d7ac25e4111a5e9c622201c4ff244a9", func := "quicksilver/quicksilverlaw01.LineFiles", spec := "lineFiles", unfollowed := true, recurses := true, plainKeys := false, apart := false }
def LineFilesSaid : Prop := lineFilesRow.holds Try.pinned (OpenSpec.ofChange lineFilesSpec)

/-- ITS FALSE NEIGHBOUR: 'it returns false'. Refute it at one input. -/
def lineFilesWrong : ChangeSpec := { name := "lineFiles", fn := fun _ => fun
  | [d1, d2, d3] => { results := [.lit (.bool false)], args := [d1, d2, d3] }
  | _ => none }
def LineFilesWrongFalsely : Prop := lineFilesRow.holds Try.pinned (OpenSpec.ofChange lineFilesWrong)

/-- 'quicksilverlaw01.LineRound': WHATEVER THE INPUT: true; the input reads as it did. -/
def lineRoundSpec : ChangeSpec := { name := "lineRound", fn := fun _ => fun
  | [d1, d2, d3] => { results := [.lit (.bool true)], args := [d1, d2, d3] }
  | _ => none }
def lineRoundRow : OpenClaim := { program := "ytkkchoinfdfiaaa", sum := "c1c5a040915a2564a800015ad27202384d7ac25e4111a5e9c622201c4ff244a9", func := "quicksilver/quicksilverlaw01.LineRound", spec := "lineRound", unfollowed := true, recurses := true, plainKeys := false, apart := false }
def LineRoundSaid : Prop := lineRoundRow.holds Try.pinned (OpenSpec.ofChange lineRoundSpec)

/-- ITS FALSE NEIGHBOUR: 'it returns false'. Refute it at one input. -/
def lineRoundWrong : ChangeSpec := { name := "lineRound", fn := fun _ => fun
  | [d1, d2, d3] => { results := [.lit (.bool false)], args := [d1, d2, d3] }
  | _ => none }
def LineRoundWrongFalsely : Prop := lineRoundRow.holds Try.pinned (OpenSpec.ofChange lineRoundWrong)

/- THE SECOND FORM. 'bulk': how many values and letters a reading holds, each counted each time it is reached (what is shared counts as often as it is met; a slice's spare places count too). A statement '..UptoSaid' is the law's where the arguments, and the package variables that the reading takes, are together of bulk at most 1048576: NARROWER than '..Said'. Prove '..Said' where nothing that the law and all that it calls make is longer than what came in: it says more and counts as full. Else prove '..UptoSaid'. A law counts once. -/
mutual
def uptoBulk {H : Type} : DataW H → Nat
  | .lit (.string bytes) => bytes.length + 1
  | .lit _ => 1
  | .nil => 1
  | .ptr d => uptoBulk d + 1
  | .slice elems spare => uptoBulkAll elems + uptoBulkAll spare + 1
  | .agg parts => uptoBulkAll parts + 1
  | .iface _ d => uptoBulk d + 1
  | .map entries => uptoBulkEntries entries + 1
  | .held _ => 1
def uptoBulkAll {H : Type} : List (DataW H) → Nat
  | [] => 0
  | d :: r => uptoBulk d + uptoBulkAll r
def uptoBulkEntries {H : Type} : List (Lit × DataW H) → Nat
  | [] => 0
  | x :: r => uptoBulkEntry x + uptoBulkEntries r
def uptoBulkEntry {H : Type} : Lit × DataW H → Nat
  | (.string bytes, d) => bytes.length + uptoBulk d + 1
  | (_, d) => uptoBulk d + 1
 end
def uptoSmall : (H : Type) → List (DataW H) → Bool := fun _ ds => decide (uptoBulkAll ds ≤ 1048576)
def OpenSpec.upto (s : _root_.Go.ChangeSpec) : _root_.Go.OpenSpec := { _root_.Go.OpenSpec.ofChange s with cond := some uptoSmall }

/-- 'quicksilverlaw01.LineNames', WHERE WHAT IT READS IS OF BULK AT MOST 1048576: true; the input reads as it did. -/
def lineNamesUptoRow : OpenClaim := { program := "ytkkchoinfdfiaaa", sum := "c1c5a040915a2564a800015ad27202384d7ac25e4111a5e9c622201c4ff244a9", func := "quicksilver/quicksilverlaw01.LineNames", spec := "lineNames", unfollowed := true, recurses := true, plainKeys := false, apart := false, narrowed := true }
def LineNamesUptoSaid : Prop := lineNamesUptoRow.holds Try.pinned (OpenSpec.upto lineNamesSpec)

/-- 'quicksilverlaw01.LinePasses', WHERE WHAT IT READS IS OF BULK AT MOST 1048576: true; the input reads as it did. -/
def linePassesUptoRow : OpenClaim := { program := "ytkkchoinfdfiaaa", sum := "c1c5a040915a2564a800015ad27202384d7ac25e4111a5e9c622201c4ff244a9", func := "quicksilver/quicksilverlaw01.LinePasses", spec := "linePasses", unfollowed := true, recurses := true, plainKeys := false, apart := false, narrowed := true }
def LinePassesUptoSaid : Prop := linePassesUptoRow.holds Try.pinned (OpenSpec.upto linePassesSpec)

/-- 'quicksilverlaw01.LineCans', WHERE WHAT IT READS IS OF BULK AT MOST 1048576: true; the input reads as it did. -/
def lineCansUptoRow : OpenClaim := { program := "ytkkchoinfdfiaaa", sum := "c1c5a040915a2564a800015ad27202384d7ac25e4111a5e9c622201c4ff244a9", func := "quicksilver/quicksilverlaw01.LineCans", spec := "lineCans", unfollowed := true, recurses := true, plainKeys := false, apart := false, narrowed := true }
def LineCansUptoSaid : Prop := lineCansUptoRow.holds Try.pinned (OpenSpec.upto lineCansSpec)

/-- 'quicksilverlaw01.LineNexts', WHERE WHAT IT READS IS OF BULK AT MOST 1048576: true; the input reads as it did. -/
def lineNextsUptoRow : OpenClaim := { program := "ytkkchoinfdfiaaa", sum := "c1c5a040915a2564a800015ad27202384d7ac25e4111a5e9c622201c4ff244a9", func := "quicksilver/quicksilverlaw01.LineNexts", spec := "lineNexts", unfollowed := true, recurses := true, plainKeys := false, apart := false, narrowed := true }
def LineNextsUptoSaid : Prop := lineNextsUptoRow.holds Try.pinned (OpenSpec.upto lineNextsSpec)

/-- 'quicksilverlaw01.LineRounds', WHERE WHAT IT READS IS OF BULK AT MOST 1048576: true; the input reads as it did. -/
def lineRoundsUptoRow : OpenClaim := { program := "ytkkchoinfdfiaaa", sum := "c1c5a040915a2564a800015ad27202384d7ac25e4111a5e9c622201c4ff244a9", func := "quicksilver/quicksilverlaw01.LineRounds", spec := "lineRounds", unfollowed := true, recurses := true, plainKeys := false, apart := false, narrowed := true }
def LineRoundsUptoSaid : Prop := lineRoundsUptoRow.holds Try.pinned (OpenSpec.upto lineRoundsSpec)

/-- 'quicksilverlaw01.LineBack', WHERE WHAT IT READS IS OF BULK AT MOST 1048576: true; the input reads as it did. -/
def lineBackUptoRow : OpenClaim := { program := "ytkkchoinfdfiaaa", sum := "c1c5a040915a2564a800015ad27202384d7ac25e4111a5e9c622201c4ff244a9", func := "quicksilver/quicksilverlaw01.LineBack", spec := "lineBack", unfollowed := true, recurses := true, plainKeys := false, apart := false, narrowed := true }
def LineBackUptoSaid : Prop := lineBackUptoRow.holds Try.pinned (OpenSpec.upto lineBackSpec)

/-- 'quicksilverlaw01.LineWithin', WHERE WHAT IT READS IS OF BULK AT MOST 1048576: true; the input reads as it did. -/
def lineWithinUptoRow : OpenClaim := { program := "ytkkchoinfdfiaaa", sum := "c1c5a040915a2564a800015ad27202384d7ac25e4111a5e9c622201c4ff244a9", func := "quicksilver/quicksilverlaw01.LineWithin", spec := "lineWithin", unfollowed := true, recurses := true, plainKeys := false, apart := false, narrowed := true }
def LineWithinUptoSaid : Prop := lineWithinUptoRow.holds Try.pinned (OpenSpec.upto lineWithinSpec)

/-- 'quicksilverlaw01.LineNarrower', WHERE WHAT IT READS IS OF BULK AT MOST 1048576: true; the input reads as it did. -/
def lineNarrowerUptoRow : OpenClaim := { program := "ytkkchoinfdfiaaa", sum := "c1c5a040915a2564a800015ad27202384d7ac25e4111a5e9c622201c4ff244a9", func := "quicksilver/quicksilverlaw01.LineNarrower", spec := "lineNarrower", unfollowed := true, recurses := true, plainKeys := false, apart := false, narrowed := true }
def LineNarrowerUptoSaid : Prop := lineNarrowerUptoRow.holds Try.pinned (OpenSpec.upto lineNarrowerSpec)

/-- 'quicksilverlaw01.LineBeats', WHERE WHAT IT READS IS OF BULK AT MOST 1048576: true; the input reads as it did. -/
def lineBeatsUptoRow : OpenClaim := { program := "ytkkchoinfdfiaaa", sum := "c1c5a040915a2564a800015ad27202384d7ac25e4111a5e9c622201c4ff244a9", func := "quicksilver/quicksilverlaw01.LineBeats", spec := "lineBeats", unfollowed := true, recurses := true, plainKeys := false, apart := false, narrowed := true }
def LineBeatsUptoSaid : Prop := lineBeatsUptoRow.holds Try.pinned (OpenSpec.upto lineBeatsSpec)

/-- 'quicksilverlaw01.LineShifts', WHERE WHAT IT READS IS OF BULK AT MOST 1048576: true; the input reads as it did. -/
def lineShiftsUptoRow : OpenClaim := { program := "ytkkchoinfdfiaaa", sum := "c1c5a040915a2564a800015ad27202384d7ac25e4111a5e9c622201c4ff244a9", func := "quicksilver/quicksilverlaw01.LineShifts", spec := "lineShifts", unfollowed := true, recurses := true, plainKeys := false, apart := false, narrowed := true }
def LineShiftsUptoSaid : Prop := lineShiftsUptoRow.holds Try.pinned (OpenSpec.upto lineShiftsSpec)

/-- 'quicksilverlaw01.LineOvens', WHERE WHAT IT READS IS OF BULK AT MOST 1048576: true; the input reads as it did. -/
def lineOvensUptoRow : OpenClaim := { program := "ytkkchoinfdfiaaa", sum := "c1c5a040915a2564a800015ad27202384d7ac25e4111a5e9c622201c4ff244a9", func := "quicksilver/quicksilverlaw01.LineOvens", spec := "lineOvens", unfollowed := true, recurses := true, plainKeys := false, apart := false, narrowed := true }
def LineOvensUptoSaid : Prop := lineOvensUptoRow.holds Try.pinned (OpenSpec.upto lineOvensSpec)

/-- 'quicksilverlaw01.LineSafe', WHERE WHAT IT READS IS OF BULK AT MOST 1048576: true; the input reads as it did. -/
def lineSafeUptoRow : OpenClaim := { program := "ytkkchoinfdfiaaa", sum := "c1c5a040915a2564a800015ad27202384d7ac25e4111a5e9c622201c4ff244a9", func := "quicksilver/quicksilverlaw01.LineSafe", spec := "lineSafe", unfollowed := true, recurses := true, plainKeys := false, apart := false, narrowed := true }
def LineSafeUptoSaid : Prop := lineSafeUptoRow.holds Try.pinned (OpenSpec.upto lineSafeSpec)

/-- 'quicksilverlaw01.LineLonger', WHERE WHAT IT READS IS OF BULK AT MOST 1048576: true; the input reads as it did. -/
def lineLongerUptoRow : OpenClaim := { program := "ytkkchoinfdfiaaa", sum := "c1c5a040915a2564a800015ad27202384d7ac25e4111a5e9c622201c4ff244a9", func := "quicksilver/quicksilverlaw01.LineLonger", spec := "lineLonger", unfollowed := true, recurses := true, plainKeys := false, apart := false, narrowed := true }
def LineLongerUptoSaid : Prop := lineLongerUptoRow.holds Try.pinned (OpenSpec.upto lineLongerSpec)

/-- 'quicksilverlaw01.LineKnown', WHERE WHAT IT READS IS OF BULK AT MOST 1048576: true; the input reads as it did. -/
def lineKnownUptoRow : OpenClaim := { program := "ytkkchoinfdfiaaa", sum := "c1c5a040915a2564a800015ad27202384d7ac25e4111a5e9c622201c4ff244a9", func := "quicksilver/quicksilverlaw01.LineKnown", spec := "lineKnown", unfollowed := true, recurses := true, plainKeys := false, apart := false, narrowed := true }
def LineKnownUptoSaid : Prop := lineKnownUptoRow.holds Try.pinned (OpenSpec.upto lineKnownSpec)

/-- 'quicksilverlaw01.LineOven', WHERE WHAT IT READS IS OF BULK AT MOST 1048576: true; the input reads as it did. -/
def lineOvenUptoRow : OpenClaim := { program := "ytkkchoinfdfiaaa", sum := "c1c5a040915a2564a800015ad27202384d7ac25e4111a5e9c622201c4ff244a9", func := "quicksilver/quicksilverlaw01.LineOven", spec := "lineOven", unfollowed := true, recurses := true, plainKeys := false, apart := false, narrowed := true }
def LineOvenUptoSaid : Prop := lineOvenUptoRow.holds Try.pinned (OpenSpec.upto lineOvenSpec)

/-- 'quicksilverlaw01.LineFiles', WHERE WHAT IT READS IS OF BULK AT MOST 1048576: true; the input reads as it did. -/
def lineFilesUptoRow : OpenClaim := { program := "ytkkchoinfdfiaaa", sum := "c1c5a040915a2564a800015ad27202384d7ac25e4111a5e9c622201c4ff244a9", func := "quicksilver/quicksilverlaw01.LineFiles", spec := "lineFiles", unfollowed := true, recurses := true, plainKeys := false, apart := false, narrowed := true }
def LineFilesUptoSaid : Prop := lineFilesUptoRow.holds Try.pinned (OpenSpec.upto lineFilesSpec)

/-- 'quicksilverlaw01.LineRound', WHERE WHAT IT READS IS OF BULK AT MOST 1048576: true; the input reads as it did. -/
def lineRoundUptoRow : OpenClaim := { program := "ytkkchoinfdfiaaa", sum := "c1c5a040915a2564a800015ad27202384d7ac25e4111a5e9c622201c4ff244a9", func := "quicksilver/quicksilverlaw01.LineRound", spec := "lineRound", unfollowed := true, recurses := true, plainKeys := false, apart := false, narrowed := true }
def LineRoundUptoSaid : Prop := lineRoundUptoRow.holds Try.pinned (OpenSpec.upto lineRoundSpec)

end Rows
end Go.Proofs.Ytkkchoinfdfiaaa
