/-
  No cell of these rows narrows 'for every input' (looked for: loops, veiled, ifaces, maps, wideKeys, modest, calm, conditions, laid).
  DERIVED. THE GIVEN ROWS OF THIS SEAT. 14 by the template 'for every input the law returns true; each argument reads behind the call as it read before'; 0 by the template 'total and deterministic' (their statements: YtjfggepgjpdebaaTotals.lean).
  GIVEN WITH THE SEED: the statements are not yours to turn. If you find one false, say at which input.
  Laid BY PROGRAM, IN A SANDBOX (cutbox-rows.mjs): the forced cells as the released guide's own fill.sh prints them over the translation d8b9259b1875b6e3… (all of the seat's roots in one cut). By AI agents, Wed Nov 11 2026. No macro, syntax, notation, axiom, sorry.
-/
import Derived.Test.YtjfggepgjpdebaaChecked
import GoSem.Claim
import GoSem.ClaimJoined
import GoSem.ClaimMapViews
import Derived.JoinedTies
import Derived.KernelRfl
namespace Go.Proofs.Ytjfggepgjpdebaa
/- THE CELL 'sum', in the pinned program and in every row, IS THE sha256 OF THE DUMP (.gsa) THAT YtjfggepgjpdebaaProg.lean LOADS. Nothing in Lean hashes anything: it is a label: what it is worth is what the hold of that sum in a sandbox is worth. -/
noncomputable def Try.pinned : Pinned := { name := "ytjfggepgjpdebaa", sum := "d8b9259b1875b6e37ee7d69f0774d1bfc3e438f3225200e3ec935cc53bfb6c3b", checked := Try.checked }
namespace Rows
def none {H : Type} : Left H := { results := [], args := [] }

/-- 'quicksilverlaw04.OrderBegins': WHATEVER THE INPUT: true; the input reads as it did. -/
def orderBeginsSpec : ChangeSpec := { name := "orderBegins", fn := fun _ => fun
  | [d1, d2, d3] => { results := [.lit (.bool true)], args := [d1, d2, d3] }
  | _ => none }
def orderBeginsRow : OpenClaim := { program := "ytjfggepgjpdebaa", sum := "d8b9259b1875b6e37ee7d69f0774d1bfc3e438f3225200e3ec935cc53bfb6c3b", func := "quicksilver/quicksilverlaw04.OrderBegins", spec := "orderBegins", unfollowed := true, recurses := true, apart := false }
def OrderBeginsSaid : Prop := orderBeginsRow.holds Try.pinned (OpenSpec.ofChange orderBeginsSpec)

/-- ITS FALSE NEIGHBOUR: 'it returns false'. Refute it at one input. -/
def orderBeginsWrong : ChangeSpec := { name := "orderBegins", fn := fun _ => fun
  | [d1, d2, d3] => { results := [.lit (.bool false)], args := [d1, d2, d3] }
  | _ => none }
def OrderBeginsWrongFalsely : Prop := orderBeginsRow.holds Try.pinned (OpenSpec.ofChange orderBeginsWrong)

/-- 'quicksilverlaw04.OrderKnown': WHATEVER THE INPUT: true; the input reads as it did. -/
def orderKnownSpec : ChangeSpec := { name := "orderKnown", fn := fun _ => fun
  | [] => { results := [.lit (.bool true)], args := [] }
  | _ => none }
def orderKnownRow : OpenClaim := { program := "ytjfggepgjpdebaa", sum := "d8b9259b1875b6e37ee7d69f0774d1bfc3e438f3225200e3ec935cc53bfb6c3b", func := "quicksilver/quicksilverlaw04.OrderKnown", spec := "orderKnown", unfollowed := true, recurses := true, apart := false }
def OrderKnownSaid : Prop := orderKnownRow.holds Try.pinned (OpenSpec.ofChange orderKnownSpec)

/-- ITS FALSE NEIGHBOUR: 'it returns false'. Refute it at one input. -/
def orderKnownWrong : ChangeSpec := { name := "orderKnown", fn := fun _ => fun
  | [] => { results := [.lit (.bool false)], args := [] }
  | _ => none }
def OrderKnownWrongFalsely : Prop := orderKnownRow.holds Try.pinned (OpenSpec.ofChange orderKnownWrong)

/-- 'quicksilverlaw05.PulseMinors': WHATEVER THE INPUT: true; the input reads as it did. -/
def pulseMinorsSpec : ChangeSpec := { name := "pulseMinors", fn := fun _ => fun
  | [d1, d2] => { results := [.lit (.bool true)], args := [d1, d2] }
  | _ => none }
def pulseMinorsRow : OpenClaim := { program := "ytjfggepgjpdebaa", sum := "d8b9259b1875b6e37ee7d69f0774d1bfc3e438f3225200e3ec935cc53bfb6c3b", func := "quicksilver/quicksilverlaw05.PulseMinors", spec := "pulseMinors", unfollowed := true, recurses := true, apart := false }
def PulseMinorsSaid : Prop := pulseMinorsRow.holds Try.pinned (OpenSpec.ofChange pulseMinorsSpec)

/-- ITS FALSE NEIGHBOUR: 'it returns false'. Refute it at one input. -/
def pulseMinorsWrong : ChangeSpec := { name := "pulseMinors", fn := fun _ => fun
  | [d1, d2] => { results := [.lit (.bool false)], args := [d1, d2] }
  | _ => none }
def PulseMinorsWrongFalsely : Prop := pulseMinorsRow.holds Try.pinned (OpenSpec.ofChange pulseMinorsWrong)

/-- 'quicksilverlaw05.PulseBits': WHATEVER THE INPUT: true; the input reads as it did. -/
def pulseBitsSpec : ChangeSpec := { name := "pulseBits", fn := fun _ => fun
  | [d1, d2] => { results := [.lit (.bool true)], args := [d1, d2] }
  | _ => none }
def pulseBitsRow : OpenClaim := { program := "ytjfggepgjpdebaa", sum := "d8b9259b1875b6e37ee7d69f0774d1bfc3e438f3225200e3ec935cc53bfb6c3b", func := "quicksilver/quicksilverlaw05.PulseBits", spec := "pulseBits", unfollowed := true, recurses := true, apart := false }
def PulseBitsSaid : Prop := pulseBitsRow.holds Try.pinned (OpenSpec.ofChange pulseBitsSpec)

/-- ITS FALSE NEIGHBOUR: 'it returns false'. Refute it at one input. -/
def pulseBitsWrong : ChangeSpec := { name := "pulseBits", fn := fun _ => fun
  | [d1, d2] => { results := [.lit (.bool false)], args := [d1, d2] }
  | _ => none }
def PulseBitsWrongFalsely : Prop := pulseBitsRow.holds Try.pinned (OpenSpec.ofChange pulseBitsWrong)

/-- 'quicksilverlaw05.PulseBeats': WHATEVER THE INPUT: true; the input reads as it did. -/
def pulseBeatsSpec : ChangeSpec := { name := "pulseBeats", fn := fun _ => fun
  | [d1, d2] => { results := [.lit (.bool true)], args := [d1, d2] }
  | _ => none }
def pulseBeatsRow : OpenClaim := { program := "ytjfggepgjpdebaa", sum := "d8b9259b1875b6e37ee7d69f0774d1bfc3e438f3225200e3ec935cc53bfb6c3b", func := "quicksilver/quicksilverlaw05.PulseBeats", spec := "pulseBeats", unfollowed := true, recurses := true, apart := false }
def PulseBeatsSaid : Prop := pulseBeatsRow.holds Try.pinned (OpenSpec.ofChange pulseBeatsSpec)

/-- ITS FALSE NEIGHBOUR: 'it returns false'. Refute it at one input. -/
def pulseBeatsWrong : ChangeSpec := { name := "pulseBeats", fn := fun _ => fun
  | [d1, d2] => { results := [.lit (.bool false)], args := [d1, d2] }
  | _ => none }
def PulseBeatsWrongFalsely : Prop := pulseBeatsRow.holds Try.pinned (OpenSpec.ofChange pulseBeatsWrong)

/-- 'quicksilverlaw05.PulseKnown': WHATEVER THE INPUT: true; the input reads as it did. -/
def pulseKnownSpec : ChangeSpec := { name := "pulseKnown", fn := fun _ => fun
  | [] => { results := [.lit (.bool true)], args := [] }
  | _ => none }
def pulseKnownRow : OpenClaim := { program := "ytjfggepgjpdebaa", sum := "d8b9259b1875b6e37ee7d69f0774d1bfc3e438f3225200e3ec935cc53bfb6c3b", func := "quicksilver/quicksilverlaw05.PulseKnown", spec := "pulseKnown", unfollowed := true, recurses := true, apart := false }
def PulseKnownSaid : Prop := pulseKnownRow.holds Try.pinned (OpenSpec.ofChange pulseKnownSpec)

/-- ITS FALSE NEIGHBOUR: 'it returns false'. Refute it at one input. -/
def pulseKnownWrong : ChangeSpec := { name := "pulseKnown", fn := fun _ => fun
  | [] => { results := [.lit (.bool false)], args := [] }
  | _ => none }
def PulseKnownWrongFalsely : Prop := pulseKnownRow.holds Try.pinned (OpenSpec.ofChange pulseKnownWrong)

/-- 'quicksilverlaw05.PulseLevels': WHATEVER THE INPUT: true; the input reads as it did. -/
def pulseLevelsSpec : ChangeSpec := { name := "pulseLevels", fn := fun _ => fun
  | [d1, d2] => { results := [.lit (.bool true)], args := [d1, d2] }
  | _ => none }
def pulseLevelsRow : OpenClaim := { program := "ytjfggepgjpdebaa", sum := "d8b9259b1875b6e37ee7d69f0774d1bfc3e438f3225200e3ec935cc53bfb6c3b", func := "quicksilver/quicksilverlaw05.PulseLevels", spec := "pulseLevels", unfollowed := true, recurses := true, apart := false }
def PulseLevelsSaid : Prop := pulseLevelsRow.holds Try.pinned (OpenSpec.ofChange pulseLevelsSpec)

/-- ITS FALSE NEIGHBOUR: 'it returns false'. Refute it at one input. -/
def pulseLevelsWrong : ChangeSpec := { name := "pulseLevels", fn := fun _ => fun
  | [d1, d2] => { results := [.lit (.bool false)], args := [d1, d2] }
  | _ => none }
def PulseLevelsWrongFalsely : Prop := pulseLevelsRow.holds Try.pinned (OpenSpec.ofChange pulseLevelsWrong)

/-- 'quicksilverlaw05.PulseCut': WHATEVER THE INPUT: true; the input reads as it did. -/
def pulseCutSpec : ChangeSpec := { name := "pulseCut", fn := fun _ => fun
  | [d1, d2] => { results := [.lit (.bool true)], args := [d1, d2] }
  | _ => none }
def pulseCutRow : OpenClaim := { program := "ytjfggepgjpdebaa", sum := "d8b9259b1875b6e37ee7d69f0774d1bfc3e438f3225200e3ec935cc53bfb6c3b", func := "quicksilver/quicksilverlaw05.PulseCut", spec := "pulseCut", unfollowed := true, recurses := true, apart := false }
def PulseCutSaid : Prop := pulseCutRow.holds Try.pinned (OpenSpec.ofChange pulseCutSpec)

/-- ITS FALSE NEIGHBOUR: 'it returns false'. Refute it at one input. -/
def pulseCutWrong : ChangeSpec := { name := "pulseCut", fn := fun _ => fun
  | [d1, d2] => { results := [.lit (.bool false)], args := [d1, d2] }
  | _ => none }
def PulseCutWrongFalsely : Prop := pulseCutRow.holds Try.pinned (OpenSpec.ofChange pulseCutWrong)

/-- 'quicksilverlaw05.PulseWaits': WHATEVER THE INPUT: true; the input reads as it did. -/
def pulseWaitsSpec : ChangeSpec := { name := "pulseWaits", fn := fun _ => fun
  | [d1, d2] => { results := [.lit (.bool true)], args := [d1, d2] }
  | _ => none }
def pulseWaitsRow : OpenClaim := { program := "ytjfggepgjpdebaa", sum := "d8b9259b1875b6e37ee7d69f0774d1bfc3e438f3225200e3ec935cc53bfb6c3b", func := "quicksilver/quicksilverlaw05.PulseWaits", spec := "pulseWaits", unfollowed := true, recurses := true, apart := false }
def PulseWaitsSaid : Prop := pulseWaitsRow.holds Try.pinned (OpenSpec.ofChange pulseWaitsSpec)

/-- ITS FALSE NEIGHBOUR: 'it returns false'. Refute it at one input. -/
def pulseWaitsWrong : ChangeSpec := { name := "pulseWaits", fn := fun _ => fun
  | [d1, d2] => { results := [.lit (.bool false)], args := [d1, d2] }
  | _ => none }
def PulseWaitsWrongFalsely : Prop := pulseWaitsRow.holds Try.pinned (OpenSpec.ofChange pulseWaitsWrong)

/-- 'quicksilverlaw05.PulseProduct': WHATEVER THE INPUT: true; the input reads as it did. -/
def pulseProductSpec : ChangeSpec := { name := "pulseProduct", fn := fun _ => fun
  | [d1, d2, d3] => { results := [.lit (.bool true)], args := [d1, d2, d3] }
  | _ => none }
def pulseProductRow : OpenClaim := { program := "ytjfggepgjpdebaa", sum := "d8b9259b1875b6e37ee7d69f0774d1bfc3e438f3225200e3ec935cc53bfb6c3b", func := "quicksilver/quicksilverlaw05.PulseProduct", spec := "pulseProduct", unfollowed := true, recurses := true, apart := false }
def PulseProductSaid : Prop := pulseProductRow.holds Try.pinned (OpenSpec.ofChange pulseProductSpec)

/-- ITS FALSE NEIGHBOUR: 'it returns false'. Refute it at one input. -/
def pulseProductWrong : ChangeSpec := { name := "pulseProduct", fn := fun _ => fun
  | [d1, d2, d3] => { results := [.lit (.bool false)], args := [d1, d2, d3] }
  | _ => none }
def PulseProductWrongFalsely : Prop := pulseProductRow.holds Try.pinned (OpenSpec.ofChange pulseProductWrong)

/-- 'quicksilverlaw05.PulseOne': WHATEVER THE INPUT: true; the input reads as it did. -/
def pulseOneSpec : ChangeSpec := { name := "pulseOne", fn := fun _ => fun
  | [d] => { results := [.lit (.bool true)], args := [d] }
  | _ => none }
def pulseOneRow : OpenClaim := { program := "ytjfggepgjpdebaa", sum := "d8b9259b1875b6e37ee7d69f0774d1bfc3e438f3225200e3ec935cc53bfb6c3b", func := "quicksilver/quicksilverlaw05.PulseOne", spec := "pulseOne", unfollowed := true, recurses := true, apart := false }
def PulseOneSaid : Prop := pulseOneRow.holds Try.pinned (OpenSpec.ofChange pulseOneSpec)

/-- ITS FALSE NEIGHBOUR: 'it returns false'. Refute it at one input. -/
def pulseOneWrong : ChangeSpec := { name := "pulseOne", fn := fun _ => fun
  | [d] => { results := [.lit (.bool false)], args := [d] }
  | _ => none }
def PulseOneWrongFalsely : Prop := pulseOneRow.holds Try.pinned (OpenSpec.ofChange pulseOneWrong)

/-- 'quicksilverlaw05.PulseChecks': WHATEVER THE INPUT: true; the input reads as it did. -/
def pulseChecksSpec : ChangeSpec := { name := "pulseChecks", fn := fun _ => fun
  | [d1, d2] => { results := [.lit (.bool true)], args := [d1, d2] }
  | _ => none }
def pulseChecksRow : OpenClaim := { program := "ytjfggepgjpdebaa", sum := "d8b9259b1875b6e37ee7d69f0774d1bfc3e438f3225200e3ec935cc53bfb6c3b", func := "quicksilver/quicksilverlaw05.PulseChecks", spec := "pulseChecks", unfollowed := true, recurses := true, apart := false }
def PulseChecksSaid : Prop := pulseChecksRow.holds Try.pinned (OpenSpec.ofChange pulseChecksSpec)

/-- ITS FALSE NEIGHBOUR: 'it returns false'. Refute it at one input. -/
def pulseChecksWrong : ChangeSpec := { name := "pulseChecks", fn := fun _ => fun
  | [d1, d2] => { results := [.lit (.bool false)], args := [d1, d2] }
  | _ => none }
def PulseChecksWrongFalsely : Prop := pulseChecksRow.holds Try.pinned (OpenSpec.ofChange pulseChecksWrong)

/-- 'quicksilverlaw05.PulseBack': WHATEVER THE INPUT: true; the input reads as it did. -/
def pulseBackSpec : ChangeSpec := { name := "pulseBack", fn := fun _ => fun
  | [d1, d2] => { results := [.lit (.bool true)], args := [d1, d2] }
  | _ => none }
def pulseBackRow : OpenClaim := { program := "ytjfggepgjpdebaa", sum := "d8b9259b1875b6e37ee7d69f0774d1bfc3e438f3225200e3ec935cc53bfb6c3b", func := "quicksilver/quicksilverlaw05.PulseBack", spec := "pulseBack", unfollowed := true, recurses := true, apart := false }
def PulseBackSaid : Prop := pulseBackRow.holds Try.pinned (OpenSpec.ofChange pulseBackSpec)

/-- ITS FALSE NEIGHBOUR: 'it returns false'. Refute it at one input. -/
def pulseBackWrong : ChangeSpec := { name := "pulseBack", fn := fun _ => fun
  | [d1, d2] => { results := [.lit (.bool false)], args := [d1, d2] }
  | _ => none }
def PulseBackWrongFalsely : Prop := pulseBackRow.holds Try.pinned (OpenSpec.ofChange pulseBackWrong)

/-- 'quicksilverlaw05.PulseOrders': WHATEVER THE INPUT: true; the input reads as it did. -/
def pulseOrdersSpec : ChangeSpec := { name := "pulseOrders", fn := fun _ => fun
  | [d1, d2] => { results := [.lit (.bool true)], args := [d1, d2] }
  | _ => none }
def pulseOrdersRow : OpenClaim := { program := "ytjfggepgjpdebaa", sum := "d8b9259b1875b6e37ee7d69f0774d1bfc3e438f3225200e3ec935cc53bfb6c3b", func := "quicksilver/quicksilverlaw05.PulseOrders", spec := "pulseOrders", unfollowed := true, recurses := true, apart := false }
def PulseOrdersSaid : Prop := pulseOrdersRow.holds Try.pinned (OpenSpec.ofChange pulseOrdersSpec)

/-- ITS FALSE NEIGHBOUR: 'it returns false'. Refute it at one input. -/
def pulseOrdersWrong : ChangeSpec := { name := "pulseOrders", fn := fun _ => fun
  | [d1, d2] => { results := [.lit (.bool false)], args := [d1, d2] }
  | _ => none }
def PulseOrdersWrongFalsely : Prop := pulseOrdersRow.holds Try.pinned (OpenSpec.ofChange pulseOrdersWrong)

/- THE SECOND FORM. 'bulk': how many values and letters a reading holds, each counted each time it is reached (what is shared counts as often as it is met; a slice's spare places count too). A statement '..UptoSaid' is the law's where the arguments, and the package variables that the reading takes, are together of bulk at most 1048576: NARROWER than '..Said'. Prove '..Said' where nothing that the law and all that it calls make is longer than what came in: it says more and counts as full. Else prove '..UptoSaid'. A law counts once. -/
mutual
def uptoBulk {H : Type} : DataW H → Nat
  | .lit (.string bytes) => bytes.length + 1
  | .lit _ => 1
  | .nil => 1
  | .ptr d => uptoBulk d + 1
  | .slice elems spare => uptoBulkAll elems + uptoBulkAll spare + 1
  | .agg parts => uptoBulkAll parts + 1
  | .iface _ d => uptoBulk d + 1
  | .map entries => uptoBulkEntries entries + 1
  | .held _ => 1
def uptoBulkAll {H : Type} : List (DataW H) → Nat
  | [] => 0
  | d :: r => uptoBulk d + uptoBulkAll r
def uptoBulkEntries {H : Type} : List (Lit × DataW H) → Nat
  | [] => 0
  | x :: r => uptoBulkEntry x + uptoBulkEntries r
def uptoBulkEntry {H : Type} : Lit × DataW H → Nat
  | (.string bytes, d) => bytes.length + uptoBulk d + 1
  | (_, d) => uptoBulk d + 1
 end
def uptoSmall : (H : Type) → List (DataW H) → Bool := fun _ ds => decide (uptoBulkAll ds ≤ 1048576)
def OpenSpec.upto (s : _root_.Go.ChangeSpec) : _root_.Go.OpenSpec := { _root_.Go.OpenSpec.ofChange s with cond := some uptoSmall }

/-- 'quicksilverlaw04.OrderBegins', WHERE WHAT IT READS IS OF BULK AT MOST 1048576: true; the input reads as it did. -/
def orderBeginsUptoRow : OpenClaim := { program := "ytjfggepgjpdebaa", sum := "d8b9259b1875b6e37ee7d69f0774d1bfc3e438f3225200e3ec935cc53bfb6c3b", func := "quicksilver/quicksilverlaw04.OrderBegins", spec := "orderBegins", unfollowed := true, recurses := true, apart := false, narrowed := true }
def OrderBeginsUptoSaid : Prop := orderBeginsUptoRow.holds Try.pinned (OpenSpec.upto orderBeginsSpec)

/-- 'quicksilverlaw04.OrderKnown', WHERE WHAT IT READS IS OF BULK AT MOST 1048576: true; the input reads as it did. -/
def orderKnownUptoRow : OpenClaim := { program := "ytjfggepgjpdebaa", sum := "d8b9259b1875b6e37ee7d69f0774d1bfc3e438f3225200e3ec935cc53bfb6c3b", func := "quicksilver/quicksilverlaw04.OrderKnown", spec := "orderKnown", unfollowed := true, recurses := true, apart := false, narrowed := true }
def OrderKnownUptoSaid : Prop := orderKnownUptoRow.holds Try.pinned (OpenSpec.upto orderKnownSpec)

/-- 'quicksilverlaw05.PulseMinors', WHERE WHAT IT READS IS OF BULK AT MOST 1048576: true; the input reads as it did. -/
def pulseMinorsUptoRow : OpenClaim := { program := "ytjfggepgjpdebaa", sum := "d8b9259b1875b6e37ee7d69f0774d1bfc3e438f3225200e3ec935cc53bfb6c3b", func := "quicksilver/quicksilverlaw05.PulseMinors", spec := "pulseMinors", unfollowed := true, recurses := true, apart := false, narrowed := true }
def PulseMinorsUptoSaid : Prop := pulseMinorsUptoRow.holds Try.pinned (OpenSpec.upto pulseMinorsSpec)

/-- 'quicksilverlaw05.PulseBits', WHERE WHAT IT READS IS OF BULK AT MOST 1048576: true; the input reads as it did. -/
def pulseBitsUptoRow : OpenClaim := { program := "ytjfggepgjpdebaa", sum := "d8b9259b1875b6e37ee7d69f0774d1bfc3e438f3225200e3ec935cc53bfb6c3b", func := "quicksilver/quicksilverlaw05.PulseBits", spec := "pulseBits", unfollowed := true, recurses := true, apart := false, narrowed := true }
def PulseBitsUptoSaid : Prop := pulseBitsUptoRow.holds Try.pinned (OpenSpec.upto pulseBitsSpec)

/-- 'quicksilverlaw05.PulseBeats', WHERE WHAT IT READS IS OF BULK AT MOST 1048576: true; the input reads as it did. -/
def pulseBeatsUptoRow : OpenClaim := { program := "ytjfggepgjpdebaa", sum := "d8b9259b1875b6e37ee7d69f0774d1bfc3e438f3225200e3ec935cc53bfb6c3b", func := "quicksilver/quicksilverlaw05.PulseBeats", spec := "pulseBeats", unfollowed := true, recurses := true, apart := false, narrowed := true }
def PulseBeatsUptoSaid : Prop := pulseBeatsUptoRow.holds Try.pinned (OpenSpec.upto pulseBeatsSpec)

/-- 'quicksilverlaw05.PulseKnown', WHERE WHAT IT READS IS OF BULK AT MOST 1048576: true; the input reads as it did. -/
def pulseKnownUptoRow : OpenClaim := { program := "ytjfggepgjpdebaa", sum := "d8b9259b1875b6e37ee7d69f0774d1bfc3e438f3225200e3ec935cc53bfb6c3b", func := "quicksilver/quicksilverlaw05.PulseKnown", spec := "pulseKnown", unfollowed := true, recurses := true, apart := false, narrowed := true }
def PulseKnownUptoSaid : Prop := pulseKnownUptoRow.holds Try.pinned (OpenSpec.upto pulseKnownSpec)

/-- 'quicksilverlaw05.PulseLevels', WHERE WHAT IT READS IS OF BULK AT MOST 1048576: true; the input reads as it did. -/
def pulseLevelsUptoRow : OpenClaim := { program := "ytjfggepgjpdebaa", sum := "d8b9259b1875b6e37ee7d69f0774d1bfc3e438f3225200e3ec935cc53bfb6c3b", func := "quicksilver/quicksilverlaw05.PulseLevels", spec := "pulseLevels", unfollowed := true, recurses := true, apart := false, narrowed := true }
def PulseLevelsUptoSaid : Prop := pulseLevelsUptoRow.holds Try.pinned (OpenSpec.upto pulseLevelsSpec)

/-- 'quicksilverlaw05.PulseCut', WHERE WHAT IT READS IS OF BULK AT MOST 1048576: true; the input reads as it did. -/
def pulseCutUptoRow : OpenClaim := { program := "ytjfggepgjpdebaa", sum := "d8b9259b1875b6e37ee7d69f0774d1bfc3e438f3225200e3ec935cc53bfb6c3b", func := "quicksilver/quicksilverlaw05.PulseCut", spec := "pulseCut", unfollowed := true, recurses := true, apart := false, narrowed := true }
def PulseCutUptoSaid : Prop := pulseCutUptoRow.holds Try.pinned (OpenSpec.upto pulseCutSpec)

/-- 'quicksilverlaw05.PulseWaits', WHERE WHAT IT READS IS OF BULK AT MOST 1048576: true; the input reads as it did. -/
def pulseWaitsUptoRow : OpenClaim := { program := "ytjfggepgjpdebaa", sum := "d8b9259b1875b6e37ee7d69f0774d1bfc3e438f3225200e3ec935cc53bfb6c3b", func := "quicksilver/quicksilverlaw05.PulseWaits", spec := "pulseWaits", unfollowed := true, recurses := true, apart := false, narrowed := true }
def PulseWaitsUptoSaid : Prop := pulseWaitsUptoRow.holds Try.pinned (OpenSpec.upto pulseWaitsSpec)

/-- 'quicksilverlaw05.PulseProduct', WHERE WHAT IT READS IS OF BULK AT MOST 1048576: true; the input reads as it did. -/
def pulseProductUptoRow : OpenClaim := { program := "ytjfggepgjpdebaa", sum := "d8b9259b1875b6e37ee7d69f0774d1bfc3e438f3225200e3ec935cc53bfb6c3b", func := "quicksilver/quicksilverlaw05.PulseProduct", spec := "pulseProduct", unfollowed := true, recurses := true, apart := false, narrowed := true }
def PulseProductUptoSaid : Prop := pulseProductUptoRow.holds Try.pinned (OpenSpec.upto pulseProductSpec)

/-- 'quicksilverlaw05.PulseOne', WHERE WHAT IT READS IS OF BULK AT MOST 1048576: true; the input reads as it did. -/
def pulseOneUptoRow : OpenClaim := { program := "ytjfggepgjpdebaa", sum := "d8b9259b1875b6e37ee7d69f0774d1bfc3e438f3225200e3ec935cc53bfb6c3b", func := "quicksilver/quicksilverlaw05.PulseOne", spec := "pulseOne", unfollowed := true, recurses := true, apart := false, narrowed := true }
def PulseOneUptoSaid : Prop := pulseOneUptoRow.holds Try.pinned (OpenSpec.upto pulseOneSpec)

/-- 'quicksilverlaw05.PulseChecks', WHERE WHAT IT READS IS OF BULK AT MOST 1048576: true; the input reads as it did. -/
def pulseChecksUptoRow : OpenClaim := { program := "ytjfggepgjpdebaa", sum := "d8b9259b1875b6e37ee7d69f0774d1bfc3e438f3225200e3ec935cc53bfb6c3b", func := "quicksilver/quicksilverlaw05.PulseChecks", spec := "pulseChecks", unfollowed := true, recurses := true, apart := false, narrowed := true }
def PulseChecksUptoSaid : Prop := pulseChecksUptoRow.holds Try.pinned (OpenSpec.upto pulseChecksSpec)

/-- 'quicksilverlaw05.PulseBack', WHERE WHAT IT READS IS OF BULK AT MOST 1048576: true; the input reads as it did. -/
def pulseBackUptoRow : OpenClaim := { program := "ytjfggepgjpdebaa", sum := "d8b9259b1875b6e37ee7d69f0774d1bfc3e438f3225200e3ec935cc53bfb6c3b", func := "quicksilver/quicksilverlaw05.PulseBack", spec := "pulseBack", unfollowed := true, recurses := true, apart := false, narrowed := true }
def PulseBackUptoSaid : Prop := pulseBackUptoRow.holds Try.pinned (OpenSpec.upto pulseBackSpec)

/-- 'quicksilverlaw05.PulseOrders', WHERE WHAT IT READS IS OF BULK AT MOST 1048576: true; the input reads as it did. -/
def pulseOrdersUptoRow : OpenClaim := { program := "ytjfggepgjpdebaa", sum := "d8b9259b1875b6e37ee7d69f0774d1bfc3e438f3225200e3ec935cc53bfb6c3b", func := "quicksilver/quicksilverlaw05.PulseOrders", spec := "pulseOrders", unfollowed := true, recurses := true, apart := false, narrowed := true }
def PulseOrdersUptoSaid : Prop := pulseOrdersUptoRow.holds Try.pinned (OpenSpec.upto pulseOrdersSpec)

end Rows
end Go.Proofs.Ytjfggepgjpdebaa
