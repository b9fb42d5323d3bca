/-
  No cell of these rows narrows 'for every input' (looked for: loops, veiled, ifaces, maps, wideKeys, modest, calm, conditions, laid).
  DERIVED. THE GIVEN ROWS OF THIS SEAT. 12 by the template 'for every input the law returns true; each argument reads behind the call as it read before'; 0 by the template 'total and deterministic' (their statements: YtnhpcoagkmgdoaaTotals.lean).
  GIVEN WITH THE SEED: the statements are not yours to turn. If you find one false, say at which input.
  Laid BY PROGRAM, IN A SANDBOX (cutbox-rows.mjs): the forced cells as the released guide's own fill.sh prints them over the translation 38c5cbdbc4ad4258… (all of the seat's roots in one cut). By AI agents, Wed Nov 11 2026. No macro, syntax, notation, axiom, sorry.
-/
import Derived.Test.YtnhpcoagkmgdoaaChecked
import GoSem.Claim
import GoSem.ClaimJoined
import GoSem.ClaimMapViews
import Derived.JoinedTies
import Derived.KernelRfl
namespace Go.Proofs.Ytnhpcoagkmgdoaa
/- THE CELL 'sum', in the pinned program and in every row, IS THE sha256 OF THE DUMP (.gsa) THAT YtnhpcoagkmgdoaaProg.lean LOADS. Nothing in Lean hashes anything: it is a label: what it is worth is what the hold of that sum in a sandbox is worth. -/
noncomputable def Try.pinned : Pinned := { name := "ytnhpcoagkmgdoaa", sum := "38c5cbdbc4ad425865bf9b25211dcd5e7b34a4e601a75938ca5782e4403cc5a3", checked := Try.checked }
namespace Rows
def none {H : Type} : Left H := { results := [], args := [] }

/-- 'quicksilverlaw10.DumpTapes': WHATEVER THE INPUT: true; the input reads as it did. -/
def dumpTapesSpec : ChangeSpec := { name := "dumpTapes", fn := fun _ => fun
  | [d1, d2] => { results := [.lit (.bool true)], args := [d1, d2] }
  | _ => none }
def dumpTapesRow : OpenClaim := { program := "ytnhpcoagkmgdoaa", sum := "38c5cbdbc4ad425865bf9b25211dcd5e7b34a4e601a75938ca5782e4403cc5a3", func := "quicksilver/quicksilverlaw10.DumpTapes", spec := "dumpTapes", unfollowed := true, recurses := true, apart := false }
def DumpTapesSaid : Prop := dumpTapesRow.holds Try.pinned (OpenSpec.ofChange dumpTapesSpec)

/-- ITS FALSE NEIGHBOUR: 'it returns false'. Refute it at one input. -/
def dumpTapesWrong : ChangeSpec := { name := "dumpTapes", fn := fun _ => fun
  | [d1, d2] => { results := [.lit (.bool false)], args := [d1, d2] }
  | _ => none }
def DumpTapesWrongFalsely : Prop := dumpTapesRow.holds Try.pinned (OpenSpec.ofChange dumpTapesWrong)

/-- 'quicksilverlaw10.DumpDumps': WHATEVER THE INPUT: true; the input reads as it did. -/
def dumpDumpsSpec : ChangeSpec := { name := "dumpDumps", fn := fun _ => fun
  | [d1, d2] => { results := [.lit (.bool true)], args := [d1, d2] }
  | _ => none }
def dumpDumpsRow : OpenClaim := { program := "ytnhpcoagkmgdoaa", sum := "38c5cbdbc4ad425865bf9b25211dcd5e7b34a4e601a75938ca5782e4403cc5a3", func := "quicksilver/quicksilverlaw10.DumpDumps", spec := "dumpDumps", unfollowed := true, recurses := true, apart := false }
def DumpDumpsSaid : Prop := dumpDumpsRow.holds Try.pinned (OpenSpec.ofChange dumpDumpsSpec)

/-- ITS FALSE NEIGHBOUR: 'it returns false'. Refute it at one input. -/
def dumpDumpsWrong : ChangeSpec := { name := "dumpDumps", fn := fun _ => fun
  | [d1, d2] => { results := [.lit (.bool false)], args := [d1, d2] }
  | _ => none }
def DumpDumpsWrongFalsely : Prop := dumpDumpsRow.holds Try.pinned (OpenSpec.ofChange dumpDumpsWrong)

/-- 'quicksilverlaw10.DumpKnown': WHATEVER THE INPUT: true; the input reads as it did. -/
def dumpKnownSpec : ChangeSpec := { name := "dumpKnown", fn := fun _ => fun
  | [] => { results := [.lit (.bool true)], args := [] }
  | _ => none }
def dumpKnownRow : OpenClaim := { program := "ytnhpcoagkmgdoaa", sum := "38c5cbdbc4ad425865bf9b25211dcd5e7b34a4e601a75938ca5782e4403cc5a3", func := "quicksilver/quicksilverlaw10.DumpKnown", spec := "dumpKnown", unfollowed := true, recurses := true, apart := false }
def DumpKnownSaid : Prop := dumpKnownRow.holds Try.pinned (OpenSpec.ofChange dumpKnownSpec)

/-- ITS FALSE NEIGHBOUR: 'it returns false'. Refute it at one input. -/
def dumpKnownWrong : ChangeSpec := { name := "dumpKnown", fn := fun _ => fun
  | [] => { results := [.lit (.bool false)], args := [] }
  | _ => none }
def DumpKnownWrongFalsely : Prop := dumpKnownRow.holds Try.pinned (OpenSpec.ofChange dumpKnownWrong)

/-- 'quicksilverlaw10.DumpMended': WHATEVER THE INPUT: true; the input reads as it did. -/
def dumpMendedSpec : ChangeSpec := { name := "dumpMended", fn := fun _ => fun
  | [d1, d2] => { results := [.lit (.bool true)], args := [d1, d2] }
  | _ => none }
def dumpMendedRow : OpenClaim := { program := "ytnhpcoagkmgdoaa", sum := "38c5cbdbc4ad425865bf9b25211dcd5e7b34a4e601a75938ca5782e4403cc5a3", func := "quicksilver/quicksilverlaw10.DumpMended", spec := "dumpMended", unfollowed := true, recurses := true, apart := false }
def DumpMendedSaid : Prop := dumpMendedRow.holds Try.pinned (OpenSpec.ofChange dumpMendedSpec)

/-- ITS FALSE NEIGHBOUR: 'it returns false'. Refute it at one input. -/
def dumpMendedWrong : ChangeSpec := { name := "dumpMended", fn := fun _ => fun
  | [d1, d2] => { results := [.lit (.bool false)], args := [d1, d2] }
  | _ => none }
def DumpMendedWrongFalsely : Prop := dumpMendedRow.holds Try.pinned (OpenSpec.ofChange dumpMendedWrong)

/-- 'quicksilverlaw10.DumpNoticed': WHATEVER THE INPUT: true; the input reads as it did. -/
def dumpNoticedSpec : ChangeSpec := { name := "dumpNoticed", fn := fun _ => fun
  | [d1, d2, d3] => { results := [.lit (.bool true)], args := [d1, d2, d3] }
  | _ => none }
def dumpNoticedRow : OpenClaim := { program := "ytnhpcoagkmgdoaa", sum := "38c5cbdbc4ad425865bf9b25211dcd5e7b34a4e601a75938ca5782e4403cc5a3", func := "quicksilver/quicksilverlaw10.DumpNoticed", spec := "dumpNoticed", unfollowed := true, recurses := true, apart := false }
def DumpNoticedSaid : Prop := dumpNoticedRow.holds Try.pinned (OpenSpec.ofChange dumpNoticedSpec)

/-- ITS FALSE NEIGHBOUR: 'it returns false'. Refute it at one input. -/
def dumpNoticedWrong : ChangeSpec := { name := "dumpNoticed", fn := fun _ => fun
  | [d1, d2, d3] => { results := [.lit (.bool false)], args := [d1, d2, d3] }
  | _ => none }
def DumpNoticedWrongFalsely : Prop := dumpNoticedRow.holds Try.pinned (OpenSpec.ofChange dumpNoticedWrong)

/-- 'quicksilverlaw10.DumpBytes': WHATEVER THE INPUT: true; the input reads as it did. -/
def dumpBytesSpec : ChangeSpec := { name := "dumpBytes", fn := fun _ => fun
  | [d] => { results := [.lit (.bool true)], args := [d] }
  | _ => none }
def dumpBytesRow : OpenClaim := { program := "ytnhpcoagkmgdoaa", sum := "38c5cbdbc4ad425865bf9b25211dcd5e7b34a4e601a75938ca5782e4403cc5a3", func := "quicksilver/quicksilverlaw10.DumpBytes", spec := "dumpBytes", unfollowed := true, recurses := true, apart := false }
def DumpBytesSaid : Prop := dumpBytesRow.holds Try.pinned (OpenSpec.ofChange dumpBytesSpec)

/-- ITS FALSE NEIGHBOUR: 'it returns false'. Refute it at one input. -/
def dumpBytesWrong : ChangeSpec := { name := "dumpBytes", fn := fun _ => fun
  | [d] => { results := [.lit (.bool false)], args := [d] }
  | _ => none }
def DumpBytesWrongFalsely : Prop := dumpBytesRow.holds Try.pinned (OpenSpec.ofChange dumpBytesWrong)

/-- 'quicksilverlaw10.DumpRestarted': WHATEVER THE INPUT: true; the input reads as it did. -/
def dumpRestartedSpec : ChangeSpec := { name := "dumpRestarted", fn := fun _ => fun
  | [d1, d2, d3] => { results := [.lit (.bool true)], args := [d1, d2, d3] }
  | _ => none }
def dumpRestartedRow : OpenClaim := { program := "ytnhpcoagkmgdoaa", sum := "38c5cbdbc4ad425865bf9b25211dcd5e7b34a4e601a75938ca5782e4403cc5a3", func := "quicksilver/quicksilverlaw10.DumpRestarted", spec := "dumpRestarted", unfollowed := true, recurses := true, apart := false }
def DumpRestartedSaid : Prop := dumpRestartedRow.holds Try.pinned (OpenSpec.ofChange dumpRestartedSpec)

/-- ITS FALSE NEIGHBOUR: 'it returns false'. Refute it at one input. -/
def dumpRestartedWrong : ChangeSpec := { name := "dumpRestarted", fn := fun _ => fun
  | [d1, d2, d3] => { results := [.lit (.bool false)], args := [d1, d2, d3] }
  | _ => none }
def DumpRestartedWrongFalsely : Prop := dumpRestartedRow.holds Try.pinned (OpenSpec.ofChange dumpRestartedWrong)

/-- 'quicksilverlaw10.DumpGuarded': WHATEVER THE INPUT: true; the input reads as it did. -/
def dumpGuardedSpec : ChangeSpec := { name := "dumpGuarded", fn := fun _ => fun
  | [d1, d2, d3] => { results := [.lit (.bool true)], args := [d1, d2, d3] }
  | _ => none }
def dumpGuardedRow : OpenClaim := { program := "ytnhpcoagkmgdoaa", sum := "38c5cbdbc4ad425865bf9b25211dcd5e7b34a4e601a75938ca5782e4403cc5a3", func := "quicksilver/quicksilverlaw10.DumpGuarded", spec := "dumpGuarded", unfollowed := true, recurses := true, apart := false }
def DumpGuardedSaid : Prop := dumpGuardedRow.holds Try.pinned (OpenSpec.ofChange dumpGuardedSpec)

/-- ITS FALSE NEIGHBOUR: 'it returns false'. Refute it at one input. -/
def dumpGuardedWrong : ChangeSpec := { name := "dumpGuarded", fn := fun _ => fun
  | [d1, d2, d3] => { results := [.lit (.bool false)], args := [d1, d2, d3] }
  | _ => none }
def DumpGuardedWrongFalsely : Prop := dumpGuardedRow.holds Try.pinned (OpenSpec.ofChange dumpGuardedWrong)

/-- 'quicksilverlaw10.DumpRecovered': WHATEVER THE INPUT: true; the input reads as it did. -/
def dumpRecoveredSpec : ChangeSpec := { name := "dumpRecovered", fn := fun _ => fun
  | [d1, d2, d3] => { results := [.lit (.bool true)], args := [d1, d2, d3] }
  | _ => none }
def dumpRecoveredRow : OpenClaim := { program := "ytnhpcoagkmgdoaa", sum := "38c5cbdbc4ad425865bf9b25211dcd5e7b34a4e601a75938ca5782e4403cc5a3", func := "quicksilver/quicksilverlaw10.DumpRecovered", spec := "dumpRecovered", unfollowed := true, recurses := true, apart := false }
def DumpRecoveredSaid : Prop := dumpRecoveredRow.holds Try.pinned (OpenSpec.ofChange dumpRecoveredSpec)

/-- ITS FALSE NEIGHBOUR: 'it returns false'. Refute it at one input. -/
def dumpRecoveredWrong : ChangeSpec := { name := "dumpRecovered", fn := fun _ => fun
  | [d1, d2, d3] => { results := [.lit (.bool false)], args := [d1, d2, d3] }
  | _ => none }
def DumpRecoveredWrongFalsely : Prop := dumpRecoveredRow.holds Try.pinned (OpenSpec.ofChange dumpRecoveredWrong)

/-- 'quicksilverlaw10.DumpNone': WHATEVER THE INPUT: true; the input reads as it did. -/
def dumpNoneSpec : ChangeSpec := { name := "dumpNone", fn := fun _ => fun
  | [d1, d2, d3] => { results := [.lit (.bool true)], args := [d1, d2, d3] }
  | _ => none }
def dumpNoneRow : OpenClaim := { program := "ytnhpcoagkmgdoaa", sum := "38c5cbdbc4ad425865bf9b25211dcd5e7b34a4e601a75938ca5782e4403cc5a3", func := "quicksilver/quicksilverlaw10.DumpNone", spec := "dumpNone", unfollowed := true, recurses := true, apart := false }
def DumpNoneSaid : Prop := dumpNoneRow.holds Try.pinned (OpenSpec.ofChange dumpNoneSpec)

/-- ITS FALSE NEIGHBOUR: 'it returns false'. Refute it at one input. -/
def dumpNoneWrong : ChangeSpec := { name := "dumpNone", fn := fun _ => fun
  | [d1, d2, d3] => { results := [.lit (.bool false)], args := [d1, d2, d3] }
  | _ => none }
def DumpNoneWrongFalsely : Prop := dumpNoneRow.holds Try.pinned (OpenSpec.ofChange dumpNoneWrong)

/-- 'quicksilverlaw10.DumpBlocked': WHATEVER THE INPUT: true; the input reads as it did. -/
def dumpBlockedSpec : ChangeSpec := { name := "dumpBlocked", fn := fun _ => fun
  | [d1, d2] => { results := [.lit (.bool true)], args := [d1, d2] }
  | _ => none }
def dumpBlockedRow : OpenClaim := { program := "ytnhpcoagkmgdoaa", sum := "38c5cbdbc4ad425865bf9b25211dcd5e7b34a4e601a75938ca5782e4403cc5a3", func := "quicksilver/quicksilverlaw10.DumpBlocked", spec := "dumpBlocked", unfollowed := true, recurses := true, apart := false }
def DumpBlockedSaid : Prop := dumpBlockedRow.holds Try.pinned (OpenSpec.ofChange dumpBlockedSpec)

/-- ITS FALSE NEIGHBOUR: 'it returns false'. Refute it at one input. -/
def dumpBlockedWrong : ChangeSpec := { name := "dumpBlocked", fn := fun _ => fun
  | [d1, d2] => { results := [.lit (.bool false)], args := [d1, d2] }
  | _ => none }
def DumpBlockedWrongFalsely : Prop := dumpBlockedRow.holds Try.pinned (OpenSpec.ofChange dumpBlockedWrong)

/-- 'quicksilverlaw10.DumpChanged': WHATEVER THE INPUT: true; the input reads as it did. -/
def dumpChangedSpec : ChangeSpec := { name := "dumpChanged", fn := fun _ => fun
  | [d1, d2] => { results := [.lit (.bool true)], args := [d1, d2] }
  | _ => none }
def dumpChangedRow : OpenClaim := { program := "ytnhpcoagkmgdoaa", sum := "38c5cbdbc4ad425865bf9b25211dcd5e7b34a4e601a75938ca5782e4403cc5a3", func := "quicksilver/quicksilverlaw10.DumpChanged", spec := "dumpChanged", unfollowed := true, recurses := true, apart := false }
def DumpChangedSaid : Prop := dumpChangedRow.holds Try.pinned (OpenSpec.ofChange dumpChangedSpec)

/-- ITS FALSE NEIGHBOUR: 'it returns false'. Refute it at one input. -/
def dumpChangedWrong : ChangeSpec := { name := "dumpChanged", fn := fun _ => fun
  | [d1, d2] => { results := [.lit (.bool false)], args := [d1, d2] }
  | _ => none }
def DumpChangedWrongFalsely : Prop := dumpChangedRow.holds Try.pinned (OpenSpec.ofChange dumpChangedWrong)

/- THE SECOND FORM. 'bulk': how many values and letters a reading holds, each counted each time it is reached (what is shared counts as often as it is met; a slice's spare places count too). A statement '..UptoSaid' is the law's where the arguments, and the package variables that the reading takes, are together of bulk at most 1048576: NARROWER than '..Said'. Prove '..Said' where nothing that the law and all that it calls make is longer than what came in: it says more and counts as full. Else prove '..UptoSaid'. A law counts once. -/
mutual
def uptoBulk {H : Type} : DataW H → Nat
  | .lit (.string bytes) => bytes.length + 1
  | .lit _ => 1
  | .nil => 1
  | .ptr d => uptoBulk d + 1
  | .slice elems spare => uptoBulkAll elems + uptoBulkAll spare + 1
  | .agg parts => uptoBulkAll parts + 1
  | .iface _ d => uptoBulk d + 1
  | .map entries => uptoBulkEntries entries + 1
  | .held _ => 1
def uptoBulkAll {H : Type} : List (DataW H) → Nat
  | [] => 0
  | d :: r => uptoBulk d + uptoBulkAll r
def uptoBulkEntries {H : Type} : List (Lit × DataW H) → Nat
  | [] => 0
  | x :: r => uptoBulkEntry x + uptoBulkEntries r
def uptoBulkEntry {H : Type} : Lit × DataW H → Nat
  | (.string bytes, d) => bytes.length + uptoBulk d + 1
  | (_, d) => uptoBulk d + 1
 end
def uptoSmall : (H : Type) → List (DataW H) → Bool := fun _ ds => decide (uptoBulkAll ds ≤ 1048576)
def OpenSpec.upto (s : _root_.Go.ChangeSpec) : _root_.Go.OpenSpec := { _root_.Go.OpenSpec.ofChange s with cond := some uptoSmall }

/-- 'quicksilverlaw10.DumpTapes', WHERE WHAT IT READS IS OF BULK AT MOST 1048576: true; the input reads as it did. -/
def dumpTapesUptoRow : OpenClaim := { program := "ytnhpcoagkmgdoaa", sum := "38c5cbdbc4ad425865bf9b25211dcd5e7b34a4e601a75938ca5782e4403cc5a3", func := "quicksilver/quicksilverlaw10.DumpTapes", spec := "dumpTapes", unfollowed := true, recurses := true, apart := false, narrowed := true }
def DumpTapesUptoSaid : Prop := dumpTapesUptoRow.holds Try.pinned (OpenSpec.upto dumpTapesSpec)

/-- 'quicksilverlaw10.DumpDumps', WHERE WHAT IT READS IS OF BULK AT MOST 1048576: true; the input reads as it did. -/
def dumpDumpsUptoRow : OpenClaim := { program := "ytnhpcoagkmgdoaa", sum := "38c5cbdbc4ad425865bf9b25211dcd5e7b34a4e601a75938ca5782e4403cc5a3", func := "quicksilver/quicksilverlaw10.DumpDumps", spec := "dumpDumps", unfollowed := true, recurses := true, apart := false, narrowed := true }
def DumpDumpsUptoSaid : Prop := dumpDumpsUptoRow.holds Try.pinned (OpenSpec.upto dumpDumpsSpec)

/-- 'quicksilverlaw10.DumpKnown', WHERE WHAT IT READS IS OF BULK AT MOST 1048576: true; the input reads as it did. -/
def dumpKnownUptoRow : OpenClaim := { program := "ytnhpcoagkmgdoaa", sum := "38c5cbdbc4ad425865bf9b25211dcd5e7b34a4e601a75938ca5782e4403cc5a3", func := "quicksilver/quicksilverlaw10.DumpKnown", spec := "dumpKnown", unfollowed := true, recurses := true, apart := false, narrowed := true }
def DumpKnownUptoSaid : Prop := dumpKnownUptoRow.holds Try.pinned (OpenSpec.upto dumpKnownSpec)

/-- 'quicksilverlaw10.DumpMended', WHERE WHAT IT READS IS OF BULK AT MOST 1048576: true; the input reads as it did. -/
def dumpMendedUptoRow : OpenClaim := { program := "ytnhpcoagkmgdoaa", sum := "38c5cbdbc4ad425865bf9b25211dcd5e7b34a4e601a75938ca5782e4403cc5a3", func := "quicksilver/quicksilverlaw10.DumpMended", spec := "dumpMended", unfollowed := true, recurses := true, apart := false, narrowed := true }
def DumpMendedUptoSaid : Prop := dumpMendedUptoRow.holds Try.pinned (OpenSpec.upto dumpMendedSpec)

/-- 'quicksilverlaw10.DumpNoticed', WHERE WHAT IT READS IS OF BULK AT MOST 1048576: true; the input reads as it did. -/
def dumpNoticedUptoRow : OpenClaim := { program := "ytnhpcoagkmgdoaa", sum := "38c5cbdbc4ad425865bf9b25211dcd5e7b34a4e601a75938ca5782e4403cc5a3", func := "quicksilver/quicksilverlaw10.DumpNoticed", spec := "dumpNoticed", unfollowed := true, recurses := true, apart := false, narrowed := true }
def DumpNoticedUptoSaid : Prop := dumpNoticedUptoRow.holds Try.pinned (OpenSpec.upto dumpNoticedSpec)

/-- 'quicksilverlaw10.DumpBytes', WHERE WHAT IT READS IS OF BULK AT MOST 1048576: true; the input reads as it did. -/
def dumpBytesUptoRow : OpenClaim := { program := "ytnhpcoagkmgdoaa", sum := "38c5cbdbc4ad425865bf9b25211dcd5e7b34a4e601a75938ca5782e4403cc5a3", func := "quicksilver/quicksilverlaw10.DumpBytes", spec := "dumpBytes", unfollowed := true, recurses := true, apart := false, narrowed := true }
def DumpBytesUptoSaid : Prop := dumpBytesUptoRow.holds Try.pinned (OpenSpec.upto dumpBytesSpec)

/-- 'quicksilverlaw10.DumpRestarted', WHERE WHAT IT READS IS OF BULK AT MOST 1048576: true; the input reads as it did. -/
def dumpRestartedUptoRow : OpenClaim := { program := "ytnhpcoagkmgdoaa", sum := "38c5cbdbc4ad425865bf9b25211dcd5e7b34a4e601a75938ca5782e4403cc5a3", func := "quicksilver/quicksilverlaw10.DumpRestarted", spec := "dumpRestarted", unfollowed := true, recurses := true, apart := false, narrowed := true }
def DumpRestartedUptoSaid : Prop := dumpRestartedUptoRow.holds Try.pinned (OpenSpec.upto dumpRestartedSpec)

/-- 'quicksilverlaw10.DumpGuarded', WHERE WHAT IT READS IS OF BULK AT MOST 1048576: true; the input reads as it did. -/
def dumpGuardedUptoRow : OpenClaim := { program := "ytnhpcoagkmgdoaa", sum := "38c5cbdbc4ad425865bf9b25211dcd5e7b34a4e601a75938ca5782e4403cc5a3", func := "quicksilver/quicksilverlaw10.DumpGuarded", spec := "dumpGuarded", unfollowed := true, recurses := true, apart := false, narrowed := true }
def DumpGuardedUptoSaid : Prop := dumpGuardedUptoRow.holds Try.pinned (OpenSpec.upto dumpGuardedSpec)

/-- 'quicksilverlaw10.DumpRecovered', WHERE WHAT IT READS IS OF BULK AT MOST 1048576: true; the input reads as it did. -/
def dumpRecoveredUptoRow : OpenClaim := { program := "ytnhpcoagkmgdoaa", sum := "38c5cbdbc4ad425865bf9b25211dcd5e7b34a4e601a75938ca5782e4403cc5a3", func := "quicksilver/quicksilverlaw10.DumpRecovered", spec := "dumpRecovered", unfollowed := true, recurses := true, apart := false, narrowed := true }
def DumpRecoveredUptoSaid : Prop := dumpRecoveredUptoRow.holds Try.pinned (OpenSpec.upto dumpRecoveredSpec)

/-- 'quicksilverlaw10.DumpNone', WHERE WHAT IT READS IS OF BULK AT MOST 1048576: true; the input reads as it did. -/
def dumpNoneUptoRow : OpenClaim := { program := "ytnhpcoagkmgdoaa", sum := "38c5cbdbc4ad425865bf9b25211dcd5e7b34a4e601a75938ca5782e4403cc5a3", func := "quicksilver/quicksilverlaw10.DumpNone", spec := "dumpNone", unfollowed := true, recurses := true, apart := false, narrowed := true }
def DumpNoneUptoSaid : Prop := dumpNoneUptoRow.holds Try.pinned (OpenSpec.upto dumpNoneSpec)

/-- 'quicksilverlaw10.DumpBlocked', WHERE WHAT IT READS IS OF BULK AT MOST 1048576: true; the input reads as it did. -/
def dumpBlockedUptoRow : OpenClaim := { program := "ytnhpcoagkmgdoaa", sum := "38c5cbdbc4ad425865bf9b25211dcd5e7b34a4e601a75938ca5782e4403cc5a3", func := "quicksilver/quicksilverlaw10.DumpBlocked", spec := "dumpBlocked", unfollowed := true, recurses := true, apart := false, narrowed := true }
def DumpBlockedUptoSaid : Prop := dumpBlockedUptoRow.holds Try.pinned (OpenSpec.upto dumpBlockedSpec)

/-- 'quicksilverlaw10.DumpChanged', WHERE WHAT IT READS IS OF BULK AT MOST 1048576: true; the input reads as it did. -/
def dumpChangedUptoRow : OpenClaim := { program := "ytnhpcoagkmgdoaa", sum := "38c5cbdbc4ad425865bf9b25211dcd5e7b34a4e601a75938ca5782e4403cc5a3", func := "quicksilver/quicksilverlaw10.DumpChanged", spec := "dumpChanged", unfollowed := true, recurses := true, apart := false, narrowed := true }
def DumpChangedUptoSaid : Prop := dumpChangedUptoRow.holds Try.pinned (OpenSpec.upto dumpChangedSpec)

end Rows
end Go.Proofs.Ytnhpcoagkmgdoaa
