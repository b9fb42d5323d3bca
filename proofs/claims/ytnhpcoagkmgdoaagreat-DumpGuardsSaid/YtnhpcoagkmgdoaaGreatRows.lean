/-
  No cell of these rows narrows 'for every input' (looked for: loops, veiled, ifaces, maps, wideKeys, modest, calm, conditions, laid).
  DERIVED. THE GIVEN ROWS OF THIS SEAT. 3 by the template 'for every input the law returns true; each argument reads behind the call as it read before'; 0 by the template 'total and deterministic' (their statements: YtnhpcoagkmgdoaaGreatTotals.lean).
  GIVEN WITH THE SEED: the statements are not yours to turn. If you find one false, say at which input.
  Laid BY PROGRAM, IN A SANDBOX (cutbox-rows.mjs): the forced cells as the released guide's own fill.sh prints them over the translation a22311705b9d5780… (all of the seat's roots in one cut). By AI agents, Wed Nov 11 2026. No macro, syntax, notation, axiom, sorry.
-/
import Derived.Test.YtnhpcoagkmgdoaaGreatChecked
import GoSem.Claim
import GoSem.ClaimJoined
import GoSem.ClaimMapViews
import Derived.JoinedTies
import Derived.KernelRfl
namespace Go.Proofs.YtnhpcoagkmgdoaaGreat
/- THE CELL 'sum', in the pinned program and in every row, IS THE sha256 OF THE DUMP (.gsa) THAT YtnhpcoagkmgdoaaGreatProg.lean LOADS. Nothing in Lean hashes anything: it is a label: what it is worth is what the hold of that sum in a sandbox is worth. -/
noncomputable def Tryz.pinned : Pinned := { name := "ytnhpcoagkmgdoaagreat", sum := "a22311705b9d5780983b18967f95363bcf5885d55cfd73ec3d58fcea6c6e1395", checked := Tryz.checked }
namespace Rows
def none {H : Type} : Left H := { results := [], args := [] }

/-- 'quicksilverlaw10.DumpGuards': WHATEVER THE INPUT: true; the input reads as it did. -/
def dumpGuardsSpec : ChangeSpec := { name := "dumpGuards", fn := fun _ => fun
  | [d1, d2, d3] => { results := [.lit (.bool true)], args := [d1, d2, d3] }
  | _ => none }
def dumpGuardsRow : OpenClaim := { program := "ytnhpcoagkmgdoaagreat", sum := "a22311705b9d5780983b18967f95363bcf5885d55cfd73ec3d58fcea6c6e1395", func := "quicksilver/quicksilverlaw10.DumpGuards", spec := "dumpGuards", unfollowed := true, recurses := true, apart := false }
def DumpGuardsSaid : Prop := dumpGuardsRow.holds Tryz.pinned (OpenSpec.ofChange dumpGuardsSpec)

/-- ITS FALSE NEIGHBOUR: 'it returns false'. Refute it at one input. -/
def dumpGuardsWrong : ChangeSpec := { name := "dumpGuards", fn := fun _ => fun
  | [d1, d2, d3] => { results := [.lit (.bool false)], args := [d1, d2, d3] }
  | _ => none }
def DumpGuardsWrongFalsely : Prop := dumpGuardsRow.holds Tryz.pinned (OpenSpec.ofChange dumpGuardsWrong)

/-- 'quicksilverlaw10.DumpRecovers': WHATEVER THE INPUT: true; the input reads as it did. -/
def dumpRecoversSpec : ChangeSpec := { name := "dumpRecovers", fn := fun _ => fun
  | [d1, d2, d3] => { results := [.lit (.bool true)], args := [d1, d2, d3] }
  | _ => none }
def dumpRecoversRow : OpenClaim := { program := "ytnhpcoagkmgdoaagreat", sum := "a22311705b9d5780983b18967f95363bcf5885d55cfd73ec3d58fcea6c6e1395", func := "quicksilver/quicksilverlaw10.DumpRecovers", spec := "dumpRecovers", unfollowed := true, recurses := true, apart := false }
def DumpRecoversSaid : Prop := dumpRecoversRow.holds Tryz.pinned (OpenSpec.ofChange dumpRecoversSpec)

/-- ITS FALSE NEIGHBOUR: 'it returns false'. Refute it at one input. -/
def dumpRecoversWrong : ChangeSpec := { name := "dumpRecovers", fn := fun _ => fun
  | [d1, d2, d3] => { results := [.lit (.bool false)], args := [d1, d2, d3] }
  | _ => none }
def DumpRecoversWrongFalsely : Prop := dumpRecoversRow.holds Tryz.pinned (OpenSpec.ofChange dumpRecoversWrong)

/-- 'quicksilverlaw10.DumpBlocks': WHATEVER THE INPUT: true; the input reads as it did. -/
def dumpBlocksSpec : ChangeSpec := { name := "dumpBlocks", fn := fun _ => fun
  | [d1, d2, d3] => { results := [.lit (.bool true)], args := [d1, d2, d3] }
  | _ => none }
def dumpBlocksRow : OpenClaim := { program := "ytnhpcoagkmgdoaagreat", sum := "a22311705b9d5780983b18967f95363bcf5885d55cfd73ec3d58fcea6c6e1395", func := "quicksilver/quicksilverlaw10.DumpBlocks", spec := "dumpBlocks", unfollowed := true, recurses := true, apart := false }
def DumpBlocksSaid : Prop := dumpBlocksRow.holds Tryz.pinned (OpenSpec.ofChange dumpBlocksSpec)

/-- ITS FALSE NEIGHBOUR: 'it returns false'. Refute it at one input. -/
def dumpBlocksWrong : ChangeSpec := { name := "dumpBlocks", fn := fun _ => fun
  | [d1, d2, d3] => { results := [.lit (.bool false)], args := [d1, d2, d3] }
  | _ => none }
def DumpBlocksWrongFalsely : Prop := dumpBlocksRow.holds Tryz.pinned (OpenSpec.ofChange dumpBlocksWrong)

/- THE SECOND FORM. 'bulk': how many values and letters a reading holds, each counted each time it is reached (what is shared counts as often as it is met; a slice's spare places count too). A statement '..UptoSaid' is the law's where the arguments, and the package variables that the reading takes, are together of bulk at most 1048576: NARROWER than '..Said'. Prove '..Said' where nothing that the law and all that it calls make is longer than what came in: it says more and counts as full. Else prove '..UptoSaid'. A law counts once. -/
mutual
def uptoBulk {H : Type} : DataW H → Nat
  | .lit (.string bytes) => bytes.length + 1
  | .lit _ => 1
  | .nil => 1
  | .ptr d => uptoBulk d + 1
  | .slice elems spare => uptoBulkAll elems + uptoBulkAll spare + 1
  | .agg parts => uptoBulkAll parts + 1
  | .iface _ d => uptoBulk d + 1
  | .map entries => uptoBulkEntries entries + 1
  | .held _ => 1
def uptoBulkAll {H : Type} : List (DataW H) → Nat
  | [] => 0
  | d :: r => uptoBulk d + uptoBulkAll r
def uptoBulkEntries {H : Type} : List (Lit × DataW H) → Nat
  | [] => 0
  | x :: r => uptoBulkEntry x + uptoBulkEntries r
def uptoBulkEntry {H : Type} : Lit × DataW H → Nat
  | (.string bytes, d) => bytes.length + uptoBulk d + 1
  | (_, d) => uptoBulk d + 1
 end
def uptoSmall : (H : Type) → List (DataW H) → Bool := fun _ ds => decide (uptoBulkAll ds ≤ 1048576)
def OpenSpec.upto (s : _root_.Go.ChangeSpec) : _root_.Go.OpenSpec := { _root_.Go.OpenSpec.ofChange s with cond := some uptoSmall }

/-- 'quicksilverlaw10.DumpGuards', WHERE WHAT IT READS IS OF BULK AT MOST 1048576: true; the input reads as it did. -/
def dumpGuardsUptoRow : OpenClaim := { program := "ytnhpcoagkmgdoaagreat", sum := "a22311705b9d5780983b18967f95363bcf5885d55cfd73ec3d58fcea6c6e1395", func := "quicksilver/quicksilverlaw10.DumpGuards", spec := "dumpGuards", unfollowed := true, recurses := true, apart := false, narrowed := true }
def DumpGuardsUptoSaid : Prop := dumpGuardsUptoRow.holds Tryz.pinned (OpenSpec.upto dumpGuardsSpec)

/-- 'quicksilverlaw10.DumpRecovers', WHERE WHAT IT READS IS OF BULK AT MOST 1048576: true; the input reads as it did. -/
def dumpRecoversUptoRow : OpenClaim := { program := "ytnhpcoagkmgdoaagreat", sum := "a22311705b9d5780983b18967f95363bcf5885d55cfd73ec3d58fcea6c6e1395", func := "quicksilver/quicksilverlaw10.DumpRecovers", spec := "dumpRecovers", unfollowed := true, recurses := true, apart := false, narrowed := true }
def DumpRecoversUptoSaid : Prop := dumpRecoversUptoRow.holds Tryz.pinned (OpenSpec.upto dumpRecoversSpec)

/-- 'quicksilverlaw10.DumpBlocks', WHERE WHAT IT READS IS OF BULK AT MOST 1048576: true; the input reads as it did. -/
def dumpBlocksUptoRow : OpenClaim := { program := "ytnhpcoagkmgdoaagreat", sum := "a22311705b9d5780983b18967f95363bcf5885d55cfd73ec3d58fcea6c6e1395", func := "quicksilver/quicksilverlaw10.DumpBlocks", spec := "dumpBlocks", unfollowed := true, recurses := true, apart := false, narrowed := true }
def DumpBlocksUptoSaid : Prop := dumpBlocksUptoRow.holds Tryz.pinned (OpenSpec.upto dumpBlocksSpec)

end Rows
end Go.Proofs.YtnhpcoagkmgdoaaGreat
