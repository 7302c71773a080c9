/-
  No cell of these rows narrows 'for every input' (looked for: loops, veiled, ifaces, maps, wideKeys, modest, calm, conditions, laid).
  DERIVED. THE GIVEN ROWS OF THIS SEAT. 8 by the template 'for every input the law returns true; each argument reads behind the call as it read before'; 0 by the template 'total and deterministic' (their statements: YtgkfnggnhphboaaTotals.lean).
  GIVEN WITH THE SEED: the statements are not yours to turn. If you find one false, say at which input.
  Laid BY PROGRAM, IN A SANDBOX (cutbox-rows.mjs): the forced cells as the released guide's own fill.sh prints them over the translation 899cf44a02b0c1ea… (all of the seat's roots in one cut). By AI agents, Wed Nov 11 2026. No macro, syntax, notation, axiom, sorry.
-/
import Derived.Test.YtgkfnggnhphboaaChecked
import GoSem.Claim
import GoSem.ClaimJoined
import GoSem.ClaimMapViews
import Derived.JoinedTies
import Derived.KernelRfl
namespace Go.Proofs.Ytgkfnggnhphboaa
/- THE CELL 'sum', in the pinned program and in every row, IS THE sha256 OF THE DUMP (.gsa) THAT YtgkfnggnhphboaaProg.lean LOADS. Nothing in Lean hashes anything: it is a label: what it is worth is what the hold of that sum in a sandbox is worth. -/
noncomputable def Try.pinned : Pinned := { name := "ytgkfnggnhphboaa", sum := "899cf44a02b0c1ea80a17bee9f92aeac77e1ae4df89dde6e3732e984d0b5fa25", checked := Try.checked }
namespace Rows
def none {H : Type} : Left H := { results := [], args := [] }

/-- 'laws.FnEnergyNeeded': WHATEVER THE INPUT: true; the input reads as it did. -/
def fnEnergyNeededSpec : ChangeSpec := { name := "fnEnergyNeeded", fn := fun _ => fun
  | [d] => { results := [.lit (.bool true)], args := [d] }
  | _ => none }
def fnEnergyNeededRow : OpenClaim := { program := "ytgkfnggnhphboaa", sum := "899cf44a02b0c1ea80a17bee9f92aeac77e1ae4df89dde6e3732e984d0b5fa25", func := "loop.example/g00916/laws.FnEnergyNeeded", spec := "fnEnergyNeeded", apart := false }
def FnEnergyNeededSaid : Prop := fnEnergyNeededRow.holds Try.pinned (OpenSpec.ofChange fnEnergyNeededSpec)

/-- ITS FALSE NEIGHBOUR: 'it returns false'. Refute it at one input. -/
def fnEnergyNeededWrong : ChangeSpec := { name := "fnEnergyNeeded", fn := fun _ => fun
  | [d] => { results := [.lit (.bool false)], args := [d] }
  | _ => none }
def FnEnergyNeededWrongFalsely : Prop := fnEnergyNeededRow.holds Try.pinned (OpenSpec.ofChange fnEnergyNeededWrong)

/-- 'laws.FnPositions': WHATEVER THE INPUT: true; the input reads as it did. -/
def fnPositionsSpec : ChangeSpec := { name := "fnPositions", fn := fun _ => fun
  | [d] => { results := [.lit (.bool true)], args := [d] }
  | _ => none }
def fnPositionsRow : OpenClaim := { program := "ytgkfnggnhphboaa", sum := "899cf44a02b0c1ea80a17bee9f92aeac77e1ae4df89dde6e3732e984d0b5fa25", func := "loop.example/g00916/laws.FnPositions", spec := "fnPositions", apart := false }
def FnPositionsSaid : Prop := fnPositionsRow.holds Try.pinned (OpenSpec.ofChange fnPositionsSpec)

/-- ITS FALSE NEIGHBOUR: 'it returns false'. Refute it at one input. -/
def fnPositionsWrong : ChangeSpec := { name := "fnPositions", fn := fun _ => fun
  | [d] => { results := [.lit (.bool false)], args := [d] }
  | _ => none }
def FnPositionsWrongFalsely : Prop := fnPositionsRow.holds Try.pinned (OpenSpec.ofChange fnPositionsWrong)

/-- 'laws.FnTrainsMove': WHATEVER THE INPUT: true; the input reads as it did. -/
def fnTrainsMoveSpec : ChangeSpec := { name := "fnTrainsMove", fn := fun _ => fun
  | [d] => { results := [.lit (.bool true)], args := [d] }
  | _ => none }
def fnTrainsMoveRow : OpenClaim := { program := "ytgkfnggnhphboaa", sum := "899cf44a02b0c1ea80a17bee9f92aeac77e1ae4df89dde6e3732e984d0b5fa25", func := "loop.example/g00916/laws.FnTrainsMove", spec := "fnTrainsMove", unfollowed := true, recurses := true, apart := false }
def FnTrainsMoveSaid : Prop := fnTrainsMoveRow.holds Try.pinned (OpenSpec.ofChange fnTrainsMoveSpec)

/-- ITS FALSE NEIGHBOUR: 'it returns false'. Refute it at one input. -/
def fnTrainsMoveWrong : ChangeSpec := { name := "fnTrainsMove", fn := fun _ => fun
  | [d] => { results := [.lit (.bool false)], args := [d] }
  | _ => none }
def FnTrainsMoveWrongFalsely : Prop := fnTrainsMoveRow.holds Try.pinned (OpenSpec.ofChange fnTrainsMoveWrong)

/-- 'laws.FnHeights': WHATEVER THE INPUT: true; the input reads as it did. -/
def fnHeightsSpec : ChangeSpec := { name := "fnHeights", fn := fun _ => fun
  | [d] => { results := [.lit (.bool true)], args := [d] }
  | _ => none }
def fnHeightsRow : OpenClaim := { program := "ytgkfnggnhphboaa", sum := "899cf44a02b0c1ea80a17bee9f92aeac77e1ae4df89dde6e3732e984d0b5fa25", func := "loop.example/g00916/laws.FnHeights", spec := "fnHeights", apart := false }
def FnHeightsSaid : Prop := fnHeightsRow.holds Try.pinned (OpenSpec.ofChange fnHeightsSpec)

/-- ITS FALSE NEIGHBOUR: 'it returns false'. Refute it at one input. -/
def fnHeightsWrong : ChangeSpec := { name := "fnHeights", fn := fun _ => fun
  | [d] => { results := [.lit (.bool false)], args := [d] }
  | _ => none }
def FnHeightsWrongFalsely : Prop := fnHeightsRow.holds Try.pinned (OpenSpec.ofChange fnHeightsWrong)

/-- 'laws.FnEnergyRuns': WHATEVER THE INPUT: true; the input reads as it did. -/
def fnEnergyRunsSpec : ChangeSpec := { name := "fnEnergyRuns", fn := fun _ => fun
  | [d] => { results := [.lit (.bool true)], args := [d] }
  | _ => none }
def fnEnergyRunsRow : OpenClaim := { program := "ytgkfnggnhphboaa", sum := "899cf44a02b0c1ea80a17bee9f92aeac77e1ae4df89dde6e3732e984d0b5fa25", func := "loop.example/g00916/laws.FnEnergyRuns", spec := "fnEnergyRuns", apart := false }
def FnEnergyRunsSaid : Prop := fnEnergyRunsRow.holds Try.pinned (OpenSpec.ofChange fnEnergyRunsSpec)

/-- ITS FALSE NEIGHBOUR: 'it returns false'. Refute it at one input. -/
def fnEnergyRunsWrong : ChangeSpec := { name := "fnEnergyRuns", fn := fun _ => fun
  | [d] => { results := [.lit (.bool false)], args := [d] }
  | _ => none }
def FnEnergyRunsWrongFalsely : Prop := fnEnergyRunsRow.holds Try.pinned (OpenSpec.ofChange fnEnergyRunsWrong)

/-- 'laws.FnGaps': WHATEVER THE INPUT: true; the input reads as it did. -/
def fnGapsSpec : ChangeSpec := { name := "fnGaps", fn := fun _ => fun
  | [d] => { results := [.lit (.bool true)], args := [d] }
  | _ => none }
def fnGapsRow : OpenClaim := { program := "ytgkfnggnhphboaa", sum := "899cf44a02b0c1ea80a17bee9f92aeac77e1ae4df89dde6e3732e984d0b5fa25", func := "loop.example/g00916/laws.FnGaps", spec := "fnGaps", unfollowed := true, recurses := true, apart := false }
def FnGapsSaid : Prop := fnGapsRow.holds Try.pinned (OpenSpec.ofChange fnGapsSpec)

/-- ITS FALSE NEIGHBOUR: 'it returns false'. Refute it at one input. -/
def fnGapsWrong : ChangeSpec := { name := "fnGaps", fn := fun _ => fun
  | [d] => { results := [.lit (.bool false)], args := [d] }
  | _ => none }
def FnGapsWrongFalsely : Prop := fnGapsRow.holds Try.pinned (OpenSpec.ofChange fnGapsWrong)

/-- 'laws.FnExactSensorsPassed': WHATEVER THE INPUT: true; the input reads as it did. -/
def fnExactSensorsPassedSpec : ChangeSpec := { name := "fnExactSensorsPassed", fn := fun _ => fun
  | [d1, d2, d3, d4] => { results := [.lit (.bool true)], args := [d1, d2, d3, d4] }
  | _ => none }
def fnExactSensorsPassedRow : OpenClaim := { program := "ytgkfnggnhphboaa", sum := "899cf44a02b0c1ea80a17bee9f92aeac77e1ae4df89dde6e3732e984d0b5fa25", func := "loop.example/g00916/laws.FnExactSensorsPassed", spec := "fnExactSensorsPassed", unfollowed := true, recurses := true, apart := false }
def FnExactSensorsPassedSaid : Prop := fnExactSensorsPassedRow.holds Try.pinned (OpenSpec.ofChange fnExactSensorsPassedSpec)

/-- ITS FALSE NEIGHBOUR: 'it returns false'. Refute it at one input. -/
def fnExactSensorsPassedWrong : ChangeSpec := { name := "fnExactSensorsPassed", fn := fun _ => fun
  | [d1, d2, d3, d4] => { results := [.lit (.bool false)], args := [d1, d2, d3, d4] }
  | _ => none }
def FnExactSensorsPassedWrongFalsely : Prop := fnExactSensorsPassedRow.holds Try.pinned (OpenSpec.ofChange fnExactSensorsPassedWrong)

/-- 'laws.FnSensors': WHATEVER THE INPUT: true; the input reads as it did. -/
def fnSensorsSpec : ChangeSpec := { name := "fnSensors", fn := fun _ => fun
  | [d] => { results := [.lit (.bool true)], args := [d] }
  | _ => none }
def fnSensorsRow : OpenClaim := { program := "ytgkfnggnhphboaa", sum := "899cf44a02b0c1ea80a17bee9f92aeac77e1ae4df89dde6e3732e984d0b5fa25", func := "loop.example/g00916/laws.FnSensors", spec := "fnSensors", unfollowed := true, recurses := true, apart := false }
def FnSensorsSaid : Prop := fnSensorsRow.holds Try.pinned (OpenSpec.ofChange fnSensorsSpec)

/-- ITS FALSE NEIGHBOUR: 'it returns false'. Refute it at one input. -/
def fnSensorsWrong : ChangeSpec := { name := "fnSensors", fn := fun _ => fun
  | [d] => { results := [.lit (.bool false)], args := [d] }
  | _ => none }
def FnSensorsWrongFalsely : Prop := fnSensorsRow.holds Try.pinned (OpenSpec.ofChange fnSensorsWrong)

/- THE SECOND FORM. 'bulk': how many values and letters a reading holds, each counted each time it is reached (what is shared counts as often as it is met; a slice's spare places count too). A statement '..UptoSaid' is the law's where the arguments, and the package variables that the reading takes, are together of bulk at most 1048576: NARROWER than '..Said'. Prove '..Said' where nothing that the law and all that it calls make is longer than what came in: it says more and counts as full. Else prove '..UptoSaid'. A law counts once. -/
mutual
def uptoBulk {H : Type} : DataW H → Nat
  | .lit (.string bytes) => bytes.length + 1
  | .lit _ => 1
  | .nil => 1
  | .ptr d => uptoBulk d + 1
  | .slice elems spare => uptoBulkAll elems + uptoBulkAll spare + 1
  | .agg parts => uptoBulkAll parts + 1
  | .iface _ d => uptoBulk d + 1
  | .map entries => uptoBulkEntries entries + 1
  | .held _ => 1
def uptoBulkAll {H : Type} : List (DataW H) → Nat
  | [] => 0
  | d :: r => uptoBulk d + uptoBulkAll r
def uptoBulkEntries {H : Type} : List (Lit × DataW H) → Nat
  | [] => 0
  | x :: r => uptoBulkEntry x + uptoBulkEntries r
def uptoBulkEntry {H : Type} : Lit × DataW H → Nat
  | (.string bytes, d) => bytes.length + uptoBulk d + 1
  | (_, d) => uptoBulk d + 1
 end
def uptoSmall : (H : Type) → List (DataW H) → Bool := fun _ ds => decide (uptoBulkAll ds ≤ 1048576)
def OpenSpec.upto (s : _root_.Go.ChangeSpec) : _root_.Go.OpenSpec := { _root_.Go.OpenSpec.ofChange s with cond := some uptoSmall }

/-- 'laws.FnEnergyNeeded', WHERE WHAT IT READS IS OF BULK AT MOST 1048576: true; the input reads as it did. -/
def fnEnergyNeededUptoRow : OpenClaim := { program := "ytgkfnggnhphboaa", sum := "899cf44a02b0c1ea80a17bee9f92aeac77e1ae4df89dde6e3732e984d0b5fa25", func := "loop.example/g00916/laws.FnEnergyNeeded", spec := "fnEnergyNeeded", apart := false, narrowed := true }
def FnEnergyNeededUptoSaid : Prop := fnEnergyNeededUptoRow.holds Try.pinned (OpenSpec.upto fnEnergyNeededSpec)

/-- 'laws.FnPositions', WHERE WHAT IT READS IS OF BULK AT MOST 1048576: true; the input reads as it did. -/
def fnPositionsUptoRow : OpenClaim := { program := "ytgkfnggnhphboaa", sum := "899cf44a02b0c1ea80a17bee9f92aeac77e1ae4df89dde6e3732e984d0b5fa25", func := "loop.example/g00916/laws.FnPositions", spec := "fnPositions", apart := false, narrowed := true }
def FnPositionsUptoSaid : Prop := fnPositionsUptoRow.holds Try.pinned (OpenSpec.upto fnPositionsSpec)

/-- 'laws.FnTrainsMove', WHERE WHAT IT READS IS OF BULK AT MOST 1048576: true; the input reads as it did. -/
def fnTrainsMoveUptoRow : OpenClaim := { program := "ytgkfnggnhphboaa", sum := "899cf44a02b0c1ea80a17bee9f92aeac77e1ae4df89dde6e3732e984d0b5fa25", func := "loop.example/g00916/laws.FnTrainsMove", spec := "fnTrainsMove", unfollowed := true, recurses := true, apart := false, narrowed := true }
def FnTrainsMoveUptoSaid : Prop := fnTrainsMoveUptoRow.holds Try.pinned (OpenSpec.upto fnTrainsMoveSpec)

/-- 'laws.FnHeights', WHERE WHAT IT READS IS OF BULK AT MOST 1048576: true; the input reads as it did. -/
def fnHeightsUptoRow : OpenClaim := { program := "ytgkfnggnhphboaa", sum := "899cf44a02b0c1ea80a17bee9f92aeac77e1ae4df89dde6e3732e984d0b5fa25", func := "loop.example/g00916/laws.FnHeights", spec := "fnHeights", apart := false, narrowed := true }
def FnHeightsUptoSaid : Prop := fnHeightsUptoRow.holds Try.pinned (OpenSpec.upto fnHeightsSpec)

/-- 'laws.FnEnergyRuns', WHERE WHAT IT READS IS OF BULK AT MOST 1048576: true; the input reads as it did. -/
def fnEnergyRunsUptoRow : OpenClaim := { program := "ytgkfnggnhphboaa", sum := "899cf44a02b0c1ea80a17bee9f92aeac77e1ae4df89dde6e3732e984d0b5fa25", func := "loop.example/g00916/laws.FnEnergyRuns", spec := "fnEnergyRuns", apart := false, narrowed := true }
def FnEnergyRunsUptoSaid : Prop := fnEnergyRunsUptoRow.holds Try.pinned (OpenSpec.upto fnEnergyRunsSpec)

/-- 'laws.FnGaps', WHERE WHAT IT READS IS OF BULK AT MOST 1048576: true; the input reads as it did. -/
def fnGapsUptoRow : OpenClaim := { program := "ytgkfnggnhphboaa", sum := "899cf44a02b0c1ea80a17bee9f92aeac77e1ae4df89dde6e3732e984d0b5fa25", func := "loop.example/g00916/laws.FnGaps", spec := "fnGaps", unfollowed := true, recurses := true, apart := false, narrowed := true }
def FnGapsUptoSaid : Prop := fnGapsUptoRow.holds Try.pinned (OpenSpec.upto fnGapsSpec)

/-- 'laws.FnExactSensorsPassed', WHERE WHAT IT READS IS OF BULK AT MOST 1048576: true; the input reads as it did. -/
def fnExactSensorsPassedUptoRow : OpenClaim := { program := "ytgkfnggnhphboaa", sum := "899cf44a02b0c1ea80a17bee9f92aeac77e1ae4df89dde6e3732e984d0b5fa25", func := "loop.example/g00916/laws.FnExactSensorsPassed", spec := "fnExactSensorsPassed", unfollowed := true, recurses := true, apart := false, narrowed := true }
def FnExactSensorsPassedUptoSaid : Prop := fnExactSensorsPassedUptoRow.holds Try.pinned (OpenSpec.upto fnExactSensorsPassedSpec)

/-- 'laws.FnSensors', WHERE WHAT IT READS IS OF BULK AT MOST 1048576: true; the input reads as it did. -/
def fnSensorsUptoRow : OpenClaim := { program := "ytgkfnggnhphboaa", sum := "899cf44a02b0c1ea80a17bee9f92aeac77e1ae4df89dde6e3732e984d0b5fa25", func := "loop.example/g00916/laws.FnSensors", spec := "fnSensors", unfollowed := true, recurses := true, apart := false, narrowed := true }
def FnSensorsUptoSaid : Prop := fnSensorsUptoRow.holds Try.pinned (OpenSpec.upto fnSensorsSpec)

end Rows
end Go.Proofs.Ytgkfnggnhphboaa
