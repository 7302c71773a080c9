/-
  No cell of these rows narrows 'for every input' (looked for: loops, veiled, ifaces, maps, wideKeys, modest, calm, conditions, laid).
  DERIVED. THE GIVEN ROWS OF THIS SEAT. 12 by the template 'for every input the law returns true; each argument reads behind the call as it read before'; 0 by the template 'total and deterministic' (their statements: YtinngiopcmfmnaaTotals.lean).
  GIVEN WITH THE SEED: the statements are not yours to turn. If you find one false, say at which input.
  Laid BY PROGRAM, IN A SANDBOX (cutbox-rows.mjs): the forced cells as the released guide's own fill.sh prints them over the translation 8f5a31294ca2e3b5… (all of the seat's roots in one cut). By AI agents, Wed Nov 11 2026. No macro, syntax, notation, axiom, sorry.
-/
import Derived.Test.YtinngiopcmfmnaaChecked
import GoSem.Claim
import GoSem.ClaimJoined
import GoSem.ClaimMapViews
import Derived.JoinedTies
import Derived.KernelRfl
namespace Go.Proofs.Ytinngiopcmfmnaa
/- THE CELL 'sum', in the pinned program and in every row, IS THE sha256 OF THE DUMP (.gsa) THAT YtinngiopcmfmnaaProg.lean LOADS. Nothing in Lean hashes anything: it is a label: what it is worth is what the hold of that sum in a sandbox is worth. -/
noncomputable def Try.pinned : Pinned := { name := "ytinngiopcmfmnaa", sum := "8f5a31294ca2e3b5321f784f66ab248c11989580c1b37360bb924fc2f9e7c53c", checked := Try.checked }
namespace Rows
def none {H : Type} : Left H := { results := [], args := [] }

/-- 'laws.FnExactConstants': WHATEVER THE INPUT: true; the input reads as it did. -/
def fnExactConstantsSpec : ChangeSpec := { name := "fnExactConstants", fn := fun _ => fun
  | [] => { results := [.lit (.bool true)], args := [] }
  | _ => none }
def fnExactConstantsRow : OpenClaim := { program := "ytinngiopcmfmnaa", sum := "8f5a31294ca2e3b5321f784f66ab248c11989580c1b37360bb924fc2f9e7c53c", func := "loop.example/g00916/laws.FnExactConstants", spec := "fnExactConstants", apart := false }
def FnExactConstantsSaid : Prop := fnExactConstantsRow.holds Try.pinned (OpenSpec.ofChange fnExactConstantsSpec)

/-- ITS FALSE NEIGHBOUR: 'it returns false'. Refute it at one input. -/
def fnExactConstantsWrong : ChangeSpec := { name := "fnExactConstants", fn := fun _ => fun
  | [] => { results := [.lit (.bool false)], args := [] }
  | _ => none }
def FnExactConstantsWrongFalsely : Prop := fnExactConstantsRow.holds Try.pinned (OpenSpec.ofChange fnExactConstantsWrong)

/-- 'laws.FnExactIsInterval': WHATEVER THE INPUT: true; the input reads as it did. -/
def fnExactIsIntervalSpec : ChangeSpec := { name := "fnExactIsInterval", fn := fun _ => fun
  | [d] => { results := [.lit (.bool true)], args := [d] }
  | _ => none }
def fnExactIsIntervalRow : OpenClaim := { program := "ytinngiopcmfmnaa", sum := "8f5a31294ca2e3b5321f784f66ab248c11989580c1b37360bb924fc2f9e7c53c", func := "loop.example/g00916/laws.FnExactIsInterval", spec := "fnExactIsInterval", apart := false }
def FnExactIsIntervalSaid : Prop := fnExactIsIntervalRow.holds Try.pinned (OpenSpec.ofChange fnExactIsIntervalSpec)

/-- ITS FALSE NEIGHBOUR: 'it returns false'. Refute it at one input. -/
def fnExactIsIntervalWrong : ChangeSpec := { name := "fnExactIsInterval", fn := fun _ => fun
  | [d] => { results := [.lit (.bool false)], args := [d] }
  | _ => none }
def FnExactIsIntervalWrongFalsely : Prop := fnExactIsIntervalRow.holds Try.pinned (OpenSpec.ofChange fnExactIsIntervalWrong)

/-- 'laws.FnExactEnergyOfSpeed': WHATEVER THE INPUT: true; the input reads as it did. -/
def fnExactEnergyOfSpeedSpec : ChangeSpec := { name := "fnExactEnergyOfSpeed", fn := fun _ => fun
  | [d] => { results := [.lit (.bool true)], args := [d] }
  | _ => none }
def fnExactEnergyOfSpeedRow : OpenClaim := { program := "ytinngiopcmfmnaa", sum := "8f5a31294ca2e3b5321f784f66ab248c11989580c1b37360bb924fc2f9e7c53c", func := "loop.example/g00916/laws.FnExactEnergyOfSpeed", spec := "fnExactEnergyOfSpeed", apart := false }
def FnExactEnergyOfSpeedSaid : Prop := fnExactEnergyOfSpeedRow.holds Try.pinned (OpenSpec.ofChange fnExactEnergyOfSpeedSpec)

/-- ITS FALSE NEIGHBOUR: 'it returns false'. Refute it at one input. -/
def fnExactEnergyOfSpeedWrong : ChangeSpec := { name := "fnExactEnergyOfSpeed", fn := fun _ => fun
  | [d] => { results := [.lit (.bool false)], args := [d] }
  | _ => none }
def FnExactEnergyOfSpeedWrongFalsely : Prop := fnExactEnergyOfSpeedRow.holds Try.pinned (OpenSpec.ofChange fnExactEnergyOfSpeedWrong)

/-- 'laws.FnExactIsWithin': WHATEVER THE INPUT: true; the input reads as it did. -/
def fnExactIsWithinSpec : ChangeSpec := { name := "fnExactIsWithin", fn := fun _ => fun
  | [d1, d2] => { results := [.lit (.bool true)], args := [d1, d2] }
  | _ => none }
def fnExactIsWithinRow : OpenClaim := { program := "ytinngiopcmfmnaa", sum := "8f5a31294ca2e3b5321f784f66ab248c11989580c1b37360bb924fc2f9e7c53c", func := "loop.example/g00916/laws.FnExactIsWithin", spec := "fnExactIsWithin", apart := false }
def FnExactIsWithinSaid : Prop := fnExactIsWithinRow.holds Try.pinned (OpenSpec.ofChange fnExactIsWithinSpec)

/-- ITS FALSE NEIGHBOUR: 'it returns false'. Refute it at one input. -/
def fnExactIsWithinWrong : ChangeSpec := { name := "fnExactIsWithin", fn := fun _ => fun
  | [d1, d2] => { results := [.lit (.bool false)], args := [d1, d2] }
  | _ => none }
def FnExactIsWithinWrongFalsely : Prop := fnExactIsWithinRow.holds Try.pinned (OpenSpec.ofChange fnExactIsWithinWrong)

/-- 'laws.FnExactIsEnergy': WHATEVER THE INPUT: true; the input reads as it did. -/
def fnExactIsEnergySpec : ChangeSpec := { name := "fnExactIsEnergy", fn := fun _ => fun
  | [d] => { results := [.lit (.bool true)], args := [d] }
  | _ => none }
def fnExactIsEnergyRow : OpenClaim := { program := "ytinngiopcmfmnaa", sum := "8f5a31294ca2e3b5321f784f66ab248c11989580c1b37360bb924fc2f9e7c53c", func := "loop.example/g00916/laws.FnExactIsEnergy", spec := "fnExactIsEnergy", apart := false }
def FnExactIsEnergySaid : Prop := fnExactIsEnergyRow.holds Try.pinned (OpenSpec.ofChange fnExactIsEnergySpec)

/-- ITS FALSE NEIGHBOUR: 'it returns false'. Refute it at one input. -/
def fnExactIsEnergyWrong : ChangeSpec := { name := "fnExactIsEnergy", fn := fun _ => fun
  | [d] => { results := [.lit (.bool false)], args := [d] }
  | _ => none }
def FnExactIsEnergyWrongFalsely : Prop := fnExactIsEnergyRow.holds Try.pinned (OpenSpec.ofChange fnExactIsEnergyWrong)

/-- 'laws.FnExactCompareIntervals': WHATEVER THE INPUT: true; the input reads as it did. -/
def fnExactCompareIntervalsSpec : ChangeSpec := { name := "fnExactCompareIntervals", fn := fun _ => fun
  | [d1, d2] => { results := [.lit (.bool true)], args := [d1, d2] }
  | _ => none }
def fnExactCompareIntervalsRow : OpenClaim := { program := "ytinngiopcmfmnaa", sum := "8f5a31294ca2e3b5321f784f66ab248c11989580c1b37360bb924fc2f9e7c53c", func := "loop.example/g00916/laws.FnExactCompareIntervals", spec := "fnExactCompareIntervals", apart := false }
def FnExactCompareIntervalsSaid : Prop := fnExactCompareIntervalsRow.holds Try.pinned (OpenSpec.ofChange fnExactCompareIntervalsSpec)

/-- ITS FALSE NEIGHBOUR: 'it returns false'. Refute it at one input. -/
def fnExactCompareIntervalsWrong : ChangeSpec := { name := "fnExactCompareIntervals", fn := fun _ => fun
  | [d1, d2] => { results := [.lit (.bool false)], args := [d1, d2] }
  | _ => none }
def FnExactCompareIntervalsWrongFalsely : Prop := fnExactCompareIntervalsRow.holds Try.pinned (OpenSpec.ofChange fnExactCompareIntervalsWrong)

/-- 'laws.FnExactIsRising': WHATEVER THE INPUT: true; the input reads as it did. -/
def fnExactIsRisingSpec : ChangeSpec := { name := "fnExactIsRising", fn := fun _ => fun
  | [d1, d2] => { results := [.lit (.bool true)], args := [d1, d2] }
  | _ => none }
def fnExactIsRisingRow : OpenClaim := { program := "ytinngiopcmfmnaa", sum := "8f5a31294ca2e3b5321f784f66ab248c11989580c1b37360bb924fc2f9e7c53c", func := "loop.example/g00916/laws.FnExactIsRising", spec := "fnExactIsRising", apart := false }
def FnExactIsRisingSaid : Prop := fnExactIsRisingRow.holds Try.pinned (OpenSpec.ofChange fnExactIsRisingSpec)

/-- ITS FALSE NEIGHBOUR: 'it returns false'. Refute it at one input. -/
def fnExactIsRisingWrong : ChangeSpec := { name := "fnExactIsRising", fn := fun _ => fun
  | [d1, d2] => { results := [.lit (.bool false)], args := [d1, d2] }
  | _ => none }
def FnExactIsRisingWrongFalsely : Prop := fnExactIsRisingRow.holds Try.pinned (OpenSpec.ofChange fnExactIsRisingWrong)

/-- 'laws.FnExactRootDown': WHATEVER THE INPUT: true; the input reads as it did. -/
def fnExactRootDownSpec : ChangeSpec := { name := "fnExactRootDown", fn := fun _ => fun
  | [d] => { results := [.lit (.bool true)], args := [d] }
  | _ => none }
def fnExactRootDownRow : OpenClaim := { program := "ytinngiopcmfmnaa", sum := "8f5a31294ca2e3b5321f784f66ab248c11989580c1b37360bb924fc2f9e7c53c", func := "loop.example/g00916/laws.FnExactRootDown", spec := "fnExactRootDown", apart := false }
def FnExactRootDownSaid : Prop := fnExactRootDownRow.holds Try.pinned (OpenSpec.ofChange fnExactRootDownSpec)

/-- ITS FALSE NEIGHBOUR: 'it returns false'. Refute it at one input. -/
def fnExactRootDownWrong : ChangeSpec := { name := "fnExactRootDown", fn := fun _ => fun
  | [d] => { results := [.lit (.bool false)], args := [d] }
  | _ => none }
def FnExactRootDownWrongFalsely : Prop := fnExactRootDownRow.holds Try.pinned (OpenSpec.ofChange fnExactRootDownWrong)

/-- 'laws.FnExactHullOf': WHATEVER THE INPUT: true; the input reads as it did. -/
def fnExactHullOfSpec : ChangeSpec := { name := "fnExactHullOf", fn := fun _ => fun
  | [d1, d2] => { results := [.lit (.bool true)], args := [d1, d2] }
  | _ => none }
def fnExactHullOfRow : OpenClaim := { program := "ytinngiopcmfmnaa", sum := "8f5a31294ca2e3b5321f784f66ab248c11989580c1b37360bb924fc2f9e7c53c", func := "loop.example/g00916/laws.FnExactHullOf", spec := "fnExactHullOf", apart := false }
def FnExactHullOfSaid : Prop := fnExactHullOfRow.holds Try.pinned (OpenSpec.ofChange fnExactHullOfSpec)

/-- ITS FALSE NEIGHBOUR: 'it returns false'. Refute it at one input. -/
def fnExactHullOfWrong : ChangeSpec := { name := "fnExactHullOf", fn := fun _ => fun
  | [d1, d2] => { results := [.lit (.bool false)], args := [d1, d2] }
  | _ => none }
def FnExactHullOfWrongFalsely : Prop := fnExactHullOfRow.holds Try.pinned (OpenSpec.ofChange fnExactHullOfWrong)

/-- 'laws.FnExactDivideDown': WHATEVER THE INPUT: true; the input reads as it did. -/
def fnExactDivideDownSpec : ChangeSpec := { name := "fnExactDivideDown", fn := fun _ => fun
  | [d1, d2] => { results := [.lit (.bool true)], args := [d1, d2] }
  | _ => none }
def fnExactDivideDownRow : OpenClaim := { program := "ytinngiopcmfmnaa", sum := "8f5a31294ca2e3b5321f784f66ab248c11989580c1b37360bb924fc2f9e7c53c", func := "loop.example/g00916/laws.FnExactDivideDown", spec := "fnExactDivideDown", apart := false }
def FnExactDivideDownSaid : Prop := fnExactDivideDownRow.holds Try.pinned (OpenSpec.ofChange fnExactDivideDownSpec)

/-- ITS FALSE NEIGHBOUR: 'it returns false'. Refute it at one input. -/
def fnExactDivideDownWrong : ChangeSpec := { name := "fnExactDivideDown", fn := fun _ => fun
  | [d1, d2] => { results := [.lit (.bool false)], args := [d1, d2] }
  | _ => none }
def FnExactDivideDownWrongFalsely : Prop := fnExactDivideDownRow.holds Try.pinned (OpenSpec.ofChange fnExactDivideDownWrong)

/-- 'laws.FnExactAddIntervals': WHATEVER THE INPUT: true; the input reads as it did. -/
def fnExactAddIntervalsSpec : ChangeSpec := { name := "fnExactAddIntervals", fn := fun _ => fun
  | [d1, d2] => { results := [.lit (.bool true)], args := [d1, d2] }
  | _ => none }
def fnExactAddIntervalsRow : OpenClaim := { program := "ytinngiopcmfmnaa", sum := "8f5a31294ca2e3b5321f784f66ab248c11989580c1b37360bb924fc2f9e7c53c", func := "loop.example/g00916/laws.FnExactAddIntervals", spec := "fnExactAddIntervals", apart := false }
def FnExactAddIntervalsSaid : Prop := fnExactAddIntervalsRow.holds Try.pinned (OpenSpec.ofChange fnExactAddIntervalsSpec)

/-- ITS FALSE NEIGHBOUR: 'it returns false'. Refute it at one input. -/
def fnExactAddIntervalsWrong : ChangeSpec := { name := "fnExactAddIntervals", fn := fun _ => fun
  | [d1, d2] => { results := [.lit (.bool false)], args := [d1, d2] }
  | _ => none }
def FnExactAddIntervalsWrongFalsely : Prop := fnExactAddIntervalsRow.holds Try.pinned (OpenSpec.ofChange fnExactAddIntervalsWrong)

/-- 'laws.FnExactSubtractIntervals': WHATEVER THE INPUT: true; the input reads as it did. -/
def fnExactSubtractIntervalsSpec : ChangeSpec := { name := "fnExactSubtractIntervals", fn := fun _ => fun
  | [d1, d2] => { results := [.lit (.bool true)], args := [d1, d2] }
  | _ => none }
def fnExactSubtractIntervalsRow : OpenClaim := { program := "ytinngiopcmfmnaa", sum := "8f5a31294ca2e3b5321f784f66ab248c11989580c1b37360bb924fc2f9e7c53c", func := "loop.example/g00916/laws.FnExactSubtractIntervals", spec := "fnExactSubtractIntervals", apart := false }
def FnExactSubtractIntervalsSaid : Prop := fnExactSubtractIntervalsRow.holds Try.pinned (OpenSpec.ofChange fnExactSubtractIntervalsSpec)

/-- ITS FALSE NEIGHBOUR: 'it returns false'. Refute it at one input. -/
def fnExactSubtractIntervalsWrong : ChangeSpec := { name := "fnExactSubtractIntervals", fn := fun _ => fun
  | [d1, d2] => { results := [.lit (.bool false)], args := [d1, d2] }
  | _ => none }
def FnExactSubtractIntervalsWrongFalsely : Prop := fnExactSubtractIntervalsRow.holds Try.pinned (OpenSpec.ofChange fnExactSubtractIntervalsWrong)

/- THE SECOND FORM. 'bulk': how many values and letters a reading holds, each counted each time it is reached (what is shared counts as often as it is met; a slice's spare places count too). A statement '..UptoSaid' is the law's where the arguments, and the package variables that the reading takes, are together of bulk at most 1048576: NARROWER than '..Said'. Prove '..Said' where nothing that the law and all that it calls make is longer than what came in: it says more and counts as full. Else prove '..UptoSaid'. A law counts once. -/
mutual
def uptoBulk {H : Type} : DataW H → Nat
  | .lit (.string bytes) => bytes.length + 1
  | .lit _ => 1
  | .nil => 1
  | .ptr d => uptoBulk d + 1
  | .slice elems spare => uptoBulkAll elems + uptoBulkAll spare + 1
  | .agg parts => uptoBulkAll parts + 1
  | .iface _ d => uptoBulk d + 1
  | .map entries => uptoBulkEntries entries + 1
  | .held _ => 1
def uptoBulkAll {H : Type} : List (DataW H) → Nat
  | [] => 0
  | d :: r => uptoBulk d + uptoBulkAll r
def uptoBulkEntries {H : Type} : List (Lit × DataW H) → Nat
  | [] => 0
  | x :: r => uptoBulkEntry x + uptoBulkEntries r
def uptoBulkEntry {H : Type} : Lit × DataW H → Nat
  | (.string bytes, d) => bytes.length + uptoBulk d + 1
  | (_, d) => uptoBulk d + 1
 end
def uptoSmall : (H : Type) → List (DataW H) → Bool := fun _ ds => decide (uptoBulkAll ds ≤ 1048576)
def OpenSpec.upto (s : _root_.Go.ChangeSpec) : _root_.Go.OpenSpec := { _root_.Go.OpenSpec.ofChange s with cond := some uptoSmall }

/-- 'laws.FnExactConstants', WHERE WHAT IT READS IS OF BULK AT MOST 1048576: true; the input reads as it did. -/
def fnExactConstantsUptoRow : OpenClaim := { program := "ytinngiopcmfmnaa", sum := "8f5a31294ca2e3b5321f784f66ab248c11989580c1b37360bb924fc2f9e7c53c", func := "loop.example/g00916/laws.FnExactConstants", spec := "fnExactConstants", apart := false, narrowed := true }
def FnExactConstantsUptoSaid : Prop := fnExactConstantsUptoRow.holds Try.pinned (OpenSpec.upto fnExactConstantsSpec)

/-- 'laws.FnExactIsInterval', WHERE WHAT IT READS IS OF BULK AT MOST 1048576: true; the input reads as it did. -/
def fnExactIsIntervalUptoRow : OpenClaim := { program := "ytinngiopcmfmnaa", sum := "8f5a31294ca2e3b5321f784f66ab248c11989580c1b37360bb924fc2f9e7c53c", func := "loop.example/g00916/laws.FnExactIsInterval", spec := "fnExactIsInterval", apart := false, narrowed := true }
def FnExactIsIntervalUptoSaid : Prop := fnExactIsIntervalUptoRow.holds Try.pinned (OpenSpec.upto fnExactIsIntervalSpec)

/-- 'laws.FnExactEnergyOfSpeed', WHERE WHAT IT READS IS OF BULK AT MOST 1048576: true; the input reads as it did. -/
def fnExactEnergyOfSpeedUptoRow : OpenClaim := { program := "ytinngiopcmfmnaa", sum := "8f5a31294ca2e3b5321f784f66ab248c11989580c1b37360bb924fc2f9e7c53c", func := "loop.example/g00916/laws.FnExactEnergyOfSpeed", spec := "fnExactEnergyOfSpeed", apart := false, narrowed := true }
def FnExactEnergyOfSpeedUptoSaid : Prop := fnExactEnergyOfSpeedUptoRow.holds Try.pinned (OpenSpec.upto fnExactEnergyOfSpeedSpec)

/-- 'laws.FnExactIsWithin', WHERE WHAT IT READS IS OF BULK AT MOST 1048576: true; the input reads as it did. -/
def fnExactIsWithinUptoRow : OpenClaim := { program := "ytinngiopcmfmnaa", sum := "8f5a31294ca2e3b5321f784f66ab248c11989580c1b37360bb924fc2f9e7c53c", func := "loop.example/g00916/laws.FnExactIsWithin", spec := "fnExactIsWithin", apart := false, narrowed := true }
def FnExactIsWithinUptoSaid : Prop := fnExactIsWithinUptoRow.holds Try.pinned (OpenSpec.upto fnExactIsWithinSpec)

/-- 'laws.FnExactIsEnergy', WHERE WHAT IT READS IS OF BULK AT MOST 1048576: true; the input reads as it did. -/
def fnExactIsEnergyUptoRow : OpenClaim := { program := "ytinngiopcmfmnaa", sum := "8f5a31294ca2e3b5321f784f66ab248c11989580c1b37360bb924fc2f9e7c53c", func := "loop.example/g00916/laws.FnExactIsEnergy", spec := "fnExactIsEnergy", apart := false, narrowed := true }
def FnExactIsEnergyUptoSaid : Prop := fnExactIsEnergyUptoRow.holds Try.pinned (OpenSpec.upto fnExactIsEnergySpec)

/-- 'laws.FnExactCompareIntervals', WHERE WHAT IT READS IS OF BULK AT MOST 1048576: true; the input reads as it did. -/
def fnExactCompareIntervalsUptoRow : OpenClaim := { program := "ytinngiopcmfmnaa", sum := "8f5a31294ca2e3b5321f784f66ab248c11989580c1b37360bb924fc2f9e7c53c", func := "loop.example/g00916/laws.FnExactCompareIntervals", spec := "fnExactCompareIntervals", apart := false, narrowed := true }
def FnExactCompareIntervalsUptoSaid : Prop := fnExactCompareIntervalsUptoRow.holds Try.pinned (OpenSpec.upto fnExactCompareIntervalsSpec)

/-- 'laws.FnExactIsRising', WHERE WHAT IT READS IS OF BULK AT MOST 1048576: true; the input reads as it did. -/
def fnExactIsRisingUptoRow : OpenClaim := { program := "ytinngiopcmfmnaa", sum := "8f5a31294ca2e3b5321f784f66ab248c11989580c1b37360bb924fc2f9e7c53c", func := "loop.example/g00916/laws.FnExactIsRising", spec := "fnExactIsRising", apart := false, narrowed := true }
def FnExactIsRisingUptoSaid : Prop := fnExactIsRisingUptoRow.holds Try.pinned (OpenSpec.upto fnExactIsRisingSpec)

/-- 'laws.FnExactRootDown', WHERE WHAT IT READS IS OF BULK AT MOST 1048576: true; the input reads as it did. -/
def fnExactRootDownUptoRow : OpenClaim := { program := "ytinngiopcmfmnaa", sum := "8f5a31294ca2e3b5321f784f66ab248c11989580c1b37360bb924fc2f9e7c53c", func := "loop.example/g00916/laws.FnExactRootDown", spec := "fnExactRootDown", apart := false, narrowed := true }
def FnExactRootDownUptoSaid : Prop := fnExactRootDownUptoRow.holds Try.pinned (OpenSpec.upto fnExactRootDownSpec)

/-- 'laws.FnExactHullOf', WHERE WHAT IT READS IS OF BULK AT MOST 1048576: true; the input reads as it did. -/
def fnExactHullOfUptoRow : OpenClaim := { program := "ytinngiopcmfmnaa", sum := "8f5a31294ca2e3b5321f784f66ab248c11989580c1b37360bb924fc2f9e7c53c", func := "loop.example/g00916/laws.FnExactHullOf", spec := "fnExactHullOf", apart := false, narrowed := true }
def FnExactHullOfUptoSaid : Prop := fnExactHullOfUptoRow.holds Try.pinned (OpenSpec.upto fnExactHullOfSpec)

/-- 'laws.FnExactDivideDown', WHERE WHAT IT READS IS OF BULK AT MOST 1048576: true; the input reads as it did. -/
def fnExactDivideDownUptoRow : OpenClaim := { program := "ytinngiopcmfmnaa", sum := "8f5a31294ca2e3b5321f784f66ab248c11989580c1b37360bb924fc2f9e7c53c", func := "loop.example/g00916/laws.FnExactDivideDown", spec := "fnExactDivideDown", apart := false, narrowed := true }
def FnExactDivideDownUptoSaid : Prop := fnExactDivideDownUptoRow.holds Try.pinned (OpenSpec.upto fnExactDivideDownSpec)

/-- 'laws.FnExactAddIntervals', WHERE WHAT IT READS IS OF BULK AT MOST 1048576: true; the input reads as it did. -/
def fnExactAddIntervalsUptoRow : OpenClaim := { program := "ytinngiopcmfmnaa", sum := "8f5a31294ca2e3b5321f784f66ab248c11989580c1b37360bb924fc2f9e7c53c", func := "loop.example/g00916/laws.FnExactAddIntervals", spec := "fnExactAddIntervals", apart := false, narrowed := true }
def FnExactAddIntervalsUptoSaid : Prop := fnExactAddIntervalsUptoRow.holds Try.pinned (OpenSpec.upto fnExactAddIntervalsSpec)

/-- 'laws.FnExactSubtractIntervals', WHERE WHAT IT READS IS OF BULK AT MOST 1048576: true; the input reads as it did. -/
def fnExactSubtractIntervalsUptoRow : OpenClaim := { program := "ytinngiopcmfmnaa", sum := "8f5a31294ca2e3b5321f784f66ab248c11989580c1b37360bb924fc2f9e7c53c", func := "loop.example/g00916/laws.FnExactSubtractIntervals", spec := "fnExactSubtractIntervals", apart := false, narrowed := true }
def FnExactSubtractIntervalsUptoSaid : Prop := fnExactSubtractIntervalsUptoRow.holds Try.pinned (OpenSpec.upto fnExactSubtractIntervalsSpec)

end Rows
end Go.Proofs.Ytinngiopcmfmnaa
