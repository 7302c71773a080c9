/-
  No cell of these rows narrows 'for every input' (looked for: loops, veiled, ifaces, maps, wideKeys, modest, calm, conditions, laid).
  DERIVED. THE GIVEN ROWS OF THIS SEAT. 12 by the template 'for every input the law returns true; each argument reads behind the call as it read before'; 0 by the template 'total and deterministic' (their statements: YticeebocckeedaaTotals.lean).
  GIVEN WITH THE SEED: the statements are not yours to turn. If you find one false, say at which input.
  Laid BY PROGRAM, IN A SANDBOX (cutbox-rows.mjs): the forced cells as the released guide's own fill.sh prints them over the translation 3ebecc8d2e7dc730… (all of the seat's roots in one cut). By AI agents, Wed Nov 11 2026. No macro, syntax, notation, axiom, sorry.
-/
import Derived.Test.YticeebocckeedaaChecked
import GoSem.Claim
import GoSem.ClaimJoined
import GoSem.ClaimMapViews
import Derived.JoinedTies
import Derived.KernelRfl
namespace Go.Proofs.Yticeebocckeedaa
/- THE CELL 'sum', in the pinned program and in every row, IS THE sha256 OF THE DUMP (.gsa) THAT YticeebocckeedaaProg.lean LOADS. Nothing in Lean hashes anything: it is a label: what it is worth is what the hold of that sum in a sandbox is worth. -/
noncomputable def Try.pinned : Pinned := { name := "yticeebocckeedaa", sum := "3ebecc8d2e7dc730bf4634ce17505fa70d3901929be8f036a30d05b72f9283cd", checked := Try.checked }
namespace Rows
def none {H : Type} : Left H := { results := [], args := [] }

/-- 'laws.FnExactCommonPart': WHATEVER THE INPUT: true; the input reads as it did. -/
def fnExactCommonPartSpec : ChangeSpec := { name := "fnExactCommonPart", fn := fun _ => fun
  | [d1, d2] => { results := [.lit (.bool true)], args := [d1, d2] }
  | _ => none }
def fnExactCommonPartRow : OpenClaim := { program := "yticeebocckeedaa", sum := "3ebecc8d2e7dc730bf4634ce17505fa70d3901929be8f036a30d05b72f9283cd", func := "loop.example/g00916/laws.FnExactCommonPart", spec := "fnExactCommonPart", apart := false }
def FnExactCommonPartSaid : Prop := fnExactCommonPartRow.holds Try.pinned (OpenSpec.ofChange fnExactCommonPartSpec)

/-- ITS FALSE NEIGHBOUR: 'it returns false'. Refute it at one input. -/
def fnExactCommonPartWrong : ChangeSpec := { name := "fnExactCommonPart", fn := fun _ => fun
  | [d1, d2] => { results := [.lit (.bool false)], args := [d1, d2] }
  | _ => none }
def FnExactCommonPartWrongFalsely : Prop := fnExactCommonPartRow.holds Try.pinned (OpenSpec.ofChange fnExactCommonPartWrong)

/-- 'laws.FnExactDivideUp': WHATEVER THE INPUT: true; the input reads as it did. -/
def fnExactDivideUpSpec : ChangeSpec := { name := "fnExactDivideUp", fn := fun _ => fun
  | [d1, d2] => { results := [.lit (.bool true)], args := [d1, d2] }
  | _ => none }
def fnExactDivideUpRow : OpenClaim := { program := "yticeebocckeedaa", sum := "3ebecc8d2e7dc730bf4634ce17505fa70d3901929be8f036a30d05b72f9283cd", func := "loop.example/g00916/laws.FnExactDivideUp", spec := "fnExactDivideUp", apart := false }
def FnExactDivideUpSaid : Prop := fnExactDivideUpRow.holds Try.pinned (OpenSpec.ofChange fnExactDivideUpSpec)

/-- ITS FALSE NEIGHBOUR: 'it returns false'. Refute it at one input. -/
def fnExactDivideUpWrong : ChangeSpec := { name := "fnExactDivideUp", fn := fun _ => fun
  | [d1, d2] => { results := [.lit (.bool false)], args := [d1, d2] }
  | _ => none }
def FnExactDivideUpWrongFalsely : Prop := fnExactDivideUpRow.holds Try.pinned (OpenSpec.ofChange fnExactDivideUpWrong)

/-- 'laws.FnExactIsSegment': WHATEVER THE INPUT: true; the input reads as it did. -/
def fnExactIsSegmentSpec : ChangeSpec := { name := "fnExactIsSegment", fn := fun _ => fun
  | [d] => { results := [.lit (.bool true)], args := [d] }
  | _ => none }
def fnExactIsSegmentRow : OpenClaim := { program := "yticeebocckeedaa", sum := "3ebecc8d2e7dc730bf4634ce17505fa70d3901929be8f036a30d05b72f9283cd", func := "loop.example/g00916/laws.FnExactIsSegment", spec := "fnExactIsSegment", apart := false }
def FnExactIsSegmentSaid : Prop := fnExactIsSegmentRow.holds Try.pinned (OpenSpec.ofChange fnExactIsSegmentSpec)

/-- ITS FALSE NEIGHBOUR: 'it returns false'. Refute it at one input. -/
def fnExactIsSegmentWrong : ChangeSpec := { name := "fnExactIsSegment", fn := fun _ => fun
  | [d] => { results := [.lit (.bool false)], args := [d] }
  | _ => none }
def FnExactIsSegmentWrongFalsely : Prop := fnExactIsSegmentRow.holds Try.pinned (OpenSpec.ofChange fnExactIsSegmentWrong)

/-- 'laws.FnExactRootUp': WHATEVER THE INPUT: true; the input reads as it did. -/
def fnExactRootUpSpec : ChangeSpec := { name := "fnExactRootUp", fn := fun _ => fun
  | [d] => { results := [.lit (.bool true)], args := [d] }
  | _ => none }
def fnExactRootUpRow : OpenClaim := { program := "yticeebocckeedaa", sum := "3ebecc8d2e7dc730bf4634ce17505fa70d3901929be8f036a30d05b72f9283cd", func := "loop.example/g00916/laws.FnExactRootUp", spec := "fnExactRootUp", apart := false }
def FnExactRootUpSaid : Prop := fnExactRootUpRow.holds Try.pinned (OpenSpec.ofChange fnExactRootUpSpec)

/-- ITS FALSE NEIGHBOUR: 'it returns false'. Refute it at one input. -/
def fnExactRootUpWrong : ChangeSpec := { name := "fnExactRootUp", fn := fun _ => fun
  | [d] => { results := [.lit (.bool false)], args := [d] }
  | _ => none }
def FnExactRootUpWrongFalsely : Prop := fnExactRootUpRow.holds Try.pinned (OpenSpec.ofChange fnExactRootUpWrong)

/-- 'laws.FnExactScaleInterval': WHATEVER THE INPUT: true; the input reads as it did. -/
def fnExactScaleIntervalSpec : ChangeSpec := { name := "fnExactScaleInterval", fn := fun _ => fun
  | [d1, d2] => { results := [.lit (.bool true)], args := [d1, d2] }
  | _ => none }
def fnExactScaleIntervalRow : OpenClaim := { program := "yticeebocckeedaa", sum := "3ebecc8d2e7dc730bf4634ce17505fa70d3901929be8f036a30d05b72f9283cd", func := "loop.example/g00916/laws.FnExactScaleInterval", spec := "fnExactScaleInterval", apart := false }
def FnExactScaleIntervalSaid : Prop := fnExactScaleIntervalRow.holds Try.pinned (OpenSpec.ofChange fnExactScaleIntervalSpec)

/-- ITS FALSE NEIGHBOUR: 'it returns false'. Refute it at one input. -/
def fnExactScaleIntervalWrong : ChangeSpec := { name := "fnExactScaleInterval", fn := fun _ => fun
  | [d1, d2] => { results := [.lit (.bool false)], args := [d1, d2] }
  | _ => none }
def FnExactScaleIntervalWrongFalsely : Prop := fnExactScaleIntervalRow.holds Try.pinned (OpenSpec.ofChange fnExactScaleIntervalWrong)

/-- 'laws.FnExactSumOf': WHATEVER THE INPUT: true; the input reads as it did. -/
def fnExactSumOfSpec : ChangeSpec := { name := "fnExactSumOf", fn := fun _ => fun
  | [d] => { results := [.lit (.bool true)], args := [d] }
  | _ => none }
def fnExactSumOfRow : OpenClaim := { program := "yticeebocckeedaa", sum := "3ebecc8d2e7dc730bf4634ce17505fa70d3901929be8f036a30d05b72f9283cd", func := "loop.example/g00916/laws.FnExactSumOf", spec := "fnExactSumOf", apart := false }
def FnExactSumOfSaid : Prop := fnExactSumOfRow.holds Try.pinned (OpenSpec.ofChange fnExactSumOfSpec)

/-- ITS FALSE NEIGHBOUR: 'it returns false'. Refute it at one input. -/
def fnExactSumOfWrong : ChangeSpec := { name := "fnExactSumOf", fn := fun _ => fun
  | [d] => { results := [.lit (.bool false)], args := [d] }
  | _ => none }
def FnExactSumOfWrongFalsely : Prop := fnExactSumOfRow.holds Try.pinned (OpenSpec.ofChange fnExactSumOfWrong)

/-- 'laws.FnExactChangeOf': WHATEVER THE INPUT: true; the input reads as it did. -/
def fnExactChangeOfSpec : ChangeSpec := { name := "fnExactChangeOf", fn := fun _ => fun
  | [d] => { results := [.lit (.bool true)], args := [d] }
  | _ => none }
def fnExactChangeOfRow : OpenClaim := { program := "yticeebocckeedaa", sum := "3ebecc8d2e7dc730bf4634ce17505fa70d3901929be8f036a30d05b72f9283cd", func := "loop.example/g00916/laws.FnExactChangeOf", spec := "fnExactChangeOf", apart := false }
def FnExactChangeOfSaid : Prop := fnExactChangeOfRow.holds Try.pinned (OpenSpec.ofChange fnExactChangeOfSpec)

/-- ITS FALSE NEIGHBOUR: 'it returns false'. Refute it at one input. -/
def fnExactChangeOfWrong : ChangeSpec := { name := "fnExactChangeOf", fn := fun _ => fun
  | [d] => { results := [.lit (.bool false)], args := [d] }
  | _ => none }
def FnExactChangeOfWrongFalsely : Prop := fnExactChangeOfRow.holds Try.pinned (OpenSpec.ofChange fnExactChangeOfWrong)

/-- 'laws.FnExactSpeedOf': WHATEVER THE INPUT: true; the input reads as it did. -/
def fnExactSpeedOfSpec : ChangeSpec := { name := "fnExactSpeedOf", fn := fun _ => fun
  | [d] => { results := [.lit (.bool true)], args := [d] }
  | _ => none }
def fnExactSpeedOfRow : OpenClaim := { program := "yticeebocckeedaa", sum := "3ebecc8d2e7dc730bf4634ce17505fa70d3901929be8f036a30d05b72f9283cd", func := "loop.example/g00916/laws.FnExactSpeedOf", spec := "fnExactSpeedOf", apart := false }
def FnExactSpeedOfSaid : Prop := fnExactSpeedOfRow.holds Try.pinned (OpenSpec.ofChange fnExactSpeedOfSpec)

/-- ITS FALSE NEIGHBOUR: 'it returns false'. Refute it at one input. -/
def fnExactSpeedOfWrong : ChangeSpec := { name := "fnExactSpeedOf", fn := fun _ => fun
  | [d] => { results := [.lit (.bool false)], args := [d] }
  | _ => none }
def FnExactSpeedOfWrongFalsely : Prop := fnExactSpeedOfRow.holds Try.pinned (OpenSpec.ofChange fnExactSpeedOfWrong)

/-- 'laws.FnExactPassVerdict': WHATEVER THE INPUT: true; the input reads as it did. -/
def fnExactPassVerdictSpec : ChangeSpec := { name := "fnExactPassVerdict", fn := fun _ => fun
  | [d1, d2] => { results := [.lit (.bool true)], args := [d1, d2] }
  | _ => none }
def fnExactPassVerdictRow : OpenClaim := { program := "yticeebocckeedaa", sum := "3ebecc8d2e7dc730bf4634ce17505fa70d3901929be8f036a30d05b72f9283cd", func := "loop.example/g00916/laws.FnExactPassVerdict", spec := "fnExactPassVerdict", apart := false }
def FnExactPassVerdictSaid : Prop := fnExactPassVerdictRow.holds Try.pinned (OpenSpec.ofChange fnExactPassVerdictSpec)

/-- ITS FALSE NEIGHBOUR: 'it returns false'. Refute it at one input. -/
def fnExactPassVerdictWrong : ChangeSpec := { name := "fnExactPassVerdict", fn := fun _ => fun
  | [d1, d2] => { results := [.lit (.bool false)], args := [d1, d2] }
  | _ => none }
def FnExactPassVerdictWrongFalsely : Prop := fnExactPassVerdictRow.holds Try.pinned (OpenSpec.ofChange fnExactPassVerdictWrong)

/-- 'laws.FnExactGreatestStop': WHATEVER THE INPUT: true; the input reads as it did. -/
def fnExactGreatestStopSpec : ChangeSpec := { name := "fnExactGreatestStop", fn := fun _ => fun
  | [d] => { results := [.lit (.bool true)], args := [d] }
  | _ => none }
def fnExactGreatestStopRow : OpenClaim := { program := "yticeebocckeedaa", sum := "3ebecc8d2e7dc730bf4634ce17505fa70d3901929be8f036a30d05b72f9283cd", func := "loop.example/g00916/laws.FnExactGreatestStop", spec := "fnExactGreatestStop", apart := false }
def FnExactGreatestStopSaid : Prop := fnExactGreatestStopRow.holds Try.pinned (OpenSpec.ofChange fnExactGreatestStopSpec)

/-- ITS FALSE NEIGHBOUR: 'it returns false'. Refute it at one input. -/
def fnExactGreatestStopWrong : ChangeSpec := { name := "fnExactGreatestStop", fn := fun _ => fun
  | [d] => { results := [.lit (.bool false)], args := [d] }
  | _ => none }
def FnExactGreatestStopWrongFalsely : Prop := fnExactGreatestStopRow.holds Try.pinned (OpenSpec.ofChange fnExactGreatestStopWrong)

/-- 'laws.FnExactStopVerdict': WHATEVER THE INPUT: true; the input reads as it did. -/
def fnExactStopVerdictSpec : ChangeSpec := { name := "fnExactStopVerdict", fn := fun _ => fun
  | [d1, d2] => { results := [.lit (.bool true)], args := [d1, d2] }
  | _ => none }
def fnExactStopVerdictRow : OpenClaim := { program := "yticeebocckeedaa", sum := "3ebecc8d2e7dc730bf4634ce17505fa70d3901929be8f036a30d05b72f9283cd", func := "loop.example/g00916/laws.FnExactStopVerdict", spec := "fnExactStopVerdict", apart := false }
def FnExactStopVerdictSaid : Prop := fnExactStopVerdictRow.holds Try.pinned (OpenSpec.ofChange fnExactStopVerdictSpec)

/-- ITS FALSE NEIGHBOUR: 'it returns false'. Refute it at one input. -/
def fnExactStopVerdictWrong : ChangeSpec := { name := "fnExactStopVerdict", fn := fun _ => fun
  | [d1, d2] => { results := [.lit (.bool false)], args := [d1, d2] }
  | _ => none }
def FnExactStopVerdictWrongFalsely : Prop := fnExactStopVerdictRow.holds Try.pinned (OpenSpec.ofChange fnExactStopVerdictWrong)

/-- 'laws.FnExactBrakeWork': WHATEVER THE INPUT: true; the input reads as it did. -/
def fnExactBrakeWorkSpec : ChangeSpec := { name := "fnExactBrakeWork", fn := fun _ => fun
  | [d] => { results := [.lit (.bool true)], args := [d] }
  | _ => none }
def fnExactBrakeWorkRow : OpenClaim := { program := "yticeebocckeedaa", sum := "3ebecc8d2e7dc730bf4634ce17505fa70d3901929be8f036a30d05b72f9283cd", func := "loop.example/g00916/laws.FnExactBrakeWork", spec := "fnExactBrakeWork", apart := false }
def FnExactBrakeWorkSaid : Prop := fnExactBrakeWorkRow.holds Try.pinned (OpenSpec.ofChange fnExactBrakeWorkSpec)

/-- ITS FALSE NEIGHBOUR: 'it returns false'. Refute it at one input. -/
def fnExactBrakeWorkWrong : ChangeSpec := { name := "fnExactBrakeWork", fn := fun _ => fun
  | [d] => { results := [.lit (.bool false)], args := [d] }
  | _ => none }
def FnExactBrakeWorkWrongFalsely : Prop := fnExactBrakeWorkRow.holds Try.pinned (OpenSpec.ofChange fnExactBrakeWorkWrong)

/- THE SECOND FORM. 'bulk': how many values and letters a reading holds, each counted each time it is reached (what is shared counts as often as it is met; a slice's spare places count too). A statement '..UptoSaid' is the law's where the arguments, and the package variables that the reading takes, are together of bulk at most 1048576: NARROWER than '..Said'. Prove '..Said' where nothing that the law and all that it calls make is longer than what came in: it says more and counts as full. Else prove '..UptoSaid'. A law counts once. -/
mutual
def uptoBulk {H : Type} : DataW H → Nat
  | .lit (.string bytes) => bytes.length + 1
  | .lit _ => 1
  | .nil => 1
  | .ptr d => uptoBulk d + 1
  | .slice elems spare => uptoBulkAll elems + uptoBulkAll spare + 1
  | .agg parts => uptoBulkAll parts + 1
  | .iface _ d => uptoBulk d + 1
  | .map entries => uptoBulkEntries entries + 1
  | .held _ => 1
def uptoBulkAll {H : Type} : List (DataW H) → Nat
  | [] => 0
  | d :: r => uptoBulk d + uptoBulkAll r
def uptoBulkEntries {H : Type} : List (Lit × DataW H) → Nat
  | [] => 0
  | x :: r => uptoBulkEntry x + uptoBulkEntries r
def uptoBulkEntry {H : Type} : Lit × DataW H → Nat
  | (.string bytes, d) => bytes.length + uptoBulk d + 1
  | (_, d) => uptoBulk d + 1
 end
def uptoSmall : (H : Type) → List (DataW H) → Bool := fun _ ds => decide (uptoBulkAll ds ≤ 1048576)
def OpenSpec.upto (s : _root_.Go.ChangeSpec) : _root_.Go.OpenSpec := { _root_.Go.OpenSpec.ofChange s with cond := some uptoSmall }

/-- 'laws.FnExactCommonPart', WHERE WHAT IT READS IS OF BULK AT MOST 1048576: true; the input reads as it did. -/
def fnExactCommonPartUptoRow : OpenClaim := { program := "yticeebocckeedaa", sum := "3ebecc8d2e7dc730bf4634ce17505fa70d3901929be8f036a30d05b72f9283cd", func := "loop.example/g00916/laws.FnExactCommonPart", spec := "fnExactCommonPart", apart := false, narrowed := true }
def FnExactCommonPartUptoSaid : Prop := fnExactCommonPartUptoRow.holds Try.pinned (OpenSpec.upto fnExactCommonPartSpec)

/-- 'laws.FnExactDivideUp', WHERE WHAT IT READS IS OF BULK AT MOST 1048576: true; the input reads as it did. -/
def fnExactDivideUpUptoRow : OpenClaim := { program := "yticeebocckeedaa", sum := "3ebecc8d2e7dc730bf4634ce17505fa70d3901929be8f036a30d05b72f9283cd", func := "loop.example/g00916/laws.FnExactDivideUp", spec := "fnExactDivideUp", apart := false, narrowed := true }
def FnExactDivideUpUptoSaid : Prop := fnExactDivideUpUptoRow.holds Try.pinned (OpenSpec.upto fnExactDivideUpSpec)

/-- 'laws.FnExactIsSegment', WHERE WHAT IT READS IS OF BULK AT MOST 1048576: true; the input reads as it did. -/
def fnExactIsSegmentUptoRow : OpenClaim := { program := "yticeebocckeedaa", sum := "3ebecc8d2e7dc730bf4634ce17505fa70d3901929be8f036a30d05b72f9283cd", func := "loop.example/g00916/laws.FnExactIsSegment", spec := "fnExactIsSegment", apart := false, narrowed := true }
def FnExactIsSegmentUptoSaid : Prop := fnExactIsSegmentUptoRow.holds Try.pinned (OpenSpec.upto fnExactIsSegmentSpec)

/-- 'laws.FnExactRootUp', WHERE WHAT IT READS IS OF BULK AT MOST 1048576: true; the input reads as it did. -/
def fnExactRootUpUptoRow : OpenClaim := { program := "yticeebocckeedaa", sum := "3ebecc8d2e7dc730bf4634ce17505fa70d3901929be8f036a30d05b72f9283cd", func := "loop.example/g00916/laws.FnExactRootUp", spec := "fnExactRootUp", apart := false, narrowed := true }
def FnExactRootUpUptoSaid : Prop := fnExactRootUpUptoRow.holds Try.pinned (OpenSpec.upto fnExactRootUpSpec)

/-- 'laws.FnExactScaleInterval', WHERE WHAT IT READS IS OF BULK AT MOST 1048576: true; the input reads as it did. -/
def fnExactScaleIntervalUptoRow : OpenClaim := { program := "yticeebocckeedaa", sum := "3ebecc8d2e7dc730bf4634ce17505fa70d3901929be8f036a30d05b72f9283cd", func := "loop.example/g00916/laws.FnExactScaleInterval", spec := "fnExactScaleInterval", apart := false, narrowed := true }
def FnExactScaleIntervalUptoSaid : Prop := fnExactScaleIntervalUptoRow.holds Try.pinned (OpenSpec.upto fnExactScaleIntervalSpec)

/-- 'laws.FnExactSumOf', WHERE WHAT IT READS IS OF BULK AT MOST 1048576: true; the input reads as it did. -/
def fnExactSumOfUptoRow : OpenClaim := { program := "yticeebocckeedaa", sum := "3ebecc8d2e7dc730bf4634ce17505fa70d3901929be8f036a30d05b72f9283cd", func := "loop.example/g00916/laws.FnExactSumOf", spec := "fnExactSumOf", apart := false, narrowed := true }
def FnExactSumOfUptoSaid : Prop := fnExactSumOfUptoRow.holds Try.pinned (OpenSpec.upto fnExactSumOfSpec)

/-- 'laws.FnExactChangeOf', WHERE WHAT IT READS IS OF BULK AT MOST 1048576: true; the input reads as it did. -/
def fnExactChangeOfUptoRow : OpenClaim := { program := "yticeebocckeedaa", sum := "3ebecc8d2e7dc730bf4634ce17505fa70d3901929be8f036a30d05b72f9283cd", func := "loop.example/g00916/laws.FnExactChangeOf", spec := "fnExactChangeOf", apart := false, narrowed := true }
def FnExactChangeOfUptoSaid : Prop := fnExactChangeOfUptoRow.holds Try.pinned (OpenSpec.upto fnExactChangeOfSpec)

/-- 'laws.FnExactSpeedOf', WHERE WHAT IT READS IS OF BULK AT MOST 1048576: true; the input reads as it did. -/
def fnExactSpeedOfUptoRow : OpenClaim := { program := "yticeebocckeedaa", sum := "3ebecc8d2e7dc730bf4634ce17505fa70d3901929be8f036a30d05b72f9283cd", func := "loop.example/g00916/laws.FnExactSpeedOf", spec := "fnExactSpeedOf", apart := false, narrowed := true }
def FnExactSpeedOfUptoSaid : Prop := fnExactSpeedOfUptoRow.holds Try.pinned (OpenSpec.upto fnExactSpeedOfSpec)

/-- 'laws.FnExactPassVerdict', WHERE WHAT IT READS IS OF BULK AT MOST 1048576: true; the input reads as it did. -/
def fnExactPassVerdictUptoRow : OpenClaim := { program := "yticeebocckeedaa", sum := "3ebecc8d2e7dc730bf4634ce17505fa70d3901929be8f036a30d05b72f9283cd", func := "loop.example/g00916/laws.FnExactPassVerdict", spec := "fnExactPassVerdict", apart := false, narrowed := true }
def FnExactPassVerdictUptoSaid : Prop := fnExactPassVerdictUptoRow.holds Try.pinned (OpenSpec.upto fnExactPassVerdictSpec)

/-- 'laws.FnExactGreatestStop', WHERE WHAT IT READS IS OF BULK AT MOST 1048576: true; the input reads as it did. -/
def fnExactGreatestStopUptoRow : OpenClaim := { program := "yticeebocckeedaa", sum := "3ebecc8d2e7dc730bf4634ce17505fa70d3901929be8f036a30d05b72f9283cd", func := "loop.example/g00916/laws.FnExactGreatestStop", spec := "fnExactGreatestStop", apart := false, narrowed := true }
def FnExactGreatestStopUptoSaid : Prop := fnExactGreatestStopUptoRow.holds Try.pinned (OpenSpec.upto fnExactGreatestStopSpec)

/-- 'laws.FnExactStopVerdict', WHERE WHAT IT READS IS OF BULK AT MOST 1048576: true; the input reads as it did. -/
def fnExactStopVerdictUptoRow : OpenClaim := { program := "yticeebocckeedaa", sum := "3ebecc8d2e7dc730bf4634ce17505fa70d3901929be8f036a30d05b72f9283cd", func := "loop.example/g00916/laws.FnExactStopVerdict", spec := "fnExactStopVerdict", apart := false, narrowed := true }
def FnExactStopVerdictUptoSaid : Prop := fnExactStopVerdictUptoRow.holds Try.pinned (OpenSpec.upto fnExactStopVerdictSpec)

/-- 'laws.FnExactBrakeWork', WHERE WHAT IT READS IS OF BULK AT MOST 1048576: true; the input reads as it did. -/
def fnExactBrakeWorkUptoRow : OpenClaim := { program := "yticeebocckeedaa", sum := "3ebecc8d2e7dc730bf4634ce17505fa70d3901929be8f036a30d05b72f9283cd", func := "loop.example/g00916/laws.FnExactBrakeWork", spec := "fnExactBrakeWork", apart := false, narrowed := true }
def FnExactBrakeWorkUptoSaid : Prop := fnExactBrakeWorkUptoRow.holds Try.pinned (OpenSpec.upto fnExactBrakeWorkSpec)

end Rows
end Go.Proofs.Yticeebocckeedaa
