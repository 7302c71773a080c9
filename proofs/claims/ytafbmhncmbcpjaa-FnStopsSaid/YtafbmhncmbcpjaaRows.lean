/-
  No cell of these rows narrows 'for every input' (looked for: loops, veiled, ifaces, maps, wideKeys, modest, calm, conditions, laid).
  DERIVED. THE GIVEN ROWS OF THIS SEAT. 11 by the template 'for every input the law returns true; each argument reads behind the call as it read before'; 0 by the template 'total and deterministic' (their statements: YtafbmhncmbcpjaaTotals.lean).
  GIVEN WITH THE SEED: the statements are not yours to turn. If you find one false, say at which input.
  Laid BY PROGRAM, IN A SANDBOX (cutbox-rows.mjs): the forced cells as the released guide's own fill.sh prints them over the translation 0aa5f1c74a605a24… (all of the seat's roots in one cut). By AI agents, Wed Nov 11 2026. No macro, syntax, notation, axiom, sorry.
-/
import Derived.Test.YtafbmhncmbcpjaaChecked
import GoSem.Claim
import GoSem.ClaimJoined
import GoSem.ClaimMapViews
import Derived.JoinedTies
import Derived.KernelRfl
namespace Go.Proofs.Ytafbmhncmbcpjaa
/- THE CELL 'sum', in the pinned program and in every row, IS THE sha256 OF THE DUMP (.gsa) THAT YtafbmhncmbcpjaaProg.lean LOADS. Nothing in Lean hashes anything: it is a label: what it is worth is what the hold of that sum in a sandbox is worth. -/
noncomputable def Try.pinned : Pinned := { name := "ytafbmhncmbcpjaa", sum := "0aa5f1c74a605a24f7f037bfa5f8f40ee3c52a4f9e6a8da0d749c6f4a93a78d8", checked := Try.checked }
namespace Rows
def none {H : Type} : Left H := { results := [], args := [] }

/-- 'laws.FnExactEnergyAfter': WHATEVER THE INPUT: true; the input reads as it did. -/
def fnExactEnergyAfterSpec : ChangeSpec := { name := "fnExactEnergyAfter", fn := fun _ => fun
  | [d1, d2] => { results := [.lit (.bool true)], args := [d1, d2] }
  | _ => none }
def fnExactEnergyAfterRow : OpenClaim := { program := "ytafbmhncmbcpjaa", sum := "0aa5f1c74a605a24f7f037bfa5f8f40ee3c52a4f9e6a8da0d749c6f4a93a78d8", func := "loop.example/g00916/laws.FnExactEnergyAfter", spec := "fnExactEnergyAfter", apart := false }
def FnExactEnergyAfterSaid : Prop := fnExactEnergyAfterRow.holds Try.pinned (OpenSpec.ofChange fnExactEnergyAfterSpec)

/-- ITS FALSE NEIGHBOUR: 'it returns false'. Refute it at one input. -/
def fnExactEnergyAfterWrong : ChangeSpec := { name := "fnExactEnergyAfter", fn := fun _ => fun
  | [d1, d2] => { results := [.lit (.bool false)], args := [d1, d2] }
  | _ => none }
def FnExactEnergyAfterWrongFalsely : Prop := fnExactEnergyAfterRow.holds Try.pinned (OpenSpec.ofChange fnExactEnergyAfterWrong)

/-- 'laws.FnExactStoppingDistance': WHATEVER THE INPUT: true; the input reads as it did. -/
def fnExactStoppingDistanceSpec : ChangeSpec := { name := "fnExactStoppingDistance", fn := fun _ => fun
  | [d1, d2] => { results := [.lit (.bool true)], args := [d1, d2] }
  | _ => none }
def fnExactStoppingDistanceRow : OpenClaim := { program := "ytafbmhncmbcpjaa", sum := "0aa5f1c74a605a24f7f037bfa5f8f40ee3c52a4f9e6a8da0d749c6f4a93a78d8", func := "loop.example/g00916/laws.FnExactStoppingDistance", spec := "fnExactStoppingDistance", apart := false }
def FnExactStoppingDistanceSaid : Prop := fnExactStoppingDistanceRow.holds Try.pinned (OpenSpec.ofChange fnExactStoppingDistanceSpec)

/-- ITS FALSE NEIGHBOUR: 'it returns false'. Refute it at one input. -/
def fnExactStoppingDistanceWrong : ChangeSpec := { name := "fnExactStoppingDistance", fn := fun _ => fun
  | [d1, d2] => { results := [.lit (.bool false)], args := [d1, d2] }
  | _ => none }
def FnExactStoppingDistanceWrongFalsely : Prop := fnExactStoppingDistanceRow.holds Try.pinned (OpenSpec.ofChange fnExactStoppingDistanceWrong)

/-- 'laws.FnRoots': WHATEVER THE INPUT: true; the input reads as it did. -/
def fnRootsSpec : ChangeSpec := { name := "fnRoots", fn := fun _ => fun
  | [d] => { results := [.lit (.bool true)], args := [d] }
  | _ => none }
def fnRootsRow : OpenClaim := { program := "ytafbmhncmbcpjaa", sum := "0aa5f1c74a605a24f7f037bfa5f8f40ee3c52a4f9e6a8da0d749c6f4a93a78d8", func := "loop.example/g00916/laws.FnRoots", spec := "fnRoots", apart := false }
def FnRootsSaid : Prop := fnRootsRow.holds Try.pinned (OpenSpec.ofChange fnRootsSpec)

/-- ITS FALSE NEIGHBOUR: 'it returns false'. Refute it at one input. -/
def fnRootsWrong : ChangeSpec := { name := "fnRoots", fn := fun _ => fun
  | [d] => { results := [.lit (.bool false)], args := [d] }
  | _ => none }
def FnRootsWrongFalsely : Prop := fnRootsRow.holds Try.pinned (OpenSpec.ofChange fnRootsWrong)

/-- 'laws.FnQuotients': WHATEVER THE INPUT: true; the input reads as it did. -/
def fnQuotientsSpec : ChangeSpec := { name := "fnQuotients", fn := fun _ => fun
  | [d] => { results := [.lit (.bool true)], args := [d] }
  | _ => none }
def fnQuotientsRow : OpenClaim := { program := "ytafbmhncmbcpjaa", sum := "0aa5f1c74a605a24f7f037bfa5f8f40ee3c52a4f9e6a8da0d749c6f4a93a78d8", func := "loop.example/g00916/laws.FnQuotients", spec := "fnQuotients", apart := false }
def FnQuotientsSaid : Prop := fnQuotientsRow.holds Try.pinned (OpenSpec.ofChange fnQuotientsSpec)

/-- ITS FALSE NEIGHBOUR: 'it returns false'. Refute it at one input. -/
def fnQuotientsWrong : ChangeSpec := { name := "fnQuotients", fn := fun _ => fun
  | [d] => { results := [.lit (.bool false)], args := [d] }
  | _ => none }
def FnQuotientsWrongFalsely : Prop := fnQuotientsRow.holds Try.pinned (OpenSpec.ofChange fnQuotientsWrong)

/-- 'laws.FnScaledIntervals': WHATEVER THE INPUT: true; the input reads as it did. -/
def fnScaledIntervalsSpec : ChangeSpec := { name := "fnScaledIntervals", fn := fun _ => fun
  | [d] => { results := [.lit (.bool true)], args := [d] }
  | _ => none }
def fnScaledIntervalsRow : OpenClaim := { program := "ytafbmhncmbcpjaa", sum := "0aa5f1c74a605a24f7f037bfa5f8f40ee3c52a4f9e6a8da0d749c6f4a93a78d8", func := "loop.example/g00916/laws.FnScaledIntervals", spec := "fnScaledIntervals", apart := false }
def FnScaledIntervalsSaid : Prop := fnScaledIntervalsRow.holds Try.pinned (OpenSpec.ofChange fnScaledIntervalsSpec)

/-- ITS FALSE NEIGHBOUR: 'it returns false'. Refute it at one input. -/
def fnScaledIntervalsWrong : ChangeSpec := { name := "fnScaledIntervals", fn := fun _ => fun
  | [d] => { results := [.lit (.bool false)], args := [d] }
  | _ => none }
def FnScaledIntervalsWrongFalsely : Prop := fnScaledIntervalsRow.holds Try.pinned (OpenSpec.ofChange fnScaledIntervalsWrong)

/-- 'laws.FnIntervalArithmetic': WHATEVER THE INPUT: true; the input reads as it did. -/
def fnIntervalArithmeticSpec : ChangeSpec := { name := "fnIntervalArithmetic", fn := fun _ => fun
  | [d] => { results := [.lit (.bool true)], args := [d] }
  | _ => none }
def fnIntervalArithmeticRow : OpenClaim := { program := "ytafbmhncmbcpjaa", sum := "0aa5f1c74a605a24f7f037bfa5f8f40ee3c52a4f9e6a8da0d749c6f4a93a78d8", func := "loop.example/g00916/laws.FnIntervalArithmetic", spec := "fnIntervalArithmetic", apart := false }
def FnIntervalArithmeticSaid : Prop := fnIntervalArithmeticRow.holds Try.pinned (OpenSpec.ofChange fnIntervalArithmeticSpec)

/-- ITS FALSE NEIGHBOUR: 'it returns false'. Refute it at one input. -/
def fnIntervalArithmeticWrong : ChangeSpec := { name := "fnIntervalArithmetic", fn := fun _ => fun
  | [d] => { results := [.lit (.bool false)], args := [d] }
  | _ => none }
def FnIntervalArithmeticWrongFalsely : Prop := fnIntervalArithmeticRow.holds Try.pinned (OpenSpec.ofChange fnIntervalArithmeticWrong)

/-- 'laws.FnEnergies': WHATEVER THE INPUT: true; the input reads as it did. -/
def fnEnergiesSpec : ChangeSpec := { name := "fnEnergies", fn := fun _ => fun
  | [d] => { results := [.lit (.bool true)], args := [d] }
  | _ => none }
def fnEnergiesRow : OpenClaim := { program := "ytafbmhncmbcpjaa", sum := "0aa5f1c74a605a24f7f037bfa5f8f40ee3c52a4f9e6a8da0d749c6f4a93a78d8", func := "loop.example/g00916/laws.FnEnergies", spec := "fnEnergies", apart := false }
def FnEnergiesSaid : Prop := fnEnergiesRow.holds Try.pinned (OpenSpec.ofChange fnEnergiesSpec)

/-- ITS FALSE NEIGHBOUR: 'it returns false'. Refute it at one input. -/
def fnEnergiesWrong : ChangeSpec := { name := "fnEnergies", fn := fun _ => fun
  | [d] => { results := [.lit (.bool false)], args := [d] }
  | _ => none }
def FnEnergiesWrongFalsely : Prop := fnEnergiesRow.holds Try.pinned (OpenSpec.ofChange fnEnergiesWrong)

/-- 'laws.FnIntervalSets': WHATEVER THE INPUT: true; the input reads as it did. -/
def fnIntervalSetsSpec : ChangeSpec := { name := "fnIntervalSets", fn := fun _ => fun
  | [d] => { results := [.lit (.bool true)], args := [d] }
  | _ => none }
def fnIntervalSetsRow : OpenClaim := { program := "ytafbmhncmbcpjaa", sum := "0aa5f1c74a605a24f7f037bfa5f8f40ee3c52a4f9e6a8da0d749c6f4a93a78d8", func := "loop.example/g00916/laws.FnIntervalSets", spec := "fnIntervalSets", apart := false }
def FnIntervalSetsSaid : Prop := fnIntervalSetsRow.holds Try.pinned (OpenSpec.ofChange fnIntervalSetsSpec)

/-- ITS FALSE NEIGHBOUR: 'it returns false'. Refute it at one input. -/
def fnIntervalSetsWrong : ChangeSpec := { name := "fnIntervalSets", fn := fun _ => fun
  | [d] => { results := [.lit (.bool false)], args := [d] }
  | _ => none }
def FnIntervalSetsWrongFalsely : Prop := fnIntervalSetsRow.holds Try.pinned (OpenSpec.ofChange fnIntervalSetsWrong)

/-- 'laws.FnSums': WHATEVER THE INPUT: true; the input reads as it did. -/
def fnSumsSpec : ChangeSpec := { name := "fnSums", fn := fun _ => fun
  | [d] => { results := [.lit (.bool true)], args := [d] }
  | _ => none }
def fnSumsRow : OpenClaim := { program := "ytafbmhncmbcpjaa", sum := "0aa5f1c74a605a24f7f037bfa5f8f40ee3c52a4f9e6a8da0d749c6f4a93a78d8", func := "loop.example/g00916/laws.FnSums", spec := "fnSums", apart := false }
def FnSumsSaid : Prop := fnSumsRow.holds Try.pinned (OpenSpec.ofChange fnSumsSpec)

/-- ITS FALSE NEIGHBOUR: 'it returns false'. Refute it at one input. -/
def fnSumsWrong : ChangeSpec := { name := "fnSums", fn := fun _ => fun
  | [d] => { results := [.lit (.bool false)], args := [d] }
  | _ => none }
def FnSumsWrongFalsely : Prop := fnSumsRow.holds Try.pinned (OpenSpec.ofChange fnSumsWrong)

/-- 'laws.FnEnergyPasses': WHATEVER THE INPUT: true; the input reads as it did. -/
def fnEnergyPassesSpec : ChangeSpec := { name := "fnEnergyPasses", fn := fun _ => fun
  | [d] => { results := [.lit (.bool true)], args := [d] }
  | _ => none }
def fnEnergyPassesRow : OpenClaim := { program := "ytafbmhncmbcpjaa", sum := "0aa5f1c74a605a24f7f037bfa5f8f40ee3c52a4f9e6a8da0d749c6f4a93a78d8", func := "loop.example/g00916/laws.FnEnergyPasses", spec := "fnEnergyPasses", apart := false }
def FnEnergyPassesSaid : Prop := fnEnergyPassesRow.holds Try.pinned (OpenSpec.ofChange fnEnergyPassesSpec)

/-- ITS FALSE NEIGHBOUR: 'it returns false'. Refute it at one input. -/
def fnEnergyPassesWrong : ChangeSpec := { name := "fnEnergyPasses", fn := fun _ => fun
  | [d] => { results := [.lit (.bool false)], args := [d] }
  | _ => none }
def FnEnergyPassesWrongFalsely : Prop := fnEnergyPassesRow.holds Try.pinned (OpenSpec.ofChange fnEnergyPassesWrong)

/-- 'laws.FnStops': WHATEVER THE INPUT: true; the input reads as it did. -/
def fnStopsSpec : ChangeSpec := { name := "fnStops", fn := fun _ => fun
  | [d] => { results := [.lit (.bool true)], args := [d] }
  | _ => none }
def fnStopsRow : OpenClaim := { program := "ytafbmhncmbcpjaa", sum := "0aa5f1c74a605a24f7f037bfa5f8f40ee3c52a4f9e6a8da0d749c6f4a93a78d8", func := "loop.example/g00916/laws.FnStops", spec := "fnStops", apart := false }
def FnStopsSaid : Prop := fnStopsRow.holds Try.pinned (OpenSpec.ofChange fnStopsSpec)

/-- ITS FALSE NEIGHBOUR: 'it returns false'. Refute it at one input. -/
def fnStopsWrong : ChangeSpec := { name := "fnStops", fn := fun _ => fun
  | [d] => { results := [.lit (.bool false)], args := [d] }
  | _ => none }
def FnStopsWrongFalsely : Prop := fnStopsRow.holds Try.pinned (OpenSpec.ofChange fnStopsWrong)

/- THE SECOND FORM. 'bulk': how many values and letters a reading holds, each counted each time it is reached (what is shared counts as often as it is met; a slice's spare places count too). A statement '..UptoSaid' is the law's where the arguments, and the package variables that the reading takes, are together of bulk at most 1048576: NARROWER than '..Said'. Prove '..Said' where nothing that the law and all that it calls make is longer than what came in: it says more and counts as full. Else prove '..UptoSaid'. A law counts once. -/
mutual
def uptoBulk {H : Type} : DataW H → Nat
  | .lit (.string bytes) => bytes.length + 1
  | .lit _ => 1
  | .nil => 1
  | .ptr d => uptoBulk d + 1
  | .slice elems spare => uptoBulkAll elems + uptoBulkAll spare + 1
  | .agg parts => uptoBulkAll parts + 1
  | .iface _ d => uptoBulk d + 1
  | .map entries => uptoBulkEntries entries + 1
  | .held _ => 1
def uptoBulkAll {H : Type} : List (DataW H) → Nat
  | [] => 0
  | d :: r => uptoBulk d + uptoBulkAll r
def uptoBulkEntries {H : Type} : List (Lit × DataW H) → Nat
  | [] => 0
  | x :: r => uptoBulkEntry x + uptoBulkEntries r
def uptoBulkEntry {H : Type} : Lit × DataW H → Nat
  | (.string bytes, d) => bytes.length + uptoBulk d + 1
  | (_, d) => uptoBulk d + 1
 end
def uptoSmall : (H : Type) → List (DataW H) → Bool := fun _ ds => decide (uptoBulkAll ds ≤ 1048576)
def OpenSpec.upto (s : _root_.Go.ChangeSpec) : _root_.Go.OpenSpec := { _root_.Go.OpenSpec.ofChange s with cond := some uptoSmall }

/-- 'laws.FnExactEnergyAfter', WHERE WHAT IT READS IS OF BULK AT MOST 1048576: true; the input reads as it did. -/
def fnExactEnergyAfterUptoRow : OpenClaim := { program := "ytafbmhncmbcpjaa", sum := "0aa5f1c74a605a24f7f037bfa5f8f40ee3c52a4f9e6a8da0d749c6f4a93a78d8", func := "loop.example/g00916/laws.FnExactEnergyAfter", spec := "fnExactEnergyAfter", apart := false, narrowed := true }
def FnExactEnergyAfterUptoSaid : Prop := fnExactEnergyAfterUptoRow.holds Try.pinned (OpenSpec.upto fnExactEnergyAfterSpec)

/-- 'laws.FnExactStoppingDistance', WHERE WHAT IT READS IS OF BULK AT MOST 1048576: true; the input reads as it did. -/
def fnExactStoppingDistanceUptoRow : OpenClaim := { program := "ytafbmhncmbcpjaa", sum := "0aa5f1c74a605a24f7f037bfa5f8f40ee3c52a4f9e6a8da0d749c6f4a93a78d8", func := "loop.example/g00916/laws.FnExactStoppingDistance", spec := "fnExactStoppingDistance", apart := false, narrowed := true }
def FnExactStoppingDistanceUptoSaid : Prop := fnExactStoppingDistanceUptoRow.holds Try.pinned (OpenSpec.upto fnExactStoppingDistanceSpec)

/-- 'laws.FnRoots', WHERE WHAT IT READS IS OF BULK AT MOST 1048576: true; the input reads as it did. -/
def fnRootsUptoRow : OpenClaim := { program := "ytafbmhncmbcpjaa", sum := "0aa5f1c74a605a24f7f037bfa5f8f40ee3c52a4f9e6a8da0d749c6f4a93a78d8", func := "loop.example/g00916/laws.FnRoots", spec := "fnRoots", apart := false, narrowed := true }
def FnRootsUptoSaid : Prop := fnRootsUptoRow.holds Try.pinned (OpenSpec.upto fnRootsSpec)

/-- 'laws.FnQuotients', WHERE WHAT IT READS IS OF BULK AT MOST 1048576: true; the input reads as it did. -/
def fnQuotientsUptoRow : OpenClaim := { program := "ytafbmhncmbcpjaa", sum := "0aa5f1c74a605a24f7f037bfa5f8f40ee3c52a4f9e6a8da0d749c6f4a93a78d8", func := "loop.example/g00916/laws.FnQuotients", spec := "fnQuotients", apart := false, narrowed := true }
def FnQuotientsUptoSaid : Prop := fnQuotientsUptoRow.holds Try.pinned (OpenSpec.upto fnQuotientsSpec)

/-- 'laws.FnScaledIntervals', WHERE WHAT IT READS IS OF BULK AT MOST 1048576: true; the input reads as it did. -/
def fnScaledIntervalsUptoRow : OpenClaim := { program := "ytafbmhncmbcpjaa", sum := "0aa5f1c74a605a24f7f037bfa5f8f40ee3c52a4f9e6a8da0d749c6f4a93a78d8", func := "loop.example/g00916/laws.FnScaledIntervals", spec := "fnScaledIntervals", apart := false, narrowed := true }
def FnScaledIntervalsUptoSaid : Prop := fnScaledIntervalsUptoRow.holds Try.pinned (OpenSpec.upto fnScaledIntervalsSpec)

/-- 'laws.FnIntervalArithmetic', WHERE WHAT IT READS IS OF BULK AT MOST 1048576: true; the input reads as it did. -/
def fnIntervalArithmeticUptoRow : OpenClaim := { program := "ytafbmhncmbcpjaa", sum := "0aa5f1c74a605a24f7f037bfa5f8f40ee3c52a4f9e6a8da0d749c6f4a93a78d8", func := "loop.example/g00916/laws.FnIntervalArithmetic", spec := "fnIntervalArithmetic", apart := false, narrowed := true }
def FnIntervalArithmeticUptoSaid : Prop := fnIntervalArithmeticUptoRow.holds Try.pinned (OpenSpec.upto fnIntervalArithmeticSpec)

/-- 'laws.FnEnergies', WHERE WHAT IT READS IS OF BULK AT MOST 1048576: true; the input reads as it did. -/
def fnEnergiesUptoRow : OpenClaim := { program := "ytafbmhncmbcpjaa", sum := "0aa5f1c74a605a24f7f037bfa5f8f40ee3c52a4f9e6a8da0d749c6f4a93a78d8", func := "loop.example/g00916/laws.FnEnergies", spec := "fnEnergies", apart := false, narrowed := true }
def FnEnergiesUptoSaid : Prop := fnEnergiesUptoRow.holds Try.pinned (OpenSpec.upto fnEnergiesSpec)

/-- 'laws.FnIntervalSets', WHERE WHAT IT READS IS OF BULK AT MOST 1048576: true; the input reads as it did. -/
def fnIntervalSetsUptoRow : OpenClaim := { program := "ytafbmhncmbcpjaa", sum := "0aa5f1c74a605a24f7f037bfa5f8f40ee3c52a4f9e6a8da0d749c6f4a93a78d8", func := "loop.example/g00916/laws.FnIntervalSets", spec := "fnIntervalSets", apart := false, narrowed := true }
def FnIntervalSetsUptoSaid : Prop := fnIntervalSetsUptoRow.holds Try.pinned (OpenSpec.upto fnIntervalSetsSpec)

/-- 'laws.FnSums', WHERE WHAT IT READS IS OF BULK AT MOST 1048576: true; the input reads as it did. -/
def fnSumsUptoRow : OpenClaim := { program := "ytafbmhncmbcpjaa", sum := "0aa5f1c74a605a24f7f037bfa5f8f40ee3c52a4f9e6a8da0d749c6f4a93a78d8", func := "loop.example/g00916/laws.FnSums", spec := "fnSums", apart := false, narrowed := true }
def FnSumsUptoSaid : Prop := fnSumsUptoRow.holds Try.pinned (OpenSpec.upto fnSumsSpec)

/-- 'laws.FnEnergyPasses', WHERE WHAT IT READS IS OF BULK AT MOST 1048576: true; the input reads as it did. -/
def fnEnergyPassesUptoRow : OpenClaim := { program := "ytafbmhncmbcpjaa", sum := "0aa5f1c74a605a24f7f037bfa5f8f40ee3c52a4f9e6a8da0d749c6f4a93a78d8", func := "loop.example/g00916/laws.FnEnergyPasses", spec := "fnEnergyPasses", apart := false, narrowed := true }
def FnEnergyPassesUptoSaid : Prop := fnEnergyPassesUptoRow.holds Try.pinned (OpenSpec.upto fnEnergyPassesSpec)

/-- 'laws.FnStops', WHERE WHAT IT READS IS OF BULK AT MOST 1048576: true; the input reads as it did. -/
def fnStopsUptoRow : OpenClaim := { program := "ytafbmhncmbcpjaa", sum := "0aa5f1c74a605a24f7f037bfa5f8f40ee3c52a4f9e6a8da0d749c6f4a93a78d8", func := "loop.example/g00916/laws.FnStops", spec := "fnStops", apart := false, narrowed := true }
def FnStopsUptoSaid : Prop := fnStopsUptoRow.holds Try.pinned (OpenSpec.upto fnStopsSpec)

end Rows
end Go.Proofs.Ytafbmhncmbcpjaa
