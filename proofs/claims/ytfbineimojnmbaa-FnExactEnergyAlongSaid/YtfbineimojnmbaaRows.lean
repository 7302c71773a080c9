/-
  No cell of these rows narrows 'for every input' (looked for: loops, veiled, ifaces, maps, wideKeys, modest, calm, conditions, laid).
  DERIVED. THE GIVEN ROWS OF THIS SEAT. 12 by the template 'for every input the law returns true; each argument reads behind the call as it read before'; 0 by the template 'total and deterministic' (their statements: YtfbineimojnmbaaTotals.lean).
  GIVEN WITH THE SEED: the statements are not yours to turn. If you find one false, say at which input.
  Laid BY PROGRAM, IN A SANDBOX (cutbox-rows.mjs): the forced cells as the released guide's own fill.sh prints them over the translation 399e88e4ef570840… (all of the seat's roots in one cut). By AI agents, Wed Nov 11 2026. No macro, syntax, notation, axiom, sorry.
-/
import Derived.Test.YtfbineimojnmbaaChecked
import GoSem.Claim
import GoSem.ClaimJoined
import GoSem.ClaimMapViews
import Derived.JoinedTies
import Derived.KernelRfl
namespace Go.Proofs.Ytfbineimojnmbaa
/- THE CELL 'sum', in the pinned program and in every row, IS THE sha256 OF THE DUMP (.gsa) THAT YtfbineimojnmbaaProg.lean LOADS. Nothing in Lean hashes anything: it is a label: what it is worth is what the hold of that sum in a sandbox is worth. -/
noncomputable def Try.pinned : Pinned := { name := "ytfbineimojnmbaa", sum := "399e88e4ef570840a5eb8e5046365bff1a09d9ddcc5e155b710e6bb4e0d2d2ec", checked := Try.checked }
namespace Rows
def none {H : Type} : Left H := { results := [], args := [] }

/-- 'laws.FnExactIsLayout': WHATEVER THE INPUT: true; the input reads as it did. -/
def fnExactIsLayoutSpec : ChangeSpec := { name := "fnExactIsLayout", fn := fun _ => fun
  | [d] => { results := [.lit (.bool true)], args := [d] }
  | _ => none }
def fnExactIsLayoutRow : OpenClaim := { program := "ytfbineimojnmbaa", sum := "399e88e4ef570840a5eb8e5046365bff1a09d9ddcc5e155b710e6bb4e0d2d2ec", func := "loop.example/g00916/laws.FnExactIsLayout", spec := "fnExactIsLayout", apart := false }
def FnExactIsLayoutSaid : Prop := fnExactIsLayoutRow.holds Try.pinned (OpenSpec.ofChange fnExactIsLayoutSpec)

/-- ITS FALSE NEIGHBOUR: 'it returns false'. Refute it at one input. -/
def fnExactIsLayoutWrong : ChangeSpec := { name := "fnExactIsLayout", fn := fun _ => fun
  | [d] => { results := [.lit (.bool false)], args := [d] }
  | _ => none }
def FnExactIsLayoutWrongFalsely : Prop := fnExactIsLayoutRow.holds Try.pinned (OpenSpec.ofChange fnExactIsLayoutWrong)

/-- 'laws.FnExactTrackLength': WHATEVER THE INPUT: true; the input reads as it did. -/
def fnExactTrackLengthSpec : ChangeSpec := { name := "fnExactTrackLength", fn := fun _ => fun
  | [d] => { results := [.lit (.bool true)], args := [d] }
  | _ => none }
def fnExactTrackLengthRow : OpenClaim := { program := "ytfbineimojnmbaa", sum := "399e88e4ef570840a5eb8e5046365bff1a09d9ddcc5e155b710e6bb4e0d2d2ec", func := "loop.example/g00916/laws.FnExactTrackLength", spec := "fnExactTrackLength", apart := false }
def FnExactTrackLengthSaid : Prop := fnExactTrackLengthRow.holds Try.pinned (OpenSpec.ofChange fnExactTrackLengthSpec)

/-- ITS FALSE NEIGHBOUR: 'it returns false'. Refute it at one input. -/
def fnExactTrackLengthWrong : ChangeSpec := { name := "fnExactTrackLength", fn := fun _ => fun
  | [d] => { results := [.lit (.bool false)], args := [d] }
  | _ => none }
def FnExactTrackLengthWrongFalsely : Prop := fnExactTrackLengthRow.holds Try.pinned (OpenSpec.ofChange fnExactTrackLengthWrong)

/-- 'laws.FnExactMoveFront': WHATEVER THE INPUT: true; the input reads as it did. -/
def fnExactMoveFrontSpec : ChangeSpec := { name := "fnExactMoveFront", fn := fun _ => fun
  | [d1, d2, d3] => { results := [.lit (.bool true)], args := [d1, d2, d3] }
  | _ => none }
def fnExactMoveFrontRow : OpenClaim := { program := "ytfbineimojnmbaa", sum := "399e88e4ef570840a5eb8e5046365bff1a09d9ddcc5e155b710e6bb4e0d2d2ec", func := "loop.example/g00916/laws.FnExactMoveFront", spec := "fnExactMoveFront", apart := false }
def FnExactMoveFrontSaid : Prop := fnExactMoveFrontRow.holds Try.pinned (OpenSpec.ofChange fnExactMoveFrontSpec)

/-- ITS FALSE NEIGHBOUR: 'it returns false'. Refute it at one input. -/
def fnExactMoveFrontWrong : ChangeSpec := { name := "fnExactMoveFront", fn := fun _ => fun
  | [d1, d2, d3] => { results := [.lit (.bool false)], args := [d1, d2, d3] }
  | _ => none }
def FnExactMoveFrontWrongFalsely : Prop := fnExactMoveFrontRow.holds Try.pinned (OpenSpec.ofChange fnExactMoveFrontWrong)

/-- 'laws.FnExactRearOf': WHATEVER THE INPUT: true; the input reads as it did. -/
def fnExactRearOfSpec : ChangeSpec := { name := "fnExactRearOf", fn := fun _ => fun
  | [d1, d2, d3] => { results := [.lit (.bool true)], args := [d1, d2, d3] }
  | _ => none }
def fnExactRearOfRow : OpenClaim := { program := "ytfbineimojnmbaa", sum := "399e88e4ef570840a5eb8e5046365bff1a09d9ddcc5e155b710e6bb4e0d2d2ec", func := "loop.example/g00916/laws.FnExactRearOf", spec := "fnExactRearOf", unfollowed := true, recurses := true, apart := false }
def FnExactRearOfSaid : Prop := fnExactRearOfRow.holds Try.pinned (OpenSpec.ofChange fnExactRearOfSpec)

/-- ITS FALSE NEIGHBOUR: 'it returns false'. Refute it at one input. -/
def fnExactRearOfWrong : ChangeSpec := { name := "fnExactRearOf", fn := fun _ => fun
  | [d1, d2, d3] => { results := [.lit (.bool false)], args := [d1, d2, d3] }
  | _ => none }
def FnExactRearOfWrongFalsely : Prop := fnExactRearOfRow.holds Try.pinned (OpenSpec.ofChange fnExactRearOfWrong)

/-- 'laws.FnExactEnergyNeeded': WHATEVER THE INPUT: true; the input reads as it did. -/
def fnExactEnergyNeededSpec : ChangeSpec := { name := "fnExactEnergyNeeded", fn := fun _ => fun
  | [d1, d2, d3] => { results := [.lit (.bool true)], args := [d1, d2, d3] }
  | _ => none }
def fnExactEnergyNeededRow : OpenClaim := { program := "ytfbineimojnmbaa", sum := "399e88e4ef570840a5eb8e5046365bff1a09d9ddcc5e155b710e6bb4e0d2d2ec", func := "loop.example/g00916/laws.FnExactEnergyNeeded", spec := "fnExactEnergyNeeded", apart := false }
def FnExactEnergyNeededSaid : Prop := fnExactEnergyNeededRow.holds Try.pinned (OpenSpec.ofChange fnExactEnergyNeededSpec)

/-- ITS FALSE NEIGHBOUR: 'it returns false'. Refute it at one input. -/
def fnExactEnergyNeededWrong : ChangeSpec := { name := "fnExactEnergyNeeded", fn := fun _ => fun
  | [d1, d2, d3] => { results := [.lit (.bool false)], args := [d1, d2, d3] }
  | _ => none }
def FnExactEnergyNeededWrongFalsely : Prop := fnExactEnergyNeededRow.holds Try.pinned (OpenSpec.ofChange fnExactEnergyNeededWrong)

/-- 'laws.FnExactSegmentStarts': WHATEVER THE INPUT: true; the input reads as it did. -/
def fnExactSegmentStartsSpec : ChangeSpec := { name := "fnExactSegmentStarts", fn := fun _ => fun
  | [d] => { results := [.lit (.bool true)], args := [d] }
  | _ => none }
def fnExactSegmentStartsRow : OpenClaim := { program := "ytfbineimojnmbaa", sum := "399e88e4ef570840a5eb8e5046365bff1a09d9ddcc5e155b710e6bb4e0d2d2ec", func := "loop.example/g00916/laws.FnExactSegmentStarts", spec := "fnExactSegmentStarts", apart := false }
def FnExactSegmentStartsSaid : Prop := fnExactSegmentStartsRow.holds Try.pinned (OpenSpec.ofChange fnExactSegmentStartsSpec)

/-- ITS FALSE NEIGHBOUR: 'it returns false'. Refute it at one input. -/
def fnExactSegmentStartsWrong : ChangeSpec := { name := "fnExactSegmentStarts", fn := fun _ => fun
  | [d] => { results := [.lit (.bool false)], args := [d] }
  | _ => none }
def FnExactSegmentStartsWrongFalsely : Prop := fnExactSegmentStartsRow.holds Try.pinned (OpenSpec.ofChange fnExactSegmentStartsWrong)

/-- 'laws.FnExactGapAhead': WHATEVER THE INPUT: true; the input reads as it did. -/
def fnExactGapAheadSpec : ChangeSpec := { name := "fnExactGapAhead", fn := fun _ => fun
  | [d1, d2, d3, d4] => { results := [.lit (.bool true)], args := [d1, d2, d3, d4] }
  | _ => none }
def fnExactGapAheadRow : OpenClaim := { program := "ytfbineimojnmbaa", sum := "399e88e4ef570840a5eb8e5046365bff1a09d9ddcc5e155b710e6bb4e0d2d2ec", func := "loop.example/g00916/laws.FnExactGapAhead", spec := "fnExactGapAhead", unfollowed := true, recurses := true, apart := false }
def FnExactGapAheadSaid : Prop := fnExactGapAheadRow.holds Try.pinned (OpenSpec.ofChange fnExactGapAheadSpec)

/-- ITS FALSE NEIGHBOUR: 'it returns false'. Refute it at one input. -/
def fnExactGapAheadWrong : ChangeSpec := { name := "fnExactGapAhead", fn := fun _ => fun
  | [d1, d2, d3, d4] => { results := [.lit (.bool false)], args := [d1, d2, d3, d4] }
  | _ => none }
def FnExactGapAheadWrongFalsely : Prop := fnExactGapAheadRow.holds Try.pinned (OpenSpec.ofChange fnExactGapAheadWrong)

/-- 'laws.FnExactSegmentAt': WHATEVER THE INPUT: true; the input reads as it did. -/
def fnExactSegmentAtSpec : ChangeSpec := { name := "fnExactSegmentAt", fn := fun _ => fun
  | [d1, d2] => { results := [.lit (.bool true)], args := [d1, d2] }
  | _ => none }
def fnExactSegmentAtRow : OpenClaim := { program := "ytfbineimojnmbaa", sum := "399e88e4ef570840a5eb8e5046365bff1a09d9ddcc5e155b710e6bb4e0d2d2ec", func := "loop.example/g00916/laws.FnExactSegmentAt", spec := "fnExactSegmentAt", apart := false }
def FnExactSegmentAtSaid : Prop := fnExactSegmentAtRow.holds Try.pinned (OpenSpec.ofChange fnExactSegmentAtSpec)

/-- ITS FALSE NEIGHBOUR: 'it returns false'. Refute it at one input. -/
def fnExactSegmentAtWrong : ChangeSpec := { name := "fnExactSegmentAt", fn := fun _ => fun
  | [d1, d2] => { results := [.lit (.bool false)], args := [d1, d2] }
  | _ => none }
def FnExactSegmentAtWrongFalsely : Prop := fnExactSegmentAtRow.holds Try.pinned (OpenSpec.ofChange fnExactSegmentAtWrong)

/-- 'laws.FnExactAreSeparate': WHATEVER THE INPUT: true; the input reads as it did. -/
def fnExactAreSeparateSpec : ChangeSpec := { name := "fnExactAreSeparate", fn := fun _ => fun
  | [d1, d2, d3] => { results := [.lit (.bool true)], args := [d1, d2, d3] }
  | _ => none }
def fnExactAreSeparateRow : OpenClaim := { program := "ytfbineimojnmbaa", sum := "399e88e4ef570840a5eb8e5046365bff1a09d9ddcc5e155b710e6bb4e0d2d2ec", func := "loop.example/g00916/laws.FnExactAreSeparate", spec := "fnExactAreSeparate", unfollowed := true, recurses := true, apart := false }
def FnExactAreSeparateSaid : Prop := fnExactAreSeparateRow.holds Try.pinned (OpenSpec.ofChange fnExactAreSeparateSpec)

/-- ITS FALSE NEIGHBOUR: 'it returns false'. Refute it at one input. -/
def fnExactAreSeparateWrong : ChangeSpec := { name := "fnExactAreSeparate", fn := fun _ => fun
  | [d1, d2, d3] => { results := [.lit (.bool false)], args := [d1, d2, d3] }
  | _ => none }
def FnExactAreSeparateWrongFalsely : Prop := fnExactAreSeparateRow.holds Try.pinned (OpenSpec.ofChange fnExactAreSeparateWrong)

/-- 'laws.FnExactHeightAt': WHATEVER THE INPUT: true; the input reads as it did. -/
def fnExactHeightAtSpec : ChangeSpec := { name := "fnExactHeightAt", fn := fun _ => fun
  | [d1, d2] => { results := [.lit (.bool true)], args := [d1, d2] }
  | _ => none }
def fnExactHeightAtRow : OpenClaim := { program := "ytfbineimojnmbaa", sum := "399e88e4ef570840a5eb8e5046365bff1a09d9ddcc5e155b710e6bb4e0d2d2ec", func := "loop.example/g00916/laws.FnExactHeightAt", spec := "fnExactHeightAt", apart := false }
def FnExactHeightAtSaid : Prop := fnExactHeightAtRow.holds Try.pinned (OpenSpec.ofChange fnExactHeightAtSpec)

/-- ITS FALSE NEIGHBOUR: 'it returns false'. Refute it at one input. -/
def fnExactHeightAtWrong : ChangeSpec := { name := "fnExactHeightAt", fn := fun _ => fun
  | [d1, d2] => { results := [.lit (.bool false)], args := [d1, d2] }
  | _ => none }
def FnExactHeightAtWrongFalsely : Prop := fnExactHeightAtRow.holds Try.pinned (OpenSpec.ofChange fnExactHeightAtWrong)

/-- 'laws.FnExactEnergyAlong': WHATEVER THE INPUT: true; the input reads as it did. -/
def fnExactEnergyAlongSpec : ChangeSpec := { name := "fnExactEnergyAlong", fn := fun _ => fun
  | [d1, d2, d3, d4] => { results := [.lit (.bool true)], args := [d1, d2, d3, d4] }
  | _ => none }
def fnExactEnergyAlongRow : OpenClaim := { program := "ytfbineimojnmbaa", sum := "399e88e4ef570840a5eb8e5046365bff1a09d9ddcc5e155b710e6bb4e0d2d2ec", func := "loop.example/g00916/laws.FnExactEnergyAlong", spec := "fnExactEnergyAlong", apart := false }
def FnExactEnergyAlongSaid : Prop := fnExactEnergyAlongRow.holds Try.pinned (OpenSpec.ofChange fnExactEnergyAlongSpec)

/-- ITS FALSE NEIGHBOUR: 'it returns false'. Refute it at one input. -/
def fnExactEnergyAlongWrong : ChangeSpec := { name := "fnExactEnergyAlong", fn := fun _ => fun
  | [d1, d2, d3, d4] => { results := [.lit (.bool false)], args := [d1, d2, d3, d4] }
  | _ => none }
def FnExactEnergyAlongWrongFalsely : Prop := fnExactEnergyAlongRow.holds Try.pinned (OpenSpec.ofChange fnExactEnergyAlongWrong)

/-- 'laws.FnExactSensorsCovered': WHATEVER THE INPUT: true; the input reads as it did. -/
def fnExactSensorsCoveredSpec : ChangeSpec := { name := "fnExactSensorsCovered", fn := fun _ => fun
  | [d1, d2, d3, d4] => { results := [.lit (.bool true)], args := [d1, d2, d3, d4] }
  | _ => none }
def fnExactSensorsCoveredRow : OpenClaim := { program := "ytfbineimojnmbaa", sum := "399e88e4ef570840a5eb8e5046365bff1a09d9ddcc5e155b710e6bb4e0d2d2ec", func := "loop.example/g00916/laws.FnExactSensorsCovered", spec := "fnExactSensorsCovered", unfollowed := true, recurses := true, apart := false }
def FnExactSensorsCoveredSaid : Prop := fnExactSensorsCoveredRow.holds Try.pinned (OpenSpec.ofChange fnExactSensorsCoveredSpec)

/-- ITS FALSE NEIGHBOUR: 'it returns false'. Refute it at one input. -/
def fnExactSensorsCoveredWrong : ChangeSpec := { name := "fnExactSensorsCovered", fn := fun _ => fun
  | [d1, d2, d3, d4] => { results := [.lit (.bool false)], args := [d1, d2, d3, d4] }
  | _ => none }
def FnExactSensorsCoveredWrongFalsely : Prop := fnExactSensorsCoveredRow.holds Try.pinned (OpenSpec.ofChange fnExactSensorsCoveredWrong)

/- THE SECOND FORM. 'bulk': how many values and letters a reading holds, each counted each time it is reached (what is shared counts as often as it is met; a slice's spare places count too). A statement '..UptoSaid' is the law's where the arguments, and the package variables that the reading takes, are together of bulk at most 1048576: NARROWER than '..Said'. Prove '..Said' where nothing that the law and all that it calls make is longer than what came in: it says more and counts as full. Else prove '..UptoSaid'. A law counts once. -/
mutual
def uptoBulk {H : Type} : DataW H → Nat
  | .lit (.string bytes) => bytes.length + 1
  | .lit _ => 1
  | .nil => 1
  | .ptr d => uptoBulk d + 1
  | .slice elems spare => uptoBulkAll elems + uptoBulkAll spare + 1
  | .agg parts => uptoBulkAll parts + 1
  | .iface _ d => uptoBulk d + 1
  | .map entries => uptoBulkEntries entries + 1
  | .held _ => 1
def uptoBulkAll {H : Type} : List (DataW H) → Nat
  | [] => 0
  | d :: r => uptoBulk d + uptoBulkAll r
def uptoBulkEntries {H : Type} : List (Lit × DataW H) → Nat
  | [] => 0
  | x :: r => uptoBulkEntry x + uptoBulkEntries r
def uptoBulkEntry {H : Type} : Lit × DataW H → Nat
  | (.string bytes, d) => bytes.length + uptoBulk d + 1
  | (_, d) => uptoBulk d + 1
 end
def uptoSmall : (H : Type) → List (DataW H) → Bool := fun _ ds => decide (uptoBulkAll ds ≤ 1048576)
def OpenSpec.upto (s : _root_.Go.ChangeSpec) : _root_.Go.OpenSpec := { _root_.Go.OpenSpec.ofChange s with cond := some uptoSmall }

/-- 'laws.FnExactIsLayout', WHERE WHAT IT READS IS OF BULK AT MOST 1048576: true; the input reads as it did. -/
def fnExactIsLayoutUptoRow : OpenClaim := { program := "ytfbineimojnmbaa", sum := "399e88e4ef570840a5eb8e5046365bff1a09d9ddcc5e155b710e6bb4e0d2d2ec", func := "loop.example/g00916/laws.FnExactIsLayout", spec := "fnExactIsLayout", apart := false, narrowed := true }
def FnExactIsLayoutUptoSaid : Prop := fnExactIsLayoutUptoRow.holds Try.pinned (OpenSpec.upto fnExactIsLayoutSpec)

/-- 'laws.FnExactTrackLength', WHERE WHAT IT READS IS OF BULK AT MOST 1048576: true; the input reads as it did. -/
def fnExactTrackLengthUptoRow : OpenClaim := { program := "ytfbineimojnmbaa", sum := "399e88e4ef570840a5eb8e5046365bff1a09d9ddcc5e155b710e6bb4e0d2d2ec", func := "loop.example/g00916/laws.FnExactTrackLength", spec := "fnExactTrackLength", apart := false, narrowed := true }
def FnExactTrackLengthUptoSaid : Prop := fnExactTrackLengthUptoRow.holds Try.pinned (OpenSpec.upto fnExactTrackLengthSpec)

/-- 'laws.FnExactMoveFront', WHERE WHAT IT READS IS OF BULK AT MOST 1048576: true; the input reads as it did. -/
def fnExactMoveFrontUptoRow : OpenClaim := { program := "ytfbineimojnmbaa", sum := "399e88e4ef570840a5eb8e5046365bff1a09d9ddcc5e155b710e6bb4e0d2d2ec", func := "loop.example/g00916/laws.FnExactMoveFront", spec := "fnExactMoveFront", apart := false, narrowed := true }
def FnExactMoveFrontUptoSaid : Prop := fnExactMoveFrontUptoRow.holds Try.pinned (OpenSpec.upto fnExactMoveFrontSpec)

/-- 'laws.FnExactRearOf', WHERE WHAT IT READS IS OF BULK AT MOST 1048576: true; the input reads as it did. -/
def fnExactRearOfUptoRow : OpenClaim := { program := "ytfbineimojnmbaa", sum := "399e88e4ef570840a5eb8e5046365bff1a09d9ddcc5e155b710e6bb4e0d2d2ec", func := "loop.example/g00916/laws.FnExactRearOf", spec := "fnExactRearOf", unfollowed := true, recurses := true, apart := false, narrowed := true }
def FnExactRearOfUptoSaid : Prop := fnExactRearOfUptoRow.holds Try.pinned (OpenSpec.upto fnExactRearOfSpec)

/-- 'laws.FnExactEnergyNeeded', WHERE WHAT IT READS IS OF BULK AT MOST 1048576: true; the input reads as it did. -/
def fnExactEnergyNeededUptoRow : OpenClaim := { program := "ytfbineimojnmbaa", sum := "399e88e4ef570840a5eb8e5046365bff1a09d9ddcc5e155b710e6bb4e0d2d2ec", func := "loop.example/g00916/laws.FnExactEnergyNeeded", spec := "fnExactEnergyNeeded", apart := false, narrowed := true }
def FnExactEnergyNeededUptoSaid : Prop := fnExactEnergyNeededUptoRow.holds Try.pinned (OpenSpec.upto fnExactEnergyNeededSpec)

/-- 'laws.FnExactSegmentStarts', WHERE WHAT IT READS IS OF BULK AT MOST 1048576: true; the input reads as it did. -/
def fnExactSegmentStartsUptoRow : OpenClaim := { program := "ytfbineimojnmbaa", sum := "399e88e4ef570840a5eb8e5046365bff1a09d9ddcc5e155b710e6bb4e0d2d2ec", func := "loop.example/g00916/laws.FnExactSegmentStarts", spec := "fnExactSegmentStarts", apart := false, narrowed := true }
def FnExactSegmentStartsUptoSaid : Prop := fnExactSegmentStartsUptoRow.holds Try.pinned (OpenSpec.upto fnExactSegmentStartsSpec)

/-- 'laws.FnExactGapAhead', WHERE WHAT IT READS IS OF BULK AT MOST 1048576: true; the input reads as it did. -/
def fnExactGapAheadUptoRow : OpenClaim := { program := "ytfbineimojnmbaa", sum := "399e88e4ef570840a5eb8e5046365bff1a09d9ddcc5e155b710e6bb4e0d2d2ec", func := "loop.example/g00916/laws.FnExactGapAhead", spec := "fnExactGapAhead", unfollowed := true, recurses := true, apart := false, narrowed := true }
def FnExactGapAheadUptoSaid : Prop := fnExactGapAheadUptoRow.holds Try.pinned (OpenSpec.upto fnExactGapAheadSpec)

/-- 'laws.FnExactSegmentAt', WHERE WHAT IT READS IS OF BULK AT MOST 1048576: true; the input reads as it did. -/
def fnExactSegmentAtUptoRow : OpenClaim := { program := "ytfbineimojnmbaa", sum := "399e88e4ef570840a5eb8e5046365bff1a09d9ddcc5e155b710e6bb4e0d2d2ec", func := "loop.example/g00916/laws.FnExactSegmentAt", spec := "fnExactSegmentAt", apart := false, narrowed := true }
def FnExactSegmentAtUptoSaid : Prop := fnExactSegmentAtUptoRow.holds Try.pinned (OpenSpec.upto fnExactSegmentAtSpec)

/-- 'laws.FnExactAreSeparate', WHERE WHAT IT READS IS OF BULK AT MOST 1048576: true; the input reads as it did. -/
def fnExactAreSeparateUptoRow : OpenClaim := { program := "ytfbineimojnmbaa", sum := "399e88e4ef570840a5eb8e5046365bff1a09d9ddcc5e155b710e6bb4e0d2d2ec", func := "loop.example/g00916/laws.FnExactAreSeparate", spec := "fnExactAreSeparate", unfollowed := true, recurses := true, apart := false, narrowed := true }
def FnExactAreSeparateUptoSaid : Prop := fnExactAreSeparateUptoRow.holds Try.pinned (OpenSpec.upto fnExactAreSeparateSpec)

/-- 'laws.FnExactHeightAt', WHERE WHAT IT READS IS OF BULK AT MOST 1048576: true; the input reads as it did. -/
def fnExactHeightAtUptoRow : OpenClaim := { program := "ytfbineimojnmbaa", sum := "399e88e4ef570840a5eb8e5046365bff1a09d9ddcc5e155b710e6bb4e0d2d2ec", func := "loop.example/g00916/laws.FnExactHeightAt", spec := "fnExactHeightAt", apart := false, narrowed := true }
def FnExactHeightAtUptoSaid : Prop := fnExactHeightAtUptoRow.holds Try.pinned (OpenSpec.upto fnExactHeightAtSpec)

/-- 'laws.FnExactEnergyAlong', WHERE WHAT IT READS IS OF BULK AT MOST 1048576: true; the input reads as it did. -/
def fnExactEnergyAlongUptoRow : OpenClaim := { program := "ytfbineimojnmbaa", sum := "399e88e4ef570840a5eb8e5046365bff1a09d9ddcc5e155b710e6bb4e0d2d2ec", func := "loop.example/g00916/laws.FnExactEnergyAlong", spec := "fnExactEnergyAlong", apart := false, narrowed := true }
def FnExactEnergyAlongUptoSaid : Prop := fnExactEnergyAlongUptoRow.holds Try.pinned (OpenSpec.upto fnExactEnergyAlongSpec)

/-- 'laws.FnExactSensorsCovered', WHERE WHAT IT READS IS OF BULK AT MOST 1048576: true; the input reads as it did. -/
def fnExactSensorsCoveredUptoRow : OpenClaim := { program := "ytfbineimojnmbaa", sum := "399e88e4ef570840a5eb8e5046365bff1a09d9ddcc5e155b710e6bb4e0d2d2ec", func := "loop.example/g00916/laws.FnExactSensorsCovered", spec := "fnExactSensorsCovered", unfollowed := true, recurses := true, apart := false, narrowed := true }
def FnExactSensorsCoveredUptoSaid : Prop := fnExactSensorsCoveredUptoRow.holds Try.pinned (OpenSpec.upto fnExactSensorsCoveredSpec)

end Rows
end Go.Proofs.Ytfbineimojnmbaa
