/-
  DERIVED. GIVEN WITH THE SEED: THE CARDS: each row of YtfbfiikomlnllaaGreatDoorRows.lean that lists a variable, with what it lists TIED to the program's text (the seventh form; the later family's looks); each row that meets fmt, with fmt's text TOLD by the authors' own Lean function (tested against real Go, not proved from fmt's source: count such statements apart). THE CARD IS WHAT COUNTS. Prove the row's statement (the work); the ties are given (YtfbfiikomlnllaaGreatDoorTie.lean); close each card by the builder's one call (the guide's Derived/Test/ToyasCard.lean, 'card_holds'). Laid BY PROGRAM, IN A SANDBOX (cutbox-door.mjs). By AI agents, Wed Nov 11 2026. No macro, syntax, notation, axiom, sorry.
-/
import Derived.Test.YtfbfiikomlnllaaGreatDoorRows
import GoSem.ClaimSeven
namespace Go.Proofs.YtfbfiikomlnllaaGreatDoor
namespace Rows

/-- THE TIED CARD OF 'laws.FnExactReadLayout'. -/
def fnExactReadLayoutCard : Claim7 := { stood := { row := fnExactReadLayoutRow, standIns := [], harness := (true, "640f199a66f770036d3eaf46a388f160c943ed2b2031c6ef5a8d7898a1fbeffc"), looks := true }, kinds := [], alts := [], laidByText := true, laidKinds := [.data, .data, .data, .data, .sentinel, .sentinel, .widerDeep, .pinned], laidTests := true, laidLooks := .later }
def FnExactReadLayoutCardSaid : Prop := Claim7.holds Tryz.pinned (.plain (OpenSpec.ofChange fnExactReadLayoutSpec)) fnExactReadLayoutCard

/-- THE TIED CARD OF 'laws.FnLayouts'. -/
def fnLayoutsCard : Claim7 := { stood := { row := fnLayoutsRow, standIns := [], harness := (true, "640f199a66f770036d3eaf46a388f160c943ed2b2031c6ef5a8d7898a1fbeffc"), looks := true }, kinds := [], alts := [], laidByText := true, laidKinds := [.data, .data, .data, .data, .sentinel, .sentinel, .widerDeep, .pinned], laidTests := true, laidLooks := .later }
def FnLayoutsCardSaid : Prop := Claim7.holds Tryz.pinned (.plain (OpenSpec.ofChange fnLayoutsSpec)) fnLayoutsCard

/-- THE SECOND FORM's CARD OF 'laws.FnExactReadLayout'. -/
def fnExactReadLayoutUptoCard : Claim7 := { stood := { row := fnExactReadLayoutUptoRow, standIns := [], harness := (true, "640f199a66f770036d3eaf46a388f160c943ed2b2031c6ef5a8d7898a1fbeffc"), looks := true }, kinds := [], alts := [], laidByText := true, laidKinds := [.data, .data, .data, .data, .sentinel, .sentinel, .widerDeep, .pinned], laidTests := true, laidLooks := .later }
def FnExactReadLayoutUptoCardSaid : Prop := Claim7.holds Tryz.pinned (.plain (OpenSpec.upto fnExactReadLayoutSpec)) fnExactReadLayoutUptoCard

/-- THE SECOND FORM's CARD OF 'laws.FnLayouts'. -/
def fnLayoutsUptoCard : Claim7 := { stood := { row := fnLayoutsUptoRow, standIns := [], harness := (true, "640f199a66f770036d3eaf46a388f160c943ed2b2031c6ef5a8d7898a1fbeffc"), looks := true }, kinds := [], alts := [], laidByText := true, laidKinds := [.data, .data, .data, .data, .sentinel, .sentinel, .widerDeep, .pinned], laidTests := true, laidLooks := .later }
def FnLayoutsUptoCardSaid : Prop := Claim7.holds Tryz.pinned (.plain (OpenSpec.upto fnLayoutsSpec)) fnLayoutsUptoCard
end Rows
end Go.Proofs.YtfbfiikomlnllaaGreatDoor
