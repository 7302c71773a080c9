/-
  DERIVED. GIVEN WITH THE SEED: THE CARDS: each row of YtfbfiikomlnllaaDoorRows.lean that lists a variable, with what it lists TIED to the program's text (the seventh form; the later family's looks); each row that meets fmt, with fmt's text TOLD by the authors' own Lean function (tested against real Go, not proved from fmt's source: count such statements apart). THE CARD IS WHAT COUNTS. Prove the row's statement (the work); the ties are given (YtfbfiikomlnllaaDoorTie.lean); close each card by the builder's one call (the guide's Derived/Test/ToyasCard.lean, 'card_holds'). Laid BY PROGRAM, IN A SANDBOX (cutbox-door.mjs). By AI agents, Wed Nov 11 2026. No macro, syntax, notation, axiom, sorry.
-/
import Derived.Test.YtfbfiikomlnllaaDoorRows
import GoSem.ClaimSeven
namespace Go.Proofs.YtfbfiikomlnllaaDoor
namespace Rows

/-- THE TIED CARD OF 'laws.FnExactMetresText'. -/
def fnExactMetresTextCard : Claim7 := { stood := { row := fnExactMetresTextRow, standIns := [], harness := (true, "340661cbded442b2c0794ad0825e4cdab3d6a3f825fc1de4e92d73f1eeb715a3"), looks := true }, kinds := [], alts := [], laidByText := true, laidKinds := [.data, .data, .data], laidTests := true, laidLooks := .later }
def FnExactMetresTextCardSaid : Prop := Claim7.holds Tryd.pinned (.plain (OpenSpec.ofChange fnExactMetresTextSpec)) fnExactMetresTextCard

/-- THE TIED CARD OF 'laws.FnExactReadMetres'. -/
def fnExactReadMetresCard : Claim7 := { stood := { row := fnExactReadMetresRow, standIns := [], harness := (true, "340661cbded442b2c0794ad0825e4cdab3d6a3f825fc1de4e92d73f1eeb715a3"), looks := true }, kinds := [], alts := [], laidByText := true, laidKinds := [.data, .data, .data, .data, .sentinel, .sentinel, .pinned], laidTests := true, laidLooks := .later }
def FnExactReadMetresCardSaid : Prop := Claim7.holds Tryd.pinned (.plain (OpenSpec.ofChange fnExactReadMetresSpec)) fnExactReadMetresCard

/-- THE TIED CARD OF 'laws.FnMetres'. -/
def fnMetresCard : Claim7 := { stood := { row := fnMetresRow, standIns := [], harness := (true, "340661cbded442b2c0794ad0825e4cdab3d6a3f825fc1de4e92d73f1eeb715a3"), looks := true }, kinds := [], alts := [], laidByText := true, laidKinds := [.data, .data, .data, .data, .sentinel, .sentinel, .pinned], laidTests := true, laidLooks := .later }
def FnMetresCardSaid : Prop := Claim7.holds Tryd.pinned (.plain (OpenSpec.ofChange fnMetresSpec)) fnMetresCard

/-- THE TIED CARD OF 'laws.FnExactLayoutText'. -/
def fnExactLayoutTextCard : Claim7 := { stood := { row := fnExactLayoutTextRow, standIns := [], harness := (true, "340661cbded442b2c0794ad0825e4cdab3d6a3f825fc1de4e92d73f1eeb715a3"), looks := true }, kinds := [], alts := [], laidByText := true, laidKinds := [.data, .data, .data, .widerDeep], laidTests := true, laidLooks := .later }
def FnExactLayoutTextCardSaid : Prop := Claim7.holds Tryd.pinned (.plain (OpenSpec.ofChange fnExactLayoutTextSpec)) fnExactLayoutTextCard

/-- THE SECOND FORM's CARD OF 'laws.FnExactMetresText'. -/
def fnExactMetresTextUptoCard : Claim7 := { stood := { row := fnExactMetresTextUptoRow, standIns := [], harness := (true, "340661cbded442b2c0794ad0825e4cdab3d6a3f825fc1de4e92d73f1eeb715a3"), looks := true }, kinds := [], alts := [], laidByText := true, laidKinds := [.data, .data, .data], laidTests := true, laidLooks := .later }
def FnExactMetresTextUptoCardSaid : Prop := Claim7.holds Tryd.pinned (.plain (OpenSpec.upto fnExactMetresTextSpec)) fnExactMetresTextUptoCard

/-- THE SECOND FORM's CARD OF 'laws.FnExactReadMetres'. -/
def fnExactReadMetresUptoCard : Claim7 := { stood := { row := fnExactReadMetresUptoRow, standIns := [], harness := (true, "340661cbded442b2c0794ad0825e4cdab3d6a3f825fc1de4e92d73f1eeb715a3"), looks := true }, kinds := [], alts := [], laidByText := true, laidKinds := [.data, .data, .data, .data, .sentinel, .sentinel, .pinned], laidTests := true, laidLooks := .later }
def FnExactReadMetresUptoCardSaid : Prop := Claim7.holds Tryd.pinned (.plain (OpenSpec.upto fnExactReadMetresSpec)) fnExactReadMetresUptoCard

/-- THE SECOND FORM's CARD OF 'laws.FnMetres'. -/
def fnMetresUptoCard : Claim7 := { stood := { row := fnMetresUptoRow, standIns := [], harness := (true, "340661cbded442b2c0794ad0825e4cdab3d6a3f825fc1de4e92d73f1eeb715a3"), looks := true }, kinds := [], alts := [], laidByText := true, laidKinds := [.data, .data, .data, .data, .sentinel, .sentinel, .pinned], laidTests := true, laidLooks := .later }
def FnMetresUptoCardSaid : Prop := Claim7.holds Tryd.pinned (.plain (OpenSpec.upto fnMetresSpec)) fnMetresUptoCard

/-- THE SECOND FORM's CARD OF 'laws.FnExactLayoutText'. -/
def fnExactLayoutTextUptoCard : Claim7 := { stood := { row := fnExactLayoutTextUptoRow, standIns := [], harness := (true, "340661cbded442b2c0794ad0825e4cdab3d6a3f825fc1de4e92d73f1eeb715a3"), looks := true }, kinds := [], alts := [], laidByText := true, laidKinds := [.data, .data, .data, .widerDeep], laidTests := true, laidLooks := .later }
def FnExactLayoutTextUptoCardSaid : Prop := Claim7.holds Tryd.pinned (.plain (OpenSpec.upto fnExactLayoutTextSpec)) fnExactLayoutTextUptoCard
end Rows
end Go.Proofs.YtfbfiikomlnllaaDoor
