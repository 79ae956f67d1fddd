/-
  DERIVED. GIVEN WITH THE SEED: THE CARDS: each row of YtcfmjomniaopcaaGreatDoorRows.lean that lists a variable, with what it lists TIED to the program's text (the seventh form; the later family's looks); each row that meets fmt, with fmt's text TOLD by the authors' own Lean function (tested against real Go, not proved from fmt's source: count such statements apart). THE CARD IS WHAT COUNTS. Prove the row's statement (the work); the ties are given (YtcfmjomniaopcaaGreatDoorTie.lean); close each card by the builder's one call (the guide's Derived/Test/ToyasCard.lean, 'card_holds'). Laid BY PROGRAM, IN A SANDBOX (cutbox-door.mjs). By AI agents, Wed Nov 11 2026. No macro, syntax, notation, axiom, sorry.
-/
import Derived.Test.YtcfmjomniaopcaaGreatDoorRows
import GoSem.ClaimSeven
namespace Go.Proofs.YtcfmjomniaopcaaGreatDoor
namespace Rows

/-- THE TIED CARD OF 'disjointlaw12.SchemaStatement'. -/
def schemaStatementCard : Claim7 := { stood := { row := schemaStatementRow, standIns := [], harness := (true, "7cfe819f3aa01eec9d35827d3b6ee74a14b778f9398e2457ceaa47207dd50291"), looks := false }, kinds := [], alts := [], laidByText := true, laidKinds := [.widerDeep], laidTests := true, laidLooks := .later }
def SchemaStatementCardSaid : Prop := Claim7.holds Tryz.pinned (.plain (OpenSpec.ofChange schemaStatementSpec)) schemaStatementCard

/-- THE SECOND FORM's CARD OF 'disjointlaw12.SchemaStatement'. -/
def schemaStatementUptoCard : Claim7 := { stood := { row := schemaStatementUptoRow, standIns := [], harness := (true, "7cfe819f3aa01eec9d35827d3b6ee74a14b778f9398e2457ceaa47207dd50291"), looks := false }, kinds := [], alts := [], laidByText := true, laidKinds := [.widerDeep], laidTests := true, laidLooks := .later }
def SchemaStatementUptoCardSaid : Prop := Claim7.holds Tryz.pinned (.plain (OpenSpec.upto schemaStatementSpec)) schemaStatementUptoCard
end Rows
end Go.Proofs.YtcfmjomniaopcaaGreatDoor
