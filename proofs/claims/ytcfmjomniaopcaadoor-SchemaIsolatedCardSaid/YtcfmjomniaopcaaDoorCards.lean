/-
  DERIVED. GIVEN WITH THE SEED: THE CARDS: each row of YtcfmjomniaopcaaDoorRows.lean that lists a variable, with what it lists TIED to the program's text (the seventh form; the later family's looks); each row that meets fmt, with fmt's text TOLD by the authors' own Lean function (tested against real Go, not proved from fmt's source: count such statements apart). THE CARD IS WHAT COUNTS. Prove the row's statement (the work); the ties are given (YtcfmjomniaopcaaDoorTie.lean); close each card by the builder's one call (the guide's Derived/Test/ToyasCard.lean, 'card_holds'). Laid BY PROGRAM, IN A SANDBOX (cutbox-door.mjs). By AI agents, Wed Nov 11 2026. No macro, syntax, notation, axiom, sorry.
-/
import Derived.Test.YtcfmjomniaopcaaDoorRows
import GoSem.ClaimSeven
namespace Go.Proofs.YtcfmjomniaopcaaDoor
namespace Rows

/-- THE TIED CARD OF 'disjointlaw45.PlannerKeys'. -/
def plannerKeysCard : Claim7 := { stood := { row := plannerKeysRow, standIns := [], harness := (true, "3a54758f172549a56e6ddfdda4d3de0cf64d3c97aa0f30da0602257b3f5febcb"), looks := false }, kinds := [], alts := [], laidByText := true, laidKinds := [.widerDeep], laidTests := true, laidLooks := .later }
def PlannerKeysCardSaid : Prop := Claim7.holds Tryd.pinned (.plain (OpenSpec.ofChange plannerKeysSpec)) plannerKeysCard

/-- THE TIED CARD OF 'disjointlaw12.SchemaBuild'. -/
def schemaBuildCard : Claim7 := { stood := { row := schemaBuildRow, standIns := [], harness := (true, "3a54758f172549a56e6ddfdda4d3de0cf64d3c97aa0f30da0602257b3f5febcb"), looks := false }, kinds := [], alts := [], laidByText := true, laidKinds := [.widerDeep], laidTests := true, laidLooks := .later }
def SchemaBuildCardSaid : Prop := Claim7.holds Tryd.pinned (.plain (OpenSpec.ofChange schemaBuildSpec)) schemaBuildCard

/-- THE TIED CARD OF 'disjointlaw12.SchemaLookup'. -/
def schemaLookupCard : Claim7 := { stood := { row := schemaLookupRow, standIns := [], harness := (true, "3a54758f172549a56e6ddfdda4d3de0cf64d3c97aa0f30da0602257b3f5febcb"), looks := false }, kinds := [], alts := [], laidByText := true, laidKinds := [.widerDeep], laidTests := true, laidLooks := .later }
def SchemaLookupCardSaid : Prop := Claim7.holds Tryd.pinned (.plain (OpenSpec.ofChange schemaLookupSpec)) schemaLookupCard

/-- THE TIED CARD OF 'disjointlaw12.SchemaReferring'. -/
def schemaReferringCard : Claim7 := { stood := { row := schemaReferringRow, standIns := [], harness := (true, "3a54758f172549a56e6ddfdda4d3de0cf64d3c97aa0f30da0602257b3f5febcb"), looks := false }, kinds := [], alts := [], laidByText := true, laidKinds := [.widerDeep], laidTests := true, laidLooks := .later }
def SchemaReferringCardSaid : Prop := Claim7.holds Tryd.pinned (.plain (OpenSpec.ofChange schemaReferringSpec)) schemaReferringCard

/-- THE TIED CARD OF 'disjointlaw12.SchemaIsolated'. -/
def schemaIsolatedCard : Claim7 := { stood := { row := schemaIsolatedRow, standIns := [], harness := (true, "3a54758f172549a56e6ddfdda4d3de0cf64d3c97aa0f30da0602257b3f5febcb"), looks := false }, kinds := [], alts := [], laidByText := true, laidKinds := [.widerDeep], laidTests := true, laidLooks := .later }
def SchemaIsolatedCardSaid : Prop := Claim7.holds Tryd.pinned (.plain (OpenSpec.ofChange schemaIsolatedSpec)) schemaIsolatedCard

/-- THE TIED CARD OF 'disjointlaw45.PlannerCost'. -/
def plannerCostCard : Claim7 := { stood := { row := plannerCostRow, standIns := [], harness := (true, "3a54758f172549a56e6ddfdda4d3de0cf64d3c97aa0f30da0602257b3f5febcb"), looks := false }, kinds := [], alts := [], laidByText := true, laidKinds := [.widerDeep], laidTests := true, laidLooks := .later }
def PlannerCostCardSaid : Prop := Claim7.holds Tryd.pinned (.plain (OpenSpec.ofChange plannerCostSpec)) plannerCostCard

/-- THE TIED CARD OF 'disjointlaw12.SchemaVariables'. -/
def schemaVariablesCard : Claim7 := { stood := { row := schemaVariablesRow, standIns := [], harness := (true, "3a54758f172549a56e6ddfdda4d3de0cf64d3c97aa0f30da0602257b3f5febcb"), looks := false }, kinds := [], alts := [], laidByText := true, laidKinds := [.widerDeep], laidTests := true, laidLooks := .later }
def SchemaVariablesCardSaid : Prop := Claim7.holds Tryd.pinned (.plain (OpenSpec.ofChange schemaVariablesSpec)) schemaVariablesCard

/-- THE TIED CARD OF 'disjointlaw12.SchemaValid'. -/
def schemaValidCard : Claim7 := { stood := { row := schemaValidRow, standIns := [], harness := (true, "3a54758f172549a56e6ddfdda4d3de0cf64d3c97aa0f30da0602257b3f5febcb"), looks := false }, kinds := [], alts := [], laidByText := true, laidKinds := [.widerDeep], laidTests := true, laidLooks := .later }
def SchemaValidCardSaid : Prop := Claim7.holds Tryd.pinned (.plain (OpenSpec.ofChange schemaValidSpec)) schemaValidCard

/-- THE TIED CARD OF 'disjointlaw12.SchemaBuildsValid'. -/
def schemaBuildsValidCard : Claim7 := { stood := { row := schemaBuildsValidRow, standIns := [], harness := (true, "3a54758f172549a56e6ddfdda4d3de0cf64d3c97aa0f30da0602257b3f5febcb"), looks := false }, kinds := [], alts := [], laidByText := true, laidKinds := [.widerDeep], laidTests := true, laidLooks := .later }
def SchemaBuildsValidCardSaid : Prop := Claim7.holds Tryd.pinned (.plain (OpenSpec.ofChange schemaBuildsValidSpec)) schemaBuildsValidCard

/-- THE TIED CARD OF 'disjointlaw12.SchemaFits'. -/
def schemaFitsCard : Claim7 := { stood := { row := schemaFitsRow, standIns := [], harness := (true, "3a54758f172549a56e6ddfdda4d3de0cf64d3c97aa0f30da0602257b3f5febcb"), looks := false }, kinds := [], alts := [], laidByText := true, laidKinds := [.widerDeep], laidTests := true, laidLooks := .later }
def SchemaFitsCardSaid : Prop := Claim7.holds Tryd.pinned (.plain (OpenSpec.ofChange schemaFitsSpec)) schemaFitsCard

/-- THE SECOND FORM's CARD OF 'disjointlaw45.PlannerKeys'. -/
def plannerKeysUptoCard : Claim7 := { stood := { row := plannerKeysUptoRow, standIns := [], harness := (true, "3a54758f172549a56e6ddfdda4d3de0cf64d3c97aa0f30da0602257b3f5febcb"), looks := false }, kinds := [], alts := [], laidByText := true, laidKinds := [.widerDeep], laidTests := true, laidLooks := .later }
def PlannerKeysUptoCardSaid : Prop := Claim7.holds Tryd.pinned (.plain (OpenSpec.upto plannerKeysSpec)) plannerKeysUptoCard

/-- THE SECOND FORM's CARD OF 'disjointlaw12.SchemaBuild'. -/
def schemaBuildUptoCard : Claim7 := { stood := { row := schemaBuildUptoRow, standIns := [], harness := (true, "3a54758f172549a56e6ddfdda4d3de0cf64d3c97aa0f30da0602257b3f5febcb"), looks := false }, kinds := [], alts := [], laidByText := true, laidKinds := [.widerDeep], laidTests := true, laidLooks := .later }
def SchemaBuildUptoCardSaid : Prop := Claim7.holds Tryd.pinned (.plain (OpenSpec.upto schemaBuildSpec)) schemaBuildUptoCard

/-- THE SECOND FORM's CARD OF 'disjointlaw12.SchemaLookup'. -/
def schemaLookupUptoCard : Claim7 := { stood := { row := schemaLookupUptoRow, standIns := [], harness := (true, "3a54758f172549a56e6ddfdda4d3de0cf64d3c97aa0f30da0602257b3f5febcb"), looks := false }, kinds := [], alts := [], laidByText := true, laidKinds := [.widerDeep], laidTests := true, laidLooks := .later }
def SchemaLookupUptoCardSaid : Prop := Claim7.holds Tryd.pinned (.plain (OpenSpec.upto schemaLookupSpec)) schemaLookupUptoCard

/-- THE SECOND FORM's CARD OF 'disjointlaw12.SchemaReferring'. -/
def schemaReferringUptoCard : Claim7 := { stood := { row := schemaReferringUptoRow, standIns := [], harness := (true, "3a54758f172549a56e6ddfdda4d3de0cf64d3c97aa0f30da0602257b3f5febcb"), looks := false }, kinds := [], alts := [], laidByText := true, laidKinds := [.widerDeep], laidTests := true, laidLooks := .later }
def SchemaReferringUptoCardSaid : Prop := Claim7.holds Tryd.pinned (.plain (OpenSpec.upto schemaReferringSpec)) schemaReferringUptoCard

/-- THE SECOND FORM's CARD OF 'disjointlaw12.SchemaIsolated'. -/
def schemaIsolatedUptoCard : Claim7 := { stood := { row := schemaIsolatedUptoRow, standIns := [], harness := (true, "3a54758f172549a56e6ddfdda4d3de0cf64d3c97aa0f30da0602257b3f5febcb"), looks := false }, kinds := [], alts := [], laidByText := true, laidKinds := [.widerDeep], laidTests := true, laidLooks := .later }
def SchemaIsolatedUptoCardSaid : Prop := Claim7.holds Tryd.pinned (.plain (OpenSpec.upto schemaIsolatedSpec)) schemaIsolatedUptoCard

/-- THE SECOND FORM's CARD OF 'disjointlaw45.PlannerCost'. -/
def plannerCostUptoCard : Claim7 := { stood := { row := plannerCostUptoRow, standIns := [], harness := (true, "3a54758f172549a56e6ddfdda4d3de0cf64d3c97aa0f30da0602257b3f5febcb"), looks := false }, kinds := [], alts := [], laidByText := true, laidKinds := [.widerDeep], laidTests := true, laidLooks := .later }
def PlannerCostUptoCardSaid : Prop := Claim7.holds Tryd.pinned (.plain (OpenSpec.upto plannerCostSpec)) plannerCostUptoCard

/-- THE SECOND FORM's CARD OF 'disjointlaw12.SchemaVariables'. -/
def schemaVariablesUptoCard : Claim7 := { stood := { row := schemaVariablesUptoRow, standIns := [], harness := (true, "3a54758f172549a56e6ddfdda4d3de0cf64d3c97aa0f30da0602257b3f5febcb"), looks := false }, kinds := [], alts := [], laidByText := true, laidKinds := [.widerDeep], laidTests := true, laidLooks := .later }
def SchemaVariablesUptoCardSaid : Prop := Claim7.holds Tryd.pinned (.plain (OpenSpec.upto schemaVariablesSpec)) schemaVariablesUptoCard

/-- THE SECOND FORM's CARD OF 'disjointlaw12.SchemaValid'. -/
def schemaValidUptoCard : Claim7 := { stood := { row := schemaValidUptoRow, standIns := [], harness := (true, "3a54758f172549a56e6ddfdda4d3de0cf64d3c97aa0f30da0602257b3f5febcb"), looks := false }, kinds := [], alts := [], laidByText := true, laidKinds := [.widerDeep], laidTests := true, laidLooks := .later }
def SchemaValidUptoCardSaid : Prop := Claim7.holds Tryd.pinned (.plain (OpenSpec.upto schemaValidSpec)) schemaValidUptoCard

/-- THE SECOND FORM's CARD OF 'disjointlaw12.SchemaBuildsValid'. -/
def schemaBuildsValidUptoCard : Claim7 := { stood := { row := schemaBuildsValidUptoRow, standIns := [], harness := (true, "3a54758f172549a56e6ddfdda4d3de0cf64d3c97aa0f30da0602257b3f5febcb"), looks := false }, kinds := [], alts := [], laidByText := true, laidKinds := [.widerDeep], laidTests := true, laidLooks := .later }
def SchemaBuildsValidUptoCardSaid : Prop := Claim7.holds Tryd.pinned (.plain (OpenSpec.upto schemaBuildsValidSpec)) schemaBuildsValidUptoCard

/-- THE SECOND FORM's CARD OF 'disjointlaw12.SchemaFits'. -/
def schemaFitsUptoCard : Claim7 := { stood := { row := schemaFitsUptoRow, standIns := [], harness := (true, "3a54758f172549a56e6ddfdda4d3de0cf64d3c97aa0f30da0602257b3f5febcb"), looks := false }, kinds := [], alts := [], laidByText := true, laidKinds := [.widerDeep], laidTests := true, laidLooks := .later }
def SchemaFitsUptoCardSaid : Prop := Claim7.holds Tryd.pinned (.plain (OpenSpec.upto schemaFitsSpec)) schemaFitsUptoCard
end Rows
end Go.Proofs.YtcfmjomniaopcaaDoor
