/-
  DERIVED. GIVEN WITH THE SEED: THE CARDS: each row of YtggiaoaballdgaaGreatDoorRows.lean that lists a variable, with what it lists TIED to the program's text (the seventh form; the later family's looks); each row that meets fmt, with fmt's text TOLD by the authors' own Lean function (tested against real Go, not proved from fmt's source: count such statements apart). THE CARD IS WHAT COUNTS. Prove the row's statement (the work); the ties are given (YtggiaoaballdgaaGreatDoorTie.lean); close each card by the builder's one call (the guide's Derived/Test/ToyasCard.lean, 'card_holds'). Laid BY PROGRAM, IN A SANDBOX (cutbox-door.mjs). By AI agents, Wed Nov 11 2026. No macro, syntax, notation, axiom, sorry.
-/
import Derived.Test.YtggiaoaballdgaaGreatDoorRows
import GoSem.ClaimSeven
namespace Go.Proofs.YtggiaoaballdgaaGreatDoor
namespace Rows

/-- THE TIED CARD OF 'disjointlaw46.ExecutorRows'. -/
def executorRowsCard : Claim7 := { stood := { row := executorRowsRow, standIns := [], harness := (true, "ae15b902ad8543624f7c85eb2b8b9b8db08183fcb7e8c2a0db0b27512d992e3d"), looks := false }, kinds := [], alts := [], laidByText := true, laidKinds := [.data], laidTests := true, laidLooks := .later }
def ExecutorRowsCardSaid : Prop := Claim7.holds Tryz.pinned (.plain (OpenSpec.ofChange executorRowsSpec)) executorRowsCard

/-- THE TIED CARD OF 'disjointlaw46.ExecutorNaive'. -/
def executorNaiveCard : Claim7 := { stood := { row := executorNaiveRow, standIns := [], harness := (true, "ae15b902ad8543624f7c85eb2b8b9b8db08183fcb7e8c2a0db0b27512d992e3d"), looks := false }, kinds := [], alts := [], laidByText := true, laidKinds := [.data], laidTests := true, laidLooks := .later }
def ExecutorNaiveCardSaid : Prop := Claim7.holds Tryz.pinned (.plain (OpenSpec.ofChange executorNaiveSpec)) executorNaiveCard

/-- THE TIED CARD OF 'disjointlaw46.ExecutorCount'. -/
def executorCountCard : Claim7 := { stood := { row := executorCountRow, standIns := [], harness := (true, "ae15b902ad8543624f7c85eb2b8b9b8db08183fcb7e8c2a0db0b27512d992e3d"), looks := false }, kinds := [], alts := [], laidByText := true, laidKinds := [.data], laidTests := true, laidLooks := .later }
def ExecutorCountCardSaid : Prop := Claim7.holds Tryz.pinned (.plain (OpenSpec.ofChange executorCountSpec)) executorCountCard

/-- THE TIED CARD OF 'disjointlaw46.ExecutorPlans'. -/
def executorPlansCard : Claim7 := { stood := { row := executorPlansRow, standIns := [], harness := (true, "ae15b902ad8543624f7c85eb2b8b9b8db08183fcb7e8c2a0db0b27512d992e3d"), looks := false }, kinds := [], alts := [], laidByText := true, laidKinds := [.data], laidTests := true, laidLooks := .later }
def ExecutorPlansCardSaid : Prop := Claim7.holds Tryz.pinned (.plain (OpenSpec.ofChange executorPlansSpec)) executorPlansCard

/-- THE TIED CARD OF 'disjointlaw46.ExecutorIterators'. -/
def executorIteratorsCard : Claim7 := { stood := { row := executorIteratorsRow, standIns := [], harness := (true, "ae15b902ad8543624f7c85eb2b8b9b8db08183fcb7e8c2a0db0b27512d992e3d"), looks := false }, kinds := [], alts := [], laidByText := true, laidKinds := [.data], laidTests := true, laidLooks := .later }
def ExecutorIteratorsCardSaid : Prop := Claim7.holds Tryz.pinned (.plain (OpenSpec.ofChange executorIteratorsSpec)) executorIteratorsCard

/-- THE TIED CARD OF 'disjointlaw46.ExecutorMatches'. -/
def executorMatchesCard : Claim7 := { stood := { row := executorMatchesRow, standIns := [], harness := (true, "ae15b902ad8543624f7c85eb2b8b9b8db08183fcb7e8c2a0db0b27512d992e3d"), looks := false }, kinds := [], alts := [], laidByText := true, laidKinds := [.data], laidTests := true, laidLooks := .later }
def ExecutorMatchesCardSaid : Prop := Claim7.holds Tryz.pinned (.plain (OpenSpec.ofChange executorMatchesSpec)) executorMatchesCard

/-- THE SECOND FORM's CARD OF 'disjointlaw46.ExecutorRows'. -/
def executorRowsUptoCard : Claim7 := { stood := { row := executorRowsUptoRow, standIns := [], harness := (true, "ae15b902ad8543624f7c85eb2b8b9b8db08183fcb7e8c2a0db0b27512d992e3d"), looks := false }, kinds := [], alts := [], laidByText := true, laidKinds := [.data], laidTests := true, laidLooks := .later }
def ExecutorRowsUptoCardSaid : Prop := Claim7.holds Tryz.pinned (.plain (OpenSpec.upto executorRowsSpec)) executorRowsUptoCard

/-- THE SECOND FORM's CARD OF 'disjointlaw46.ExecutorNaive'. -/
def executorNaiveUptoCard : Claim7 := { stood := { row := executorNaiveUptoRow, standIns := [], harness := (true, "ae15b902ad8543624f7c85eb2b8b9b8db08183fcb7e8c2a0db0b27512d992e3d"), looks := false }, kinds := [], alts := [], laidByText := true, laidKinds := [.data], laidTests := true, laidLooks := .later }
def ExecutorNaiveUptoCardSaid : Prop := Claim7.holds Tryz.pinned (.plain (OpenSpec.upto executorNaiveSpec)) executorNaiveUptoCard

/-- THE SECOND FORM's CARD OF 'disjointlaw46.ExecutorCount'. -/
def executorCountUptoCard : Claim7 := { stood := { row := executorCountUptoRow, standIns := [], harness := (true, "ae15b902ad8543624f7c85eb2b8b9b8db08183fcb7e8c2a0db0b27512d992e3d"), looks := false }, kinds := [], alts := [], laidByText := true, laidKinds := [.data], laidTests := true, laidLooks := .later }
def ExecutorCountUptoCardSaid : Prop := Claim7.holds Tryz.pinned (.plain (OpenSpec.upto executorCountSpec)) executorCountUptoCard

/-- THE SECOND FORM's CARD OF 'disjointlaw46.ExecutorPlans'. -/
def executorPlansUptoCard : Claim7 := { stood := { row := executorPlansUptoRow, standIns := [], harness := (true, "ae15b902ad8543624f7c85eb2b8b9b8db08183fcb7e8c2a0db0b27512d992e3d"), looks := false }, kinds := [], alts := [], laidByText := true, laidKinds := [.data], laidTests := true, laidLooks := .later }
def ExecutorPlansUptoCardSaid : Prop := Claim7.holds Tryz.pinned (.plain (OpenSpec.upto executorPlansSpec)) executorPlansUptoCard

/-- THE SECOND FORM's CARD OF 'disjointlaw46.ExecutorIterators'. -/
def executorIteratorsUptoCard : Claim7 := { stood := { row := executorIteratorsUptoRow, standIns := [], harness := (true, "ae15b902ad8543624f7c85eb2b8b9b8db08183fcb7e8c2a0db0b27512d992e3d"), looks := false }, kinds := [], alts := [], laidByText := true, laidKinds := [.data], laidTests := true, laidLooks := .later }
def ExecutorIteratorsUptoCardSaid : Prop := Claim7.holds Tryz.pinned (.plain (OpenSpec.upto executorIteratorsSpec)) executorIteratorsUptoCard

/-- THE SECOND FORM's CARD OF 'disjointlaw46.ExecutorMatches'. -/
def executorMatchesUptoCard : Claim7 := { stood := { row := executorMatchesUptoRow, standIns := [], harness := (true, "ae15b902ad8543624f7c85eb2b8b9b8db08183fcb7e8c2a0db0b27512d992e3d"), looks := false }, kinds := [], alts := [], laidByText := true, laidKinds := [.data], laidTests := true, laidLooks := .later }
def ExecutorMatchesUptoCardSaid : Prop := Claim7.holds Tryz.pinned (.plain (OpenSpec.upto executorMatchesSpec)) executorMatchesUptoCard
end Rows
end Go.Proofs.YtggiaoaballdgaaGreatDoor
