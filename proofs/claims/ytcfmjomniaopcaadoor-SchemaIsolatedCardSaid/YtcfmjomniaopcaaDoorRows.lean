/-
  NARROWER THAN 'FOR EVERY INPUT', by the rows' own cells (each row's printed sentence says how): PlannerKeys: loops, laid · SchemaBuild: loops, laid · SchemaLookup: loops, laid · SchemaReferring: loops, laid · SchemaIsolated: loops, laid · PlannerCost: loops, laid · SchemaVariables: loops, laid · SchemaValid: loops, laid · SchemaBuildsValid: loops, laid · SchemaFits: loops, laid.
  DERIVED. THE GIVEN ROWS OF THIS SEAT. 10 by the template 'for every input the law returns true; each argument reads behind the call as it read before'; 0 by the template 'total and deterministic' (their statements: YtcfmjomniaopcaaDoorTotals.lean).
  GIVEN WITH THE SEED: the statements are not yours to turn. If you find one false, say at which input.
  Laid BY PROGRAM, IN A SANDBOX (cutbox-rows.mjs): the forced cells as the released guide's own fill.sh prints them over the translation 611c4ca66780fd94… (all of the seat's roots in one cut). By AI agents, Wed Nov 11 2026. No macro, syntax, notation, axiom, sorry.
-/
import Derived.Test.YtcfmjomniaopcaaDoorChecked
import GoSem.Claim
import GoSem.ClaimJoined
import GoSem.ClaimMapViews
import Derived.JoinedTies
import Derived.KernelRfl
namespace Go.Proofs.YtcfmjomniaopcaaDoor
/- THE CELL 'sum', in the pinned program and in every row, IS THE sha256 OF THE DUMP (.gsa) THAT YtcfmjomniaopcaaDoorProg.lean LOADS. Nothing in Lean hashes anything: it is a label: what it is worth is what the hold of that sum in a sandbox is worth. -/
noncomputable def Tryd.pinned : Pinned := { name := "ytcfmjomniaopcaadoor", sum := "611c4ca66780fd947b4acead156d719b941f3aa08c43fb6e432c11f856524971", checked := Tryd.checked }
namespace Rows
def none {H : Type} : Left H := { results := [], args := [] }

/- WHAT THE LISTED PACKAGE-LEVEL VARIABLES READ AS WHEN THE CALL BEGINS. Each datum BY PROGRAM (the guide's laid-datum.mjs) off the statement by which the dump's own 'gosem.cut.vars' lays the variable. In a bare row this is a premise. The card (YtcfmjomniaopcaaDoorCards.lean) ties it to the program's text. -/
def laid_disjoint_planner_operators {H : Type} : DataW H := .agg [.agg [.slice [.lit (.int .i64 10)] [], .slice [.lit (.int .i64 10)] []], .agg [.slice [.lit (.int .i64 15), .lit (.int .i64 14)] [], .slice [.lit (.int .i64 13), .lit (.int .i64 12)] []], .agg [.slice [.lit (.int .i64 13), .lit (.int .i64 12)] [], .slice [.lit (.int .i64 15), .lit (.int .i64 14)] []]]
def laid_disjoint_lexer_keywords {H : Type} : DataW H := .slice [.lit (.string [65, 78, 68]), .lit (.string [65, 83]), .lit (.string [65, 83, 67]), .lit (.string [66, 69, 71, 73, 78]), .lit (.string [66, 69, 84, 87, 69, 69, 78]), .lit (.string [66, 89]), .lit (.string [67, 72, 69, 67, 75]), .lit (.string [67, 79, 77, 77, 73, 84]), .lit (.string [67, 79, 85, 78, 84]), .lit (.string [67, 82, 69, 65, 84, 69]), .lit (.string [68, 69, 76, 69, 84, 69]), .lit (.string [68, 69, 83, 67]), .lit (.string [70, 79, 82, 69, 73, 71, 78]), .lit (.string [70, 82, 79, 77]), .lit (.string [71, 82, 79, 85, 80]), .lit (.string [73, 78]), .lit (.string [73, 78, 83, 69, 82, 84]), .lit (.string [73, 78, 84, 69, 71, 69, 82]), .lit (.string [73, 78, 84, 79]), .lit (.string [73, 83]), .lit (.string [74, 79, 73, 78]), .lit (.string [75, 69, 89]), .lit (.string [76, 69, 78, 71, 84, 72]), .lit (.string [76, 73, 75, 69]), .lit (.string [76, 73, 77, 73, 84]), .lit (.string [77, 65, 88]), .lit (.string [77, 73, 78]), .lit (.string [78, 79, 84]), .lit (.string [78, 85, 76, 76]), .lit (.string [79, 78]), .lit (.string [79, 82]), .lit (.string [79, 82, 68, 69, 82]), .lit (.string [80, 82, 73, 77, 65, 82, 89]), .lit (.string [82, 69, 70, 69, 82, 69, 78, 67, 69, 83]), .lit (.string [82, 69, 76, 69, 65, 83, 69]), .lit (.string [82, 79, 76, 76, 66, 65, 67, 75]), .lit (.string [83, 65, 86, 69, 80, 79, 73, 78, 84]), .lit (.string [83, 69, 76, 69, 67, 84]), .lit (.string [83, 69, 84]), .lit (.string [83, 85, 77]), .lit (.string [84, 65, 66, 76, 69]), .lit (.string [84, 69, 88, 84]), .lit (.string [84, 79]), .lit (.string [85, 78, 73, 81, 85, 69]), .lit (.string [85, 80, 68, 65, 84, 69]), .lit (.string [86, 65, 76, 85, 69, 83]), .lit (.string [87, 72, 69, 82, 69])] []

/-- 'disjointlaw45.PlannerKeys': WHATEVER THE INPUT: true; the input reads as it did. -/
def plannerKeysSpec : ChangeSpec := { name := "plannerKeys", fn := fun _ => fun
  | [d1, d2, d3] => { results := [.lit (.bool true)], args := [d1, d2, d3] }
  | _ => none }
def plannerKeysRow : OpenClaim := { program := "ytcfmjomniaopcaadoor", sum := "611c4ca66780fd947b4acead156d719b941f3aa08c43fb6e432c11f856524971", func := "disjoint/disjointlaw45.PlannerKeys", spec := "plannerKeys", unfollowed := true, recurses := true, named := ["disjoint/planner.operators"], loops := true, apart := false, laid := [("disjoint/planner.operators", laid_disjoint_planner_operators)] }
def PlannerKeysSaid : Prop := plannerKeysRow.holds Tryd.pinned (OpenSpec.ofChange plannerKeysSpec)

/-- ITS FALSE NEIGHBOUR: 'it returns false'. Refute it at one input. -/
def plannerKeysWrong : ChangeSpec := { name := "plannerKeys", fn := fun _ => fun
  | [d1, d2, d3] => { results := [.lit (.bool false)], args := [d1, d2, d3] }
  | _ => none }
def PlannerKeysWrongFalsely : Prop := plannerKeysRow.holds Tryd.pinned (OpenSpec.ofChange plannerKeysWrong)

/-- 'disjointlaw12.SchemaBuild': WHATEVER THE INPUT: true; the input reads as it did. -/
def schemaBuildSpec : ChangeSpec := { name := "schemaBuild", fn := fun _ => fun
  | [d] => { results := [.lit (.bool true)], args := [d] }
  | _ => none }
def schemaBuildRow : OpenClaim := { program := "ytcfmjomniaopcaadoor", sum := "611c4ca66780fd947b4acead156d719b941f3aa08c43fb6e432c11f856524971", func := "disjoint/disjointlaw12.SchemaBuild", spec := "schemaBuild", unfollowed := true, recurses := true, named := ["disjoint/lexer.keywords"], loops := true, apart := false, laid := [("disjoint/lexer.keywords", laid_disjoint_lexer_keywords)] }
def SchemaBuildSaid : Prop := schemaBuildRow.holds Tryd.pinned (OpenSpec.ofChange schemaBuildSpec)

/-- ITS FALSE NEIGHBOUR: 'it returns false'. Refute it at one input. -/
def schemaBuildWrong : ChangeSpec := { name := "schemaBuild", fn := fun _ => fun
  | [d] => { results := [.lit (.bool false)], args := [d] }
  | _ => none }
def SchemaBuildWrongFalsely : Prop := schemaBuildRow.holds Tryd.pinned (OpenSpec.ofChange schemaBuildWrong)

/-- 'disjointlaw12.SchemaLookup': WHATEVER THE INPUT: true; the input reads as it did. -/
def schemaLookupSpec : ChangeSpec := { name := "schemaLookup", fn := fun _ => fun
  | [d1, d2, d3] => { results := [.lit (.bool true)], args := [d1, d2, d3] }
  | _ => none }
def schemaLookupRow : OpenClaim := { program := "ytcfmjomniaopcaadoor", sum := "611c4ca66780fd947b4acead156d719b941f3aa08c43fb6e432c11f856524971", func := "disjoint/disjointlaw12.SchemaLookup", spec := "schemaLookup", unfollowed := true, recurses := true, named := ["disjoint/lexer.keywords"], loops := true, apart := false, laid := [("disjoint/lexer.keywords", laid_disjoint_lexer_keywords)] }
def SchemaLookupSaid : Prop := schemaLookupRow.holds Tryd.pinned (OpenSpec.ofChange schemaLookupSpec)

/-- ITS FALSE NEIGHBOUR: 'it returns false'. Refute it at one input. -/
def schemaLookupWrong : ChangeSpec := { name := "schemaLookup", fn := fun _ => fun
  | [d1, d2, d3] => { results := [.lit (.bool false)], args := [d1, d2, d3] }
  | _ => none }
def SchemaLookupWrongFalsely : Prop := schemaLookupRow.holds Tryd.pinned (OpenSpec.ofChange schemaLookupWrong)

/-- 'disjointlaw12.SchemaReferring': WHATEVER THE INPUT: true; the input reads as it did. -/
def schemaReferringSpec : ChangeSpec := { name := "schemaReferring", fn := fun _ => fun
  | [d1, d2] => { results := [.lit (.bool true)], args := [d1, d2] }
  | _ => none }
def schemaReferringRow : OpenClaim := { program := "ytcfmjomniaopcaadoor", sum := "611c4ca66780fd947b4acead156d719b941f3aa08c43fb6e432c11f856524971", func := "disjoint/disjointlaw12.SchemaReferring", spec := "schemaReferring", unfollowed := true, recurses := true, named := ["disjoint/lexer.keywords"], loops := true, apart := false, laid := [("disjoint/lexer.keywords", laid_disjoint_lexer_keywords)] }
def SchemaReferringSaid : Prop := schemaReferringRow.holds Tryd.pinned (OpenSpec.ofChange schemaReferringSpec)

/-- ITS FALSE NEIGHBOUR: 'it returns false'. Refute it at one input. -/
def schemaReferringWrong : ChangeSpec := { name := "schemaReferring", fn := fun _ => fun
  | [d1, d2] => { results := [.lit (.bool false)], args := [d1, d2] }
  | _ => none }
def SchemaReferringWrongFalsely : Prop := schemaReferringRow.holds Tryd.pinned (OpenSpec.ofChange schemaReferringWrong)

/-- 'disjointlaw12.SchemaIsolated': WHATEVER THE INPUT: true; the input reads as it did. -/
def schemaIsolatedSpec : ChangeSpec := { name := "schemaIsolated", fn := fun _ => fun
  | [d] => { results := [.lit (.bool true)], args := [d] }
  | _ => none }
def schemaIsolatedRow : OpenClaim := { program := "ytcfmjomniaopcaadoor", sum := "611c4ca66780fd947b4acead156d719b941f3aa08c43fb6e432c11f856524971", func := "disjoint/disjointlaw12.SchemaIsolated", spec := "schemaIsolated", unfollowed := true, recurses := true, named := ["disjoint/lexer.keywords"], loops := true, apart := false, laid := [("disjoint/lexer.keywords", laid_disjoint_lexer_keywords)] }
def SchemaIsolatedSaid : Prop := schemaIsolatedRow.holds Tryd.pinned (OpenSpec.ofChange schemaIsolatedSpec)

/-- ITS FALSE NEIGHBOUR: 'it returns false'. Refute it at one input. -/
def schemaIsolatedWrong : ChangeSpec := { name := "schemaIsolated", fn := fun _ => fun
  | [d] => { results := [.lit (.bool false)], args := [d] }
  | _ => none }
def SchemaIsolatedWrongFalsely : Prop := schemaIsolatedRow.holds Tryd.pinned (OpenSpec.ofChange schemaIsolatedWrong)

/-- 'disjointlaw45.PlannerCost': WHATEVER THE INPUT: true; the input reads as it did. -/
def plannerCostSpec : ChangeSpec := { name := "plannerCost", fn := fun _ => fun
  | [d1, d2, d3] => { results := [.lit (.bool true)], args := [d1, d2, d3] }
  | _ => none }
def plannerCostRow : OpenClaim := { program := "ytcfmjomniaopcaadoor", sum := "611c4ca66780fd947b4acead156d719b941f3aa08c43fb6e432c11f856524971", func := "disjoint/disjointlaw45.PlannerCost", spec := "plannerCost", unfollowed := true, recurses := true, named := ["disjoint/planner.operators"], loops := true, apart := false, laid := [("disjoint/planner.operators", laid_disjoint_planner_operators)] }
def PlannerCostSaid : Prop := plannerCostRow.holds Tryd.pinned (OpenSpec.ofChange plannerCostSpec)

/-- ITS FALSE NEIGHBOUR: 'it returns false'. Refute it at one input. -/
def plannerCostWrong : ChangeSpec := { name := "plannerCost", fn := fun _ => fun
  | [d1, d2, d3] => { results := [.lit (.bool false)], args := [d1, d2, d3] }
  | _ => none }
def PlannerCostWrongFalsely : Prop := plannerCostRow.holds Tryd.pinned (OpenSpec.ofChange plannerCostWrong)

/-- 'disjointlaw12.SchemaVariables': WHATEVER THE INPUT: true; the input reads as it did. -/
def schemaVariablesSpec : ChangeSpec := { name := "schemaVariables", fn := fun _ => fun
  | [d] => { results := [.lit (.bool true)], args := [d] }
  | _ => none }
def schemaVariablesRow : OpenClaim := { program := "ytcfmjomniaopcaadoor", sum := "611c4ca66780fd947b4acead156d719b941f3aa08c43fb6e432c11f856524971", func := "disjoint/disjointlaw12.SchemaVariables", spec := "schemaVariables", unfollowed := true, recurses := true, named := ["disjoint/lexer.keywords"], loops := true, apart := false, laid := [("disjoint/lexer.keywords", laid_disjoint_lexer_keywords)] }
def SchemaVariablesSaid : Prop := schemaVariablesRow.holds Tryd.pinned (OpenSpec.ofChange schemaVariablesSpec)

/-- ITS FALSE NEIGHBOUR: 'it returns false'. Refute it at one input. -/
def schemaVariablesWrong : ChangeSpec := { name := "schemaVariables", fn := fun _ => fun
  | [d] => { results := [.lit (.bool false)], args := [d] }
  | _ => none }
def SchemaVariablesWrongFalsely : Prop := schemaVariablesRow.holds Tryd.pinned (OpenSpec.ofChange schemaVariablesWrong)

/-- 'disjointlaw12.SchemaValid': WHATEVER THE INPUT: true; the input reads as it did. -/
def schemaValidSpec : ChangeSpec := { name := "schemaValid", fn := fun _ => fun
  | [d] => { results := [.lit (.bool true)], args := [d] }
  | _ => none }
def schemaValidRow : OpenClaim := { program := "ytcfmjomniaopcaadoor", sum := "611c4ca66780fd947b4acead156d719b941f3aa08c43fb6e432c11f856524971", func := "disjoint/disjointlaw12.SchemaValid", spec := "schemaValid", unfollowed := true, recurses := true, named := ["disjoint/lexer.keywords"], loops := true, apart := false, laid := [("disjoint/lexer.keywords", laid_disjoint_lexer_keywords)] }
def SchemaValidSaid : Prop := schemaValidRow.holds Tryd.pinned (OpenSpec.ofChange schemaValidSpec)

/-- ITS FALSE NEIGHBOUR: 'it returns false'. Refute it at one input. -/
def schemaValidWrong : ChangeSpec := { name := "schemaValid", fn := fun _ => fun
  | [d] => { results := [.lit (.bool false)], args := [d] }
  | _ => none }
def SchemaValidWrongFalsely : Prop := schemaValidRow.holds Tryd.pinned (OpenSpec.ofChange schemaValidWrong)

/-- 'disjointlaw12.SchemaBuildsValid': WHATEVER THE INPUT: true; the input reads as it did. -/
def schemaBuildsValidSpec : ChangeSpec := { name := "schemaBuildsValid", fn := fun _ => fun
  | [d] => { results := [.lit (.bool true)], args := [d] }
  | _ => none }
def schemaBuildsValidRow : OpenClaim := { program := "ytcfmjomniaopcaadoor", sum := "611c4ca66780fd947b4acead156d719b941f3aa08c43fb6e432c11f856524971", func := "disjoint/disjointlaw12.SchemaBuildsValid", spec := "schemaBuildsValid", unfollowed := true, recurses := true, named := ["disjoint/lexer.keywords"], loops := true, apart := false, laid := [("disjoint/lexer.keywords", laid_disjoint_lexer_keywords)] }
def SchemaBuildsValidSaid : Prop := schemaBuildsValidRow.holds Tryd.pinned (OpenSpec.ofChange schemaBuildsValidSpec)

/-- ITS FALSE NEIGHBOUR: 'it returns false'. Refute it at one input. -/
def schemaBuildsValidWrong : ChangeSpec := { name := "schemaBuildsValid", fn := fun _ => fun
  | [d] => { results := [.lit (.bool false)], args := [d] }
  | _ => none }
def SchemaBuildsValidWrongFalsely : Prop := schemaBuildsValidRow.holds Tryd.pinned (OpenSpec.ofChange schemaBuildsValidWrong)

/-- 'disjointlaw12.SchemaFits': WHATEVER THE INPUT: true; the input reads as it did. -/
def schemaFitsSpec : ChangeSpec := { name := "schemaFits", fn := fun _ => fun
  | [d1, d2] => { results := [.lit (.bool true)], args := [d1, d2] }
  | _ => none }
def schemaFitsRow : OpenClaim := { program := "ytcfmjomniaopcaadoor", sum := "611c4ca66780fd947b4acead156d719b941f3aa08c43fb6e432c11f856524971", func := "disjoint/disjointlaw12.SchemaFits", spec := "schemaFits", unfollowed := true, recurses := true, named := ["disjoint/lexer.keywords"], loops := true, apart := false, laid := [("disjoint/lexer.keywords", laid_disjoint_lexer_keywords)] }
def SchemaFitsSaid : Prop := schemaFitsRow.holds Tryd.pinned (OpenSpec.ofChange schemaFitsSpec)

/-- ITS FALSE NEIGHBOUR: 'it returns false'. Refute it at one input. -/
def schemaFitsWrong : ChangeSpec := { name := "schemaFits", fn := fun _ => fun
  | [d1, d2] => { results := [.lit (.bool false)], args := [d1, d2] }
  | _ => none }
def SchemaFitsWrongFalsely : Prop := schemaFitsRow.holds Tryd.pinned (OpenSpec.ofChange schemaFitsWrong)

/- THE SECOND FORM. 'bulk': how many values and letters a reading holds, each counted each time it is reached (what is shared counts as often as it is met; a slice's spare places count too). A statement '..UptoSaid' is the law's where the arguments, and the package variables that the reading takes, are together of bulk at most 1048576: NARROWER than '..Said'. Prove '..Said' where nothing that the law and all that it calls make is longer than what came in: it says more and counts as full. Else prove '..UptoSaid'. A law counts once. -/
mutual
def uptoBulk {H : Type} : DataW H → Nat
  | .lit (.string bytes) => bytes.length + 1
  | .lit _ => 1
  | .nil => 1
  | .ptr d => uptoBulk d + 1
  | .slice elems spare => uptoBulkAll elems + uptoBulkAll spare + 1
  | .agg parts => uptoBulkAll parts + 1
  | .iface _ d => uptoBulk d + 1
  | .map entries => uptoBulkEntries entries + 1
  | .held _ => 1
def uptoBulkAll {H : Type} : List (DataW H) → Nat
  | [] => 0
  | d :: r => uptoBulk d + uptoBulkAll r
def uptoBulkEntries {H : Type} : List (Lit × DataW H) → Nat
  | [] => 0
  | x :: r => uptoBulkEntry x + uptoBulkEntries r
def uptoBulkEntry {H : Type} : Lit × DataW H → Nat
  | (.string bytes, d) => bytes.length + uptoBulk d + 1
  | (_, d) => uptoBulk d + 1
 end
def uptoSmall : (H : Type) → List (DataW H) → Bool := fun _ ds => decide (uptoBulkAll ds ≤ 1048576)
def OpenSpec.upto (s : _root_.Go.ChangeSpec) : _root_.Go.OpenSpec := { _root_.Go.OpenSpec.ofChange s with cond := some uptoSmall }

/-- 'disjointlaw45.PlannerKeys', WHERE WHAT IT READS IS OF BULK AT MOST 1048576: true; the input reads as it did. -/
def plannerKeysUptoRow : OpenClaim := { program := "ytcfmjomniaopcaadoor", sum := "611c4ca66780fd947b4acead156d719b941f3aa08c43fb6e432c11f856524971", func := "disjoint/disjointlaw45.PlannerKeys", spec := "plannerKeys", unfollowed := true, recurses := true, named := ["disjoint/planner.operators"], loops := true, apart := false, laid := [("disjoint/planner.operators", laid_disjoint_planner_operators)], narrowed := true }
def PlannerKeysUptoSaid : Prop := plannerKeysUptoRow.holds Tryd.pinned (OpenSpec.upto plannerKeysSpec)

/-- 'disjointlaw12.SchemaBuild', WHERE WHAT IT READS IS OF BULK AT MOST 1048576: true; the input reads as it did. -/
def schemaBuildUptoRow : OpenClaim := { program := "ytcfmjomniaopcaadoor", sum := "611c4ca66780fd947b4acead156d719b941f3aa08c43fb6e432c11f856524971", func := "disjoint/disjointlaw12.SchemaBuild", spec := "schemaBuild", unfollowed := true, recurses := true, named := ["disjoint/lexer.keywords"], loops := true, apart := false, laid := [("disjoint/lexer.keywords", laid_disjoint_lexer_keywords)], narrowed := true }
def SchemaBuildUptoSaid : Prop := schemaBuildUptoRow.holds Tryd.pinned (OpenSpec.upto schemaBuildSpec)

/-- 'disjointlaw12.SchemaLookup', WHERE WHAT IT READS IS OF BULK AT MOST 1048576: true; the input reads as it did. -/
def schemaLookupUptoRow : OpenClaim := { program := "ytcfmjomniaopcaadoor", sum := "611c4ca66780fd947b4acead156d719b941f3aa08c43fb6e432c11f856524971", func := "disjoint/disjointlaw12.SchemaLookup", spec := "schemaLookup", unfollowed := true, recurses := true, named := ["disjoint/lexer.keywords"], loops := true, apart := false, laid := [("disjoint/lexer.keywords", laid_disjoint_lexer_keywords)], narrowed := true }
def SchemaLookupUptoSaid : Prop := schemaLookupUptoRow.holds Tryd.pinned (OpenSpec.upto schemaLookupSpec)

/-- 'disjointlaw12.SchemaReferring', WHERE WHAT IT READS IS OF BULK AT MOST 1048576: true; the input reads as it did. -/
def schemaReferringUptoRow : OpenClaim := { program := "ytcfmjomniaopcaadoor", sum := "611c4ca66780fd947b4acead156d719b941f3aa08c43fb6e432c11f856524971", func := "disjoint/disjointlaw12.SchemaReferring", spec := "schemaReferring", unfollowed := true, recurses := true, named := ["disjoint/lexer.keywords"], loops := true, apart := false, laid := [("disjoint/lexer.keywords", laid_disjoint_lexer_keywords)], narrowed := true }
def SchemaReferringUptoSaid : Prop := schemaReferringUptoRow.holds Tryd.pinned (OpenSpec.upto schemaReferringSpec)

/-- 'disjointlaw12.SchemaIsolated', WHERE WHAT IT READS IS OF BULK AT MOST 1048576: true; the input reads as it did. -/
def schemaIsolatedUptoRow : OpenClaim := { program := "ytcfmjomniaopcaadoor", sum := "611c4ca66780fd947b4acead156d719b941f3aa08c43fb6e432c11f856524971", func := "disjoint/disjointlaw12.SchemaIsolated", spec := "schemaIsolated", unfollowed := true, recurses := true, named := ["disjoint/lexer.keywords"], loops := true, apart := false, laid := [("disjoint/lexer.keywords", laid_disjoint_lexer_keywords)], narrowed := true }
def SchemaIsolatedUptoSaid : Prop := schemaIsolatedUptoRow.holds Tryd.pinned (OpenSpec.upto schemaIsolatedSpec)

/-- 'disjointlaw45.PlannerCost', WHERE WHAT IT READS IS OF BULK AT MOST 1048576: true; the input reads as it did. -/
def plannerCostUptoRow : OpenClaim := { program := "ytcfmjomniaopcaadoor", sum := "611c4ca66780fd947b4acead156d719b941f3aa08c43fb6e432c11f856524971", func := "disjoint/disjointlaw45.PlannerCost", spec := "plannerCost", unfollowed := true, recurses := true, named := ["disjoint/planner.operators"], loops := true, apart := false, laid := [("disjoint/planner.operators", laid_disjoint_planner_operators)], narrowed := true }
def PlannerCostUptoSaid : Prop := plannerCostUptoRow.holds Tryd.pinned (OpenSpec.upto plannerCostSpec)

/-- 'disjointlaw12.SchemaVariables', WHERE WHAT IT READS IS OF BULK AT MOST 1048576: true; the input reads as it did. -/
def schemaVariablesUptoRow : OpenClaim := { program := "ytcfmjomniaopcaadoor", sum := "611c4ca66780fd947b4acead156d719b941f3aa08c43fb6e432c11f856524971", func := "disjoint/disjointlaw12.SchemaVariables", spec := "schemaVariables", unfollowed := true, recurses := true, named := ["disjoint/lexer.keywords"], loops := true, apart := false, laid := [("disjoint/lexer.keywords", laid_disjoint_lexer_keywords)], narrowed := true }
def SchemaVariablesUptoSaid : Prop := schemaVariablesUptoRow.holds Tryd.pinned (OpenSpec.upto schemaVariablesSpec)

/-- 'disjointlaw12.SchemaValid', WHERE WHAT IT READS IS OF BULK AT MOST 1048576: true; the input reads as it did. -/
def schemaValidUptoRow : OpenClaim := { program := "ytcfmjomniaopcaadoor", sum := "611c4ca66780fd947b4acead156d719b941f3aa08c43fb6e432c11f856524971", func := "disjoint/disjointlaw12.SchemaValid", spec := "schemaValid", unfollowed := true, recurses := true, named := ["disjoint/lexer.keywords"], loops := true, apart := false, laid := [("disjoint/lexer.keywords", laid_disjoint_lexer_keywords)], narrowed := true }
def SchemaValidUptoSaid : Prop := schemaValidUptoRow.holds Tryd.pinned (OpenSpec.upto schemaValidSpec)

/-- 'disjointlaw12.SchemaBuildsValid', WHERE WHAT IT READS IS OF BULK AT MOST 1048576: true; the input reads as it did. -/
def schemaBuildsValidUptoRow : OpenClaim := { program := "ytcfmjomniaopcaadoor", sum := "611c4ca66780fd947b4acead156d719b941f3aa08c43fb6e432c11f856524971", func := "disjoint/disjointlaw12.SchemaBuildsValid", spec := "schemaBuildsValid", unfollowed := true, recurses := true, named := ["disjoint/lexer.keywords"], loops := true, apart := false, laid := [("disjoint/lexer.keywords", laid_disjoint_lexer_keywords)], narrowed := true }
def SchemaBuildsValidUptoSaid : Prop := schemaBuildsValidUptoRow.holds Tryd.pinned (OpenSpec.upto schemaBuildsValidSpec)

/-- 'disjointlaw12.SchemaFits', WHERE WHAT IT READS IS OF BULK AT MOST 1048576: true; the input reads as it did. -/
def schemaFitsUptoRow : OpenClaim := { program := "ytcfmjomniaopcaadoor", sum := "611c4ca66780fd947b4acead156d719b941f3aa08c43fb6e432c11f856524971", func := "disjoint/disjointlaw12.SchemaFits", spec := "schemaFits", unfollowed := true, recurses := true, named := ["disjoint/lexer.keywords"], loops := true, apart := false, laid := [("disjoint/lexer.keywords", laid_disjoint_lexer_keywords)], narrowed := true }
def SchemaFitsUptoSaid : Prop := schemaFitsUptoRow.holds Tryd.pinned (OpenSpec.upto schemaFitsSpec)

end Rows
end Go.Proofs.YtcfmjomniaopcaaDoor
