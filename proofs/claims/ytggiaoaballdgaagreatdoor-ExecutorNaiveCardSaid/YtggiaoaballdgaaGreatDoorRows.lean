/-
  NARROWER THAN 'FOR EVERY INPUT', by the rows' own cells (each row's printed sentence says how): ExecutorRows: loops, laid · ExecutorNaive: loops, laid · ExecutorCount: loops, laid · ExecutorPlans: loops, laid · ExecutorIterators: loops, laid · ExecutorMatches: loops, laid.
  DERIVED. THE GIVEN ROWS OF THIS SEAT. 6 by the template 'for every input the law returns true; each argument reads behind the call as it read before'; 0 by the template 'total and deterministic' (their statements: YtggiaoaballdgaaGreatDoorTotals.lean).
  GIVEN WITH THE SEED: the statements are not yours to turn. If you find one false, say at which input.
  Laid BY PROGRAM, IN A SANDBOX (cutbox-rows.mjs): the forced cells as the released guide's own fill.sh prints them over the translation 11752569990fe417… (all of the seat's roots in one cut). By AI agents, Wed Nov 11 2026. No macro, syntax, notation, axiom, sorry.
-/
import Derived.Test.YtggiaoaballdgaaGreatDoorChecked
import GoSem.Claim
import GoSem.ClaimJoined
import GoSem.ClaimMapViews
import Derived.JoinedTies
import Derived.KernelRfl
namespace Go.Proofs.YtggiaoaballdgaaGreatDoor
/- THE CELL 'sum', in the pinned program and in every row, IS THE sha256 OF THE DUMP (.gsa) THAT YtggiaoaballdgaaGreatDoorProg.lean LOADS. Nothing in Lean hashes anything: it is a label: what it is worth is what the hold of that sum in a sandbox is worth. -/
noncomputable def Tryz.pinned : Pinned := { name := "ytggiaoaballdgaagreatdoor", sum := "11752569990fe4176516507f256b3fe0f8376d732ef934433605166181c605b0", checked := Tryz.checked }
namespace Rows
def none {H : Type} : Left H := { results := [], args := [] }

/- WHAT THE LISTED PACKAGE-LEVEL VARIABLES READ AS WHEN THE CALL BEGINS. Each datum BY PROGRAM (the guide's laid-datum.mjs) off the statement by which the dump's own 'gosem.cut.vars' lays the variable. In a bare row this is a premise. The card (YtggiaoaballdgaaGreatDoorCards.lean) ties it to the program's text. -/
def laid_disjoint_tribool_values {H : Type} : DataW H := .agg [.lit (.int .i64 0), .lit (.int .i64 2), .lit (.int .i64 1)]

/-- 'disjointlaw46.ExecutorRows': WHATEVER THE INPUT: true; the input reads as it did. -/
def executorRowsSpec : ChangeSpec := { name := "executorRows", fn := fun _ => fun
  | [d1, d2, d3] => { results := [.lit (.bool true)], args := [d1, d2, d3] }
  | _ => none }
def executorRowsRow : OpenClaim := { program := "ytggiaoaballdgaagreatdoor", sum := "11752569990fe4176516507f256b3fe0f8376d732ef934433605166181c605b0", func := "disjoint/disjointlaw46.ExecutorRows", spec := "executorRows", inPlace := ["internal/bytealg.abigen_runtime_cmpstring", "slices.overlaps[int64]", "slices.overlaps[disjoint/api.Row]", "slices.overlaps[*disjoint/btree.node[int64, disjoint/api.Row]]", "slices.overlaps[string]", "slices.overlaps[*disjoint/btree.node[string, int64]]"], unfollowed := true, recurses := true, named := ["disjoint/tribool.values"], loops := true, apart := false, laid := [("disjoint/tribool.values", laid_disjoint_tribool_values)] }
def ExecutorRowsSaid : Prop := executorRowsRow.holds Tryz.pinned (OpenSpec.ofChange executorRowsSpec)

/-- ITS FALSE NEIGHBOUR: 'it returns false'. Refute it at one input. -/
def executorRowsWrong : ChangeSpec := { name := "executorRows", fn := fun _ => fun
  | [d1, d2, d3] => { results := [.lit (.bool false)], args := [d1, d2, d3] }
  | _ => none }
def ExecutorRowsWrongFalsely : Prop := executorRowsRow.holds Tryz.pinned (OpenSpec.ofChange executorRowsWrong)

/-- 'disjointlaw46.ExecutorNaive': WHATEVER THE INPUT: true; the input reads as it did. -/
def executorNaiveSpec : ChangeSpec := { name := "executorNaive", fn := fun _ => fun
  | [d1, d2] => { results := [.lit (.bool true)], args := [d1, d2] }
  | _ => none }
def executorNaiveRow : OpenClaim := { program := "ytggiaoaballdgaagreatdoor", sum := "11752569990fe4176516507f256b3fe0f8376d732ef934433605166181c605b0", func := "disjoint/disjointlaw46.ExecutorNaive", spec := "executorNaive", inPlace := ["internal/bytealg.abigen_runtime_cmpstring", "slices.overlaps[int64]", "slices.overlaps[disjoint/api.Row]", "slices.overlaps[*disjoint/btree.node[int64, disjoint/api.Row]]", "slices.overlaps[string]", "slices.overlaps[*disjoint/btree.node[string, int64]]"], unfollowed := true, recurses := true, named := ["disjoint/tribool.values"], loops := true, apart := false, laid := [("disjoint/tribool.values", laid_disjoint_tribool_values)] }
def ExecutorNaiveSaid : Prop := executorNaiveRow.holds Tryz.pinned (OpenSpec.ofChange executorNaiveSpec)

/-- ITS FALSE NEIGHBOUR: 'it returns false'. Refute it at one input. -/
def executorNaiveWrong : ChangeSpec := { name := "executorNaive", fn := fun _ => fun
  | [d1, d2] => { results := [.lit (.bool false)], args := [d1, d2] }
  | _ => none }
def ExecutorNaiveWrongFalsely : Prop := executorNaiveRow.holds Tryz.pinned (OpenSpec.ofChange executorNaiveWrong)

/-- 'disjointlaw46.ExecutorCount': WHATEVER THE INPUT: true; the input reads as it did. -/
def executorCountSpec : ChangeSpec := { name := "executorCount", fn := fun _ => fun
  | [d1, d2, d3] => { results := [.lit (.bool true)], args := [d1, d2, d3] }
  | _ => none }
def executorCountRow : OpenClaim := { program := "ytggiaoaballdgaagreatdoor", sum := "11752569990fe4176516507f256b3fe0f8376d732ef934433605166181c605b0", func := "disjoint/disjointlaw46.ExecutorCount", spec := "executorCount", inPlace := ["internal/bytealg.abigen_runtime_cmpstring", "slices.overlaps[int64]", "slices.overlaps[disjoint/api.Row]", "slices.overlaps[*disjoint/btree.node[int64, disjoint/api.Row]]", "slices.overlaps[string]", "slices.overlaps[*disjoint/btree.node[string, int64]]"], unfollowed := true, recurses := true, named := ["disjoint/tribool.values"], loops := true, apart := false, laid := [("disjoint/tribool.values", laid_disjoint_tribool_values)] }
def ExecutorCountSaid : Prop := executorCountRow.holds Tryz.pinned (OpenSpec.ofChange executorCountSpec)

/-- ITS FALSE NEIGHBOUR: 'it returns false'. Refute it at one input. -/
def executorCountWrong : ChangeSpec := { name := "executorCount", fn := fun _ => fun
  | [d1, d2, d3] => { results := [.lit (.bool false)], args := [d1, d2, d3] }
  | _ => none }
def ExecutorCountWrongFalsely : Prop := executorCountRow.holds Tryz.pinned (OpenSpec.ofChange executorCountWrong)

/-- 'disjointlaw46.ExecutorPlans': WHATEVER THE INPUT: true; the input reads as it did. -/
def executorPlansSpec : ChangeSpec := { name := "executorPlans", fn := fun _ => fun
  | [d1, d2, d3] => { results := [.lit (.bool true)], args := [d1, d2, d3] }
  | _ => none }
def executorPlansRow : OpenClaim := { program := "ytggiaoaballdgaagreatdoor", sum := "11752569990fe4176516507f256b3fe0f8376d732ef934433605166181c605b0", func := "disjoint/disjointlaw46.ExecutorPlans", spec := "executorPlans", inPlace := ["internal/bytealg.abigen_runtime_cmpstring", "slices.overlaps[int64]", "slices.overlaps[disjoint/api.Row]", "slices.overlaps[*disjoint/btree.node[int64, disjoint/api.Row]]", "slices.overlaps[string]", "slices.overlaps[*disjoint/btree.node[string, int64]]"], unfollowed := true, recurses := true, named := ["disjoint/tribool.values"], loops := true, apart := false, laid := [("disjoint/tribool.values", laid_disjoint_tribool_values)] }
def ExecutorPlansSaid : Prop := executorPlansRow.holds Tryz.pinned (OpenSpec.ofChange executorPlansSpec)

/-- ITS FALSE NEIGHBOUR: 'it returns false'. Refute it at one input. -/
def executorPlansWrong : ChangeSpec := { name := "executorPlans", fn := fun _ => fun
  | [d1, d2, d3] => { results := [.lit (.bool false)], args := [d1, d2, d3] }
  | _ => none }
def ExecutorPlansWrongFalsely : Prop := executorPlansRow.holds Tryz.pinned (OpenSpec.ofChange executorPlansWrong)

/-- 'disjointlaw46.ExecutorIterators': WHATEVER THE INPUT: true; the input reads as it did. -/
def executorIteratorsSpec : ChangeSpec := { name := "executorIterators", fn := fun _ => fun
  | [d1, d2, d3] => { results := [.lit (.bool true)], args := [d1, d2, d3] }
  | _ => none }
def executorIteratorsRow : OpenClaim := { program := "ytggiaoaballdgaagreatdoor", sum := "11752569990fe4176516507f256b3fe0f8376d732ef934433605166181c605b0", func := "disjoint/disjointlaw46.ExecutorIterators", spec := "executorIterators", inPlace := ["internal/bytealg.abigen_runtime_cmpstring", "slices.overlaps[int64]", "slices.overlaps[disjoint/api.Row]", "slices.overlaps[*disjoint/btree.node[int64, disjoint/api.Row]]", "slices.overlaps[string]", "slices.overlaps[*disjoint/btree.node[string, int64]]"], unfollowed := true, recurses := true, named := ["disjoint/tribool.values"], loops := true, apart := false, laid := [("disjoint/tribool.values", laid_disjoint_tribool_values)] }
def ExecutorIteratorsSaid : Prop := executorIteratorsRow.holds Tryz.pinned (OpenSpec.ofChange executorIteratorsSpec)

/-- ITS FALSE NEIGHBOUR: 'it returns false'. Refute it at one input. -/
def executorIteratorsWrong : ChangeSpec := { name := "executorIterators", fn := fun _ => fun
  | [d1, d2, d3] => { results := [.lit (.bool false)], args := [d1, d2, d3] }
  | _ => none }
def ExecutorIteratorsWrongFalsely : Prop := executorIteratorsRow.holds Tryz.pinned (OpenSpec.ofChange executorIteratorsWrong)

/-- 'disjointlaw46.ExecutorMatches': WHATEVER THE INPUT: true; the input reads as it did. -/
def executorMatchesSpec : ChangeSpec := { name := "executorMatches", fn := fun _ => fun
  | [d1, d2, d3] => { results := [.lit (.bool true)], args := [d1, d2, d3] }
  | _ => none }
def executorMatchesRow : OpenClaim := { program := "ytggiaoaballdgaagreatdoor", sum := "11752569990fe4176516507f256b3fe0f8376d732ef934433605166181c605b0", func := "disjoint/disjointlaw46.ExecutorMatches", spec := "executorMatches", inPlace := ["internal/bytealg.abigen_runtime_cmpstring", "slices.overlaps[int64]", "slices.overlaps[disjoint/api.Row]", "slices.overlaps[*disjoint/btree.node[int64, disjoint/api.Row]]", "slices.overlaps[string]", "slices.overlaps[*disjoint/btree.node[string, int64]]"], unfollowed := true, recurses := true, named := ["disjoint/tribool.values"], loops := true, apart := false, laid := [("disjoint/tribool.values", laid_disjoint_tribool_values)] }
def ExecutorMatchesSaid : Prop := executorMatchesRow.holds Tryz.pinned (OpenSpec.ofChange executorMatchesSpec)

/-- ITS FALSE NEIGHBOUR: 'it returns false'. Refute it at one input. -/
def executorMatchesWrong : ChangeSpec := { name := "executorMatches", fn := fun _ => fun
  | [d1, d2, d3] => { results := [.lit (.bool false)], args := [d1, d2, d3] }
  | _ => none }
def ExecutorMatchesWrongFalsely : Prop := executorMatchesRow.holds Tryz.pinned (OpenSpec.ofChange executorMatchesWrong)

/- THE SECOND FORM. 'bulk': how many values and letters a reading holds, each counted each time it is reached (what is shared counts as often as it is met; a slice's spare places count too). A statement '..UptoSaid' is the law's where the arguments, and the package variables that the reading takes, are together of bulk at most 1048576: NARROWER than '..Said'. Prove '..Said' where nothing that the law and all that it calls make is longer than what came in: it says more and counts as full. Else prove '..UptoSaid'. A law counts once. -/
mutual
def uptoBulk {H : Type} : DataW H → Nat
  | .lit (.string bytes) => bytes.length + 1
  | .lit _ => 1
  | .nil => 1
  | .ptr d => uptoBulk d + 1
  | .slice elems spare => uptoBulkAll elems + uptoBulkAll spare + 1
  | .agg parts => uptoBulkAll parts + 1
  | .iface _ d => uptoBulk d + 1
  | .map entries => uptoBulkEntries entries + 1
  | .held _ => 1
def uptoBulkAll {H : Type} : List (DataW H) → Nat
  | [] => 0
  | d :: r => uptoBulk d + uptoBulkAll r
def uptoBulkEntries {H : Type} : List (Lit × DataW H) → Nat
  | [] => 0
  | x :: r => uptoBulkEntry x + uptoBulkEntries r
def uptoBulkEntry {H : Type} : Lit × DataW H → Nat
  | (.string bytes, d) => bytes.length + uptoBulk d + 1
  | (_, d) => uptoBulk d + 1
 end
def uptoSmall : (H : Type) → List (DataW H) → Bool := fun _ ds => decide (uptoBulkAll ds ≤ 1048576)
def OpenSpec.upto (s : _root_.Go.ChangeSpec) : _root_.Go.OpenSpec := { _root_.Go.OpenSpec.ofChange s with cond := some uptoSmall }

/-- 'disjointlaw46.ExecutorRows', WHERE WHAT IT READS IS OF BULK AT MOST 1048576: true; the input reads as it did. -/
def executorRowsUptoRow : OpenClaim := { program := "ytggiaoaballdgaagreatdoor", sum := "11752569990fe4176516507f256b3fe0f8376d732ef934433605166181c605b0", func := "disjoint/disjointlaw46.ExecutorRows", spec := "executorRows", inPlace := ["internal/bytealg.abigen_runtime_cmpstring", "slices.overlaps[int64]", "slices.overlaps[disjoint/api.Row]", "slices.overlaps[*disjoint/btree.node[int64, disjoint/api.Row]]", "slices.overlaps[string]", "slices.overlaps[*disjoint/btree.node[string, int64]]"], unfollowed := true, recurses := true, named := ["disjoint/tribool.values"], loops := true, apart := false, laid := [("disjoint/tribool.values", laid_disjoint_tribool_values)], narrowed := true }
def ExecutorRowsUptoSaid : Prop := executorRowsUptoRow.holds Tryz.pinned (OpenSpec.upto executorRowsSpec)

/-- 'disjointlaw46.ExecutorNaive', WHERE WHAT IT READS IS OF BULK AT MOST 1048576: true; the input reads as it did. -/
def executorNaiveUptoRow : OpenClaim := { program := "ytggiaoaballdgaagreatdoor", sum := "11752569990fe4176516507f256b3fe0f8376d732ef934433605166181c605b0", func := "disjoint/disjointlaw46.ExecutorNaive", spec := "executorNaive", inPlace := ["internal/bytealg.abigen_runtime_cmpstring", "slices.overlaps[int64]", "slices.overlaps[disjoint/api.Row]", "slices.overlaps[*disjoint/btree.node[int64, disjoint/api.Row]]", "slices.overlaps[string]", "slices.overlaps[*disjoint/btree.node[string, int64]]"], unfollowed := true, recurses := true, named := ["disjoint/tribool.values"], loops := true, apart := false, laid := [("disjoint/tribool.values", laid_disjoint_tribool_values)], narrowed := true }
def ExecutorNaiveUptoSaid : Prop := executorNaiveUptoRow.holds Tryz.pinned (OpenSpec.upto executorNaiveSpec)

/-- 'disjointlaw46.ExecutorCount', WHERE WHAT IT READS IS OF BULK AT MOST 1048576: true; the input reads as it did. -/
def executorCountUptoRow : OpenClaim := { program := "ytggiaoaballdgaagreatdoor", sum := "11752569990fe4176516507f256b3fe0f8376d732ef934433605166181c605b0", func := "disjoint/disjointlaw46.ExecutorCount", spec := "executorCount", inPlace := ["internal/bytealg.abigen_runtime_cmpstring", "slices.overlaps[int64]", "slices.overlaps[disjoint/api.Row]", "slices.overlaps[*disjoint/btree.node[int64, disjoint/api.Row]]", "slices.overlaps[string]", "slices.overlaps[*disjoint/btree.node[string, int64]]"], unfollowed := true, recurses := true, named := ["disjoint/tribool.values"], loops := true, apart := false, laid := [("disjoint/tribool.values", laid_disjoint_tribool_values)], narrowed := true }
def ExecutorCountUptoSaid : Prop := executorCountUptoRow.holds Tryz.pinned (OpenSpec.upto executorCountSpec)

/-- 'disjointlaw46.ExecutorPlans', WHERE WHAT IT READS IS OF BULK AT MOST 1048576: true; the input reads as it did. -/
def executorPlansUptoRow : OpenClaim := { program := "ytggiaoaballdgaagreatdoor", sum := "11752569990fe4176516507f256b3fe0f8376d732ef934433605166181c605b0", func := "disjoint/disjointlaw46.ExecutorPlans", spec := "executorPlans", inPlace := ["internal/bytealg.abigen_runtime_cmpstring", "slices.overlaps[int64]", "slices.overlaps[disjoint/api.Row]", "slices.overlaps[*disjoint/btree.node[int64, disjoint/api.Row]]", "slices.overlaps[string]", "slices.overlaps[*disjoint/btree.node[string, int64]]"], unfollowed := true, recurses := true, named := ["disjoint/tribool.values"], loops := true, apart := false, laid := [("disjoint/tribool.values", laid_disjoint_tribool_values)], narrowed := true }
def ExecutorPlansUptoSaid : Prop := executorPlansUptoRow.holds Tryz.pinned (OpenSpec.upto executorPlansSpec)

/-- 'disjointlaw46.ExecutorIterators', WHERE WHAT IT READS IS OF BULK AT MOST 1048576: true; the input reads as it did. -/
def executorIteratorsUptoRow : OpenClaim := { program := "ytggiaoaballdgaagreatdoor", sum := "11752569990fe4176516507f256b3fe0f8376d732ef934433605166181c605b0", func := "disjoint/disjointlaw46.ExecutorIterators", spec := "executorIterators", inPlace := ["internal/bytealg.abigen_runtime_cmpstring", "slices.overlaps[int64]", "slices.overlaps[disjoint/api.Row]", "slices.overlaps[*disjoint/btree.node[int64, disjoint/api.Row]]", "slices.overlaps[string]", "slices.overlaps[*disjoint/btree.node[string, int64]]"], unfollowed := true, recurses := true, named := ["disjoint/tribool.values"], loops := true, apart := false, laid := [("disjoint/tribool.values", laid_disjoint_tribool_values)], narrowed := true }
def ExecutorIteratorsUptoSaid : Prop := executorIteratorsUptoRow.holds Tryz.pinned (OpenSpec.upto executorIteratorsSpec)

/-- 'disjointlaw46.ExecutorMatches', WHERE WHAT IT READS IS OF BULK AT MOST 1048576: true; the input reads as it did. -/
def executorMatchesUptoRow : OpenClaim := { program := "ytggiaoaballdgaagreatdoor", sum := "11752569990fe4176516507f256b3fe0f8376d732ef934433605166181c605b0", func := "disjoint/disjointlaw46.ExecutorMatches", spec := "executorMatches", inPlace := ["internal/bytealg.abigen_runtime_cmpstring", "slices.overlaps[int64]", "slices.overlaps[disjoint/api.Row]", "slices.overlaps[*disjoint/btree.node[int64, disjoint/api.Row]]", "slices.overlaps[string]", "slices.overlaps[*disjoint/btree.node[string, int64]]"], unfollowed := true, recurses := true, named := ["disjoint/tribool.values"], loops := true, apart := false, laid := [("disjoint/tribool.values", laid_disjoint_tribool_values)], narrowed := true }
def ExecutorMatchesUptoSaid : Prop := executorMatchesUptoRow.holds Tryz.pinned (OpenSpec.upto executorMatchesSpec)

end Rows
end Go.Proofs.YtggiaoaballdgaaGreatDoor
