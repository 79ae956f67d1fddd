/- A part of the proof: see the last text. -/
import Derived.Test.YtcfmjomniaopcaaDoorR2Tbl
set_option linter.unusedSimpArgs false
set_option linter.unusedVariables false
/- schema.Valid. -/
namespace Go.Eng
open Go Go.Proofs
open Nat (reduceAdd reduceMul reduceSub)
set_option maxRecDepth 20000
set_option maxHeartbeats 32000000
attribute [local irreducible] wpI endP
/-- The names of numbers of columns. -/
def nameAt (cols : List Col) (x : I64) : Str := match atI cols x.1 with | some c => c.name | none => []
def inB (n : Nat) (c : I64) : Bool := decide (0 ≤ c.1) && decide (c.1 < (n : Int))
def cofB (cols : List Col) (l : List I64) : Bool := decide ((0 : Int) < (l.length : Int)) && (!dupI l && l.all (inB cols.length))
/-- Is a foreign key right? -/
def fgV (s : List Tbl) (n : Nat) (t : Tbl) (f : Fgn) : Bool :=
  cofB t.cols.items f.cols.items && (decide (0 ≤ f.table.1) && (decide (f.table.1 ≤ (n : Int)) && (decide (0 ≤ f.key.1) && match atI s f.table.1 with
    | some u => (match atI u.keys.items f.key.1 with
      | some k => ((k.items.length : Int) == (f.cols.items.length : Int)) && (cofB u.cols.items k.items && typF u.cols.items t.cols.items k.items f.cols.items)
      | none => false)
    | none => false)))
end Go.Eng
