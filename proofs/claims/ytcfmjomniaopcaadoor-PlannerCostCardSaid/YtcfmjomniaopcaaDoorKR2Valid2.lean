/- A part of the proof: see the last text. -/
import Derived.Test.YtcfmjomniaopcaaDoorR2Tbl
set_option linter.unusedSimpArgs false
set_option linter.unusedVariables false
/- schema.Valid. -/
namespace Go.Eng
open Go Go.Proofs
open Nat (reduceAdd reduceMul reduceSub)
set_option maxRecDepth 20000
set_option maxHeartbeats 32000000
/-- The names of numbers of columns. -/
def nameAt (cols : List Col) (x : I64) : Str := match atI cols x.1 with | some c => c.name | none => []
def inB (n : Nat) (c : I64) : Bool := decide (0 ≤ c.1) && decide (c.1 < (n : Int))
def cofB (cols : List Col) (l : List I64) : Bool := decide ((0 : Int) < (l.length : Int)) && (!dupI l && l.all (inB cols.length))
theorem atI_lt {α : Type} {l : List α} {n : Int} (h0 : 0 ≤ n) (h1 : n < (l.length : Int)) : ∃ a, atI l n = some a := by
  obtain ⟨k, rfl⟩ : ∃ k : Nat, n = k := ⟨n.toNat, by omega⟩
  exact ⟨_, List.getElem?_eq_getElem (l := l) (i := k) (by omega)⟩
/-- Is a foreign key right? -/
def fgV (s : List Tbl) (n : Nat) (t : Tbl) (f : Fgn) : Bool :=
  cofB t.cols.items f.cols.items && (decide (0 ≤ f.table.1) && (decide (f.table.1 ≤ (n : Int)) && (decide (0 ≤ f.key.1) && match atI s f.table.1 with
    | some u => (match atI u.keys.items f.key.1 with
      | some k => ((k.items.length : Int) == (f.cols.items.length : Int)) && (cofB u.cols.items k.items && typF u.cols.items t.cols.items k.items f.cols.items)
      | none => false)
    | none => false)))
end Go.Eng
/- schema.Valid: a table, a schema. -/
namespace Go.Eng
open Go Go.Proofs
open Nat (reduceAdd reduceMul reduceSub)
set_option maxRecDepth 20000
set_option maxHeartbeats 32000000
theorem at1 {α : Type} (g : List α) (a : α) (r : List α) : (g ++ [a] ++ r)[g.length]? = some a := by simp
def keysV (cols : List Col) (seen : List (Sl I64)) : List (Sl I64) → Bool
  | [] => true
  | k :: r => (cofB cols k.items && !(seen.any fun o => eqI k.items o.items)) && keysV cols (seen ++ [k]) r
def headV (t : Tbl) : Bool := nameB t.name && (decide (1 ≤ t.cols.items.length) && (decide (t.cols.items.length ≤ 8) && (decide (t.keys.items.length ≤ 4) && (decide (t.fgns.items.length ≤ 4) && decide (t.checks.items.length ≤ 4)))))
def validB (s : List Tbl) (n : Nat) (t : Tbl) : Bool := headV t && (decide (fnd (fun u : Tbl => u.name == t.name) 0 s = some n) && (t.cols.items.all colB && (!dupS (t.cols.items.map (·.name)) && (keysV t.cols.items [] t.keys.items && t.fgns.items.all (fgV s n t)))))
def valL (s : List Tbl) : Nat → List Tbl → Bool
  | _, [] => true
  | n, t :: r => validB s n t && valL s (n + 1) r
end Go.Eng
