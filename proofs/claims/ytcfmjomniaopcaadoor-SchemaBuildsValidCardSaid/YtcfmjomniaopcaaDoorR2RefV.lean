/- A part of the proof: see the last text. -/
import Derived.Test.YtcfmjomniaopcaaDoorR2Def
set_option linter.unusedSimpArgs false
set_option linter.unusedVariables false
/- The reference's Valid. -/
namespace Go.Eng
open Go Go.Proofs
variable {G : Nat → Option (List D)}
def insK (t : Tbl) (k : Sl I64) : Bool := k.items.all (inB t.cols.items.length)
def insF (s : List Tbl) (n : Nat) (t : Tbl) (f : Fgn) : Bool := f.cols.items.all (inB t.cols.items.length) && (decide (0 ≤ f.table.1) && (decide (f.table.1 ≤ (n : Int)) && (decide (0 ≤ f.key.1) && match atI s f.table.1 with
  | some u => decide (f.key.1 < (u.keys.items.length : Int))
  | none => false)))
def insL (s : List Tbl) : Nat → List Tbl → Bool
  | _, [] => true
  | n, t :: r => (t.keys.items.all (insK t) && t.fgns.items.all (insF s n t)) && insL s (n + 1) r
def bOk : Except (Nat × Int) (List Tbl) → Bool
  | .ok _ => true
  | .error (_, e) => e == 0
theorem atI_get {α : Type} {l : List α} {n : Int} {a : α} (h : atI l n = some a) : ∃ k : Nat, n = k ∧ l[k]? = some a := by
  cases n with
  | ofNat k => exact ⟨k, rfl, h⟩
  | negSucc k => cases h
end Go.Eng
