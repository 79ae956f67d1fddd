/- A part of the proof: see the last text. -/
import Derived.Test.YtcfmjomniaopcaaDoorR2Copy
set_option linter.unusedSimpArgs false
set_option linter.unusedVariables false
/- Foreign keys: how the program finds them. -/
namespace Go.Eng
open Go Go.Proofs
open Nat (reduceAdd reduceMul reduceSub)
set_option maxRecDepth 20000
set_option maxHeartbeats 32000000
attribute [local irreducible] wpI endP
/-- What a foreign key of a statement is in a schema: it, the table, the numbers of the columns there. pk: which of equal keys. -/
def fgnOf (pk : (Sl I64 → Bool) → List (Sl I64) → Option Nat) (s : List Tbl) (cols : List Col) (f : FgS) : Option (Fgn × Tbl × List I64) :=
  match numsL cols [] f.cols.items, fnd (fun t : Tbl => t.name == f.table) 0 s with
  | some a, some n => (match s[n]? with
    | some u => (match numsL u.cols.items [] f.refs.items with
      | some b => (match pk (fun k => eqI k.items b) u.keys.items with
        | some j => some (⟨cn a, iN n, iN j⟩, u, b)
        | none => none)
      | none => none)
    | none => none)
  | _, _ => none
def fgT : Option (Fgn × Tbl × List I64) → D
  | some (g, _, _) => .tuple [encFgn g, .int .i64 0]
  | none => .tuple [.agg [.nil, .int .i64 0, .int .i64 0], .int .i64 4]
theorem numsL_len (cols : List Col) : ∀ (l : List Str) (acc r : List I64), numsL cols acc l = some r → r.length = acc.length + l.length
  | [], acc, r, h => by cases h; rfl
  | n :: t, acc, r, h => by
    rw [numsL] at h
    cases hf : fnd (fun c : Col => c.name == n) 0 cols with
    | none => rw [hf] at h; cases h
    | some k =>
      rw [hf] at h
      have := numsL_len cols t _ r h
      simp at this ⊢; omega
theorem eq154 (a b : Sl I64) (m : Mem) (id : Nat) (hm : m.boxes[id]? = some [sl 1 I b]) : callR (XG GK) TT 154 m [sl 1 I a, .ptr id 0] = some (.bool (eqI a.items b.items), m) := by
  refine callR_val T154 rfl ?_
  unfold Tryd.f154
  simp only [Option.getD_some]
  have c := equal120 (G := GK) a b
  simp +decide only[go_sem,reduceAdd,reduceMul,reduceSub,hm,c]
  refine gw (an hm c) ?_
  simp +decide only[go_sem,reduceAdd,reduceMul,reduceSub,hm,c]
end Go.Eng
