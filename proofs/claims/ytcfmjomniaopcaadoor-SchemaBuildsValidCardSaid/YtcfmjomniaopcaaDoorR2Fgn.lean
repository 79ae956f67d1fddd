/- A part of the proof: see the last text. -/
import Derived.Test.YtcfmjomniaopcaaDoorR2Copy
set_option linter.unusedSimpArgs false
set_option linter.unusedVariables false
/- Foreign keys: how the program finds them. -/
namespace Go.Eng
open Go Go.Proofs
/-- What a foreign key of a statement is in a schema: it, the table, the numbers of the columns there. pk: which of equal keys. -/
def fgnOf (pk : (Sl I64 → Bool) → List (Sl I64) → Option Nat) (s : List Tbl) (cols : List Col) (f : FgS) : Option (Fgn × Tbl × List I64) :=
  match numsL cols [] f.cols.items, fnd (fun t : Tbl => t.name == f.table) 0 s with
  | some a, some n => (match s[n]? with
    | some u => (match numsL u.cols.items [] f.refs.items with
      | some b => (match pk (fun k => eqI k.items b) u.keys.items with
        | some j => some (⟨cn a, iN n, iN j⟩, u, b)
        | none => none)
      | none => none)
    | none => none)
  | _, _ => none
def fgT : Option (Fgn × Tbl × List I64) → D
  | some (g, _, _) => .tuple [encFgn g, .int .i64 0]
  | none => .tuple [.agg [.nil, .int .i64 0, .int .i64 0], .int .i64 4]
theorem numsL_len (cols : List Col) : ∀ (l : List Str) (acc r : List I64), numsL cols acc l = some r → r.length = acc.length + l.length
  | [], acc, r, h => by cases h; rfl
  | n :: t, acc, r, h => by
    rw [numsL] at h
    cases hf : fnd (fun c : Col => c.name == n) 0 cols with
    | none => rw [hf] at h; cases h
    | some k =>
      rw [hf] at h
      have := numsL_len cols t _ r h
      simp at this ⊢; omega
set_option maxRecDepth 20000 in
set_option maxHeartbeats 8000000 in
theorem eq154 (a b : Sl I64) (m : Mem) (id : Nat) (hm : m.boxes[id]? = some [sl 1 I b]) : callR (XG GK) TT 154 m [sl 1 I a, .ptr id 0] = some (.bool (eqI a.items b.items), m) := by
  refine callR_val T154 rfl ?_
  unfold Tryd.f154
  simp only [Option.getD_some]
  have c := equal120 (G := GK) a b
  simp (decide:=true) only[go_sem,Nat.reduceAdd,Nat.reduceMul,Nat.reduceSub,hm,callR_own pf120,c]
  repeat (first|(with_reducible first|refine q1 ?_|refine q2 ?_|refine q3 ?_|refine q4 ?_|refine q5 ?_|refine q6 ?_|refine q7 ?_|refine q8 ?_|refine q9 ?_|refine q10 ?_|refine q11 ?_|refine q12 (by decide) ?_)|((first|with_reducible refine q13 ?_|((with_reducible refine q14 ?_ ?_);focus exact rfl));intro K hK;simp (decide:=true) only[go_sem,Nat.reduceAdd,Nat.reduceMul,Nat.reduceSub,hm,callR_own pf120,c];with_reducible refine hK _ ?_;clear hK K)|(with_reducible refine q15 ?_;intro K J hK hJ;simp (decide:=true) only[go_sem,Nat.reduceAdd,Nat.reduceMul,Nat.reduceSub,hm,callR_own pf120,c];(with_reducible first|refine hK ?_|refine hJ ?_);clear hK hJ K J))
  simp (decide:=true) only[go_sem,Nat.reduceAdd,Nat.reduceMul,Nat.reduceSub,hm,callR_own pf120,c]
end Go.Eng
