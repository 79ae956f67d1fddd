/- A part of the proof: see the last text. -/
import Derived.Test.YtcfmjomniaopcaaDoorR2Tbl
set_option linter.unusedSimpArgs false
set_option linter.unusedVariables false
/- The reference's Build. -/
namespace Go.Eng
open Go Go.Proofs
def stepR (s : List Tbl) (x : Stm) : Except Int Tbl :=
  bif x.kind.1 != 1 then .error 1 else bif decide (8 ≤ s.length) || bigB x then .error 3 else bif okB x then (bif exB s x then .error 5 else
    match tabR s x with
    | some (t, e) => (match e == 0 with | true => .ok t | false => .error e)
    | none => .error 4) else .error 1
/-- The tables of statements. -/
def bldF (step : List Tbl → Stm → Except Int Tbl) (s : List Tbl) : List Stm → Except (Nat × Int) (List Tbl)
  | [] => .ok s
  | x :: r => match step s x with
    | .ok t => bldF step (s ++ [t]) r
    | .error e => .error (s.length, e)
def bldT : Except (Nat × Int) (List Tbl) → D
  | .ok s => .tuple [sl 5 encTbl (cn s), .int .i64 0, .int .i64 0]
  | .error (i, e) => .tuple [.nil, .int .i64 (i : Int), .int .i64 e]
end Go.Eng
