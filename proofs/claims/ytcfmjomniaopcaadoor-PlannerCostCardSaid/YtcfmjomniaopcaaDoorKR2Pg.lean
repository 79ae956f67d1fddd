/- A part of the proof: see the last text. -/
import Derived.Test.YtcfmjomniaopcaaDoorKR2Pe
import Derived.Test.YtcfmjomniaopcaaDoorR2Awake
set_option linter.unusedSimpArgs false
set_option linter.unusedVariables false
/- What an expression is over; what a conjunct gives: the reference and the program say the same. -/
namespace Go.Eng
open Go Go.Proofs
open Nat (reduceAdd reduceMul reduceSub)
set_option maxRecDepth 20000
set_option maxHeartbeats 32000000
def stL (W : List Nat) : List D := (List.range (W.length + 1)).map fun i => .int .i64 (offW W i : Nat)
/-- The query of a statement. -/
def qC (s : Sl Tbl) (b : Bnd) (tg : Option Nat) (W : List Nat) (c : Sl Ex) : List D := [sl 5 encTbl s, .int .i64 5, .str [], .nil, .nil, .nil, .nil, .nil, .nil, .nil, sl 2 encSrc b.src, .int .i64 b.w.a.1, .str b.w.s, .str b.w.t, .int .i64 b.w.b.1, .int .i64 b.w.c.1, .int .i64 b.w.d.1, .str b.w.u, sl 8 encEx b.w.args, .nil, .nil, .int .i64 0, .str [], .int .i64 0, sl 1 I b.tabs, sl 5 vr b.vars, .nil, .slice tg 1 (stL W), sl 8 encEx c]
/-- Numbers of sources. -/
def Knw (W : List Nat) (l : List I64) : Prop := ∀ x ∈ l, ∃ n : Nat, x.1 = n ∧ n < W.length
/-- Does a variable belong to a source? -/
def inSrc (W : List Nat) (v : Int) (n : Nat) : Bool := decide ((offW W n : Int) ≤ v) && decide (v < (offW W (n + 1) : Int))
def inKnw (W : List Nat) (v : Int) (l : List I64) : Bool := l.any fun x => inSrc W v x.1.toNat
section
variable {G : Nat → Option (List D)} (s : Sl Tbl) (b : Bnd) (W : List Nat) (known : Sl I64)
theorem choose_mem {α β : Type} [Inhabited β] {P : α → β → Prop} {l : List α} (h : ∀ x ∈ l, ∃ v, P x v) : ∃ f : α → β, ∀ x ∈ l, P x (f x) := by
  classical
  refine ⟨fun x => if hx : x ∈ l then (h x hx).choose else default, fun x hx => ?_⟩
  simp only [hx, dif_pos]
  exact (h x hx).choose_spec
end
section
variable {G : Nat → Option (List D)} {s : Sl Tbl} {b : Bnd} {W : List Nat} (h : WOK s.items b.tabs.items W) {known : Sl I64} (hk : Knw W known.items)
include h hk
end
end Go.Eng
/- What a conjunct gives for a variable: the reference and the program. -/
namespace Go.Eng
open Go Go.Proofs
open Nat (reduceAdd reduceMul reduceSub)
set_option maxRecDepth 20000
set_option maxHeartbeats 32000000
noncomputable def root (e : Ex) : ExR := e.open.choose
theorem root_eq (e : Ex) : encEx e = (root e).enc := e.open.choose_spec.1
def colR (r : ExR) (v : Int) : Bool := r.a.1 == 2 && r.b.1 == v
noncomputable def gvA (f : Ex → Bool) (v op : Int) : List Ex → Option Ex
  | [x, y] => bif op == 10 && (colR (root x) v && f y) then some y else bif op == 10 && (colR (root y) v && f x) then some x else none
  | _ => none
noncomputable def gvF (f : Ex → Bool) (v : Int) (e : Ex) : Option Ex := gvA f v (root e).a.1 (root e).args.items
def zeroE : D := .agg [.int .i64 0, .str [], .str [], .int .i64 0, .int .i64 0, .int .i64 0, .str [], .nil]
def gvT : Option Ex → D
  | some x => .tuple [encEx x, .bool true]
  | none => .tuple [zeroE, .bool false]
def opE : D := .slice none 1 [.int .i64 10]
section
variable {G : Nat → Option (List D)}
end
end Go.Eng
