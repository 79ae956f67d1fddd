/- A part of the proof: see the last text. -/
import Derived.Test.YtcfmjomniaopcaaDoorR2Pf
import Derived.Test.YtcfmjomniaopcaaDoorR2SmallT
set_option linter.unusedSimpArgs false
set_option linter.unusedVariables false
/- The bound statement of a case. -/
namespace Go.Eng
open Go Go.Proofs
structure Cas where
  s : Sl Tbl
  fr : Sl I64
  al : Sl Str
  w : ExR
def encCas (c : Cas) : D := .agg [sl 5 encTbl c.s, sl 1 I c.fr, sl 1 S c.al, .int .i64 c.w.a.1, .str c.w.s, .str c.w.t, .int .i64 c.w.b.1, .int .i64 c.w.c.1, .int .i64 c.w.d.1, .str c.w.u, sl 8 encEx c.w.args]
@[go_sem] theorem encCas_eq (c : Cas) : encCas c = .agg [sl 5 encTbl c.s, sl 1 I c.fr, sl 1 S c.al, .int .i64 c.w.a.1, .str c.w.s, .str c.w.t, .int .i64 c.w.b.1, .int .i64 c.w.c.1, .int .i64 c.w.d.1, .str c.w.u, sl 8 encEx c.w.args] := rfl
@[go_sem] theorem elems_out (m : Mem) (k : Nat) (l : List D) : elemsOf m k (outD k l) = some l := by
  cases l with
  | nil => rfl
  | cons a r => simp [outD, elemsOf]
/-- Three lists that grow side by side. -/
def gT (i k : Nat) (l : List D) : D := match l with | [] => .nil | _ :: _ => .slice (some (i + 1)) k l
def gV (n : Nat) (l : List D) : List Nat := match n with | 0 => [] | k + 1 => [k + 1, k + 1] ++ (match l with | [] => [] | _ :: _ => [l.length])
def gV1 (n : Nat) (l : List D) : List Nat := match n with | 0 => [1] | k + 1 => [k + 2, k + 1] ++ (match l with | [] => [] | _ :: _ => [l.length])
def gV2 (n : Nat) (l : List D) : List Nat := [n + 1, n + 1] ++ (match l with | [] => [] | _ :: _ => [l.length])
theorem el_gT (m : Mem) (i k : Nat) (l : List D) : elemsOf m k (gT i k l) = some l := by
  cases l <;> simp [gT, elemsOf]
theorem okC_gT (i k : Nat) (l : List D) : (gT i k l).okC = true := by cases l <;> rfl
theorem cells_gT (i k : Nat) (l : List D) : (gT i k l).cells = [gT i k l] := by cases l <;> rfl
theorem strip_gT {g : Nat → Nat → Nat → Nat → D} (i k : Nat) {l : List D} (h : stripFL g l = l) : stripF g (gT i k l) = outD k l := by
  cases l with
  | nil => rfl
  | cons a r => simp only [gT, stripF_slice, h, outD]
theorem g_app0 (n : Nat) (l a : List D) (x : D) (ha : a.length = n) (h0 : n = 0 → l = []) : appendD 1 ⟨[], gV n l⟩ (gT 0 1 a) [x] = some (gT 0 1 (a ++ [x]), ⟨[], gV1 n l⟩) := by
  cases a with
  | nil => subst ha; simp [gT, gV, gV1, appendD]
  | cons y r => subst ha; simp [gT, gV, gV1, appendD]
theorem g_app1 (n : Nat) (l a : List D) (x : D) (ha : a.length = n) (h0 : n = 0 → l = []) : appendD 2 ⟨[], gV1 n l⟩ (gT 1 2 a) [x] = some (gT 1 2 (a ++ [x]), ⟨[], gV2 n l⟩) := by
  cases a with
  | nil => subst ha; simp [gT, gV1, gV2, appendD, h0]
  | cons y r => subst ha; simp [gT, gV1, gV2, appendD]
theorem g_app2 (n : Nat) (l xs : List D) : appendD 5 ⟨[], gV2 n l⟩ (gT 2 5 l) xs = some (gT 2 5 (l ++ xs), ⟨[], gV (n + 1) (l ++ xs)⟩) := by
  cases xs with
  | nil => simp [appendD, gV, gV2]
  | cons x xs => cases l <;> simp [gT, gV, gV2, appendD]
end Go.Eng
