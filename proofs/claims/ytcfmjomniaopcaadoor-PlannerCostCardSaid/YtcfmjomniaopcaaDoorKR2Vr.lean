/- A part of the proof: see the last text. -/
import Derived.Test.YtcfmjomniaopcaaDoorKR2Pg
import Derived.Test.YtcfmjomniaopcaaDoorKR2SmallT
import Derived.Test.YtcfmjomniaopcaaDoorKR2Pe
set_option linter.unusedSimpArgs false
set_option linter.unusedVariables false
/- The bound statement of a case. -/
namespace Go.Eng
open Go Go.Proofs
structure Cas where
  s : Sl Tbl
  fr : Sl I64
  al : Sl Str
  w : ExR
def encCas (c : Cas) : D := .agg [sl 5 encTbl c.s, sl 1 I c.fr, sl 1 S c.al, .int .i64 c.w.a.1, .str c.w.s, .str c.w.t, .int .i64 c.w.b.1, .int .i64 c.w.c.1, .int .i64 c.w.d.1, .str c.w.u, sl 8 encEx c.w.args]
@[go_sem] theorem encCas_eq (c : Cas) : encCas c = .agg [sl 5 encTbl c.s, sl 1 I c.fr, sl 1 S c.al, .int .i64 c.w.a.1, .str c.w.s, .str c.w.t, .int .i64 c.w.b.1, .int .i64 c.w.c.1, .int .i64 c.w.d.1, .str c.w.u, sl 8 encEx c.w.args] := rfl
@[go_sem] theorem elems_out (m : Mem) (k : Nat) (l : List D) : elemsOf m k (outD k l) = some l := by
  cases l with
  | nil => rfl
  | cons a r => simp [outD, elemsOf]
/-- Three lists that grow side by side. -/
def gT (i k : Nat) (l : List D) : D := match l with | [] => .nil | _ :: _ => .slice (some (i + 1)) k l
def gV (n : Nat) (l : List D) : List Nat := match n with | 0 => [] | k + 1 => [k + 1, k + 1] ++ (match l with | [] => [] | _ :: _ => [l.length])
def gV1 (n : Nat) (l : List D) : List Nat := match n with | 0 => [1] | k + 1 => [k + 2, k + 1] ++ (match l with | [] => [] | _ :: _ => [l.length])
def gV2 (n : Nat) (l : List D) : List Nat := [n + 1, n + 1] ++ (match l with | [] => [] | _ :: _ => [l.length])
theorem el_gT (m : Mem) (i k : Nat) (l : List D) : elemsOf m k (gT i k l) = some l := by
  cases l <;> simp [gT, elemsOf]
theorem okC_gT (i k : Nat) (l : List D) : (gT i k l).okC = true := by cases l <;> rfl
theorem cells_gT (i k : Nat) (l : List D) : (gT i k l).cells = [gT i k l] := by cases l <;> rfl
theorem strip_gT {g : Nat → Nat → Nat → Nat → D} (i k : Nat) {l : List D} (h : stripFL g l = l) : stripF g (gT i k l) = outD k l := by
  cases l with
  | nil => rfl
  | cons a r => simp only [gT, stripF_slice, h, outD]
theorem g_app0 (n : Nat) (l a : List D) (x : D) (ha : a.length = n) (h0 : n = 0 → l = []) : appendD 1 ⟨[], gV n l⟩ (gT 0 1 a) [x] = some (gT 0 1 (a ++ [x]), ⟨[], gV1 n l⟩) := by
  cases a with
  | nil => subst ha; simp [gT, gV, gV1, appendD]
  | cons y r => subst ha; simp [gT, gV, gV1, appendD]
theorem g_app1 (n : Nat) (l a : List D) (x : D) (ha : a.length = n) (h0 : n = 0 → l = []) : appendD 2 ⟨[], gV1 n l⟩ (gT 1 2 a) [x] = some (gT 1 2 (a ++ [x]), ⟨[], gV2 n l⟩) := by
  cases a with
  | nil => subst ha; simp [gT, gV1, gV2, appendD, h0]
  | cons y r => subst ha; simp [gT, gV1, gV2, appendD]
theorem g_app2 (n : Nat) (l xs : List D) : appendD 5 ⟨[], gV2 n l⟩ (gT 2 5 l) xs = some (gT 2 5 (l ++ xs), ⟨[], gV (n + 1) (l ++ xs)⟩) := by
  cases xs with
  | nil => simp [appendD, gV, gV2]
  | cons x xs => cases l <;> simp [gT, gV, gV2, appendD]
end Go.Eng
/- Variables returns the domains of the columns. -/
namespace Go.Eng
open Go Go.Proofs
open Nat (reduceAdd reduceMul reduceSub)
set_option maxRecDepth 20000
set_option maxHeartbeats 32000000
variable {G : Nat → Option (List D)}
theorem vars37 (t : Tbl) (ht : t.cols.items.length ≤ 20) : callP (XG G) TT 37 [encTbl t] = some (outD 5 (t.cols.items.map vr)) := by
  refine callP_val T37 rfl (by simp only [go_sem]) ?_
  unfold Tryd.f37
  simp only [Option.getD_some]
  simp +decide only[go_sem,reduceAdd,reduceMul,reduceSub]
  refine gw trivial ?_
  refine wpI_loop (T := Nat) [1, 3, 4] (fun k => ⟨slL [(1, .undef), (3, accD 5 ((t.cols.items.take k).map vr)), (4, .int .i64 (k : Int))], opL [(1, (1, 0))], opL [(1, [.str t.name, sl 6 encCol t.cols, sl 1 (sl 1 I) t.keys, sl 3 encFgn t.fgns, sl 8 encEx t.checks])], ⟨[], accT ((t.cols.items.take k).map vr)⟩⟩) (fun k => k ≤ t.cols.items.length) (fun k => t.cols.items.length - k) 0 rfl (by simp +decide only[go_sem,reduceAdd,reduceMul,reduceSub] <;> rfl) (by simp) ?_
  rintro k hk
  by_cases h : k < t.cols.items.length
  · have l_x : ((k : Int) < ((t.cols.items).length : Int)) = True := by simp; omega
    obtain ⟨x, g_x⟩ : ∃ a_, (t.cols.items)[k]? = some a_ := ⟨_, List.getElem?_eq_getElem (by assumption)⟩
    have w_x := wrap_nat k (by omega)
    have hl : (((t.cols.items.take k).map vr).length + 1 ≤ 16777216) = True := by
      have : ((t.cols.items.take k).map vr).length ≤ 20 := by rw [List.length_map]; exact Nat.le_trans (List.length_take_le' ..) ht
      simp only [eq_iff_iff, iff_true]; omega
    refine gw (an l_x (an g_x (an w_x (an l_x (an g_x (an w_x hl)))))) ?_
    refine ⟨k + 1, ?_, by omega, by omega⟩
    rw [List.take_add_one, g_x, List.map_append]
    exact by simp +decide only[go_sem,reduceAdd,reduceMul,reduceSub,l_x,g_x,w_x] <;> rfl
  · have l_x : ((k : Int) < ((t.cols.items).length : Int)) = False := by simp; omega
    rw [List.take_of_length_le (by omega)]
    refine gw (an l_x l_x) ?_
    simp +decide only[go_sem,reduceAdd,reduceMul,reduceSub,l_x]
    exact strip_acc (strip_vrs _)
end Go.Eng
