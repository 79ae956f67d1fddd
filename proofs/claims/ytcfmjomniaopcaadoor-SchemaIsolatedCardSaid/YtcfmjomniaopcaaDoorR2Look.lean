/- A part of the proof: see the last text. -/
import Derived.Test.YtcfmjomniaopcaaDoorKR2SmallT
import Derived.Test.YtcfmjomniaopcaaDoorR2Awake
set_option linter.unusedSimpArgs false
set_option linter.unusedVariables false
namespace Go.Eng
open Go Go.Proofs
open Nat (reduceAdd reduceMul reduceSub)
set_option maxRecDepth 20000
set_option maxHeartbeats 32000000
attribute [local irreducible] wpI endP
variable {G : Nat → Option (List D)}
/-- The first place from i on. -/
def fnd {α : Type} (p : α → Bool) : Nat → List α → Option Nat
  | _, [] => none
  | i, a :: r => match p a with | true => some i | false => fnd p (i + 1) r
def fndI : Option Nat → D
  | some k => .int .i64 (k : Int)
  | none => .int .i64 (-1)
def fndT : Option Nat → D
  | some k => .tuple [.int .i64 (k : Int), .bool true]
  | none => .tuple [.int .i64 0, .bool false]
theorem dropc {α : Type} {l : List α} {k : Nat} {a : α} (h : l[k]? = some a) : l.drop k = a :: l.drop (k + 1) := by
  obtain ⟨hk, rfl⟩ := List.getElem?_eq_some_iff.1 h
  exact List.drop_eq_getElem_cons hk
theorem find26 (s : Sl Tbl) (nm : Str) : callP (XG G) TT 26 [sl 5 encTbl s, .str nm] = some (fndT (fnd (fun t : Tbl => t.name == nm) 0 s.items)) := by
  refine callP_val T26 rfl (by simp only [go_sem]) ?_
  unfold Tryd.f26
  simp only [Option.getD_some]
  have hlt := s.lt
  simp +decide only[go_sem,reduceAdd,reduceMul,reduceSub]
  refine gw trivial ?_
  refine wpI_loop (T := Nat) [0, 1, 6] (fun k => ⟨slL [(0, sl 5 encTbl s), (1, .str nm), (6, .int .i64 (k : Int))], opL [], opL [], ⟨[], []⟩⟩) (fun k => k ≤ s.items.length ∧ fnd (fun t : Tbl => t.name == nm) k (s.items.drop k) = fnd (fun t : Tbl => t.name == nm) 0 s.items) (fun k => s.items.length - k) 0 rfl (by simp +decide only[go_sem,reduceAdd,reduceMul,reduceSub] <;> rfl) (by simp) ?_
  rintro k ⟨hk, hP⟩
  by_cases h : k < s.items.length
  · have l_x : ((k : Int) < ((s.items).length : Int)) = True := by simp; omega
    obtain ⟨x, g_x⟩ : ∃ a_, (s.items)[k]? = some a_ := ⟨_, List.getElem?_eq_getElem (by assumption)⟩
    have w_x := wrap_nat k (by omega)
    rw [dropc g_x, fnd] at hP
    cases c : (x.name == nm)
    · rw [c] at hP
      refine gw (an l_x (an g_x (an w_x (an l_x (an g_x (an w_x c)))))) ?_
      exact ⟨k + 1, by simp +decide only[go_sem,reduceAdd,reduceMul,reduceSub,l_x,g_x,w_x] <;> rfl, ⟨by omega, hP⟩, by omega⟩
    · rw [c] at hP
      refine gw (an l_x (an g_x (an w_x (an l_x (an g_x (an w_x c)))))) ?_
      simp +decide only[go_sem,reduceAdd,reduceMul,reduceSub,l_x,g_x,w_x]
      rw [← hP]
      rfl
  · have l_x : ((k : Int) < ((s.items).length : Int)) = False := by simp; omega
    rw [List.drop_eq_nil_of_le (by omega), fnd] at hP
    refine gw (an l_x l_x) ?_
    simp +decide only[go_sem,reduceAdd,reduceMul,reduceSub,l_x]
    rw [← hP]
    rfl
theorem f66c (t : Col) (nm : Str) : callR (XG G) TT 66 ⟨[[.str nm]], []⟩ [encCol t, .ptr 0 0] = some (.bool (t.name == nm), ⟨[[.str nm]], []⟩) := by
  refine callR_val T66 rfl ?_
  unfold Tryd.f66
  simp only [Option.getD_some]
  simp +decide only[go_sem,reduceAdd,reduceMul,reduceSub]
  refine gw trivial ?_
  simp +decide only[go_sem,reduceAdd,reduceMul,reduceSub]
theorem f65c (s : Sl Col) (nm : Str) : callR (XG G) TT 65 ⟨[[.str nm]], []⟩ [sl 6 encCol s, .func 66 [.ptr 0 0]] = some (fndI (fnd (fun t : Col => t.name == nm) 0 s.items), ⟨[[.str nm]], []⟩) := by
  refine callR_val T65 rfl ?_
  unfold Tryd.f65
  simp only [Option.getD_some]
  have hlt := s.lt
  simp +decide only[go_sem,reduceAdd,reduceMul,reduceSub]
  refine gw trivial ?_
  refine wpI_loop (T := Nat) [0, 1, 7, 8] (fun k => ⟨slL [(0, sl 6 encCol s), (1, .func 66 [.ptr 0 0]), (7, .int .i64 (s.items.length : Int)), (8, .int .i64 (k : Int))], opL [], opL [], ⟨[[.str nm]], []⟩⟩) (fun k => k ≤ s.items.length ∧ fnd (fun t : Col => t.name == nm) k (s.items.drop k) = fnd (fun t : Col => t.name == nm) 0 s.items) (fun k => s.items.length - k) 0 rfl (by simp +decide only[go_sem,reduceAdd,reduceMul,reduceSub] <;> rfl) (by simp) ?_
  rintro k ⟨hk, hP⟩
  by_cases h : k < s.items.length
  · have l_x : ((k : Int) < ((s.items).length : Int)) = True := by simp; omega
    obtain ⟨x, g_x⟩ : ∃ a_, (s.items)[k]? = some a_ := ⟨_, List.getElem?_eq_getElem (by assumption)⟩
    have w_x := wrap_nat k (by omega)
    rw [dropc g_x, fnd] at hP
    have hc := f66c (G := G) x nm
    simp only [encCol_eq] at hc
    cases c : (x.name == nm)
    · rw [c] at hc hP
      refine gw (an l_x (an g_x (an w_x (an l_x (an g_x (an w_x hc)))))) ?_
      exact ⟨k + 1, by simp +decide only[go_sem,reduceAdd,reduceMul,reduceSub,l_x,g_x,w_x] <;> rfl, ⟨by omega, hP⟩, by omega⟩
    · rw [c] at hc hP
      refine gw (an l_x (an g_x (an w_x (an l_x (an g_x (an w_x hc)))))) ?_
      simp +decide only[go_sem,reduceAdd,reduceMul,reduceSub,l_x,g_x,w_x]
      rw [← hP]
      exact ⟨rfl, trivial⟩
  · have l_x : ((k : Int) < ((s.items).length : Int)) = False := by simp; omega
    rw [List.drop_eq_nil_of_le (by omega), fnd] at hP
    refine gw (an l_x l_x) ?_
    simp +decide only[go_sem,reduceAdd,reduceMul,reduceSub,l_x]
    rw [← hP]
    exact ⟨rfl, trivial⟩
theorem col28 (t : Tbl) (nm : Str) : callP (XG G) TT 28 [encTbl t, .str nm] = some (fndT (fnd (fun t : Col => t.name == nm) 0 t.cols.items)) := by
  refine callP_val T28 rfl (by simp only [go_sem]) ?_
  unfold Tryd.f28
  simp only [Option.getD_some]
  have hlt := t.cols.lt
  simp +decide only[go_sem,reduceAdd,reduceMul,reduceSub]
  refine gw trivial ?_
  refine wpI_loop (T := Nat) [1, 2, 6] (fun k => ⟨slL [(1, .str nm), (2, .undef), (6, .int .i64 (k : Int))], opL [(2, (2, 0))], opL [(2, [.str t.name, sl 6 encCol t.cols, sl 1 (sl 1 I) t.keys, sl 3 encFgn t.fgns, sl 8 encEx t.checks])], ⟨[], []⟩⟩) (fun k => k ≤ t.cols.items.length ∧ fnd (fun t : Col => t.name == nm) k (t.cols.items.drop k) = fnd (fun t : Col => t.name == nm) 0 t.cols.items) (fun k => t.cols.items.length - k) 0 rfl (by simp +decide only[go_sem,reduceAdd,reduceMul,reduceSub] <;> rfl) (by simp) ?_
  rintro k ⟨hk, hP⟩
  by_cases h : k < t.cols.items.length
  · have l_x : ((k : Int) < ((t.cols.items).length : Int)) = True := by simp; omega
    obtain ⟨x, g_x⟩ : ∃ a_, (t.cols.items)[k]? = some a_ := ⟨_, List.getElem?_eq_getElem (by assumption)⟩
    have w_x := wrap_nat k (by omega)
    rw [dropc g_x, fnd] at hP
    cases c : (x.name == nm)
    · rw [c] at hP
      refine gw (an l_x (an g_x (an w_x (an l_x (an g_x (an w_x c)))))) ?_
      exact ⟨k + 1, by simp +decide only[go_sem,reduceAdd,reduceMul,reduceSub,l_x,g_x,w_x] <;> rfl, ⟨by omega, hP⟩, by omega⟩
    · rw [c] at hP
      refine gw (an l_x (an g_x (an w_x (an l_x (an g_x (an w_x c)))))) ?_
      simp +decide only[go_sem,reduceAdd,reduceMul,reduceSub,l_x,g_x,w_x]
      rw [← hP]
      rfl
  · have l_x : ((k : Int) < ((t.cols.items).length : Int)) = False := by simp; omega
    rw [List.drop_eq_nil_of_le (by omega), fnd] at hP
    refine gw (an l_x l_x) ?_
    simp +decide only[go_sem,reduceAdd,reduceMul,reduceSub,l_x]
    rw [← hP]
    rfl
theorem beqT {a b : Int} (h : a = b) : (a == b) = true := by simp [h]
theorem beqF {a b : Int} (h : ¬ a = b) : (a == b) = false := by simp [h]
end Go.Eng
