/- A part of the proof: see the last text. -/
import Derived.Test.YtcfmjomniaopcaaDoorR2Pd
set_option linter.unusedSimpArgs false
set_option linter.unusedVariables false
/- Variables returns the domains of the columns. -/
namespace Go.Eng
open Go Go.Proofs
open Nat (reduceAdd reduceMul reduceSub)
set_option maxRecDepth 20000
set_option maxHeartbeats 32000000
variable {G : Nat → Option (List D)}
theorem vars37 (t : Tbl) (ht : t.cols.items.length ≤ 20) : callP (XG G) TT 37 [encTbl t] = some (outD 5 (t.cols.items.map vr)) := by
  refine callP_val T37 rfl (by simp only [go_sem]) ?_
  unfold Tryd.f37
  simp only [Option.getD_some]
  simp +decide only[go_sem,reduceAdd,reduceMul,reduceSub]
  refine gw trivial ?_
  refine wpI_loop (T := Nat) [1, 3, 4] (fun k => ⟨slL [(1, .undef), (3, accD 5 ((t.cols.items.take k).map vr)), (4, .int .i64 (k : Int))], opL [(1, (1, 0))], opL [(1, [.str t.name, sl 6 encCol t.cols, sl 1 (sl 1 I) t.keys, sl 3 encFgn t.fgns, sl 8 encEx t.checks])], ⟨[], accT ((t.cols.items.take k).map vr)⟩⟩) (fun k => k ≤ t.cols.items.length) (fun k => t.cols.items.length - k) 0 rfl (by simp +decide only[go_sem,reduceAdd,reduceMul,reduceSub] <;> rfl) (by simp) ?_
  rintro k hk
  by_cases h : k < t.cols.items.length
  · have l_x : ((k : Int) < ((t.cols.items).length : Int)) = True := by simp; omega
    obtain ⟨x, g_x⟩ : ∃ a_, (t.cols.items)[k]? = some a_ := ⟨_, List.getElem?_eq_getElem (by assumption)⟩
    have w_x := wrap_nat k (by omega)
    have hl : (((t.cols.items.take k).map vr).length + 1 ≤ 16777216) = True := by
      have : ((t.cols.items.take k).map vr).length ≤ 20 := by rw [List.length_map]; exact Nat.le_trans (List.length_take_le' ..) ht
      simp only [eq_iff_iff, iff_true]; omega
    refine gw (an l_x (an g_x (an w_x (an l_x (an g_x (an w_x hl)))))) ?_
    refine ⟨k + 1, ?_, by omega, by omega⟩
    rw [List.take_add_one, g_x, List.map_append]
    exact by simp +decide only[go_sem,reduceAdd,reduceMul,reduceSub,l_x,g_x,w_x] <;> rfl
  · have l_x : ((k : Int) < ((t.cols.items).length : Int)) = False := by simp; omega
    rw [List.take_of_length_le (by omega)]
    refine gw (an l_x l_x) ?_
    simp +decide only[go_sem,reduceAdd,reduceMul,reduceSub,l_x]
    exact strip_acc (strip_vrs _)
end Go.Eng
