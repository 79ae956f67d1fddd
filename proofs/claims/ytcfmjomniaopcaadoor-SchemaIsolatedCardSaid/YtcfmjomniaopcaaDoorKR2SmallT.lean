/- A part of the proof: see the last text. -/
import Derived.Test.YtcfmjomniaopcaaDoorKR2Few
set_option linter.unusedSimpArgs false
set_option linter.unusedVariables false
namespace Go.Eng
open Go Go.Proofs
open Nat (reduceAdd reduceMul reduceSub)
set_option maxRecDepth 20000
set_option maxHeartbeats 32000000
attribute [local irreducible] wpI endP
variable {G : Nat → Option (List D)}
def SmallS (x : Stm) : Prop := x.cols.items.length ≤ 20 ∧ x.keys.items.length ≤ 10 ∧ x.fgns.items.length ≤ 10 ∧ x.checks.items.length ≤ 10 ∧ x.name.length ≤ 60 ∧ (∀ c ∈ x.cols.items, c.name.length ≤ 60) ∧ (∀ k ∈ x.keys.items, k.items.length ≤ 20) ∧ (∀ f ∈ x.fgns.items, f.cols.items.length ≤ 20 ∧ f.refs.items.length ≤ 20) ∧ ∀ e ∈ x.checks.items, FineE (encEx e)
theorem small (s : Sl Stm) : ∃ b, callP (XG G) TT 20 [sl 22 encStm s] = some (.bool b) ∧ (b = true → s.items.length ≤ 12 ∧ ∀ x ∈ s.items, SmallS x) := by
  suffices h : ∃ v, callP (XG G) TT 20 [sl 22 encStm s] = some v ∧ ∃ b, v = .bool b ∧ (b = true → s.items.length ≤ 12 ∧ ∀ x ∈ s.items, SmallS x) by
    obtain ⟨v, h1, b, rfl, h2⟩ := h; exact ⟨b, h1, h2⟩
  refine callP_body T20 rfl (by simp only [go_sem]) ?_
  unfold Tryd.f20
  simp only [Option.getD_some]
  simp +decide only[go_sem,reduceAdd,reduceMul,reduceSub]
  refine gw trivial ?_
  refine wpI_loop (T := Nat) [0, 3] (fun k => ⟨slL [(0, sl 22 encStm s), (3, .int .i64 (k : Int))], opL [], opL [], ⟨[], []⟩⟩) (fun k => k ≤ s.items.length ∧ ∀ x ∈ s.items.take k, SmallS x) (fun k => s.items.length - k) 0 rfl (by simp +decide only[go_sem,reduceAdd,reduceMul,reduceSub] <;> rfl) (by simp) ?_
  rintro k ⟨hk, hP⟩
  have hlt := s.lt
  by_cases h : k < s.items.length
  · have l_x : ((k : Int) < ((s.items).length : Int)) = True := by simp; omega
    obtain ⟨x, g_x⟩ : ∃ a_, (s.items)[k]? = some a_ := ⟨_, List.getElem?_eq_getElem (by assumption)⟩
    have w_x := wrap_nat k (by omega)
    refine gw (an l_x (an g_x (an w_x (an l_x (an g_x w_x))))) ?_
    by_cases c1 : (60 : Int) < (x.name.length : Int)
    · refine gw (an l_x (an g_x (an w_x (an l_x (an g_x (an w_x c1)))))) ?_
      simp +decide only[go_sem,reduceAdd,reduceMul,reduceSub,l_x,g_x,w_x]
      exact ⟨_, rfl, fun h => by cases h⟩
    by_cases c2 : (20 : Int) < (x.cols.items.length : Int)
    · refine gw (an l_x (an g_x (an w_x (an l_x (an g_x (an w_x (an c1 c2))))))) ?_
      simp +decide only[go_sem,reduceAdd,reduceMul,reduceSub,l_x,g_x,w_x]
      exact ⟨_, rfl, fun h => by cases h⟩
    by_cases c3 : (10 : Int) < (x.keys.items.length : Int)
    · refine gw (an l_x (an g_x (an w_x (an l_x (an g_x (an w_x (an c1 (an c2 c3)))))))) ?_
      simp +decide only[go_sem,reduceAdd,reduceMul,reduceSub,l_x,g_x,w_x]
      exact ⟨_, rfl, fun h => by cases h⟩
    by_cases c4 : (10 : Int) < (x.fgns.items.length : Int)
    · refine gw (an l_x (an g_x (an w_x (an l_x (an g_x (an w_x (an c1 (an c2 (an c3 c4))))))))) ?_
      simp +decide only[go_sem,reduceAdd,reduceMul,reduceSub,l_x,g_x,w_x]
      exact ⟨_, rfl, fun h => by cases h⟩
    by_cases c5 : (10 : Int) < (x.checks.items.length : Int)
    · refine gw (an l_x (an g_x (an w_x (an l_x (an g_x (an w_x (an c1 (an c2 (an c3 (an c4 c5)))))))))) ?_
      simp +decide only[go_sem,reduceAdd,reduceMul,reduceSub,l_x,g_x,w_x]
      exact ⟨_, rfl, fun h => by cases h⟩
    refine gw (an l_x (an g_x (an w_x (an l_x (an g_x (an w_x (an c1 (an c2 (an c3 (an c4 c5)))))))))) ?_
    refine wpI_loop (T := Nat) [0, 3, 4, 5] (fun k' => ⟨slL [(0, sl 22 encStm s), (3, .int .i64 (k : Int)), (4, .undef), (5, .int .i64 (k' : Int))], opL [(4, (4, 0))], opL [(4, [sl 6 encCol x.cols, sl 1 (sl 1 S) x.keys, sl 3 encFgS x.fgns, sl 8 encEx x.checks])], ⟨[], []⟩⟩) (fun k' => k' ≤ x.cols.items.length ∧ ∀ y ∈ x.cols.items.take k', y.name.length ≤ 60) (fun k' => x.cols.items.length - k') 0 rfl (by simp +decide only[go_sem,reduceAdd,reduceMul,reduceSub,l_x,g_x,w_x] <;> rfl) (by simp) ?_
    rintro k1 ⟨hk1, hP1⟩
    by_cases h1 : k1 < x.cols.items.length
    · have l_y : ((k1 : Int) < ((x.cols.items).length : Int)) = True := by simp; omega
      obtain ⟨y, g_y⟩ : ∃ a_, (x.cols.items)[k1]? = some a_ := ⟨_, List.getElem?_eq_getElem (by assumption)⟩
      have w_y := wrap_nat k1 (by omega)
      refine gw (an l_x (an g_x (an w_x (an l_y (an g_y (an w_y (an l_y (an g_y w_y)))))))) ?_
      by_cases c6 : (60 : Int) < (y.name.length : Int)
      · refine gw (an l_x (an g_x (an w_x (an l_y (an g_y (an w_y (an l_y (an g_y (an w_y c6))))))))) ?_
        simp +decide only[go_sem,reduceAdd,reduceMul,reduceSub,l_x,g_x,w_x,l_y,g_y,w_y]
        exact ⟨_, rfl, fun h => by cases h⟩
      · refine gw (an l_x (an g_x (an w_x (an l_y (an g_y (an w_y (an l_y (an g_y (an w_y c6))))))))) ?_
        exact ⟨k1 + 1, by simp +decide only[go_sem,reduceAdd,reduceMul,reduceSub,l_x,g_x,w_x,l_y,g_y,w_y] <;> rfl, ⟨by omega, take_all hP1 g_y (by omega)⟩, by omega⟩
    have l_e1 : ((k1 : Int) < ((x.cols.items).length : Int)) = False := by simp; omega
    rw [List.take_of_length_le (by omega)] at hP1
    refine gw (an l_x (an g_x (an w_x (an l_e1 l_e1)))) ?_
    refine wpI_loop (T := Nat) [0, 3, 4, 6] (fun k' => ⟨slL [(0, sl 22 encStm s), (3, .int .i64 (k : Int)), (4, .undef), (6, .int .i64 (k' : Int))], opL [(4, (4, 0))], opL [(4, [sl 6 encCol x.cols, sl 1 (sl 1 S) x.keys, sl 3 encFgS x.fgns, sl 8 encEx x.checks])], ⟨[], []⟩⟩) (fun k' => k' ≤ x.keys.items.length ∧ ∀ y ∈ x.keys.items.take k', y.items.length ≤ 20) (fun k' => x.keys.items.length - k') 0 rfl (by simp +decide only[go_sem,reduceAdd,reduceMul,reduceSub,l_x,g_x,w_x,l_e1] <;> rfl) (by simp) ?_
    rintro k2 ⟨hk2, hP2⟩
    by_cases h2 : k2 < x.keys.items.length
    · have l_y : ((k2 : Int) < ((x.keys.items).length : Int)) = True := by simp; omega
      obtain ⟨y, g_y⟩ : ∃ a_, (x.keys.items)[k2]? = some a_ := ⟨_, List.getElem?_eq_getElem (by assumption)⟩
      have w_y := wrap_nat k2 (by omega)
      obtain ⟨b, hb, hbt⟩ := few (G := G) 0 y
      refine gw (an l_x (an g_x (an w_x (an l_e1 (an l_y (an g_y (an w_y (an l_y (an g_y w_y))))))))) ?_
      cases b
      · refine gw (an l_x (an g_x (an w_x (an l_e1 (an l_y (an g_y (an w_y (an l_y (an g_y (an w_y hb)))))))))) ?_
        simp +decide only[go_sem,reduceAdd,reduceMul,reduceSub,l_x,g_x,w_x,l_e1,l_y,g_y,w_y]
        exact ⟨_, rfl, fun h => by cases h⟩
      · refine gw (an l_x (an g_x (an w_x (an l_e1 (an l_y (an g_y (an w_y (an l_y (an g_y (an w_y hb)))))))))) ?_
        exact ⟨k2 + 1, by simp +decide only[go_sem,reduceAdd,reduceMul,reduceSub,l_x,g_x,w_x,l_e1,l_y,g_y,w_y] <;> rfl, ⟨by omega, take_all hP2 g_y (by have := hbt rfl; omega)⟩, by omega⟩
    have l_e2 : ((k2 : Int) < ((x.keys.items).length : Int)) = False := by simp; omega
    rw [List.take_of_length_le (by omega)] at hP2
    refine gw (an l_x (an g_x (an w_x (an l_e1 (an l_e2 l_e2))))) ?_
    refine wpI_loop (T := Nat) [0, 3, 4, 7] (fun k' => ⟨slL [(0, sl 22 encStm s), (3, .int .i64 (k : Int)), (4, .undef), (7, .int .i64 (k' : Int))], opL [(4, (4, 0))], opL [(4, [sl 6 encCol x.cols, sl 1 (sl 1 S) x.keys, sl 3 encFgS x.fgns, sl 8 encEx x.checks])], ⟨[], []⟩⟩) (fun k' => k' ≤ x.fgns.items.length ∧ ∀ y ∈ x.fgns.items.take k', y.cols.items.length ≤ 20 ∧ y.refs.items.length ≤ 20) (fun k' => x.fgns.items.length - k') 0 rfl (by simp +decide only[go_sem,reduceAdd,reduceMul,reduceSub,l_x,g_x,w_x,l_e1,l_e2] <;> rfl) (by simp) ?_
    rintro k3 ⟨hk3, hP3⟩
    by_cases h3 : k3 < x.fgns.items.length
    · have l_y : ((k3 : Int) < ((x.fgns.items).length : Int)) = True := by simp; omega
      obtain ⟨y, g_y⟩ : ∃ a_, (x.fgns.items)[k3]? = some a_ := ⟨_, List.getElem?_eq_getElem (by assumption)⟩
      have w_y := wrap_nat k3 (by omega)
      obtain ⟨b, hb, hbt⟩ := few (G := G) 0 y.cols
      obtain ⟨b', hb', hbt2⟩ := few (G := G) 0 y.refs
      refine gw (an l_x (an g_x (an w_x (an l_e1 (an l_e2 (an l_y (an g_y (an w_y (an l_y (an g_y w_y)))))))))) ?_
      by_cases c6 : (60 : Int) < (y.table.length : Int)
      · refine gw (an l_x (an g_x (an w_x (an l_e1 (an l_e2 (an l_y (an g_y (an w_y (an l_y (an g_y (an w_y c6))))))))))) ?_
        simp +decide only[go_sem,reduceAdd,reduceMul,reduceSub,l_x,g_x,w_x,l_e1,l_e2,l_y,g_y,w_y]
        exact ⟨_, rfl, fun h => by cases h⟩
      cases b
      · refine gw (an l_x (an g_x (an w_x (an l_e1 (an l_e2 (an l_y (an g_y (an w_y (an l_y (an g_y (an w_y (an c6 hb)))))))))))) ?_
        simp +decide only[go_sem,reduceAdd,reduceMul,reduceSub,l_x,g_x,w_x,l_e1,l_e2,l_y,g_y,w_y]
        exact ⟨_, rfl, fun h => by cases h⟩
      cases b'
      · refine gw (an l_x (an g_x (an w_x (an l_e1 (an l_e2 (an l_y (an g_y (an w_y (an l_y (an g_y (an w_y (an c6 (an hb hb'))))))))))))) ?_
        simp +decide only[go_sem,reduceAdd,reduceMul,reduceSub,l_x,g_x,w_x,l_e1,l_e2,l_y,g_y,w_y]
        exact ⟨_, rfl, fun h => by cases h⟩
      · refine gw (an l_x (an g_x (an w_x (an l_e1 (an l_e2 (an l_y (an g_y (an w_y (an l_y (an g_y (an w_y (an c6 (an hb hb'))))))))))))) ?_
        exact ⟨k3 + 1, by simp +decide only[go_sem,reduceAdd,reduceMul,reduceSub,l_x,g_x,w_x,l_e1,l_e2,l_y,g_y,w_y] <;> rfl, ⟨by omega, take_all hP3 g_y (⟨by have := hbt rfl; omega, by have := hbt2 rfl; omega⟩)⟩, by omega⟩
    have l_e3 : ((k3 : Int) < ((x.fgns.items).length : Int)) = False := by simp; omega
    rw [List.take_of_length_le (by omega)] at hP3
    refine gw (an l_x (an g_x (an w_x (an l_e1 (an l_e2 (an l_e3 l_e3)))))) ?_
    refine wpI_loop (T := Nat) [0, 3, 4, 8] (fun k' => ⟨slL [(0, sl 22 encStm s), (3, .int .i64 (k : Int)), (4, .undef), (8, .int .i64 (k' : Int))], opL [(4, (4, 0))], opL [(4, [sl 6 encCol x.cols, sl 1 (sl 1 S) x.keys, sl 3 encFgS x.fgns, sl 8 encEx x.checks])], ⟨[], []⟩⟩) (fun k' => k' ≤ x.checks.items.length ∧ ∀ y ∈ x.checks.items.take k', FineE (encEx y)) (fun k' => x.checks.items.length - k') 0 rfl (by simp +decide only[go_sem,reduceAdd,reduceMul,reduceSub,l_x,g_x,w_x,l_e1,l_e2,l_e3] <;> rfl) (by simp) ?_
    rintro k4 ⟨hk4, hP4⟩
    by_cases h4 : k4 < x.checks.items.length
    · have l_y : ((k4 : Int) < ((x.checks.items).length : Int)) = True := by simp; omega
      obtain ⟨y, g_y⟩ : ∃ a_, (x.checks.items)[k4]? = some a_ := ⟨_, List.getElem?_eq_getElem (by assumption)⟩
      have w_y := wrap_nat k4 (by omega)
      obtain ⟨b, hb, hbt⟩ := fine (G := G) y 4
      refine gw (an l_x (an g_x (an w_x (an l_e1 (an l_e2 (an l_e3 (an l_y (an g_y (an w_y (an l_y (an g_y w_y))))))))))) ?_
      cases b
      · refine gw (an l_x (an g_x (an w_x (an l_e1 (an l_e2 (an l_e3 (an l_y (an g_y (an w_y (an l_y (an g_y (an w_y hb)))))))))))) ?_
        simp +decide only[go_sem,reduceAdd,reduceMul,reduceSub,l_x,g_x,w_x,l_e1,l_e2,l_e3,l_y,g_y,w_y]
        exact ⟨_, rfl, fun h => by cases h⟩
      · refine gw (an l_x (an g_x (an w_x (an l_e1 (an l_e2 (an l_e3 (an l_y (an g_y (an w_y (an l_y (an g_y (an w_y hb)))))))))))) ?_
        exact ⟨k4 + 1, by simp +decide only[go_sem,reduceAdd,reduceMul,reduceSub,l_x,g_x,w_x,l_e1,l_e2,l_e3,l_y,g_y,w_y] <;> rfl, ⟨by omega, take_all hP4 g_y (hbt rfl)⟩, by omega⟩
    have l_e4 : ((k4 : Int) < ((x.checks.items).length : Int)) = False := by simp; omega
    rw [List.take_of_length_le (by omega)] at hP4
    refine gw (an l_x (an g_x (an w_x (an l_e1 (an l_e2 (an l_e3 (an l_e4 (an l_e4 w_x)))))))) ?_
    refine ⟨k + 1, by simp +decide only[go_sem,reduceAdd,reduceMul,reduceSub,l_x,g_x,w_x,l_e1,l_e2,l_e3,l_e4] <;> rfl, ⟨by omega, ?_⟩, by omega⟩
    intro z hz
    rw [List.take_add_one, g_x] at hz
    rcases List.mem_append.1 hz with hz | hz
    · exact hP z hz
    · have hz : z = x := by simpa using hz
      subst hz
      exact ⟨by omega, by omega, by omega, by omega, by omega, hP1, hP2, hP3, hP4⟩
  · have l_x : ((k : Int) < ((s.items).length : Int)) = False := by simp; omega
    have ht : s.items.take k = s.items := List.take_of_length_le (by omega)
    rw [ht] at hP
    by_cases c : (s.items.length : Int) ≤ 12
    · refine gw (an l_x (an l_x c)) ?_
      simp +decide only[go_sem,reduceAdd,reduceMul,reduceSub,l_x]
      exact ⟨_, rfl, fun _ => ⟨by omega, hP⟩⟩
    · refine gw (an l_x (an l_x c)) ?_
      simp +decide only[go_sem,reduceAdd,reduceMul,reduceSub,l_x]
      exact ⟨_, rfl, fun h => by cases h⟩
end Go.Eng
namespace Go.Eng
open Go Go.Proofs
open Nat (reduceAdd reduceMul reduceSub)
set_option maxRecDepth 20000
set_option maxHeartbeats 32000000
attribute [local irreducible] wpI endP
variable {G : Nat → Option (List D)}
def SmallT (t : Tbl) : Prop := t.cols.items.length ≤ 20 ∧ t.keys.items.length ≤ 10 ∧ t.fgns.items.length ≤ 10 ∧ t.checks.items.length ≤ 10 ∧ (∀ y ∈ t.keys.items, y.items.length ≤ 20) ∧ (∀ y ∈ t.fgns.items, y.cols.items.length ≤ 20) ∧ t.name.length ≤ 60 ∧ (∀ c ∈ t.cols.items, c.name.length ≤ 60) ∧ ∀ e ∈ t.checks.items, FineE (encEx e)
def zeroRest : Rest 16 := ⟨[.nil, .nil, .nil, .nil, .int .i64 0, .str [], .str [], .int .i64 0, .int .i64 0, .int .i64 0, .str [], .nil, .nil, .nil, .int .i64 0, .str []], rfl, fun g => by simp only [go_sem]⟩
end Go.Eng
