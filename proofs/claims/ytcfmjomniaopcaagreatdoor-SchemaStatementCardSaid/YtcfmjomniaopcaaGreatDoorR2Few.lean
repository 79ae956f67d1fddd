/- A part of the proof: see the last text. -/
import Derived.Test.YtcfmjomniaopcaaGreatDoorR2Data
import Derived.Test.YtcfmjomniaopcaaGreatDoorR2Tab
set_option linter.unusedSimpArgs false
set_option linter.unusedVariables false
namespace Go.Eng
open Go Go.Proofs
open Nat (reduceAdd reduceMul reduceSub)
set_option maxRecDepth 20000
set_option maxHeartbeats 32000000
variable {G : Nat → Option (List D)}
theorem take_all {α : Type} {P : α → Prop} {l : List α} {k : Nat} {x : α} (h : ∀ y ∈ l.take k, P y) (g : l[k]? = some x) (hx : P x) : ∀ y ∈ l.take (k + 1), P y := by
  intro y hy
  rw [List.take_add_one, g] at hy
  rcases List.mem_append.1 hy with hy | hy
  · exact h y hy
  · have hy : y = x := by simpa using hy
    subst hy; exact hx
/-- No node of an expression has many operands. -/
inductive FineE : D → Prop
  | mk (r : ExR) (h : r.args.items.length ≤ 8) (k : ∀ x ∈ r.args.items, FineE (encEx x)) : FineE r.enc
/-- few: a bool. -/
theorem few (n : Int) (s : Sl (List UInt8)) : ∃ b, callP (XG G) TT 15 [.int .i64 n, sl 1 S s] = some (.bool b) ∧ (b = true → n ≤ 20 ∧ s.items.length ≤ 20) := by
  suffices h : ∃ v, callP (XG G) TT 15 [.int .i64 n, sl 1 S s] = some v ∧ ∃ b, v = .bool b ∧ (b = true → n ≤ 20 ∧ s.items.length ≤ 20) by
    obtain ⟨v, h1, b, rfl, h2⟩ := h; exact ⟨b, h1, h2⟩
  refine callP_body T15 rfl (by simp only [go_sem]) ?_
  unfold Tryz.f15
  simp only [Option.getD_some]
  simp +decide only[go_sem,reduceAdd,reduceMul,reduceSub]
  refine gw trivial ?_
  refine wpI_loop (T := Nat) [0, 1, 5] (fun k => ⟨slL [(0, .int .i64 n), (1, sl 1 S s), (5, .int .i64 (k : Int))], opL [], opL [], ⟨[], []⟩⟩) (fun k => k ≤ s.items.length) (fun k => s.items.length - k) 0 rfl (by simp +decide only[go_sem,reduceAdd,reduceMul,reduceSub] <;> rfl) (by simp) ?_
  rintro k hk
  have hlt := s.lt
  by_cases h : k < s.items.length
  · have h1 : ((k : Int) < (s.items.length : Int)) = True := by simp; omega
    obtain ⟨a, ha⟩ : ∃ a, s.items[k]? = some a := ⟨_, List.getElem?_eq_getElem h⟩
    have hw := wrap_nat k (by omega)
    refine gw (an h1 (an ha hw)) ?_
    by_cases h2 : (60 : Int) < a.length
    · refine gw (an h1 h2) ?_
      simp +decide only[go_sem,reduceAdd,reduceMul,reduceSub]
      exact ⟨_, rfl, fun h => by cases h⟩
    · refine gw (an h1 (an h2 hw)) ?_
      exact ⟨k + 1, by simp +decide only[go_sem,reduceAdd,reduceMul,reduceSub] <;> rfl, by omega, by omega⟩
  · have h1 : ((k : Int) < (s.items.length : Int)) = False := by simp; omega
    refine gw h1 ?_
    by_cases h2 : n ≤ 20
    · refine gw (an h1 h2) ?_
      simp +decide only[go_sem,reduceAdd,reduceMul,reduceSub]
      exact ⟨_, rfl, fun h => by simp at h; omega⟩
    · refine gw (an h1 h2) ?_
      simp +decide only[go_sem,reduceAdd,reduceMul,reduceSub]
      exact ⟨_, rfl, fun h => by simp at h⟩
theorem few_nil (n : Int) : ∃ b, callP (XG G) TT 15 [.int .i64 n, .nil] = some (.bool b) ∧ (b = true → n ≤ 20) := by
  obtain ⟨b, h1, h2⟩ := few (G := G) n ⟨none, by simp⟩
  exact ⟨b, h1, fun h => (h2 h).1⟩
/-- fine: a bool. -/
theorem fine_step (e : Ex) (n : Int) (r : ExR) (he : encEx e = r.enc) (ih : ∀ x ∈ r.args.items, ∀ n : Int, ∃ b, callP (XG G) TT 28 [encEx x, .int .i64 n] = some (.bool b) ∧ (b = true → FineE (encEx x))) :
    ∃ b, callP (XG G) TT 28 [encEx e, .int .i64 n] = some (.bool b) ∧ (b = true → FineE (encEx e)) := by
  suffices h : ∃ v, callP (XG G) TT 28 [encEx e, .int .i64 n] = some v ∧ ∃ b, v = .bool b ∧ (b = true → FineE (encEx e)) by
    obtain ⟨v, h1, b, rfl, h2⟩ := h; exact ⟨b, h1, h2⟩
  have hlt := r.args.lt
  rw [he]
  refine callP_body T28 rfl (by simp only [go_sem, strip_ExR]) ?_
  unfold Tryz.f28
  simp only [Option.getD_some]
  simp +decide only[go_sem,reduceAdd,reduceMul,reduceSub]
  refine gw trivial ?_
  by_cases h1 : n = 0
  · have h1 : (n == 0) = true := by simp [h1]
    refine gw h1 ?_
    simp +decide only[go_sem,reduceAdd,reduceMul,reduceSub]
    exact ⟨_, rfl, fun h => by cases h⟩
  have h1 : (n == 0) = false := by simp [h1]
  by_cases h2 : (8 : Int) < (r.args.items.length : Int)
  · refine gw (an h1 h2) ?_
    simp +decide only[go_sem,reduceAdd,reduceMul,reduceSub]
    exact ⟨_, rfl, fun h => by cases h⟩
  refine gw (an h1 h2) ?_
  have hw : ∃ b, decide (100 < IntKind.i64.wrap (IntKind.i64.wrap ((r.s.length : Int) + (r.t.length : Int)) + (r.u.length : Int))) = b := ⟨_, rfl⟩
  obtain ⟨b, hw⟩ := hw
  cases b
  · refine gw (an h1 (an h2 hw)) ?_
    refine wpI_loop (T := Nat) [1, 2, 5] (fun k => ⟨slL [(1, .int .i64 n), (2, .undef), (5, .int .i64 (k : Int))], opL [(2, (2, 0))], opL [(2, r.enc.cells)], ⟨[], []⟩⟩) (fun k => k ≤ r.args.items.length ∧ ∀ y ∈ r.args.items.take k, FineE (encEx y)) (fun k => r.args.items.length - k) 0 rfl (by simp +decide only[go_sem,reduceAdd,reduceMul,reduceSub] <;> rfl) (by simp) ?_
    rintro k ⟨hk, hP⟩
    by_cases h : k < r.args.items.length
    · have h3 : ((k : Int) < (r.args.items.length : Int)) = True := by simp; omega
      obtain ⟨a, ha⟩ : ∃ a, r.args.items[k]? = some a := ⟨_, List.getElem?_eq_getElem h⟩
      have hx := wrap_nat k (by omega)
      obtain ⟨b, hb, hbf⟩ := ih a (List.mem_of_getElem? ha) (IntKind.i64.wrap (n - 1))
      simp +decide only[go_sem,reduceAdd,reduceMul,reduceSub]
      refine gw (an h3 (an ha (an hx hb))) ?_
      cases b
      · refine gw (an h3 (an ha (an hx hb))) ?_
        simp +decide only[go_sem,reduceAdd,reduceMul,reduceSub]
        exact ⟨_, rfl, fun h => by cases h⟩
      · refine gw (an h3 (an ha (an hx hb))) ?_
        exact ⟨k + 1, by simp +decide only[go_sem,reduceAdd,reduceMul,reduceSub] <;> rfl, ⟨by omega, take_all hP ha (hbf rfl)⟩, by omega⟩
    · have h3 : ((k : Int) < (r.args.items.length : Int)) = False := by simp; omega
      refine gw h3 ?_
      simp +decide only[go_sem,reduceAdd,reduceMul,reduceSub]
      rw [List.take_of_length_le (by omega)] at hP
      exact ⟨_, rfl, fun _ => .mk r (by omega) hP⟩
  · refine gw (an h1 (an h2 hw)) ?_
    simp +decide only[go_sem,reduceAdd,reduceMul,reduceSub]
    exact ⟨_, rfl, fun h => by cases h⟩
theorem fine_n : ∀ (N : Nat) (e : Ex), SizeOf.sizeOf (encEx e) < N → ∀ n : Int, ∃ b, callP (XG G) TT 28 [encEx e, .int .i64 n] = some (.bool b) ∧ (b = true → FineE (encEx e))
  | 0, e, h, n => absurd h (Nat.not_lt_zero _)
  | N + 1, e, h, n => by
    obtain ⟨r, he, hs⟩ := e.open
    exact fine_step e n r he fun x hx n => fine_n N x (by have := hs x hx; omega) n
theorem fine (e : Ex) (n : Int) : ∃ b, callP (XG G) TT 28 [encEx e, .int .i64 n] = some (.bool b) ∧ (b = true → FineE (encEx e)) := fine_n _ e (Nat.lt_succ_self _) n
end Go.Eng
