/- Part of the engine that proves it: see the last text. -/
import Derived.Test.YtcfmjomniaopcaaGreatDoorEngS2
set_option linter.unusedSimpArgs false
set_option linter.unusedVariables false
/- Rows of elements in boxes. -/
namespace Go.Eng
open Go
theorem flat_len {k : Nat} : ∀ {l : List D}, (∀ d ∈ l, d.cells.length = k) → (flat l).length = l.length * k
  | [], _ => by simp [flat]
  | d :: r, h => by
    rw [flat, List.length_append, h d List.mem_cons_self, flat_len (k := k) (l := r) fun x hx => h x (List.mem_cons_of_mem _ hx), List.length_cons, Nat.succ_mul]; omega
theorem flat_cut {k : Nat} : ∀ {l : List D} {i : Nat} {x : D}, (∀ d ∈ l, d.cells.length = k) → l[i]? = some x → ((flat l).drop (i * k)).take k = x.cells
  | d :: r, 0, x, h, g => by
    have g : d = x := by simpa using g
    subst g
    rw [flat, Nat.zero_mul, List.drop_zero, List.take_append_of_le_length (by rw [h d List.mem_cons_self]; exact Nat.le_refl _), List.take_of_length_le (by rw [h d List.mem_cons_self]; exact Nat.le_refl _)]
  | d :: r, i + 1, x, h, g => by
    have hd := h d List.mem_cons_self
    have e : (i + 1) * k = d.cells.length + i * k := by rw [hd, Nat.succ_mul, Nat.add_comm]
    rw [flat, e, List.drop_append, List.drop_eq_nil_of_le (by omega), List.nil_append, show d.cells.length + i * k - d.cells.length = i * k by omega]
    exact flat_cut (fun x hx => h x (List.mem_cons_of_mem _ hx)) (by simpa using g)
theorem setRow_same : ∀ (ds cs : List D) (off : Nat), (cs.drop off).take ds.length = ds → setRow cs off ds = cs
  | [], cs, off, _ => rfl
  | d :: r, cs, off, h => by
    have h0 : cs[off]? = some d := by
      have := congrArg (fun l => l[0]?) h
      simpa [List.getElem?_take, List.getElem?_drop] using this
    have h1 : cs.set off d = cs := by
      obtain ⟨hk, e⟩ := List.getElem?_eq_some_iff.1 h0
      rw [← e]; exact List.set_getElem_self hk
    rw [setRow, h1]
    refine setRow_same r cs (off + 1) ?_
    obtain ⟨hk, e⟩ := List.getElem?_eq_some_iff.1 h0
    rw [List.drop_eq_getElem_cons hk, List.length_cons, List.take_succ_cons] at h
    exact (List.cons.inj h).2
theorem chunks_flat {k : Nat} {α : Type} {f : α → D} (hk : ∀ a, (f a).cells.length = k) (hm : ∀ a, mkEl k (f a).cells = f a) : ∀ l : List α, chunks k l.length (flat (l.map f)) = l.map f
  | [] => rfl
  | a :: r => by
    rw [List.map_cons, flat, List.length_cons, chunks, List.take_append_of_le_length (by rw [hk]; exact Nat.le_refl _), List.take_of_length_le (by rw [hk]; exact Nat.le_refl _), hm, List.drop_append, List.drop_eq_nil_of_le (by rw [hk]; exact Nat.le_refl _), List.nil_append, hk, Nat.sub_self, List.drop_zero, chunks_flat hk hm r]
theorem strip_flat {g : Nat → Nat → Nat → Nat → D} {α : Type} {f : α → D} (h : ∀ a, stripFL g (f a).cells = (f a).cells) : ∀ l : List α, stripFL g (flat (l.map f)) = flat (l.map f)
  | [] => rfl
  | a :: r => by rw [List.map_cons, flat, stripFL_append, h, strip_flat h r]
@[go_sem] theorem appB_slice0 (k : Nat) (m : Mem) (t : Option Nat) (k' : Nat) (e es : List D) : appendB k m (.slice t k' e) es [] = some (.slice t k' e, m) := rfl
@[go_sem] theorem appB_nil0 (k : Nat) (m : Mem) (es : List D) : appendB k m .nil es [] = some (.nil, m) := rfl
@[go_sem] theorem appB_slice (k : Nat) (m : Mem) (k' : Nat) (e es : List D) (x : D) (xs : List D) : appendB k m (.slice (some 0) k' e) es (x :: xs) = some (.rsl m.boxes.length 0 (es ++ x :: xs).length k, { m with boxes := m.boxes ++ [flat (es ++ x :: xs)] }) := rfl
@[go_sem] theorem appB_nil (k : Nat) (m : Mem) (es : List D) (x : D) (xs : List D) : appendB k m .nil es (x :: xs) = some (.rsl m.boxes.length 0 (x :: xs).length k, { m with boxes := m.boxes ++ [flat (x :: xs)] }) := rfl
@[go_sem] theorem appB_rsl (k : Nat) (m : Mem) (id off len k' : Nat) (es : List D) (x : D) (xs : List D) : appendB k m (.rsl id off len k') es (x :: xs) = match m.boxes[id]? with
    | some cs => bif decide (k' = k) && (decide (off = 0) && (decide (cs.length = len * k) && decide (0 < len))) then some (.rsl m.boxes.length 0 (es ++ x :: xs).length k, { m with boxes := m.boxes.set id [] ++ [flat (es ++ x :: xs)] }) else none
    | none => none := rfl
/-- What a slice over a box becomes in the end. -/
theorem frz_rsl {α : Type} {k : Nat} {f : α → D} {l : List α} {m : Mem} {id : Nat} {n : Nat} (hb : m.boxes[id]? = some (flat (l.map f))) (hn : n = l.length) (hk : ∀ a, (f a).cells.length = k) (hm : ∀ a, mkEl k (f a).cells = f a) (hs : ∀ (g : Nat → Nat → Nat → Nat → D) a, stripFL g (f a).cells = (f a).cells) :
    frzM m m.boxes.length id 0 n k = .slice none k (l.map f) := by
  have hid : id < m.boxes.length := (List.getElem?_eq_some_iff.1 hb).1
  obtain ⟨N, hN⟩ : ∃ N, m.boxes.length = N + 1 := ⟨m.boxes.length - 1, by omega⟩
  rw [hN]
  subst hn
  have hl : (flat (l.map f)).length = l.length * k := by
    rw [flat_len (k := k) (fun d hd => by obtain ⟨a, _, rfl⟩ := List.mem_map.1 hd; exact hk a), List.length_map]
  simp only [frzM, hb, Nat.zero_add, hl, Nat.le_refl, decide_true, cond_true, List.drop_zero]
  rw [strip_flat (hs _), chunks_flat hk hm]
end Go.Eng
