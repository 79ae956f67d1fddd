/- A part of the proof: see the last text. -/
import Derived.Test.YtcfmjomniaopcaaDoorR2Fgn
import Derived.Test.YtcfmjomniaopcaaDoorKEngA2
set_option linter.unusedSimpArgs false
set_option linter.unusedVariables false
/- What is seen of a value that leads into boxes, wherever the boxes are as they were. -/
namespace Go.Eng
open Go Go.Proofs
/-- The boxes but the first are as they were. -/
def AgB (B : List (List D)) (m : Mem) : Prop := (∀ i c, 0 < i → B[i]? = some c → m.boxes[i]? = some c) ∧ B.length ≤ m.boxes.length
theorem AgB.refl (B : List (List D)) (tk : List Nat) : AgB B ⟨B, tk⟩ := ⟨fun _ _ _ h => h, Nat.le_refl _⟩
theorem AgB.app (B C : List (List D)) (tk : List Nat) : AgB B ⟨B ++ C, tk⟩ := ⟨fun i c _ h => by
  show (B ++ C)[i]? = some c
  rw [List.getElem?_append_left (List.getElem?_eq_some_iff.1 h).1]; exact h, by simp⟩
theorem AgB.pre {B C : List (List D)} (h : B <+: C) {m : Mem} (hm : AgB C m) : AgB B m := by
  obtain ⟨r, rfl⟩ := h
  refine ⟨fun i c hi hc => hm.1 i c hi ?_, ?_⟩
  · rw [List.getElem?_append_left (List.getElem?_eq_some_iff.1 hc).1]; exact hc
  · have := hm.2; simp at this; omega
theorem AgB.cons {a b : List D} {g : List (List D)} {m : Mem} (h : AgB (a :: g) m) : AgB (b :: g) m := by
  refine ⟨fun i c hi hc => h.1 i c hi ?_, h.2⟩
  obtain ⟨j, rfl⟩ : ∃ j, i = j + 1 := ⟨i - 1, by omega⟩
  exact hc
def Sees (B : List (List D)) (d r : D) : Prop := ∀ m : Mem, AgB B m → stripF (frzM m m.boxes.length) d = r
def SeesL (B : List (List D)) (d r : List D) : Prop := ∀ m : Mem, AgB B m → stripFL (frzM m m.boxes.length) d = r
theorem Sees.pre {B C : List (List D)} {d r : D} (h : Sees B d r) (hp : B <+: C) : Sees C d r := fun m hm => h m (hm.pre hp)
theorem SeesL.pre {B C : List (List D)} {d r : List D} (h : SeesL B d r) (hp : B <+: C) : SeesL C d r := fun m hm => h m (hm.pre hp)
theorem Sees.cons {a b : List D} {g : List (List D)} {d r : D} (h : Sees (a :: g) d r) : Sees (b :: g) d r := fun m hm => h m hm.cons
theorem SeesL.cons {a b : List D} {g : List (List D)} {d r : List D} (h : SeesL (a :: g) d r) : SeesL (b :: g) d r := fun m hm => h m hm.cons
theorem Sees.of {B : List (List D)} {d r : D} (h : ∀ g, stripF g d = r) : Sees B d r := fun _ _ => h _
theorem SeesL.nil {B : List (List D)} : SeesL B [] [] := fun _ _ => rfl
theorem SeesL.push {B : List (List D)} {d r : List D} {x y : D} (h : SeesL B d r) (hx : Sees B x y) : SeesL B (d ++ [x]) (r ++ [y]) := fun m hm => by
  rw [stripFL_append, h m hm]
  show r ++ [stripF _ x] = _
  rw [hx m hm]
theorem SeesL.acc {B : List (List D)} {b : List Nat} {k : Nat} {d r : List D} (h : SeesL B d r) : Sees B (accN b k d) (outD k r) := fun m hm => by
  have := h m hm
  cases d with
  | nil => have : ([] : List D) = r := this; subst this; rfl
  | cons a t =>
    simp only [accN, stripF_slice, this]
    cases r with
    | nil => rw [stripFL_cons] at this; cases this
    | cons b s => rfl
/-- A slice over the whole of a box, or none. -/
def BoxS {α : Type} (f : α → D) (B : List (List D)) (k : Nat) (d : D) (l : List α) : Prop := (l = [] ∧ d = .nil) ∨ (l ≠ [] ∧ ∃ id, 0 < id ∧ d = .rsl id 0 l.length k ∧ B[id]? = some (flat (l.map f)))
theorem BoxS.ok {α : Type} {f : α → D} {B : List (List D)} {k : Nat} {d : D} {l : List α} (h : BoxS f B k d l) : d.okC = true := by
  rcases h with ⟨_, rfl⟩ | ⟨_, _, _, rfl, _⟩ <;> rfl
theorem BoxS.cells {α : Type} {f : α → D} {B : List (List D)} {k : Nat} {d : D} {l : List α} (h : BoxS f B k d l) : d.cells = [d] := by
  rcases h with ⟨_, rfl⟩ | ⟨_, _, _, rfl, _⟩ <;> rfl
theorem BoxS.agree {α : Type} {f : α → D} {B B' : List (List D)} {k : Nat} {d : D} {l : List α} (h : BoxS f B k d l) (hb : ∀ i c, 0 < i → B[i]? = some c → B'[i]? = some c) : BoxS f B' k d l := by
  rcases h with h | ⟨h0, id, h1, h2, h3⟩
  · exact .inl h
  · exact .inr ⟨h0, id, h1, h2, hb id _ h1 h3⟩
theorem BoxS.sees {α : Type} {f : α → D} {B : List (List D)} {k : Nat} {d : D} {l : List α} (h : BoxS f B k d l) (hl : l.length < 4611686018427387904) (hk : ∀ a, (f a).cells.length = k) (hm : ∀ a, mkEl k (f a).cells = f a) (hs : ∀ (g : Nat → Nat → Nat → Nat → D) a, stripFL g (f a).cells = (f a).cells) : Sees B d (sl k f (cn l)) := fun m hA => by
  rcases h with ⟨rfl, rfl⟩ | ⟨h0, id, h1, rfl, h3⟩
  · unfold cn; rw [dif_pos (by simp)]; rfl
  · have := frz_rsl (m := m) (id := id) (n := l.length) (hA.1 id _ h1 h3) rfl hk hm hs
    show frzM m m.boxes.length id 0 l.length k = _
    rw [this, ← out_cn k f hl]
    cases l with
    | nil => exact absurd rfl h0
    | cons a r => rfl
theorem cn_self {α : Type} {s : Sl α} (h : s.items ≠ []) : s = cn s.items := by
  obtain ⟨o, ho⟩ := s
  cases o with
  | none => exact absurd rfl h
  | some l =>
    cases l with
    | nil => exact absurd rfl h
    | cons a r =>
      show _ = cn (a :: r)
      unfold cn
      rw [dif_pos (show (a :: r).length < 4611686018427387904 from ho)]; rfl
theorem I_len (a : I64) : (I a).cells.length = 1 := rfl
theorem I_mk (a : I64) : mkEl 1 (I a).cells = I a := rfl
theorem I_strip (g : Nat → Nat → Nat → Nat → D) (a : I64) : stripFL g (I a).cells = (I a).cells := rfl
theorem Col_len (a : Col) : (encCol a).cells.length = 6 := rfl
theorem Col_mk (a : Col) : mkEl 6 (encCol a).cells = encCol a := rfl
theorem Col_strip (g : Nat → Nat → Nat → Nat → D) (a : Col) : stripFL g (encCol a).cells = (encCol a).cells := rfl
theorem flat_I (l : List I64) : flat (l.map I) = l.map I := by
  induction l with
  | nil => rfl
  | cons a r ih => rw [List.map_cons, flat, ih]; rfl
theorem scal_fndT (o : Option Nat) : scal (fndT o) = true := by cases o <;> rfl
theorem frzL_cons (m : Mem) (d : D) (r : List D) : frzL m (d :: r) = stripF (frzM m m.boxes.length) d :: frzL m r := rfl
theorem frzL_nil (m : Mem) : frzL m [] = [] := rfl
end Go.Eng
