/- A part of the proof: see the last text. -/
import Derived.Test.YtcfmjomniaopcaaDoorR2Fgn
import Derived.Test.YtcfmjomniaopcaaDoorEngA2
set_option linter.unusedSimpArgs false
set_option linter.unusedVariables false
/- The reference's table of a definition. -/
namespace Go.Eng
open Go Go.Proofs
theorem Like.ofAcc {α : Type} {k : Nat} {f : α → D} (b : List Nat) (l : List α) (hl : l.length < 4611686018427387904) (h : ∀ x, stripF noR (f x) = f x) : Like k f (cn l) (accN b k (l.map f)) where
  strip := by rw [strip_accN (stripFL_map f h l), out_cn k f hl]
  len := fun P u => by rw [lenT_accN, List.length_map, cn_items hl]
  idx := fun P t kk n => by
    rw [idxA_accN, cn_items hl]
    cases sliceSz P t with
    | none => rfl
    | some k' =>
      have : atI (l.map f) n = (atI l n).map f := by cases n <;> simp [atI]
      rw [this]
      cases atI l n <;> rfl
  ok := okC_accN _ _ _
  cells := cells_accN _ _ _
def nilS {α : Type} : Sl α := mkSl none (by simp)
@[go_sem] theorem sl_nilS {α : Type} (k : Nat) (f : α → D) : sl k f nilS = .nil := rfl
theorem cn_nil {α : Type} : (cn [] : Sl α) = nilS := by unfold cn; rw [dif_pos (by simp)]; rfl
/-- The numbers of the columns of keys. -/
def keysL (cols : List Col) (acc : List (Sl I64)) : List (Sl Str) → Option (List (Sl I64))
  | [] => some acc
  | k :: r => match numsL cols [] k.items with
    | some l => keysL cols (acc ++ [cn l]) r
    | none => none
/-- The last place. -/
def lastOf {α : Type} (p : α → Bool) : List α → Option Nat
  | [] => none
  | a :: r => match lastOf p r with
    | some j => some (j + 1)
    | none => match p a with | true => some 0 | false => none
def lastF {α : Type} (p : α → Bool) : Nat → Int → List α → Int
  | _, acc, [] => acc
  | i, acc, a :: r => lastF p (i + 1) (match p a with | true => (i : Int) | false => acc) r
theorem lastOf_some {α : Type} (p : α → Bool) : ∀ (l : List α) (j : Nat), lastOf p l = some j → ∃ x, l[j]? = some x ∧ p x = true
  | a :: r, j, h => by
    rw [lastOf] at h
    cases hr : lastOf p r with
    | some j' =>
      rw [hr] at h; cases h
      obtain ⟨x, h1, h2⟩ := lastOf_some p r j' hr
      exact ⟨x, by simpa using h1, h2⟩
    | none =>
      rw [hr] at h
      cases c : p a
      · rw [c] at h; cases h
      · rw [c] at h; cases h
        exact ⟨a, by simp, c⟩
/-- The foreign keys, and the error of types. -/
def fgsR (s : List Tbl) (cols : List Col) (acc : List Fgn) (e : Int) : List FgS → Option (List Fgn × Int)
  | [] => some (acc, e)
  | f :: r => match fgnOf lastOf s cols f with
    | some (g, u, b) => fgsR s cols (acc ++ [g]) (bif typF cols u.cols.items g.cols.items b then e else 6) r
    | none => none
theorem numsL_in (cols : List Col) (hc : cols.length < 4611686018427387904) : ∀ (l : List Str) (acc r : List I64), numsL cols acc l = some r → inC cols acc → inC cols r
  | [], acc, r, h, ha => by cases h; exact ha
  | n :: t, acc, r, h, ha => by
    rw [numsL] at h
    cases hf : fnd (fun c : Col => c.name == n) 0 cols with
    | none => rw [hf] at h; cases h
    | some k =>
      rw [hf] at h
      refine numsL_in cols hc t _ r h fun x hx => ?_
      rcases List.mem_append.1 hx with hx | hx
      · exact ha x hx
      · obtain rfl : x = iN k := by simpa using hx
        have hk := fnd_lt hf
        rw [iN_1 (by omega)]
        exact ⟨_, List.getElem?_eq_getElem hk⟩
def tabT : Option (Tbl × Int) → D
  | some (t, 0) => .tuple [encTbl t, .int .i64 0]
  | some (_, e) => .tuple [.agg [.str [], .nil, .nil, .nil, .nil], .int .i64 e]
  | none => .tuple [.agg [.str [], .nil, .nil, .nil, .nil], .int .i64 4]
/-- The reference's table. -/
def tabR (s : List Tbl) (x : Stm) : Option (Tbl × Int) :=
  match keysL x.cols.items [] x.keys.items with
  | some ks => (match fgsR (s ++ [⟨x.name, x.cols, cn ks, nilS, x.checks⟩]) x.cols.items [] 0 x.fgns.items with
    | some (fs, e) => some (⟨x.name, x.cols, cn ks, cn fs, x.checks⟩, e)
    | none => none)
  | none => none
theorem keysL_len (cols : List Col) : ∀ (l : List (Sl Str)) (acc r : List (Sl I64)), keysL cols acc l = some r → r.length = acc.length + l.length
  | [], acc, r, h => by cases h; rfl
  | n :: t, acc, r, h => by
    rw [keysL] at h
    cases hf : numsL cols [] n.items with
    | none => rw [hf] at h; cases h
    | some k =>
      rw [hf] at h
      have := keysL_len cols t _ r h
      simp at this ⊢; omega
end Go.Eng
