/- A part of the proof: see the last text. -/
import Derived.Test.YtcfmjomniaopcaaDoorR2Add1
set_option linter.unusedSimpArgs false
set_option linter.unusedVariables false
/- The builder's add. -/
namespace Go.Eng
open Go Go.Proofs
/-- The foreign keys of a definition. -/
def fgsI (s : List TblC) (cols : List Col) (acc : List Fgn) : List FgS → Option (List Fgn)
  | [] => some acc
  | f :: r => match fgnOfC (fun p l => fnd p 0 l) s cols f with
    | some (g, _, _) => fgsI s cols (acc ++ [g]) r
    | none => none
def typB (s : List TblC) (cols : List Col) (f : Fgn) : Bool := match atI s f.table.1 with
  | some u => (match atI u.keys.items f.key.1 with
    | some b => typF u.cols.items cols b.items f.cols.items
    | none => false)
  | none => false
def nilC : Cell := ⟨.nil, fun _ => rfl, rfl, rfl⟩
/-- What add says, and what it adds: the keys and the foreign keys. -/
def addI (s : List TblC) (x : Stm) : Except Int (List (Sl I64) × List Fgn) :=
  bif x.kind.1 != 1 then .error 1 else bif decide (8 ≤ s.length) then .error 3 else bif shI x != 0 then .error (shI x) else bif exBC s x then .error 5 else
    match keysL x.cols.items [] x.keys.items with
    | some ks => (match fgsI (s ++ [⟨x.name, x.cols, cn ks, nilS, nilC⟩]) x.cols.items [] x.fgns.items with
      | some fs => (match fs.all (typB (s ++ [⟨x.name, x.cols, cn ks, nilS, nilC⟩]) x.cols.items) with
        | true => .ok (ks, fs)
        | false => .error 6)
      | none => .error 4)
    | none => .error 4
/-- A slice that may be appended to: the elements, and their token. -/
def Own (k : Nat) (tk : List Nat) (v : D) (es : List D) : Prop := (v = .nil ∧ es = []) ∨ ∃ id, v = .slice (some (id + 1)) k es ∧ es ≠ [] ∧ tk[id]? = some es.length
theorem Own.ok {k : Nat} {tk : List Nat} {v : D} {es : List D} (h : Own k tk v es) : v.okC = true := by
  rcases h with ⟨rfl, _⟩ | ⟨id, rfl, _⟩ <;> rfl
theorem Own.cells {k : Nat} {tk : List Nat} {v : D} {es : List D} (h : Own k tk v es) : v.cells = [v] := by
  rcases h with ⟨rfl, _⟩ | ⟨id, rfl, _⟩ <;> rfl
theorem Own.elems {k : Nat} {tk : List Nat} {v : D} {es : List D} (h : Own k tk v es) (m : Mem) : elemsOf m k v = some es := by
  rcases h with ⟨rfl, rfl⟩ | ⟨id, rfl, _⟩
  · rfl
  · simp [elemsOf]
theorem Own.len {k : Nat} {tk : List Nat} {v : D} {es : List D} (h : Own k tk v es) (P : Program) (u : Nat) : lenT P u v = match sliceElem P u with | some _ => some es.length | none => none := by
  rcases h with ⟨rfl, rfl⟩ | ⟨id, rfl, _⟩
  · exact lenT_nil P u
  · exact lenT_slice P u _ _ _
theorem Own.strip {k : Nat} {tk : List Nat} {v : D} {es : List D} (h : Own k tk v es) (g : Nat → Nat → Nat → Nat → D) : stripF g v = outD k (stripFL g es) := by
  rcases h with ⟨rfl, rfl⟩ | ⟨id, rfl, h, _⟩
  · rfl
  · cases es with
    | nil => exact absurd rfl h
    | cons a r => simp only [stripF_slice, stripFL_cons, outD]
/-- Behind more tokens it is as before. -/
theorem Own.grow {k : Nat} {tk tk' : List Nat} {v : D} {es : List D} (h : Own k tk v es) (ht : ∀ (i n : Nat), tk[i]? = some n → tk'[i]? = some n) : Own k tk' v es := by
  rcases h with h | ⟨id, h1, h2, h3⟩
  · exact .inl h
  · exact .inr ⟨id, h1, h2, ht _ _ h3⟩
theorem Own.app {k : Nat} {tk : List Nat} {v : D} {es : List D} (h : Own k tk v es) (b : List (List D)) (x : D) (xs : List D) : ∃ v' tk', appendD k ⟨b, tk⟩ v (x :: xs) = some (v', ⟨b, tk'⟩) ∧ Own k tk' v' (es ++ x :: xs) := by
  rcases h with ⟨rfl, rfl⟩ | ⟨id, rfl, h2, h3⟩
  · exact ⟨_, _, app_nil .., .inr ⟨tk.length, rfl, by simp, by simp⟩⟩
  · have hid := (List.getElem?_eq_some_iff.1 h3).1
    refine ⟨.slice (some (id + 1)) k (es ++ x :: xs), tk.set id (es ++ x :: xs).length, ?_, .inr ⟨id, rfl, by simp, ?_⟩⟩
    · simp only [appendD, h3]
      simp
    · rw [List.getElem?_set_self hid]
theorem accM_get {b : List Nat} {l : List D} {i n : Nat} (h : b[i]? = some n) : (accM b l)[i]? = some n := by
  cases l with
  | nil => exact h
  | cons a r =>
    have := (List.getElem?_eq_some_iff.1 h).1
    rw [accM, List.getElem?_append_left this]; exact h
end Go.Eng
