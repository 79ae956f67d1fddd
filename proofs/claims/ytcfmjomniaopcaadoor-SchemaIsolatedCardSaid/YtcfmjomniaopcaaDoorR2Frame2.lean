/- A part of the proof: see the last text. -/
import Derived.Test.YtcfmjomniaopcaaDoorR2Frame
set_option linter.unusedSimpArgs false
set_option linter.unusedVariables false
/- Arguments of several kinds. -/
namespace Go.Eng
open Go Go.Proofs Go.Proofs.YtcfmjomniaopcaaDoor
theorem hasL_nil {w : World} {S : Sh} : HasL w S [] [] := ⟨rfl, fun j c v hc _ => by cases j <;> cases hc⟩
theorem hasL_cons {w : World} {S : Sh} {a : D} {x : Value} {cs : List D} {vs : List Value} (h : HasV w S a x) (k : HasL w S cs vs) : HasL w S (a :: cs) (x :: vs) := by
  refine ⟨by simp [k.len], fun j c v hc hv => ?_⟩
  match j, hc, hv with
  | 0, hc, hv => simp at hc hv; subst hc; subst hv; exact h
  | j + 1, hc, hv => exact k.at_ j c v (by simpa using hc) (by simpa using hv)
/-- An argument that is a struct. -/
theorem arg_agg {H : Type} {enc : TypeId × Value → H} {W : World} {t : Nat} {α : Type} {f : α → D} (hf : ∀ a, ∃ l, f a = .agg l) (h : ∀ N, Rd enc Tryd.prog W N t fun a => (f a).cells) {cs : Array Value} {d : DataW H} {ps : List MemPlace}
    (hd : DataW.Trod enc Tryd.prog W 0 (fun _ => true) true t (.agg cs) d ps) (hw : ∀ m ∈ d.weights Tryd.prog t, m ≤ reachBytes) : ∃ a, HasV W Sh0 (f a) (.agg cs) := by
  obtain ⟨fuel, hd⟩ := hd
  obtain ⟨a, ha⟩ := h (fuel + 1) fuel _ _ (Nat.lt_succ_self _) hd hw
  refine ⟨a, ?_⟩
  have ha : HasC W Sh0 (f a).cells cs.toList := ha
  obtain ⟨l, hl⟩ := hf a
  rw [hl] at ha ⊢
  have h2 : l.length = cs.toList.length := ha.len
  exact .agg l cs (by simpa using h2) ha.cell fun j c v hc hv => ha.at_ j c v hc (by simpa using hv)
end Go.Eng
