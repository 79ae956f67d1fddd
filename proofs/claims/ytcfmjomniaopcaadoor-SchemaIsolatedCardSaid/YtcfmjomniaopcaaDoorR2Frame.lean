/- A part of the proof: see the last text. -/
import Derived.Test.YtcfmjomniaopcaaDoorRows
import Derived.Below
import Derived.FnData
import Derived.Carry
import Derived.LaidHandle
import Derived.LaidLaws
import Derived.WideWitness
import Derived.Handed
import Derived.ProofKit
import Derived.Test.YtcfmjomniaopcaaDoorR2Read
import Derived.Test.YtcfmjomniaopcaaDoorR2Awake
set_option linter.unusedSimpArgs false
set_option linter.unusedVariables false
/- From the machine to the given program: a law of chapter 12 that the machine answers with true returns true, and leaves what was there. -/
namespace Go.Eng
open Go Go.Proofs Go.Proofs.YtcfmjomniaopcaaDoor
theorem plainGK : PlainG (XG GK) := by
  intro g cs h
  have h : GK g = some cs := h
  unfold GK at h
  split at h
  · cases h
    simp only [go_sem]
    rw [stripFL_map D.str fun _ => rfl]
  · cases h
/-- What the condition on the variable says. -/
theorem keywords_of {W : World} (h : laidMetH Tryd.prog Rows.schemaReferringRow.laid W) : HasV W Sh0 (.ref [.slice none 1 (kwL.map .str)] 0) (.pointer (some ⟨1, 0, none⟩)) := by
  have h : laidMet Tryd.prog Rows.schemaReferringRow.laid W := h
  obtain ⟨ps, ⟨g, t, cs, fuel, p, q, h1, h2, h3, h4, _, _⟩, _⟩ := h
  have eg : g = 1 := Option.some.inj (h1.symm.trans (show Tryd.prog.globalNamed _ = some 1 by kernel_rfl))
  subst eg
  have et : t = 25 := Option.some.inj (h2.symm.trans (show (Tryd.prog.globals[1]?).map (·.type) = some 25 by kernel_rfl))
  subst et
  have h5 := strs_known (W := W) (l := kwL) (sp := []) (ps := p) Tryd.underlying25 Tryd.underlying9 (show Tryd.prog.cellsOf 9 = 1 by kernel_rfl) (by decide) h4
  have hlen := h5.len
  have hc : ∀ i, W.cell? ⟨1, i, none⟩ = cs[i]? := World.var?_cell h1 h3
  have hsz : cs.size = 1 := by simpa using hlen.symm
  obtain ⟨v, hv⟩ : ∃ v, cs[0]? = some v := ⟨_, Array.getElem?_eq_getElem (by omega)⟩
  have hlt : 1 < W.heap.size := cell_lt (v := v) (by rw [hc 0]; exact hv)
  refine HasV.ref _ 0 1 0 (fun _ => v) (fun c hm => by simp at hm; subst hm; rfl) ⟨hlt, fun h => h, by simp [Sh0], fun id k mk h => by simp [Sh0] at h, ⟨_, Nat.le_refl _, trivial⟩⟩ (fun j c hj => ?_) (fun j c hj => ?_)
  · have : j = 0 := by
      rcases j with _ | j
      · rfl
      · simp at hj
    subst this
    rw [hc]; exact hv
  · have : j = 0 := by
      rcases j with _ | j
      · rfl
      · simp at hj
    subst this
    exact h5.at_ 0 c v hj (by simpa using hv)
theorem relG0 {W : World} (h : laidMetH Tryd.prog Rows.schemaReferringRow.laid W) : RelG (XG GK) W.heap.size W Sh0 where
  bbLen := rfl
  tbLen := rfl
  mu := fun _ h => h.elim
  bbLt := fun b h => by simp [Sh0] at h
  tbLt := fun id b k h => by simp [Sh0] at h
  tbInj := fun id id' b k k' h => by simp [Sh0] at h
  tbBb := fun id b k h => by simp [Sh0] at h
  tbMu := fun id b k h => by simp [Sh0] at h
  bbMu := fun b h => by simp [Sh0] at h
  okNew := fun _ _ _ => trivial
  okTok := fun _ _ _ _ _ => trivial
  base := Nat.le_refl _
  bbGe := fun b h => by simp [Sh0] at h
  tbGe := fun id b k h => by simp [Sh0] at h
  bbInj := fun id id' b cs cs' h => by simp [Sh0] at h
  boxes := fun id b cs h => by simp [Sh0] at h
  toks := fun id b k mk h => by simp [Sh0] at h
  glob := fun g cs hg => by
    have hg : GK g = some cs := hg
    unfold GK at hg
    split at hg
    · rename_i e
      have e : g = 1 := Nat.eq_of_beq_eq_true e
      subst e
      cases hg
      exact keywords_of h
    · cases hg
/-- The law, called. -/
theorem law_runs {f : Nat} (hp : pfT TT f = true) (hf : f % 100000 = f) {ds : List D} (hs : stripL ds = ds) (h : callP (XG GK) TT f ds = some (.bool true)) {W : World} {args : Array Value}
    (hL : laidMetH Tryd.prog Rows.schemaReferringRow.laid W) (ha : HasL W Sh0 ds args.toList) :
    Calls Tryd.prog f args W fun e W' => e = .returned (.bool true) ∧ RowKit.Below W.heap.size W W' := by
  have h1 : callR (XG GK) TT f ⟨[], []⟩ ds = some (.bool true, ⟨[], []⟩) := by rw [callR_own hp, hs, h]
  have h2 := callD_of (good GK plainGK) h1 (Q := fun r _ => r = .bool true) rfl
  rw [hf] at h2
  refine (h2.2 _ W Sh0 args (relG0 hL) rfl ha).mono fun e W' ⟨v, S', r, he, hr, _, hx, hv⟩ => ?_
  subst hr
  cases hv
  refine ⟨he, ⟨hx.os, hx.tape, hx.output, hx.size, fun k hk => hx.keep k hk (by simp [Sh0]) (fun id k' => by simp [Sh0]) (.inl hk)⟩⟩
theorem cells_of_slice {P : Program} {W : World} {r : Reach} {b t e : Nat} {v : Value} (ht : P.underlying t = some (.slice e)) (h : Value.okWide P W r b t v) : v.cells = #[v] := by
  cases v <;> first | rfl | (simp [Value.okWide, ht, Cell.okWide, Cell.ok] at h)
theorem cells_of_int {P : Program} {W : World} {r : Reach} {b t : Nat} {k : IntKind} {v : Value} (ht : P.underlying t = some (.int k)) (h : Value.okWide P W r b t v) : v.cells = #[v] := by
  cases v <;> first | rfl | (simp [Value.okWide, ht, Cell.okWide, Cell.ok] at h)
theorem cells_of_str {P : Program} {W : World} {r : Reach} {b t : Nat} {v : Value} (ht : P.underlying t = some .string) (h : Value.okWide P W r b t v) : v.cells = #[v] := by
  cases v <;> first | rfl | (simp [Value.okWide, ht, Cell.okWide, Cell.ok] at h)
/-- An argument of one cell. -/
theorem arg_of {H : Type} {enc : TypeId × Value → H} {W : World} {t : Nat} {α : Type} {c : α → D} (h : ∀ N, Rd enc Tryd.prog W N t fun a => [c a]) {v : Value} (hv : v.cells = #[v]) {d : DataW H} {ps : List MemPlace}
    (hd : DataW.Trod enc Tryd.prog W 0 (fun _ => true) true t v d ps) (hw : ∀ m ∈ d.weights Tryd.prog t, m ≤ reachBytes) : ∃ a, HasV W Sh0 (c a) v := by
  obtain ⟨fuel, hd⟩ := hd
  obtain ⟨a, ha⟩ := h (fuel + 1) fuel _ _ (Nat.lt_succ_self _) hd hw
  rw [hv] at ha
  exact ⟨a, ha.at_ 0 _ _ rfl rfl⟩
theorem hasL_two {w : World} {S : Sh} {a b : D} {x y : Value} (h : HasV w S a x) (k : HasV w S b y) : HasL w S [a, b] (#[x, y] : Array Value).toList := by
  refine ⟨rfl, fun j c v hc hv => ?_⟩
  match j, hc, hv with
  | 0, hc, hv => simp at hc hv; subst hc; subst hv; exact h
  | 1, hc, hv => simp at hc hv; subst hc; subst hv; exact k
  | j + 2, hc, hv => simp at hc
theorem Tryd_own : ownKnob Tryd.prog.godebug = none := by kernel_rfl
theorem Tryd_laidOut : laidOutB Tryd.prog = true := by kernel_rfl
/-- A world in which the variable lies: a block with the strings behind all others. -/
noncomputable def laidWorld (os : Os) : World :=
  let w0 := World.holding Tryd.prog os ⟨#[.cells (kwL.map fun s => Value.string ⟨s.toArray⟩).toArray 9 (0, 0)], #[], []⟩
  { w0 with heap := w0.heap.modify 1 fun
      | .cells _ t frozen => .cells #[.slice (some ⟨(World.settled Tryd.prog os).heap.size, 0, none⟩) 47 47] t frozen
      | o => o }
end Go.Eng
