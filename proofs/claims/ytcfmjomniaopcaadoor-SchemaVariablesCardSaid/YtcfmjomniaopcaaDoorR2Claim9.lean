/- PROVED: 'disjointlaw12.SchemaVariables' returns true for every table, and its argument reads as it did, on the condition that package lexer's variable 'keywords' holds what the program's text lays there. -/
import Derived.Test.YtcfmjomniaopcaaDoorR2Frame
import Derived.Test.YtcfmjomniaopcaaDoorR2Law9
import Derived.Test.YtcfmjomniaopcaaDoorTie
import Derived.Test.YtcfmjomniaopcaaDoorCards
namespace Go.Eng
open Go Go.Proofs Go.Proofs.YtcfmjomniaopcaaDoor
open Go.ChangeShapes Go.WideShapes Go.RowKit
theorem laid_met9 (os : Os) (args : Array Value) : laidMetH Tryd.prog Rows.schemaVariablesRow.laid ((laidWorld os).forCall (fun _ _ => 0) ⟨#[], args, []⟩).memory :=
  show laidMet Tryd.prog Rows.schemaVariablesRow.laid _ from laidMet_of_run' 8 (by kernel_rfl) (by kernel_rfl)
theorem hasL_one {w : World} {S : Sh} {a : D} {x : Value} (h : HasV w S a x) : HasL w S [a] (#[x] : Array Value).toList := by
  refine ⟨rfl, fun j c v hc hv => ?_⟩
  match j, hc, hv with
  | 0, hc, hv => simp at hc hv; subst hc; subst hv; exact h
  | j + 1, hc, hv => simp at hc
/-- An argument that is a struct. -/
theorem arg_agg {H : Type} {enc : TypeId × Value → H} {W : World} {t : Nat} {α : Type} {f : α → D} (hf : ∀ a, ∃ l, f a = .agg l) (h : ∀ N, Rd enc Tryd.prog W N t fun a => (f a).cells) {cs : Array Value} {d : DataW H} {ps : List MemPlace}
    (hd : DataW.Trod enc Tryd.prog W 0 (fun _ => true) true t (.agg cs) d ps) (hw : ∀ m ∈ d.weights Tryd.prog t, m ≤ reachBytes) : ∃ a, HasV W Sh0 (f a) (.agg cs) := by
  obtain ⟨fuel, hd⟩ := hd
  obtain ⟨a, ha⟩ := h (fuel + 1) fuel _ _ (Nat.lt_succ_self _) hd hw
  refine ⟨a, ?_⟩
  have ha : HasC W Sh0 (f a).cells cs.toList := ha
  obtain ⟨l, hl⟩ := hf a
  rw [hl] at ha ⊢
  have h2 : l.length = cs.toList.length := ha.len
  exact .agg l cs (by simpa using h2) ha.cell fun j c v hc hv => ha.at_ j c v hc (by simpa using hv)
set_option maxRecDepth 100000 in
theorem lifted9 (os : Os) (started : os.Started) (H : Type) (enc : TypeId × Value → H) :
    ReturnsInHanded {} Tryd.checked os 9 .any (fun w args => (Rows.schemaVariablesSpec.pre enc Tryd.prog Tryd.f9 [] false w args ∧ laidMetH Tryd.prog Rows.schemaVariablesRow.laid w) ∧ sizedMet enc Tryd.prog Tryd.f9 (OpenSpec.ofChange Rows.schemaVariablesSpec) false w args)
      (Rows.schemaVariablesSpec.post enc Tryd.prog Tryd.f9 false true false false) := by
  refine returnsInHanded_of_change_and (C := Tryd.checked) (X := fun w _ => laidMetH Tryd.prog Rows.schemaVariablesRow.laid w) (fun _ _ _ hh h => h.of_heap hh) Tryd_own started (by kernel_rfl) Tryd.func9
    (ChangeSpec.witness_shaped (enc := enc) (C := Tryd.checked) (os := os) (X := fun w _ => laidMetH Tryd.prog Rows.schemaVariablesRow.laid w) false (laidWorld os) #[.agg #[.string ⟨#[]⟩, .slice none 0 0, .slice none 0 0, .slice none 0 0, .slice none 0 0]] 8 rfl (World.shaped_of_RefB (by kernel_rfl) (by kernel_rfl)) (by kernel_rfl) (by kernel_rfl) (by kernel_rfl) (laid_met9 os _)) ?_
  intro W base args ds gs before hval0 hW _ hwt0 hL _
  have hval : ∀ (j : Nat) t v, Tryd.f9.params[j]? = some t → args[j]? = some v → Value.okWide Tryd.prog W .any base t v := hval0
  have hW' := hW
  obtain ⟨p, q, hA0, hV0, rfl, hfz, hnd⟩ := hW
  have hA : DataW.TrodAll enc Tryd.prog W 0 (fun _ => true) true Tryd.f9.params.toList args.toList ds p := hA0
  have hV : DataW.TrodVars enc Tryd.prog W (fun _ => true) [] gs q := hV0
  obtain ⟨rfl, rfl⟩ : gs = [] ∧ q = [] := by
    cases gs with
    | nil => exact ⟨rfl, hV⟩
    | cons g r => exact absurd hV (by intro h; cases h)
  have hwt : ∀ m ∈ DataW.weightsEach Tryd.prog Tryd.f9.params.toList ds, m ≤ reachBytes := fun m hm => by
    have h := List.all_eq_true.1 hwt0 m (by
      simp only [List.append_nil]
      exact hm)
    exact of_decide_eq_true h
  rw [Tryd.params9] at hA hval hwt
  obtain ⟨v0, d0, rfl, rfl, h0⟩ := trodAll_one hA
  obtain ⟨cs, rfl, _⟩ := okWide_struct Tryd.underlying72 (hval 0 72 v0 rfl rfl)
  obtain ⟨t, hs⟩ := arg_agg (f := encTbl) (fun _ => ⟨_, rfl⟩) rd72 h0 fun m hm => hwt m (weightsEach_mem (i := 0) (t := 72) (d := d0) rfl rfl m hm)
  refine (law_runs (f := 9) pf9 rfl (by simp only [go_sem]) (law9 t) hL (hasL_one hs)).mono fun e W' ⟨he, hb⟩ => ?_
  have e1 : Rows.schemaVariablesSpec.fn H ([d0] ++ []) = { results := [.lit (.bool true)], args := [d0] } := rfl
  have hlt : ∀ x ∈ p, x.block < W.heap.size := fun x hx => hW'.lt x (by simpa using hx)
  refine ⟨_, he, _, _, _, [], p ++ [], [], hW', ?_, ?_, ?_, hb.frame _, fun h => by cases h⟩
  · rw [e1]; exact trodAll_mk1 (shut_bool Tryd.underlying4 true)
  · rw [e1]
    rw [List.append_nil]
    exact trodAll_mk1 (RowKit.Below.trod Tryd_laidOut (by kernel_rfl) (of_decide_eq_true (by kernel_rfl)) h0 hb hlt)
  · rw [e1]; rfl
theorem holds9 : Rows.SchemaVariablesSaid :=
  OpenClaim.holds_of_wide 9 Tryd.f9 rfl rfl rfl rfl rfl rfl rfl ⟨rfl, rfl, rfl, rfl, rfl⟩ rfl rfl rfl rfl rfl (by kernel_rfl) Tryd.func9 (by kernel_rfl)
    (of_decide_eq_true (by kernel_rfl)) (by unfold Func.isWrapper; rw [if_neg (of_decide_eq_false (by kernel_rfl))]; exact ⟨rfl, rfl⟩)
    (fun os started H enc _ => lifted9 os started H enc)
theorem card9 : Rows.SchemaVariablesCardSaid :=
  Claim7.holds_tied_plain_at .later [] [.widerDeep] true (true, "3a54758f172549a56e6ddfdda4d3de0cf64d3c97aa0f30da0602257b3f5febcb") false
    holds9 (fun _ h => by cases h) (by kernel_rfl) (fun _ h => by cases h) schemaVariables_row_tie rfl ⟨rfl, rfl⟩ (by kernel_rfl) rfl
    (fun f fn hf hfn => by
      obtain rfl : f = 9 := Option.some.inj ((show Tryd.prog.funcNamed _ = some 9 by kernel_rfl).symm.trans hf) |>.symm
      obtain rfl : fn = Tryd.f9 := (Option.some.inj (Tryd.func9.symm.trans hfn)).symm
      exact ⟨by kernel_rfl, fun j t ht => by
        rw [Tryd.params9] at ht
        rcases j with _ | j
        · obtain rfl : t = 72 := by simpa using ht.symm
          exact (show Tryd.prog.wantsStandIn 72 = false by kernel_rfl)
        · simp at ht⟩)
    (by kernel_rfl)
end Go.Eng
namespace Go.Proofs.YtcfmjomniaopcaaDoor
theorem schemaVariables_proved : Rows.SchemaVariablesCardSaid := Go.Eng.card9
end Go.Proofs.YtcfmjomniaopcaaDoor
