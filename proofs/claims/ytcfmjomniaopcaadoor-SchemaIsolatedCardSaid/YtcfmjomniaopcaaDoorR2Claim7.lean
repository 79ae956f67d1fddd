/- PROVED: 'disjointlaw12.SchemaIsolated' returns true for every list of statements, and its arguments read as they did, on the condition that package lexer's variable 'keywords' holds what the program's text lays there. -/
import Derived.Test.YtcfmjomniaopcaaDoorTie
import Derived.Test.YtcfmjomniaopcaaDoorCards
import Derived.Test.YtcfmjomniaopcaaDoorR2Frame2
import Derived.Test.YtcfmjomniaopcaaDoorR2Read3
import Derived.Test.YtcfmjomniaopcaaDoorR2Law7
set_option linter.unusedSimpArgs false
set_option linter.unusedVariables false
namespace Go.Eng
open Go Go.Proofs Go.Proofs.YtcfmjomniaopcaaDoor
open Go.ChangeShapes Go.WideShapes Go.RowKit
theorem laid_met7 (os : Os) (args : Array Value) : laidMetH Tryd.prog Rows.schemaIsolatedRow.laid ((laidWorld os).forCall (fun _ _ => 0) ⟨#[], args, []⟩).memory :=
  show laidMet Tryd.prog Rows.schemaIsolatedRow.laid _ from laidMet_of_run' 8 (by kernel_rfl) (by kernel_rfl)
set_option maxRecDepth 100000 in
theorem lifted7 (os : Os) (started : os.Started) (H : Type) (enc : TypeId × Value → H) :
    ReturnsInHanded {} Tryd.checked os 7 .any (fun w args => (Rows.schemaIsolatedSpec.pre enc Tryd.prog Tryd.f7 [] false w args ∧ laidMetH Tryd.prog Rows.schemaIsolatedRow.laid w) ∧ sizedMet enc Tryd.prog Tryd.f7 (OpenSpec.ofChange Rows.schemaIsolatedSpec) false w args)
      (Rows.schemaIsolatedSpec.post enc Tryd.prog Tryd.f7 false true false false) := by
  refine returnsInHanded_of_change_and (C := Tryd.checked) (X := fun w _ => laidMetH Tryd.prog Rows.schemaIsolatedRow.laid w) (fun _ _ _ hh h => h.of_heap hh) Tryd_own started (by kernel_rfl) Tryd.func7
    (ChangeSpec.witness_shaped (enc := enc) (C := Tryd.checked) (os := os) (X := fun w _ => laidMetH Tryd.prog Rows.schemaIsolatedRow.laid w) false (laidWorld os) #[.slice none 0 0] 8 rfl (World.shaped_of_RefB (by kernel_rfl) (by kernel_rfl)) (by kernel_rfl) (by kernel_rfl) (by kernel_rfl) (laid_met7 os _)) ?_
  intro W base args ds gs before hval0 hW _ hwt0 hL _
  have hval : ∀ (j : Nat) t v, Tryd.f7.params[j]? = some t → args[j]? = some v → Value.okWide Tryd.prog W .any base t v := hval0
  have hW' := hW
  obtain ⟨p, q, hA0, hV0, rfl, hfz, hnd⟩ := hW
  have hA : DataW.TrodAll enc Tryd.prog W 0 (fun _ => true) true Tryd.f7.params.toList args.toList ds p := hA0
  have hV : DataW.TrodVars enc Tryd.prog W (fun _ => true) [] gs q := hV0
  obtain ⟨rfl, rfl⟩ : gs = [] ∧ q = [] := by
    cases gs with
    | nil => exact ⟨rfl, hV⟩
    | cons g r => exact absurd hV (by intro h; cases h)
  have hwt : ∀ m ∈ DataW.weightsEach Tryd.prog Tryd.f7.params.toList ds, m ≤ reachBytes := fun m hm => by
    have h := List.all_eq_true.1 hwt0 m (by
      simp only [List.append_nil]
      exact hm)
    exact of_decide_eq_true h
  rw [Tryd.params7] at hA hval hwt
  obtain ⟨v0, d0, rfl, rfl, h0⟩ := trodAll_one hA
  have c0 := cells_of_slice Tryd.underlying60 (hval 0 60 v0 rfl rfl)
  obtain ⟨a0, e0⟩ := arg_of rd60 c0 h0 fun m hm => hwt m (weightsEach_mem (i := 0) (t := 60) (d := d0) rfl rfl m hm)
  refine (law_runs (f := 7) pf7 rfl (by simp only [go_sem]) (law7 a0) hL (hasL_cons e0 hasL_nil)).mono fun e W' ⟨he, hb⟩ => ?_
  have ee : Rows.schemaIsolatedSpec.fn H ([d0] ++ []) = { results := [.lit (.bool true)], args := [d0] } := rfl
  have hlt : ∀ x ∈ p, x.block < W.heap.size := fun x hx => hW'.lt x (by simpa using hx)
  refine ⟨_, he, _, _, _, [], p ++ [], [], hW', ?_, ?_, ?_, hb.frame _, fun h => by cases h⟩
  · rw [ee]; exact trodAll_mk1 (shut_bool Tryd.underlying4 true)
  · rw [ee]
    rw [List.append_nil]
    exact trodAll_mk1 (RowKit.Below.trod Tryd_laidOut (by kernel_rfl) (of_decide_eq_true (by kernel_rfl)) h0 hb hlt)
  · rw [ee]; rfl
theorem holds7 : Rows.SchemaIsolatedSaid :=
  OpenClaim.holds_of_wide 7 Tryd.f7 rfl rfl rfl rfl rfl rfl rfl ⟨rfl, rfl, rfl, rfl, rfl⟩ rfl rfl rfl rfl rfl (by kernel_rfl) Tryd.func7 (by kernel_rfl)
    (of_decide_eq_true (by kernel_rfl)) (by unfold Func.isWrapper; rw [if_neg (of_decide_eq_false (by kernel_rfl))]; exact ⟨rfl, rfl⟩)
    (fun os started H enc _ => lifted7 os started H enc)
theorem card7 : Rows.SchemaIsolatedCardSaid :=
  Claim7.holds_tied_plain_at .later [] [.widerDeep] true (true, "3a54758f172549a56e6ddfdda4d3de0cf64d3c97aa0f30da0602257b3f5febcb") false
    holds7 (fun _ h => by cases h) (by kernel_rfl) (fun _ h => by cases h) schemaIsolated_row_tie rfl ⟨rfl, rfl⟩ (by kernel_rfl) rfl
    (fun f fn hf hfn => by
      obtain rfl : f = 7 := Option.some.inj ((show Tryd.prog.funcNamed _ = some 7 by kernel_rfl).symm.trans hf) |>.symm
      obtain rfl : fn = Tryd.f7 := (Option.some.inj (Tryd.func7.symm.trans hfn)).symm
      exact ⟨by kernel_rfl, fun j t ht => by
        rw [Tryd.params7] at ht
        rcases j with _ | j
        · obtain rfl : t = 60 := by simpa using ht.symm
          exact (show Tryd.prog.wantsStandIn 60 = false by kernel_rfl)
        · simp at ht⟩)
    (by kernel_rfl)
end Go.Eng
namespace Go.Proofs.YtcfmjomniaopcaaDoor
theorem schemaIsolated_proved : Rows.SchemaIsolatedCardSaid := Go.Eng.card7
end Go.Proofs.YtcfmjomniaopcaaDoor
