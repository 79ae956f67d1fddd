/- PROVED: 'disjointlaw45.PlannerCost' returns true for every case, every plan and every list of numbers of rows, and its arguments read as they did, on the condition that package planner's variable 'operators' holds what the program's text lays there. -/
import Derived.Test.YtcfmjomniaopcaaDoorTie
import Derived.Test.YtcfmjomniaopcaaDoorCards
import Derived.Test.YtcfmjomniaopcaaDoorR2Frame4
import Derived.Test.YtcfmjomniaopcaaDoorR2Read5
import Derived.Test.YtcfmjomniaopcaaDoorKR2Cv
set_option linter.unusedSimpArgs false
set_option linter.unusedVariables false
namespace Go.Eng
open Go Go.Proofs Go.Proofs.YtcfmjomniaopcaaDoor
open Go.ChangeShapes Go.WideShapes Go.RowKit
theorem laid_met8 (os : Os) (args : Array Value) : laidMetH Tryd.prog Rows.plannerCostRow.laid ((laidWorld os).forCall (fun _ _ => 0) ⟨#[], args, []⟩).memory :=
  show laidMet Tryd.prog Rows.plannerCostRow.laid _ from laidMet_of_run' 8 (by kernel_rfl) (by kernel_rfl)
set_option maxRecDepth 100000 in
theorem lifted8 (os : Os) (started : os.Started) (H : Type) (enc : TypeId × Value → H) :
    ReturnsInHanded {} Tryd.checked os 8 .any (fun w args => (Rows.plannerCostSpec.pre enc Tryd.prog Tryd.f8 [] false w args ∧ laidMetH Tryd.prog Rows.plannerCostRow.laid w) ∧ sizedMet enc Tryd.prog Tryd.f8 (OpenSpec.ofChange Rows.plannerCostSpec) false w args)
      (Rows.plannerCostSpec.post enc Tryd.prog Tryd.f8 false true false false) := by
  refine returnsInHanded_of_change_and (C := Tryd.checked) (X := fun w _ => laidMetH Tryd.prog Rows.plannerCostRow.laid w) (fun _ _ _ hh h => h.of_heap hh) Tryd_own started (by kernel_rfl) Tryd.func8
    (ChangeSpec.witness_shaped (enc := enc) (C := Tryd.checked) (os := os) (X := fun w _ => laidMetH Tryd.prog Rows.plannerCostRow.laid w) false (laidWorld os) #[.agg #[.slice none 0 0, .slice none 0 0, .slice none 0 0, .int .i64 0, .string ⟨#[]⟩, .string ⟨#[]⟩, .int .i64 0, .int .i64 0, .int .i64 0, .string ⟨#[]⟩, .slice none 0 0], .agg #[.int .i64 0, .int .i64 0, .slice none 0 0, .slice none 0 0, .int .i64 0, .string ⟨#[]⟩, .string ⟨#[]⟩, .int .i64 0, .int .i64 0, .int .i64 0, .string ⟨#[]⟩, .slice none 0 0, .slice none 0 0], .slice none 0 0] 8 rfl (World.shaped_of_RefB (by kernel_rfl) (by kernel_rfl)) (by kernel_rfl) (by kernel_rfl) (by kernel_rfl) (laid_met8 os _)) ?_
  intro W base args ds gs before hval0 hW _ hwt0 hL _
  have hval : ∀ (j : Nat) t v, Tryd.f8.params[j]? = some t → args[j]? = some v → Value.okWide Tryd.prog W .any base t v := hval0
  have hW' := hW
  obtain ⟨p, q, hA0, hV0, rfl, hfz, hnd⟩ := hW
  have hA : DataW.TrodAll enc Tryd.prog W 0 (fun _ => true) true Tryd.f8.params.toList args.toList ds p := hA0
  have hV : DataW.TrodVars enc Tryd.prog W (fun _ => true) [] gs q := hV0
  obtain ⟨rfl, rfl⟩ : gs = [] ∧ q = [] := by
    cases gs with
    | nil => exact ⟨rfl, hV⟩
    | cons g r => exact absurd hV (by intro h; cases h)
  have hwt : ∀ m ∈ DataW.weightsEach Tryd.prog Tryd.f8.params.toList ds, m ≤ reachBytes := fun m hm => by
    have h := List.all_eq_true.1 hwt0 m (by
      simp only [List.append_nil]
      exact hm)
    exact of_decide_eq_true h
  rw [Tryd.params8] at hA hval hwt
  obtain ⟨v0, v1, v2, d0, d1, d2, p0, p1, p2, rfl, rfl, rfl, h0, h1, h2⟩ := trodAll_three hA
  obtain ⟨cs0, rfl, _⟩ := okWide_struct Tryd.underlying32 (hval 0 32 v0 rfl rfl)
  obtain ⟨a0, e0⟩ := arg_agg (f := encCas) (fun _ => ⟨_, rfl⟩) rd32 h0 fun m hm => hwt m (weightsEach_mem (i := 0) (t := 32) (d := d0) rfl rfl m hm)
  obtain ⟨cs1, rfl, _⟩ := okWide_struct Tryd.underlying58 (hval 1 58 v1 rfl rfl)
  obtain ⟨a1, e1⟩ := arg_agg (f := encPl) pl_agg rd58 h1 fun m hm => hwt m (weightsEach_mem (i := 1) (t := 58) (d := d1) rfl rfl m hm)
  have c2 := cells_of_slice Tryd.underlying24 (hval 2 24 v2 rfl rfl)
  obtain ⟨a2, e2⟩ := arg_of rd24 c2 h2 fun m hm => hwt m (weightsEach_mem (i := 2) (t := 24) (d := d2) rfl rfl m hm)
  refine (law_runs (f := 8) pf8 rfl (by simp only [go_sem]) (law8_true a0 a1 a2) hL (hasL_cons e0 (hasL_cons e1 (hasL_cons e2 hasL_nil)))).mono fun e W' ⟨he, hb⟩ => ?_
  have ee : Rows.plannerCostSpec.fn H ([d0, d1, d2] ++ []) = { results := [.lit (.bool true)], args := [d0, d1, d2] } := rfl
  have hlt : ∀ x ∈ p0 ++ (p1 ++ p2), x.block < W.heap.size := fun x hx => hW'.lt x (by simpa using hx)
  refine ⟨_, he, _, _, _, [], p0 ++ (p1 ++ p2), [], hW', ?_, ?_, ?_, hb.frame _, fun h => by cases h⟩
  · rw [ee]; exact trodAll_mk1 (shut_bool Tryd.underlying4 true)
  · rw [ee]
    exact trodAll_mk3 (RowKit.Below.trod Tryd_laidOut (by kernel_rfl) (of_decide_eq_true (by kernel_rfl)) h0 hb fun x hx => hlt x (List.mem_append_left _ hx))
      (RowKit.Below.trod Tryd_laidOut (by kernel_rfl) (of_decide_eq_true (by kernel_rfl)) h1 hb fun x hx => hlt x (List.mem_append_right _ (List.mem_append_left _ hx)))
      (RowKit.Below.trod Tryd_laidOut (by kernel_rfl) (of_decide_eq_true (by kernel_rfl)) h2 hb fun x hx => hlt x (List.mem_append_right _ (List.mem_append_right _ hx)))
  · rw [ee]; rfl
theorem holds8 : Rows.PlannerCostSaid :=
  OpenClaim.holds_of_wide 8 Tryd.f8 rfl rfl rfl rfl rfl rfl rfl ⟨rfl, rfl, rfl, rfl, rfl⟩ rfl rfl rfl rfl rfl (by kernel_rfl) Tryd.func8 (by kernel_rfl)
    (of_decide_eq_true (by kernel_rfl)) (by unfold Func.isWrapper; rw [if_neg (of_decide_eq_false (by kernel_rfl))]; exact ⟨rfl, rfl⟩)
    (fun os started H enc _ => lifted8 os started H enc)
theorem card8 : Rows.PlannerCostCardSaid :=
  Claim7.holds_tied_plain_at .later [] [.widerDeep] true (true, "3a54758f172549a56e6ddfdda4d3de0cf64d3c97aa0f30da0602257b3f5febcb") false
    holds8 (fun _ h => by cases h) (by kernel_rfl) (fun _ h => by cases h) plannerCost_row_tie rfl ⟨rfl, rfl⟩ (by kernel_rfl) rfl
    (fun f fn hf hfn => by
      obtain rfl : f = 8 := Option.some.inj ((show Tryd.prog.funcNamed _ = some 8 by kernel_rfl).symm.trans hf) |>.symm
      obtain rfl : fn = Tryd.f8 := (Option.some.inj (Tryd.func8.symm.trans hfn)).symm
      exact ⟨by kernel_rfl, fun j t ht => by
        rw [Tryd.params8] at ht
        rcases j with _ | _ | _ | j
        · obtain rfl : t = 32 := by simpa using ht.symm
          exact (show Tryd.prog.wantsStandIn 32 = false by kernel_rfl)
        · obtain rfl : t = 58 := by simpa using ht.symm
          exact (show Tryd.prog.wantsStandIn 58 = false by kernel_rfl)
        · obtain rfl : t = 24 := by simpa using ht.symm
          exact (show Tryd.prog.wantsStandIn 24 = false by kernel_rfl)
        · simp at ht⟩)
    (by kernel_rfl)
end Go.Eng
namespace Go.Proofs.YtcfmjomniaopcaaDoor
theorem plannerCost_proved : Rows.PlannerCostCardSaid := Go.Eng.card8
end Go.Proofs.YtcfmjomniaopcaaDoor
