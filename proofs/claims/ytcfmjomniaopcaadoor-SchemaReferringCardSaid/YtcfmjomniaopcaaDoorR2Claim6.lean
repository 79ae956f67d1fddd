/- PROVED: 'disjointlaw12.SchemaReferring' returns true for every schema and every table number, and its arguments read as they did, on the condition that package lexer's variable 'keywords' holds what the program's text lays there. -/
import Derived.Test.YtcfmjomniaopcaaDoorR2Frame
import Derived.Test.YtcfmjomniaopcaaDoorR2Law6
import Derived.Test.YtcfmjomniaopcaaDoorTie
import Derived.Test.YtcfmjomniaopcaaDoorCards
namespace Go.Eng
open Go Go.Proofs Go.Proofs.YtcfmjomniaopcaaDoor
open Go.ChangeShapes Go.WideShapes Go.RowKit
theorem laid_met6 (os : Os) (args : Array Value) : laidMetH Tryd.prog Rows.schemaReferringRow.laid ((laidWorld os).forCall (fun _ _ => 0) ⟨#[], args, []⟩).memory :=
  show laidMet Tryd.prog Rows.schemaReferringRow.laid _ from laidMet_of_run' 8 (by kernel_rfl) (by kernel_rfl)
set_option maxRecDepth 100000 in
theorem lifted6 (os : Os) (started : os.Started) (H : Type) (enc : TypeId × Value → H) :
    ReturnsInHanded {} Tryd.checked os 6 .any (fun w args => (Rows.schemaReferringSpec.pre enc Tryd.prog Tryd.f6 [] false w args ∧ laidMetH Tryd.prog Rows.schemaReferringRow.laid w) ∧ sizedMet enc Tryd.prog Tryd.f6 (OpenSpec.ofChange Rows.schemaReferringSpec) false w args)
      (Rows.schemaReferringSpec.post enc Tryd.prog Tryd.f6 false true false false) := by
  refine returnsInHanded_of_change_and (C := Tryd.checked) (X := fun w _ => laidMetH Tryd.prog Rows.schemaReferringRow.laid w) (fun _ _ _ hh h => h.of_heap hh) Tryd_own started (by kernel_rfl) Tryd.func6
    (ChangeSpec.witness_shaped (enc := enc) (C := Tryd.checked) (os := os) (X := fun w _ => laidMetH Tryd.prog Rows.schemaReferringRow.laid w) false (laidWorld os) #[.slice none 0 0, .int .i64 0] 8 rfl (World.shaped_of_RefB (by kernel_rfl) (by kernel_rfl)) (by kernel_rfl) (by kernel_rfl) (by kernel_rfl) (laid_met6 os _)) ?_
  intro W base args ds gs before hval0 hW _ hwt0 hL _
  have hval : ∀ (j : Nat) t v, Tryd.f6.params[j]? = some t → args[j]? = some v → Value.okWide Tryd.prog W .any base t v := hval0
  have hW' := hW
  obtain ⟨p, q, hA0, hV0, rfl, hfz, hnd⟩ := hW
  have hA : DataW.TrodAll enc Tryd.prog W 0 (fun _ => true) true Tryd.f6.params.toList args.toList ds p := hA0
  have hV : DataW.TrodVars enc Tryd.prog W (fun _ => true) [] gs q := hV0
  obtain ⟨rfl, rfl⟩ : gs = [] ∧ q = [] := by
    cases gs with
    | nil => exact ⟨rfl, hV⟩
    | cons g r => exact absurd hV (by intro h; cases h)
  have hwt : ∀ m ∈ DataW.weightsEach Tryd.prog Tryd.f6.params.toList ds, m ≤ reachBytes := fun m hm => by
    have h := List.all_eq_true.1 hwt0 m (by
      simp only [List.append_nil]
      exact hm)
    exact of_decide_eq_true h
  rw [Tryd.params6] at hA hval hwt
  obtain ⟨v0, v1, d0, d1, p0, p1, rfl, rfl, rfl, h0, h1⟩ := trodAll_two hA
  have c0 := cells_of_slice Tryd.underlying23 (hval 0 23 v0 rfl rfl)
  have c1 := cells_of_int Tryd.underlying3 (hval 1 3 v1 rfl rfl)
  obtain ⟨s, hs⟩ := arg_of rd23 c0 h0 fun m hm => hwt m (weightsEach_mem (i := 0) (t := 23) (d := d0) rfl rfl m hm)
  obtain ⟨n, hn⟩ := arg_of rd3 c1 h1 fun m hm => hwt m (weightsEach_mem (i := 1) (t := 3) (d := d1) rfl rfl m hm)
  refine (law_runs (f := 6) pf6 rfl (by simp only [go_sem]) (law6 s n.1) hL (hasL_two hs hn)).mono fun e W' ⟨he, hb⟩ => ?_
  have e1 : Rows.schemaReferringSpec.fn H ([d0, d1] ++ []) = { results := [.lit (.bool true)], args := [d0, d1] } := rfl
  have hlt : ∀ x ∈ p0 ++ p1, x.block < W.heap.size := fun x hx => hW'.lt x (by simpa using hx)
  refine ⟨_, he, _, _, _, [], p0 ++ p1, [], hW', ?_, ?_, ?_, hb.frame _, fun h => by cases h⟩
  · rw [e1]; exact trodAll_mk1 (shut_bool Tryd.underlying4 true)
  · rw [e1]
    exact trodAll_mk2 (RowKit.Below.trod Tryd_laidOut (by kernel_rfl) (of_decide_eq_true (by kernel_rfl)) h0 hb fun x hx => hlt x (List.mem_append_left _ hx))
      (RowKit.Below.trod Tryd_laidOut (by kernel_rfl) (of_decide_eq_true (by kernel_rfl)) h1 hb fun x hx => hlt x (List.mem_append_right _ hx))
  · rw [e1]; rfl
theorem holds6 : Rows.SchemaReferringSaid :=
  OpenClaim.holds_of_wide 6 Tryd.f6 rfl rfl rfl rfl rfl rfl rfl ⟨rfl, rfl, rfl, rfl, rfl⟩ rfl rfl rfl rfl rfl (by kernel_rfl) Tryd.func6 (by kernel_rfl)
    (of_decide_eq_true (by kernel_rfl)) (by unfold Func.isWrapper; rw [if_neg (of_decide_eq_false (by kernel_rfl))]; exact ⟨rfl, rfl⟩)
    (fun os started H enc _ => lifted6 os started H enc)
theorem card6 : Rows.SchemaReferringCardSaid :=
  Claim7.holds_tied_plain_at .later [] [.widerDeep] true (true, "3a54758f172549a56e6ddfdda4d3de0cf64d3c97aa0f30da0602257b3f5febcb") false
    holds6 (fun _ h => by cases h) (by kernel_rfl) (fun _ h => by cases h) schemaReferring_row_tie rfl ⟨rfl, rfl⟩ (by kernel_rfl) rfl
    (fun f fn hf hfn => by
      obtain rfl : f = 6 := Option.some.inj ((show Tryd.prog.funcNamed _ = some 6 by kernel_rfl).symm.trans hf) |>.symm
      obtain rfl : fn = Tryd.f6 := (Option.some.inj (Tryd.func6.symm.trans hfn)).symm
      exact ⟨by kernel_rfl, fun j t ht => by
        rw [Tryd.params6] at ht
        rcases j with _ | _ | j
        · obtain rfl : t = 23 := by simpa using ht.symm
          exact (show Tryd.prog.wantsStandIn 23 = false by kernel_rfl)
        · obtain rfl : t = 3 := by simpa using ht.symm
          exact (show Tryd.prog.wantsStandIn 3 = false by kernel_rfl)
        · simp at ht⟩)
    (by kernel_rfl)
end Go.Eng
namespace Go.Proofs.YtcfmjomniaopcaaDoor
theorem schemaReferring_proved : Rows.SchemaReferringCardSaid := Go.Eng.card6
end Go.Proofs.YtcfmjomniaopcaaDoor
