/- PROVED: 'disjointlaw12.SchemaStatement' returns true for every schema and every table number, and its arguments read as they did, on the condition that package lexer's variable 'keywords' holds what the program's text lays there. -/
import Derived.Test.YtcfmjomniaopcaaGreatDoorTie
import Derived.Test.YtcfmjomniaopcaaGreatDoorCards
import Derived.Test.YtcfmjomniaopcaaGreatDoorKR2Frame2
import Derived.Test.YtcfmjomniaopcaaGreatDoorR2Law3
set_option linter.unusedSimpArgs false
set_option linter.unusedVariables false
namespace Go.Eng
open Go Go.Proofs Go.Proofs.YtcfmjomniaopcaaGreatDoor
open Go.ChangeShapes Go.WideShapes Go.RowKit
theorem laid_met3 (os : Os) (args : Array Value) : laidMetH Tryz.prog Rows.schemaStatementRow.laid ((laidWorld os).forCall (fun _ _ => 0) ⟨#[], args, []⟩).memory :=
  show laidMet Tryz.prog Rows.schemaStatementRow.laid _ from laidMet_of_run' 8 (by kernel_rfl) (by kernel_rfl)
set_option maxRecDepth 100000 in
theorem lifted3 (os : Os) (started : os.Started) (H : Type) (enc : TypeId × Value → H) :
    ReturnsInHanded {} Tryz.checked os 3 .any (fun w args => (Rows.schemaStatementSpec.pre enc Tryz.prog Tryz.f3 [] false w args ∧ laidMetH Tryz.prog Rows.schemaStatementRow.laid w) ∧ sizedMet enc Tryz.prog Tryz.f3 (OpenSpec.ofChange Rows.schemaStatementSpec) false w args)
      (Rows.schemaStatementSpec.post enc Tryz.prog Tryz.f3 false true false false) := by
  refine returnsInHanded_of_change_and (C := Tryz.checked) (X := fun w _ => laidMetH Tryz.prog Rows.schemaStatementRow.laid w) (fun _ _ _ hh h => h.of_heap hh) Tryz_own started (by kernel_rfl) Tryz.func3
    (ChangeSpec.witness_shaped (enc := enc) (C := Tryz.checked) (os := os) (X := fun w _ => laidMetH Tryz.prog Rows.schemaStatementRow.laid w) false (laidWorld os) #[.slice none 0 0, .int .i64 0] 8 rfl (World.shaped_of_RefB (by kernel_rfl) (by kernel_rfl)) (by kernel_rfl) (by kernel_rfl) (by kernel_rfl) (laid_met3 os _)) ?_
  intro W base args ds gs before hval0 hW _ hwt0 hL _
  have hval : ∀ (j : Nat) t v, Tryz.f3.params[j]? = some t → args[j]? = some v → Value.okWide Tryz.prog W .any base t v := hval0
  have hW' := hW
  obtain ⟨p, q, hA0, hV0, rfl, hfz, hnd⟩ := hW
  have hA : DataW.TrodAll enc Tryz.prog W 0 (fun _ => true) true Tryz.f3.params.toList args.toList ds p := hA0
  have hV : DataW.TrodVars enc Tryz.prog W (fun _ => true) [] gs q := hV0
  obtain ⟨rfl, rfl⟩ : gs = [] ∧ q = [] := by
    cases gs with
    | nil => exact ⟨rfl, hV⟩
    | cons g r => exact absurd hV (by intro h; cases h)
  have hwt : ∀ m ∈ DataW.weightsEach Tryz.prog Tryz.f3.params.toList ds, m ≤ reachBytes := fun m hm => by
    have h := List.all_eq_true.1 hwt0 m (by
      simp only [List.append_nil]
      exact hm)
    exact of_decide_eq_true h
  rw [Tryz.params3] at hA hval hwt
  obtain ⟨v0, v1, d0, d1, p0, p1, rfl, rfl, rfl, h0, h1⟩ := trodAll_two hA
  have c0 := cells_of_slice Tryz.underlying23 (hval 0 23 v0 rfl rfl)
  obtain ⟨a0, e0⟩ := arg_of rd23 c0 h0 fun m hm => hwt m (weightsEach_mem (i := 0) (t := 23) (d := d0) rfl rfl m hm)
  have c1 := cells_of_int Tryz.underlying3 (hval 1 3 v1 rfl rfl)
  obtain ⟨a1, e1⟩ := arg_of rd3 c1 h1 fun m hm => hwt m (weightsEach_mem (i := 1) (t := 3) (d := d1) rfl rfl m hm)
  refine (law_runs (f := 3) pf3 rfl (by simp only [go_sem]) (law3 a0 a1.1) hL (hasL_cons e0 (hasL_cons e1 hasL_nil))).mono fun e W' ⟨he, hb⟩ => ?_
  have ee : Rows.schemaStatementSpec.fn H ([d0, d1] ++ []) = { results := [.lit (.bool true)], args := [d0, d1] } := rfl
  have hlt : ∀ x ∈ p0 ++ p1, x.block < W.heap.size := fun x hx => hW'.lt x (by simpa using hx)
  refine ⟨_, he, _, _, _, [], p0 ++ p1, [], hW', ?_, ?_, ?_, hb.frame _, fun h => by cases h⟩
  · rw [ee]; exact trodAll_mk1 (shut_bool Tryz.underlying4 true)
  · rw [ee]
    exact trodAll_mk2 (RowKit.Below.trod Tryz_laidOut (by kernel_rfl) (of_decide_eq_true (by kernel_rfl)) h0 hb fun x hx => hlt x (List.mem_append_left _ hx))
      (RowKit.Below.trod Tryz_laidOut (by kernel_rfl) (of_decide_eq_true (by kernel_rfl)) h1 hb fun x hx => hlt x (List.mem_append_right _ hx))
  · rw [ee]; rfl
theorem holds3 : Rows.SchemaStatementSaid :=
  OpenClaim.holds_of_wide 3 Tryz.f3 rfl rfl rfl rfl rfl rfl rfl ⟨rfl, rfl, rfl, rfl, rfl⟩ rfl rfl rfl rfl rfl (by kernel_rfl) Tryz.func3 (by kernel_rfl)
    (of_decide_eq_true (by kernel_rfl)) (by unfold Func.isWrapper; rw [if_neg (of_decide_eq_false (by kernel_rfl))]; exact ⟨rfl, rfl⟩)
    (fun os started H enc _ => lifted3 os started H enc)
theorem card3 : Rows.SchemaStatementCardSaid :=
  Claim7.holds_tied_plain_at .later [] [.widerDeep] true (true, "7cfe819f3aa01eec9d35827d3b6ee74a14b778f9398e2457ceaa47207dd50291") false
    holds3 (fun _ h => by cases h) (by kernel_rfl) (fun _ h => by cases h) schemaStatement_row_tie rfl ⟨rfl, rfl⟩ (by kernel_rfl) rfl
    (fun f fn hf hfn => by
      obtain rfl : f = 3 := Option.some.inj ((show Tryz.prog.funcNamed _ = some 3 by kernel_rfl).symm.trans hf) |>.symm
      obtain rfl : fn = Tryz.f3 := (Option.some.inj (Tryz.func3.symm.trans hfn)).symm
      exact ⟨by kernel_rfl, fun j t ht => by
        rw [Tryz.params3] at ht
        rcases j with _ | _ | j
        · obtain rfl : t = 23 := by simpa using ht.symm
          exact (show Tryz.prog.wantsStandIn 23 = false by kernel_rfl)
        · obtain rfl : t = 3 := by simpa using ht.symm
          exact (show Tryz.prog.wantsStandIn 3 = false by kernel_rfl)
        · simp at ht⟩)
    (by kernel_rfl)
end Go.Eng
namespace Go.Proofs.YtcfmjomniaopcaaGreatDoor
theorem schemaStatement_proved : Rows.SchemaStatementCardSaid := Go.Eng.card3
end Go.Proofs.YtcfmjomniaopcaaGreatDoor
