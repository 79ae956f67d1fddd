/- PROVED: 'disjointlaw12.SchemaLookup' returns true for every schema and every two names, and its arguments read as they did, on the condition that package lexer's variable 'keywords' holds what the program's text lays there. -/
import Derived.Test.YtcfmjomniaopcaaDoorR2Frame
import Derived.Test.YtcfmjomniaopcaaDoorR2Law5
import Derived.Test.YtcfmjomniaopcaaDoorTie
import Derived.Test.YtcfmjomniaopcaaDoorCards
namespace Go.Eng
open Go Go.Proofs Go.Proofs.YtcfmjomniaopcaaDoor
open Go.ChangeShapes Go.WideShapes Go.RowKit
theorem laid_met5 (os : Os) (args : Array Value) : laidMetH Tryd.prog Rows.schemaLookupRow.laid ((laidWorld os).forCall (fun _ _ => 0) ⟨#[], args, []⟩).memory :=
  show laidMet Tryd.prog Rows.schemaLookupRow.laid _ from laidMet_of_run' 8 (by kernel_rfl) (by kernel_rfl)
theorem hasL_three {w : World} {S : Sh} {a b c : D} {x y z : Value} (h : HasV w S a x) (k : HasV w S b y) (l : HasV w S c z) : HasL w S [a, b, c] (#[x, y, z] : Array Value).toList := by
  refine ⟨rfl, fun j c v hc hv => ?_⟩
  match j, hc, hv with
  | 0, hc, hv => simp at hc hv; subst hc; subst hv; exact h
  | 1, hc, hv => simp at hc hv; subst hc; subst hv; exact k
  | 2, hc, hv => simp at hc hv; subst hc; subst hv; exact l
  | j + 3, hc, hv => simp at hc
set_option maxRecDepth 100000 in
theorem lifted5 (os : Os) (started : os.Started) (H : Type) (enc : TypeId × Value → H) :
    ReturnsInHanded {} Tryd.checked os 5 .any (fun w args => (Rows.schemaLookupSpec.pre enc Tryd.prog Tryd.f5 [] false w args ∧ laidMetH Tryd.prog Rows.schemaLookupRow.laid w) ∧ sizedMet enc Tryd.prog Tryd.f5 (OpenSpec.ofChange Rows.schemaLookupSpec) false w args)
      (Rows.schemaLookupSpec.post enc Tryd.prog Tryd.f5 false true false false) := by
  refine returnsInHanded_of_change_and (C := Tryd.checked) (X := fun w _ => laidMetH Tryd.prog Rows.schemaLookupRow.laid w) (fun _ _ _ hh h => h.of_heap hh) Tryd_own started (by kernel_rfl) Tryd.func5
    (ChangeSpec.witness_shaped (enc := enc) (C := Tryd.checked) (os := os) (X := fun w _ => laidMetH Tryd.prog Rows.schemaLookupRow.laid w) false (laidWorld os) #[.slice none 0 0, .string ⟨#[]⟩, .string ⟨#[]⟩] 8 rfl (World.shaped_of_RefB (by kernel_rfl) (by kernel_rfl)) (by kernel_rfl) (by kernel_rfl) (by kernel_rfl) (laid_met5 os _)) ?_
  intro W base args ds gs before hval0 hW _ hwt0 hL _
  have hval : ∀ (j : Nat) t v, Tryd.f5.params[j]? = some t → args[j]? = some v → Value.okWide Tryd.prog W .any base t v := hval0
  have hW' := hW
  obtain ⟨p, q, hA0, hV0, rfl, hfz, hnd⟩ := hW
  have hA : DataW.TrodAll enc Tryd.prog W 0 (fun _ => true) true Tryd.f5.params.toList args.toList ds p := hA0
  have hV : DataW.TrodVars enc Tryd.prog W (fun _ => true) [] gs q := hV0
  obtain ⟨rfl, rfl⟩ : gs = [] ∧ q = [] := by
    cases gs with
    | nil => exact ⟨rfl, hV⟩
    | cons g r => exact absurd hV (by intro h; cases h)
  have hwt : ∀ m ∈ DataW.weightsEach Tryd.prog Tryd.f5.params.toList ds, m ≤ reachBytes := fun m hm => by
    have h := List.all_eq_true.1 hwt0 m (by
      simp only [List.append_nil]
      exact hm)
    exact of_decide_eq_true h
  rw [Tryd.params5] at hA hval hwt
  obtain ⟨v0, v1, v2, d0, d1, d2, p0, p1, p2, rfl, rfl, rfl, h0, h1, h2⟩ := trodAll_three hA
  have c0 := cells_of_slice Tryd.underlying23 (hval 0 23 v0 rfl rfl)
  have c1 := cells_of_str Tryd.underlying9 (hval 1 9 v1 rfl rfl)
  have c2 := cells_of_str Tryd.underlying9 (hval 2 9 v2 rfl rfl)
  obtain ⟨s, hs⟩ := arg_of rd23 c0 h0 fun m hm => hwt m (weightsEach_mem (i := 0) (t := 23) (d := d0) rfl rfl m hm)
  obtain ⟨na, hn⟩ := arg_of rd9 c1 h1 fun m hm => hwt m (weightsEach_mem (i := 1) (t := 9) (d := d1) rfl rfl m hm)
  obtain ⟨nb, hb⟩ := arg_of rd9 c2 h2 fun m hm => hwt m (weightsEach_mem (i := 2) (t := 9) (d := d2) rfl rfl m hm)
  refine (law_runs (f := 5) pf5 rfl (by simp only [go_sem]) (law5 s na nb) hL (hasL_three hs hn hb)).mono fun e W' ⟨he, hb⟩ => ?_
  have e1 : Rows.schemaLookupSpec.fn H ([d0, d1, d2] ++ []) = { results := [.lit (.bool true)], args := [d0, d1, d2] } := rfl
  have hlt : ∀ x ∈ p0 ++ (p1 ++ p2), x.block < W.heap.size := fun x hx => hW'.lt x (by simpa using hx)
  refine ⟨_, he, _, _, _, [], p0 ++ (p1 ++ p2), [], hW', ?_, ?_, ?_, hb.frame _, fun h => by cases h⟩
  · rw [e1]; exact trodAll_mk1 (shut_bool Tryd.underlying4 true)
  · rw [e1]
    exact trodAll_mk3 (RowKit.Below.trod Tryd_laidOut (by kernel_rfl) (of_decide_eq_true (by kernel_rfl)) h0 hb fun x hx => hlt x (List.mem_append_left _ hx))
      (RowKit.Below.trod Tryd_laidOut (by kernel_rfl) (of_decide_eq_true (by kernel_rfl)) h1 hb fun x hx => hlt x (List.mem_append_right _ (List.mem_append_left _ hx)))
      (RowKit.Below.trod Tryd_laidOut (by kernel_rfl) (of_decide_eq_true (by kernel_rfl)) h2 hb fun x hx => hlt x (List.mem_append_right _ (List.mem_append_right _ hx)))
  · rw [e1]; rfl
theorem holds5 : Rows.SchemaLookupSaid :=
  OpenClaim.holds_of_wide 5 Tryd.f5 rfl rfl rfl rfl rfl rfl rfl ⟨rfl, rfl, rfl, rfl, rfl⟩ rfl rfl rfl rfl rfl (by kernel_rfl) Tryd.func5 (by kernel_rfl)
    (of_decide_eq_true (by kernel_rfl)) (by unfold Func.isWrapper; rw [if_neg (of_decide_eq_false (by kernel_rfl))]; exact ⟨rfl, rfl⟩)
    (fun os started H enc _ => lifted5 os started H enc)
theorem card5 : Rows.SchemaLookupCardSaid :=
  Claim7.holds_tied_plain_at .later [] [.widerDeep] true (true, "3a54758f172549a56e6ddfdda4d3de0cf64d3c97aa0f30da0602257b3f5febcb") false
    holds5 (fun _ h => by cases h) (by kernel_rfl) (fun _ h => by cases h) schemaLookup_row_tie rfl ⟨rfl, rfl⟩ (by kernel_rfl) rfl
    (fun f fn hf hfn => by
      obtain rfl : f = 5 := Option.some.inj ((show Tryd.prog.funcNamed _ = some 5 by kernel_rfl).symm.trans hf) |>.symm
      obtain rfl : fn = Tryd.f5 := (Option.some.inj (Tryd.func5.symm.trans hfn)).symm
      exact ⟨by kernel_rfl, fun j t ht => by
        rw [Tryd.params5] at ht
        rcases j with _ | _ | _ | j
        · obtain rfl : t = 23 := by simpa using ht.symm
          exact (show Tryd.prog.wantsStandIn 23 = false by kernel_rfl)
        · obtain rfl : t = 9 := by simpa using ht.symm
          exact (show Tryd.prog.wantsStandIn 9 = false by kernel_rfl)
        · obtain rfl : t = 9 := by simpa using ht.symm
          exact (show Tryd.prog.wantsStandIn 9 = false by kernel_rfl)
        · simp at ht⟩)
    (by kernel_rfl)
end Go.Eng
namespace Go.Proofs.YtcfmjomniaopcaaDoor
theorem schemaLookup_proved : Rows.SchemaLookupCardSaid := Go.Eng.card5
end Go.Proofs.YtcfmjomniaopcaaDoor
