/- PROVED: 'disjointlaw46.ExecutorNaive' returns true for every case and all rows, and its arguments read as they did, on the condition that package tribool's variable 'values' holds what the program's text lays there. -/
import Derived.Test.YtggiaoaballdgaaGreatDoorTie
import Derived.Test.YtggiaoaballdgaaGreatDoorCards
import Derived.Test.YtggiaoaballdgaaGreatDoorJ46
import Derived.Test.YtggiaoaballdgaaGreatDoorR6Join
set_option linter.unusedSimpArgs false
set_option linter.unusedVariables false
namespace Go.Eng
open Go Go.Proofs Go.Proofs.YtggiaoaballdgaaGreatDoor
open Go.ChangeShapes Go.WideShapes Go.RowKit
theorem xAf : Rows.ExecutorNaiveSaid :=
 OpenClaim.holds_of_wide 4 Tryz.f4 rfl rfl rfl rfl rfl rfl rfl ⟨rfl, rfl, rfl, rfl, rfl⟩ rfl rfl rfl rfl rfl (by kernel_rfl) Tryz.func4 yRf
  (of_decide_eq_true (by kernel_rfl)) (by unfold Func.isWrapper; rw [if_neg (of_decide_eq_false (by kernel_rfl))]; exact ⟨rfl, rfl⟩)
  (fun os started H enc _ => yQz os started H enc)
set_option maxHeartbeats 8000000 in
theorem card4 : Rows.ExecutorNaiveCardSaid :=
 Claim7.holds_tied_plain_at .later [] [.data] true (true, "ae15b902ad8543624f7c85eb2b8b9b8db08183fcb7e8c2a0db0b27512d992e3d") false
  xAf (fun _ h => by cases h) (by kernel_rfl) (fun _ h => by cases h) executorNaive_row_tie rfl ⟨rfl, rfl⟩ (by kernel_rfl) rfl
  (fun f fn hf hfn => by
   obtain rfl : f = 4 := Option.some.inj ((show Tryz.prog.funcNamed _ = some 4 by kernel_rfl).symm.trans hf) |>.symm
   obtain rfl : fn = Tryz.f4 := (Option.some.inj (Tryz.func4.symm.trans hfn)).symm
   exact ⟨by kernel_rfl, fun j t ht => by
    rw [Tryz.params4] at ht
    rcases j with _ | _ | j
    ·obtain rfl : t = 32 := by simpa using ht.symm
     exact (show Tryz.prog.wantsStandIn 32 = false by kernel_rfl)
    ·obtain rfl : t = 33 := by simpa using ht.symm
     exact (show Tryz.prog.wantsStandIn 33 = false by kernel_rfl)
    ·simp at ht⟩)
  (by kernel_rfl)
end Go.Eng
namespace Go.Proofs.YtggiaoaballdgaaGreatDoor
theorem executorNaive_proved : Rows.ExecutorNaiveCardSaid := Go.Eng.card4
end Go.Proofs.YtggiaoaballdgaaGreatDoor
