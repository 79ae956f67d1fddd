/- A part of the proof: see the last text. -/
import Derived.Test.YtggiaoaballdgaaGreatDoorRows
import Derived.KernelRfl
import Derived.JoinedOf
set_option linter.unusedSimpArgs false
set_option linter.unusedVariables false
namespace Go.Eng
open Go Go.Proofs Go.Proofs.YtggiaoaballdgaaGreatDoor
theorem xVd :(Rows.executorNaiveRow.inPlace==Tryz.prog.inPlace 4)=true:=by kernel_rfl
theorem xVc :(Rows.executorNaiveRow.unfollowed==Tryz.prog.unfollowed 4)=true:=by kernel_rfl
theorem xVb :(Rows.executorNaiveRow.recurses==Tryz.prog.recurses 4)=true:=by kernel_rfl
theorem xVa :(Rows.executorNaiveRow.named==Tryz.prog.varsNamed 4)=true:=by kernel_rfl
theorem xUz :Tryz.prog.mayEnter=true:=by kernel_rfl
theorem xUy :Tryz.prog.stopsHeard=true:=by kernel_rfl
theorem yRf :joinedFacts Tryz.prog 4 Tryz.f4 Rows.executorNaiveSpec Rows.executorNaiveRow=true:=by
 unfold joinedFacts
 rw[xVd,xVc,xVb,xVa,xUz,xUy]
 kernel_rfl
end Go.Eng
