/-
  Closed facts of the program and of the row of the law PointRefuses, one by one. No condition.
-/
import Derived.Test.YtghmnaojmpjglaaGreatDoorRows
import Derived.JoinedOf
import Derived.KernelRfl
set_option linter.all false
namespace Go.Proofs.YtghmnaojmpjglaaGreatDoor.pointRefuses
theorem jWf:Rows.pointRefusesRow.wf (OpenSpec.ofChange Rows.pointRefusesSpec)=true:=by kernel_rfl
theorem jTie:namedTie Tryz.checked.prog Rows.pointRefusesRow.named Rows.pointRefusesSpec.vars=true:=by kernel_rfl
theorem jStops:(Tryz.checked.prog.stops==[])=true:=by kernel_rfl
theorem jKnobs:(Tryz.checked.prog.stopKnobs==[])=true:=by kernel_rfl
theorem jPlain:(Rows.pointRefusesRow.plainKeys==Tryz.checked.prog.plainKeys)=true:=by kernel_rfl
theorem jHeard:Tryz.checked.prog.stopsHeard=true:=by kernel_rfl
theorem jMay:Tryz.checked.prog.mayEnter=true:=by kernel_rfl
theorem jLift:(Rows.pointRefusesRow.lifted==Tryz.checked.prog.liftsFinal)=true:=by kernel_rfl
theorem jMake:(Tryz.checked.prog.make==some Rows.pointRefusesRow.make)=true:=by kernel_rfl
theorem jPin:(Rows.pointRefusesRow.pinned==Rows.pointRefusesRow.pinnedBy)=true:=by kernel_rfl
end Go.Proofs.YtghmnaojmpjglaaGreatDoor.pointRefuses
