/-
  Closed facts of the card of the law PointRefuses. No condition.
-/
import Derived.Test.YtghmnaojmpjglaaGreatDoorRows
import Derived.Stop.Joined
import Derived.SevenTiedAt
import Derived.KernelRfl
import Derived.Test.YtghmnaojmpjglaaGreatDoorPrG7
set_option linter.all false
namespace Go.Proofs.YtghmnaojmpjglaaGreatDoor.pointRefuses
theorem cMain:Tryz.pinned.checked.prog.mainIs=some (true,"33f3a8c1aed0f0f7ade1f5589833f236b7a0bb4e1332e6b80a3fe86b89bd9045".toList):=by kernel_rfl
theorem cLooks:false=Tryz.pinned.checked.prog.looks []:=by kernel_rfl
theorem still_at(f:FuncId):Tryz.prog.goes f=false:=by
 have one:∀(g:Nat) (fn:Func),Tryz.prog.funcs[g]?=some fn→fn.goes=false:=fun g fn hg=>by
  have:=List.all_eq_true.1 gStill fn (by simpa using Array.mem_of_getElem? hg)
  simpa using this
 unfold Program.goes
 rw[Bool.or_eq_false_iff]
 constructor
 ·rw[List.any_eq_false]
  intro g _
  cases hg:Tryz.prog.funcs[g]? with
  |none=>simp
  |some fn=>simp[one g fn hg]
 ·have:Tryz.prog.funcs.any Func.goes=false:=by
   rw[Array.any_eq_false]
   intro i hi
   have:=one i Tryz.prog.funcs[i] (by simp[hi])
   simp[this]
  rw[this,Bool.and_false]
theorem cGoes:false=Rows.pointRefusesRow.goesBy Tryz.pinned.checked.prog:=by
 show false=Tryz.prog.goesAt .entering Rows.pointRefusesRow.func
 unfold Program.goesAt Program.goesFrom
 cases Tryz.prog.funcNamed Rows.pointRefusesRow.func with
 |none=>rfl
 |some f=>simp[still_at f]
theorem cText:Rows.pointRefusesRow.wfByText (OpenSpec.ofChange Rows.pointRefusesSpec)=true:=by kernel_rfl
end Go.Proofs.YtghmnaojmpjglaaGreatDoor.pointRefuses
