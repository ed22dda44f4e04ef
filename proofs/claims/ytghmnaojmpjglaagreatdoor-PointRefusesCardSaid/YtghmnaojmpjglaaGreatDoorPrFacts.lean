/-
  Closed facts of the program and of the row of the law PointRefuses. No condition.
-/
import Derived.Test.YtghmnaojmpjglaaGreatDoorPrF
import Derived.Test.YtghmnaojmpjglaaGreatDoorPrJ
import Derived.Test.YtghmnaojmpjglaaGreatDoorPrG5
import Derived.Test.YtghmnaojmpjglaaGreatDoorPrG8a
import Derived.Test.YtghmnaojmpjglaaGreatDoorPrG8b
import Derived.Test.YtghmnaojmpjglaaGreatDoorPrG8c
import Derived.Test.YtghmnaojmpjglaaGreatDoorPrG8d
set_option linter.all false
namespace Go.Proofs.YtghmnaojmpjglaaGreatDoor.pointRefuses
theorem factNamed:Tryz.prog.funcNamed "leapfrog/leapfroglaw32.PointRefuses"=some 3:=gNamed
theorem factInst:Tryz.f3.isInstance Tryz.prog Rows.pointRefusesRow.origin Rows.pointRefusesRow.targs:=of_decide_eq_true (by kernel_rfl)
theorem factWrap:Tryz.f3.isWrapper Tryz.prog Rows.pointRefusesRow.wrapper Rows.pointRefusesRow.mainSum:=by unfold Func.isWrapper;first|(rw[if_pos (by decide+kernel)];kernel_rfl)|(rw[if_neg (by decide+kernel)];exact⟨rfl,rfl⟩)
theorem hLaid:laidOutB Tryz.checked.prog=true:=by
 show laidOutB Tryz.prog=true
 unfold laidOutB
 rw[gGlob,gPars,gSize]
 have e:List.range 673=List.range' 0 169++List.range' 169 169++List.range' 338 169++List.range' 507 166:=by kernel_rfl
 rw[e]
 simp only[List.all_append,gLaid0,gLaid1,gLaid2,gLaid3,Bool.and_true]
theorem hMaps:mapsRowed Tryz.checked.prog=true:=gMaps
theorem factJoined:joinedFacts Tryz.checked.prog 3 Tryz.f3 Rows.pointRefusesSpec Rows.pointRefusesRow=true:=by
 unfold joinedFacts
 rw[fIn,fUn,fRe,fVa,hLaid,hMaps,jWf,jTie,jStops,jKnobs,jPlain,jHeard,jMay,jLift,jMake,jPin]
 kernel_rfl
end Go.Proofs.YtghmnaojmpjglaaGreatDoor.pointRefuses
