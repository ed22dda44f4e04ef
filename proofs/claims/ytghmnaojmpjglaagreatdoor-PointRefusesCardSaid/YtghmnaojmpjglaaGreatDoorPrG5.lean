/-
  A closed fact of the program of the law PointRefuses: its number. No condition.
-/
import Derived.Test.YtghmnaojmpjglaaGreatDoorProg
import GoSem.ClaimGoes
import Derived.JoinedOf
import Derived.KernelRfl
set_option linter.all false
namespace Go.Proofs.YtghmnaojmpjglaaGreatDoor.pointRefuses
theorem gNamed:Tryz.prog.funcNamed "leapfrog/leapfroglaw32.PointRefuses"=some 3:=by kernel_rfl
end Go.Proofs.YtghmnaojmpjglaaGreatDoor.pointRefuses
namespace Go.Proofs.YtghmnaojmpjglaaGreatDoor.pointRefuses
theorem gMaps:mapsRowed Tryz.prog=true:=by kernel_rfl
end Go.Proofs.YtghmnaojmpjglaaGreatDoor.pointRefuses
namespace Go.Proofs.YtghmnaojmpjglaaGreatDoor.pointRefuses
theorem gSize:Tryz.prog.types.size=673:=by kernel_rfl
theorem gGlob:Tryz.prog.globals.all (fun g=>decide (g.type<Tryz.prog.types.size))=true:=by kernel_rfl
theorem gPars:Tryz.prog.funcs.all (fun f=>f.params.all fun t=>decide (t<Tryz.prog.types.size))=true:=by kernel_rfl
end Go.Proofs.YtghmnaojmpjglaaGreatDoor.pointRefuses
