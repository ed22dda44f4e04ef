/-
  A closed fact of the program of the law PointRefuses: no function goes. No condition.
-/
import Derived.Test.YtghmnaojmpjglaaGreatDoorProg
import GoSem.ClaimGoes
import Derived.JoinedOf
import Derived.KernelRfl
set_option linter.all false
namespace Go.Proofs.YtghmnaojmpjglaaGreatDoor.pointRefuses
theorem gStill:(Tryz.prog.funcs.toList.all fun fn:Func=>!fn.goes)=true:=by decide+kernel
end Go.Proofs.YtghmnaojmpjglaaGreatDoor.pointRefuses
