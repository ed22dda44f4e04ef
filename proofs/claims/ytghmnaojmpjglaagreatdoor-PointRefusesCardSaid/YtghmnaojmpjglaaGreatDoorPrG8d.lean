/-
  A closed fact of the program of the law PointRefuses: how its types lie (507 to 673). No condition.
-/
import Derived.Test.YtghmnaojmpjglaaGreatDoorProg
import GoSem.ClaimGoes
import Derived.JoinedOf
import Derived.KernelRfl
set_option linter.all false
namespace Go.Proofs.YtghmnaojmpjglaaGreatDoor.pointRefuses
theorem gLaid3:(List.range' 507 166).all (rowFine Tryz.prog)=true:=by decide+kernel
end Go.Proofs.YtghmnaojmpjglaaGreatDoor.pointRefuses
