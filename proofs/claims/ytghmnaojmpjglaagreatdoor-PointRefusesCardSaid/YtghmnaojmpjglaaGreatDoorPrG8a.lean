/-
  A closed fact of the program of the law PointRefuses: how its types lie (0 to 169). No condition.
-/
import Derived.Test.YtghmnaojmpjglaaGreatDoorProg
import GoSem.ClaimGoes
import Derived.JoinedOf
import Derived.KernelRfl
set_option linter.all false
namespace Go.Proofs.YtghmnaojmpjglaaGreatDoor.pointRefuses
theorem gLaid0:(List.range' 0 169).all (rowFine Tryz.prog)=true:=by decide+kernel
end Go.Proofs.YtghmnaojmpjglaaGreatDoor.pointRefuses
