/-
  A closed fact of the program of the law PointRefuses: whether it recurses. No condition.
-/
import Derived.Test.YtghmnaojmpjglaaGreatDoorProg
import GoSem.ClaimGoes
import Derived.JoinedOf
import Derived.KernelRfl
set_option linter.all false
namespace Go.Proofs.YtghmnaojmpjglaaGreatDoor.pointRefuses
theorem gRe:Tryz.prog.recurses 3=true:=by kernel_rfl
end Go.Proofs.YtghmnaojmpjglaaGreatDoor.pointRefuses
