/-
  A closed fact of the program of the law PointRefuses: what it takes in place. No condition.
-/
import Derived.Test.YtghmnaojmpjglaaGreatDoorProg
import GoSem.ClaimGoes
import Derived.JoinedOf
import Derived.KernelRfl
set_option linter.all false
namespace Go.Proofs.YtghmnaojmpjglaaGreatDoor.pointRefuses
theorem gIn:Tryz.prog.inPlace 3=["sync/atomic.StoreUint64","sync/atomic.LoadUint64","sync/atomic.SwapUint64","sync/atomic.CompareAndSwapUint64"]:=by kernel_rfl
end Go.Proofs.YtghmnaojmpjglaaGreatDoor.pointRefuses
