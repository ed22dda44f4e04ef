/-
  A closed fact of the program of the law PointRefuses: the variables that it names. No condition.
-/
import Derived.Test.YtghmnaojmpjglaaGreatDoorProg
import GoSem.ClaimGoes
import Derived.JoinedOf
import Derived.KernelRfl
set_option linter.all false
namespace Go.Proofs.YtghmnaojmpjglaaGreatDoor.pointRefuses
theorem gVa:Tryz.prog.varsNamed 3=["math/bits.deBruijn64tab"]:=by kernel_rfl
end Go.Proofs.YtghmnaojmpjglaaGreatDoor.pointRefuses
