/-
  A closed fact of the program: 'inPlace' of the law PointRefuses. No condition.
-/
import Derived.Test.YtghmnaojmpjglaaGreatDoorRows
import Derived.Test.YtghmnaojmpjglaaGreatDoorPrG1
import Derived.Test.YtghmnaojmpjglaaGreatDoorPrG2
import Derived.Test.YtghmnaojmpjglaaGreatDoorPrG3
import Derived.Test.YtghmnaojmpjglaaGreatDoorPrG4
set_option linter.all false
namespace Go.Proofs.YtghmnaojmpjglaaGreatDoor.pointRefuses
theorem fIn:Tryz.checked.prog.inPlace 3=Rows.pointRefusesRow.inPlace:=gIn
end Go.Proofs.YtghmnaojmpjglaaGreatDoor.pointRefuses
namespace Go.Proofs.YtghmnaojmpjglaaGreatDoor.pointRefuses
theorem fUn:Tryz.checked.prog.unfollowed 3=Rows.pointRefusesRow.unfollowed:=gUn
end Go.Proofs.YtghmnaojmpjglaaGreatDoor.pointRefuses
namespace Go.Proofs.YtghmnaojmpjglaaGreatDoor.pointRefuses
theorem fRe:Tryz.checked.prog.recurses 3=Rows.pointRefusesRow.recurses:=gRe
end Go.Proofs.YtghmnaojmpjglaaGreatDoor.pointRefuses
namespace Go.Proofs.YtghmnaojmpjglaaGreatDoor.pointRefuses
theorem fVa:Tryz.checked.prog.varsNamed 3=Rows.pointRefusesRow.named:=gVa
end Go.Proofs.YtghmnaojmpjglaaGreatDoor.pointRefuses
