/- What the rows of exact laws on surveys, deeds and books want: how their arguments are read. -/
import Derived.Test.YtgggbapcpjfljaaGreatDoorRows
import Derived.Test.YtgggbapcpjfljaaGreatDoorOpB
import Derived.OpenShut
import Derived.ShutString
import Derived.ChangeOld
import Derived.Below
namespace Go.Proofs.YtgggbapcpjfljaaGreatDoor
open Go Go.ChangeShapes Go.WideShapes Go.ChangeAt Go.RowKit

theorem ownP : ownKnob Tryz.prog.godebug = none := by kernel_rfl
theorem laidOutP : laidOutB Tryz.prog = true := by kernel_rfl

end Go.Proofs.YtgggbapcpjfljaaGreatDoor
