/- The closed facts of the row: what it reaches. -/
import Derived.Test.YtgfcaneemijmeaaGreatDoorRows
import Derived.JoinedOf
namespace Go.Proofs.YtgfcaneemijmeaaGreatDoor
open Go
theorem fact9 : (Rows.moduleSameRow.inPlace == Tryz.prog.inPlace 3) = true := by kernel_rfl
theorem fact10 : (Rows.moduleSameRow.unfollowed == Tryz.prog.unfollowed 3) = true := by kernel_rfl
theorem fact11 : (Rows.moduleSameRow.recurses == Tryz.prog.recurses 3) = true := by kernel_rfl
theorem fact12 : (Rows.moduleSameRow.named == Tryz.prog.varsNamed 3) = true := by kernel_rfl
end Go.Proofs.YtgfcaneemijmeaaGreatDoor
