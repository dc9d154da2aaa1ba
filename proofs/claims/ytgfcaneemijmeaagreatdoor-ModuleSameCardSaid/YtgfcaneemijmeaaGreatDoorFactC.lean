/- The closed facts of the card. -/
import Derived.Test.YtgfcaneemijmeaaGreatDoorRows
import Derived.SevenTiedAt
namespace Go.Proofs.YtgfcaneemijmeaaGreatDoor
open Go
theorem card_main : Tryz.pinned.checked.prog.mainIs = some (true, "1b9a7ea7e9e0f5dca0937484c99634f9da6f501b54558e3123a9be663accec3a".toList) := by kernel_rfl
theorem card_looks : true = Tryz.pinned.checked.prog.looks [] := by kernel_rfl
theorem card_named : Tryz.pinned.checked.prog.funcNamed Rows.moduleSameRow.func = some 3 := by kernel_rfl
theorem card_closure : ((Tryz.pinned.checked.prog.closure 3).any fun g => (Tryz.pinned.checked.prog.funcs[g]?).any Func.goes) = false := by kernel_rfl
theorem card_all : Tryz.pinned.checked.prog.funcs.any Func.goes = false := by kernel_rfl
theorem card_goes : false = Rows.moduleSameRow.goesBy Tryz.pinned.checked.prog := by
  have h : Tryz.pinned.checked.prog.goes 3 = false := by
    unfold Program.goes
    rw [card_closure, card_all, Bool.and_false]
    rfl
  unfold OpenClaim.goesBy Program.goesAt Program.goesFrom
  rw [card_named, Option.any_some, h]
  rfl
theorem card_wf : Rows.moduleSameRow.wfByText (OpenSpec.ofChange Rows.moduleSameSpec) = true := by kernel_rfl
theorem card_want : Tryz.pinned.checked.prog.wantsStandIn 25 = false := by kernel_rfl
end Go.Proofs.YtgfcaneemijmeaaGreatDoor
