/- The tie of the row: what it lists is what the program's text lays. -/
import Derived.Test.YtgfcaneemijmeaaGreatDoorRows
import Derived.LaidByTextLater
import Derived.SevenTiedAt
namespace Go.Proofs.YtgfcaneemijmeaaGreatDoor
open Go
theorem tied0 : Tryz.prog.worded (varsWordLater true) = true := by kernel_rfl
theorem tied1 : Tryz.prog.worded (varsWordLater !true) = false := by kernel_rfl
theorem tied2 : Tryz.prog.worded rootWordLater = true := by kernel_rfl
theorem tied3 : Rows.moduleSameRow.laid.map (fun x => Tryz.prog.kindOfLater x.1) = (([.data, .data, .sentinel, .sentinel, .data, .data, .data] : List LaidKind)).map some := by kernel_rfl
theorem tied4 : (Tryz.prog.funcNamed "gosem.cut.vars").isSome = true := by kernel_rfl
theorem tied5 : varsNamedLaterB Tryz.prog (varsId Tryz.prog) Rows.moduleSameRow.laid = true := by kernel_rfl
theorem tied6 (os : Os) (tape : Tape) : varsDone Tryz.prog 400 (varsId Tryz.prog) os tape = true := by kernel_rfl
theorem tied7 (os : Os) (tape : Tape) : (DataW.laidRun Tryz.prog (varsWorld Tryz.prog 400 (varsId Tryz.prog) os tape).memory 8 (Rows.moduleSameRow.laid.map (·.1))).map (·.1) = some Rows.moduleSameRow.laid := by kernel_rfl
theorem tied8 (os : Os) (tape : Tape) : (DataW.laidRun Tryz.prog (varsWorld Tryz.prog 400 (varsId Tryz.prog) os tape).memory 8 (Rows.moduleSameRow.laid.map (·.1))).map (fun x => decide x.2.Nodup && laidRowsB Tryz.prog (varsWorld Tryz.prog 400 (varsId Tryz.prog) os tape).memory x.2) = some true := by kernel_rfl
theorem tied_own : Tryz.pinned.checked.prog.headLifts.contains "ownunsafe" = false := by kernel_rfl
theorem tied : Tryz.prog.laidByTextLater Rows.moduleSameRow.laid [.data, .data, .sentinel, .sentinel, .data, .data, .data] true :=
  Program.laidByTextLater_by_run 400 8 tied0 tied1 tied2 tied3 tied4 tied5 tied6 tied7 tied8
theorem row_tied : Rows.moduleSameRow.laidByTextAt .later Tryz.pinned [.data, .data, .sentinel, .sentinel, .data, .data, .data] true :=
  OpenClaim.laidByTextAt_later rfl rfl tied tied_own
end Go.Proofs.YtgfcaneemijmeaaGreatDoor
