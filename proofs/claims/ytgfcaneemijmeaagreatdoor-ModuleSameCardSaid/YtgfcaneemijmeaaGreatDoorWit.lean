/- The closed facts of the world in which the listed variables lie. -/
import Derived.Test.YtgfcaneemijmeaaGreatDoorRows
import Derived.LaidLaws
import Derived.LaidMore
import Derived.Lay
import Derived.MakeChecks
import Derived.LaidHandle
namespace Go.Proofs.YtgfcaneemijmeaaGreatDoor
noncomputable abbrev laidW (os : Os) : World := World.laidAll Tryz.prog os Rows.moduleSameRow.laid
abbrev wArgs : Array Value := #[.agg #[.string ByteArray.empty, .int .i64 0, .slice none 0 0, .slice none 0 0], .agg #[.string ByteArray.empty, .int .i64 0, .slice none 0 0, .slice none 0 0]]
theorem w_zip (os : Os) : ((laidW os).forCall (fun _ _ => 0) ⟨#[], wArgs, []⟩).variablesZipB Tryz.prog = true := by kernel_rfl
theorem w_rows (os : Os) : (((laidW os).forCall (fun _ _ => 0) ⟨#[], wArgs, []⟩).heap.toList.drop Tryz.prog.globals.size).take ((begin Tryz.prog (fun _ _ => 0) default).world.heap.size - Tryz.prog.globals.size) = (begin Tryz.prog (fun _ _ => 0) default).world.heap.toList.drop Tryz.prog.globals.size := by kernel_rfl
theorem w_ok (os : Os) : Input.okWideB Tryz.prog ((laidW os).forCall (fun _ _ => 0) ⟨#[], wArgs, []⟩) 3 ⟨#[], wArgs, []⟩ = true := by kernel_rfl
theorem w_pre (os : Os) {H : Type} (enc : TypeId × Value → H) : Rows.moduleSameSpec.preB enc Tryz.prog Tryz.f3 Rows.moduleSameRow.domain false ((laidW os).forCall (fun _ _ => 0) ⟨#[], wArgs, []⟩).memory wArgs 8 = true := by kernel_rfl
theorem w_sized (os : Os) {H : Type} (enc : TypeId × Value → H) : Rows.moduleSameSpec.sizedB enc Tryz.prog Tryz.f3 false ((laidW os).forCall (fun _ _ => 0) ⟨#[], wArgs, []⟩).memory wArgs 8 = true := by kernel_rfl
theorem w_plain : (Rows.moduleSameRow.laid.all fun x => x.2.handleName?.isNone) = true := by kernel_rfl
theorem w_fits (os : Os) : (World.holding Tryz.prog os ⟨#[], #[], []⟩).layFits Tryz.prog Rows.moduleSameRow.laid [] = true := by kernel_rfl
theorem w_ifaces (os : Os) : (World.holding Tryz.prog os ⟨#[], #[], []⟩).layIfaces Tryz.prog Rows.moduleSameRow.laid (laidW os) = true := by kernel_rfl
end Go.Proofs.YtgfcaneemijmeaaGreatDoor
