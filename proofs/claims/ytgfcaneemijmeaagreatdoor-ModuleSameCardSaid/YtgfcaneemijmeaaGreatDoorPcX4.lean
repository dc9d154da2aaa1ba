/- A piece of the chapter's examples, run. -/
import Derived.Test.YtgfcaneemijmeaaGreatDoorPcs
set_option linter.unusedVariables false
set_option linter.unusedSimpArgs false
namespace Go.Eng
theorem pc5_run : okR (pc5.run (EE env1) 201) = true := by kernel_rfl
theorem pc14_run : okR (pc14.run (EE env1) 201) = true := by kernel_rfl
theorem pc23_run : okR (pc23.run (EE env1) 201) = true := by kernel_rfl
theorem pc20_run : okR (pc20.run (EE env2) 201) = true := by kernel_rfl
end Go.Eng
