/- A piece of the chapter's examples, run. -/
import Derived.Test.YtgfcaneemijmeaaGreatDoorPcs
set_option linter.unusedVariables false
set_option linter.unusedSimpArgs false
namespace Go.Eng
theorem pc4_run : okR (pc4.run (EE env1) 201) = true := by kernel_rfl
theorem pc12_run : okR (pc12.run (EE env1) 201) = true := by kernel_rfl
theorem pc22_run : okR (pc22.run (EE env1) 201) = true := by kernel_rfl
theorem pc15_run : okR (pc15.run (EE env2) 201) = true := by kernel_rfl
end Go.Eng
