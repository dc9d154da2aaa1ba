/- A piece of the chapter's examples, run. -/
import Derived.Test.YtgfcaneemijmeaaGreatDoorPcs
set_option linter.unusedVariables false
set_option linter.unusedSimpArgs false
namespace Go.Eng
theorem pc0_run : okR (pc0.run (EE env1) 201) = true := by kernel_rfl
theorem pc8_run : okR (pc8.run (EE env1) 201) = true := by kernel_rfl
theorem pc18_run : okR (pc18.run (EE env1) 201) = true := by kernel_rfl
theorem pc3_run : okR (pc3.run (EE env2) 201) = true := by kernel_rfl
theorem pc13_run : okR (pc13.run (EE env3) 201) = true := by kernel_rfl
end Go.Eng
