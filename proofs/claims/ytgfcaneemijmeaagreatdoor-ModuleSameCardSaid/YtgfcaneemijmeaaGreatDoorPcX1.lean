/- A piece of the chapter's examples, run. -/
import Derived.Test.YtgfcaneemijmeaaGreatDoorPcs
set_option linter.unusedVariables false
set_option linter.unusedSimpArgs false
namespace Go.Eng
theorem pc1_run : okR (pc1.run (EE env1) 201) = true := by kernel_rfl
theorem pc9_run : okR (pc9.run (EE env1) 201) = true := by kernel_rfl
theorem pc19_run : okR (pc19.run (EE env1) 201) = true := by kernel_rfl
theorem pc7_run : okR (pc7.run (EE env2) 201) = true := by kernel_rfl
theorem pc16_run : okR (pc16.run (EE env3) 201) = true := by kernel_rfl
end Go.Eng
