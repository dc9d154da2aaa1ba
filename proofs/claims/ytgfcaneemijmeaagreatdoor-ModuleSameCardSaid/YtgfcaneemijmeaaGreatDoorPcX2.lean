/- A piece of the chapter's examples, run. -/
import Derived.Test.YtgfcaneemijmeaaGreatDoorPcs
set_option linter.unusedVariables false
set_option linter.unusedSimpArgs false
namespace Go.Eng
theorem pc2_run : okR (pc2.run (EE env1) 201) = true := by kernel_rfl
theorem pc10_run : okR (pc10.run (EE env1) 201) = true := by kernel_rfl
theorem pc21_run : okR (pc21.run (EE env1) 201) = true := by kernel_rfl
theorem pc11_run : okR (pc11.run (EE env2) 201) = true := by kernel_rfl
theorem pc26_run : okR (pc26.run (EE env3) 201) = true := by kernel_rfl
end Go.Eng
