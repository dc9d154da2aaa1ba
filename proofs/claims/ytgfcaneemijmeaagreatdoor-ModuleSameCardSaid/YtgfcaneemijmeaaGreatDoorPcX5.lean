/- A piece of the chapter's examples, run. -/
import Derived.Test.YtgfcaneemijmeaaGreatDoorPcs
set_option linter.unusedVariables false
set_option linter.unusedSimpArgs false
namespace Go.Eng
theorem pc6_run : okR (pc6.run (EE env1) 201) = true := by kernel_rfl
theorem pc17_run : okR (pc17.run (EE env1) 201) = true := by kernel_rfl
theorem pc25_run : okR (pc25.run (EE env1) 201) = true := by kernel_rfl
theorem pc24_run : okR (pc24.run (EE env2) 201) = true := by kernel_rfl
end Go.Eng
