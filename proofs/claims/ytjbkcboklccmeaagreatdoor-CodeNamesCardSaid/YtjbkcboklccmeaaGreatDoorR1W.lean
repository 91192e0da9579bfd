/-
  The functions 'awake' return true.
-/
import Derived.Test.YtjbkcboklccmeaaGreatDoorR1N
import Derived.Test.YtjbkcboklccmeaaGreatDoorGi
set_option linter.unusedVariables false
set_option linter.unusedSimpArgs false
namespace Go.Proofs.YtjbkcboklccmeaaGreatDoor.Abs.R1
theorem awake15_b (m : Int) : ND.ok trueR (callF ⟨glC m, ext⟩ T 400 (.fn 19) [] []) = true := by kernel_rfl
theorem awake15 (m : Int) : Run (call ⟨glC m, ext⟩ T 400 (.fn 19) [] []) fun r => r.1 = .bool true := closed_trueF (awake15_b m)
end Go.Proofs.YtjbkcboklccmeaaGreatDoor.Abs.R1
