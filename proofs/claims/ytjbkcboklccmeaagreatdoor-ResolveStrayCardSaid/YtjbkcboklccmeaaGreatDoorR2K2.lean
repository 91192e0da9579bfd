/-
  The checks of the functions, by the kernel.
-/
import Derived.Test.YtjbkcboklccmeaaGreatDoorR2E
import Derived.Test.YtjbkcboklccmeaaGreatDoorR2A0
import Derived.Test.YtjbkcboklccmeaaGreatDoorR2A1
import Derived.KernelRfl
set_option linter.unusedVariables false
set_option linter.unusedSimpArgs false
set_option maxRecDepth 100000
namespace Go.Proofs.YtjbkcboklccmeaaGreatDoor.Abs.R2
theorem k13 : ckFunc E D 13 af13 = true := by kernel_rfl
theorem k27 : ckFunc E D 27 af27 = true := by kernel_rfl
theorem k28 : ckFunc E D 28 af28 = true := by kernel_rfl
theorem k29 : ckFunc E D 29 af29 = true := by kernel_rfl
theorem k36 : ckFunc E D 36 af36 = true := by kernel_rfl
theorem k54 : ckFunc E D 54 af54 = true := by kernel_rfl
theorem k62 : ckFunc E D 62 af62 = true := by kernel_rfl
theorem k78 : ckFunc E D 78 af78 = true := by kernel_rfl
theorem k85 : ckFunc E D 85 af85 = true := by kernel_rfl
theorem k87 : ckFunc E D 87 af87 = true := by kernel_rfl
theorem k90 : ckFunc E D 90 af90 = true := by kernel_rfl
theorem k95 : ckFunc E D 95 af95 = true := by kernel_rfl
theorem k108 : ckFunc E D 108 af108 = true := by kernel_rfl
theorem k109 : ckFunc E D 109 af109 = true := by kernel_rfl
theorem k114 : ckFunc E D 114 af114 = true := by kernel_rfl
theorem k116 : ckFunc E D 116 af116 = true := by kernel_rfl
theorem k120 : ckFunc E D 120 af120 = true := by kernel_rfl
theorem k135 : ckFunc E D 135 af135 = true := by kernel_rfl
theorem k143 : ckFunc E D 143 af143 = true := by kernel_rfl
theorem k144 : ckFunc E D 144 af144 = true := by kernel_rfl
theorem k151 : ckFunc E D 151 af151 = true := by kernel_rfl
theorem k155 : ckFunc E D 155 af155 = true := by kernel_rfl
theorem k156 : ckFunc E D 156 af156 = true := by kernel_rfl
theorem k162 : ckFunc E D 162 af162 = true := by kernel_rfl
end Go.Proofs.YtjbkcboklccmeaaGreatDoor.Abs.R2
