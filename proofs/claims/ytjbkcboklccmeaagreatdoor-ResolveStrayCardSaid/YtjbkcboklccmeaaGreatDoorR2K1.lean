/-
  The checks of the functions, by the kernel.
-/
import Derived.Test.YtjbkcboklccmeaaGreatDoorR2E
import Derived.Test.YtjbkcboklccmeaaGreatDoorR2A0
import Derived.Test.YtjbkcboklccmeaaGreatDoorR2A1
import Derived.KernelRfl
set_option linter.unusedVariables false
set_option linter.unusedSimpArgs false
set_option maxRecDepth 100000
namespace Go.Proofs.YtjbkcboklccmeaaGreatDoor.Abs.R2
theorem k5 : ckFunc E D 5 af5 = true := by kernel_rfl
theorem k12 : ckFunc E D 12 af12 = true := by kernel_rfl
theorem k30 : ckFunc E D 30 af30 = true := by kernel_rfl
theorem k31 : ckFunc E D 31 af31 = true := by kernel_rfl
theorem k33 : ckFunc E D 33 af33 = true := by kernel_rfl
theorem k34 : ckFunc E D 34 af34 = true := by kernel_rfl
theorem k50 : ckFunc E D 50 af50 = true := by kernel_rfl
theorem k53 : ckFunc E D 53 af53 = true := by kernel_rfl
theorem k57 : ckFunc E D 57 af57 = true := by kernel_rfl
theorem k58 : ckFunc E D 58 af58 = true := by kernel_rfl
theorem k61 : ckFunc E D 61 af61 = true := by kernel_rfl
theorem k83 : ckFunc E D 83 af83 = true := by kernel_rfl
theorem k84 : ckFunc E D 84 af84 = true := by kernel_rfl
theorem k86 : ckFunc E D 86 af86 = true := by kernel_rfl
theorem k93 : ckFunc E D 93 af93 = true := by kernel_rfl
theorem k107 : ckFunc E D 107 af107 = true := by kernel_rfl
theorem k117 : ckFunc E D 117 af117 = true := by kernel_rfl
theorem k119 : ckFunc E D 119 af119 = true := by kernel_rfl
theorem k134 : ckFunc E D 134 af134 = true := by kernel_rfl
theorem k145 : ckFunc E D 145 af145 = true := by kernel_rfl
theorem k150 : ckFunc E D 150 af150 = true := by kernel_rfl
theorem k163 : ckFunc E D 163 af163 = true := by kernel_rfl
theorem k168 : ckFunc E D 168 af168 = true := by kernel_rfl
end Go.Proofs.YtjbkcboklccmeaaGreatDoor.Abs.R2
