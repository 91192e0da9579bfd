/-
  The checks of the functions, by the kernel.
-/
import Derived.Test.YtjbkcboklccmeaaGreatDoorR1E
import Derived.Test.YtjbkcboklccmeaaGreatDoorR1A0
import Derived.Test.YtjbkcboklccmeaaGreatDoorR1A1
import Derived.Test.YtjbkcboklccmeaaGreatDoorR1A2
import Derived.Test.YtjbkcboklccmeaaGreatDoorR1A3
import Derived.KernelRfl
set_option linter.unusedVariables false
set_option linter.unusedSimpArgs false
set_option maxRecDepth 100000
namespace Go.Proofs.YtjbkcboklccmeaaGreatDoor.Abs.R1
theorem k5 : ckFunc E D 5 af5 = true := by kernel_rfl
theorem k17 : ckFunc E D 17 af17 = true := by kernel_rfl
theorem k18 : ckFunc E D 18 af18 = true := by kernel_rfl
theorem k22 : ckFunc E D 22 af22 = true := by kernel_rfl
theorem k27 : ckFunc E D 27 af27 = true := by kernel_rfl
theorem k33 : ckFunc E D 33 af33 = true := by kernel_rfl
theorem k34 : ckFunc E D 34 af34 = true := by kernel_rfl
theorem k39 : ckFunc E D 39 af39 = true := by kernel_rfl
theorem k41 : ckFunc E D 41 af41 = true := by kernel_rfl
theorem k49 : ckFunc E D 49 af49 = true := by kernel_rfl
theorem k52 : ckFunc E D 52 af52 = true := by kernel_rfl
theorem k53 : ckFunc E D 53 af53 = true := by kernel_rfl
theorem k56 : ckFunc E D 56 af56 = true := by kernel_rfl
theorem k61 : ckFunc E D 61 af61 = true := by kernel_rfl
theorem k66 : ckFunc E D 66 af66 = true := by kernel_rfl
theorem k67 : ckFunc E D 67 af67 = true := by kernel_rfl
theorem k68 : ckFunc E D 68 af68 = true := by kernel_rfl
theorem k75 : ckFunc E D 75 af75 = true := by kernel_rfl
theorem k78 : ckFunc E D 78 af78 = true := by kernel_rfl
theorem k80 : ckFunc E D 80 af80 = true := by kernel_rfl
theorem k87 : ckFunc E D 87 af87 = true := by kernel_rfl
theorem k90 : ckFunc E D 90 af90 = true := by kernel_rfl
theorem k92 : ckFunc E D 92 af92 = true := by kernel_rfl
theorem k94 : ckFunc E D 94 af94 = true := by kernel_rfl
theorem k101 : ckFunc E D 101 af101 = true := by kernel_rfl
theorem k102 : ckFunc E D 102 af102 = true := by kernel_rfl
theorem k104 : ckFunc E D 104 af104 = true := by kernel_rfl
theorem k105 : ckFunc E D 105 af105 = true := by kernel_rfl
theorem k107 : ckFunc E D 107 af107 = true := by kernel_rfl
theorem k118 : ckFunc E D 118 af118 = true := by kernel_rfl
theorem k119 : ckFunc E D 119 af119 = true := by kernel_rfl
theorem k130 : ckFunc E D 130 af130 = true := by kernel_rfl
theorem k138 : ckFunc E D 138 af138 = true := by kernel_rfl
theorem k143 : ckFunc E D 143 af143 = true := by kernel_rfl
theorem k151 : ckFunc E D 151 af151 = true := by kernel_rfl
theorem k153 : ckFunc E D 153 af153 = true := by kernel_rfl
theorem k164 : ckFunc E D 164 af164 = true := by kernel_rfl
theorem k165 : ckFunc E D 165 af165 = true := by kernel_rfl
theorem k167 : ckFunc E D 167 af167 = true := by kernel_rfl
end Go.Proofs.YtjbkcboklccmeaaGreatDoor.Abs.R1
