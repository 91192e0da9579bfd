/-
  The checks of the functions, by the kernel.
-/
import Derived.Test.YtjbkcboklccmeaaGreatDoorR1E
import Derived.Test.YtjbkcboklccmeaaGreatDoorR1A0
import Derived.Test.YtjbkcboklccmeaaGreatDoorR1A1
import Derived.Test.YtjbkcboklccmeaaGreatDoorR1A2
import Derived.Test.YtjbkcboklccmeaaGreatDoorR1A3
import Derived.KernelRfl
set_option linter.unusedVariables false
set_option linter.unusedSimpArgs false
set_option maxRecDepth 100000
namespace Go.Proofs.YtjbkcboklccmeaaGreatDoor.Abs.R1
theorem k3 : ckFunc E D 3 af3 = true := by kernel_rfl
theorem k9 : ckFunc E D 9 af9 = true := by kernel_rfl
theorem k12 : ckFunc E D 12 af12 = true := by kernel_rfl
theorem k16 : ckFunc E D 16 af16 = true := by kernel_rfl
theorem k26 : ckFunc E D 26 af26 = true := by kernel_rfl
theorem k28 : ckFunc E D 28 af28 = true := by kernel_rfl
theorem k29 : ckFunc E D 29 af29 = true := by kernel_rfl
theorem k31 : ckFunc E D 31 af31 = true := by kernel_rfl
theorem k40 : ckFunc E D 40 af40 = true := by kernel_rfl
theorem k48 : ckFunc E D 48 af48 = true := by kernel_rfl
theorem k50 : ckFunc E D 50 af50 = true := by kernel_rfl
theorem k58 : ckFunc E D 58 af58 = true := by kernel_rfl
theorem k59 : ckFunc E D 59 af59 = true := by kernel_rfl
theorem k65 : ckFunc E D 65 af65 = true := by kernel_rfl
theorem k69 : ckFunc E D 69 af69 = true := by kernel_rfl
theorem k71 : ckFunc E D 71 af71 = true := by kernel_rfl
theorem k73 : ckFunc E D 73 af73 = true := by kernel_rfl
theorem k74 : ckFunc E D 74 af74 = true := by kernel_rfl
theorem k82 : ckFunc E D 82 af82 = true := by kernel_rfl
theorem k83 : ckFunc E D 83 af83 = true := by kernel_rfl
theorem k85 : ckFunc E D 85 af85 = true := by kernel_rfl
theorem k88 : ckFunc E D 88 af88 = true := by kernel_rfl
theorem k93 : ckFunc E D 93 af93 = true := by kernel_rfl
theorem k97 : ckFunc E D 97 af97 = true := by kernel_rfl
theorem k98 : ckFunc E D 98 af98 = true := by kernel_rfl
theorem k100 : ckFunc E D 100 af100 = true := by kernel_rfl
theorem k103 : ckFunc E D 103 af103 = true := by kernel_rfl
theorem k114 : ckFunc E D 114 af114 = true := by kernel_rfl
theorem k115 : ckFunc E D 115 af115 = true := by kernel_rfl
theorem k117 : ckFunc E D 117 af117 = true := by kernel_rfl
theorem k121 : ckFunc E D 121 af121 = true := by kernel_rfl
theorem k125 : ckFunc E D 125 af125 = true := by kernel_rfl
theorem k135 : ckFunc E D 135 af135 = true := by kernel_rfl
theorem k139 : ckFunc E D 139 af139 = true := by kernel_rfl
theorem k145 : ckFunc E D 145 af145 = true := by kernel_rfl
theorem k146 : ckFunc E D 146 af146 = true := by kernel_rfl
theorem k156 : ckFunc E D 156 af156 = true := by kernel_rfl
theorem k158 : ckFunc E D 158 af158 = true := by kernel_rfl
theorem k163 : ckFunc E D 163 af163 = true := by kernel_rfl
end Go.Proofs.YtjbkcboklccmeaaGreatDoor.Abs.R1
