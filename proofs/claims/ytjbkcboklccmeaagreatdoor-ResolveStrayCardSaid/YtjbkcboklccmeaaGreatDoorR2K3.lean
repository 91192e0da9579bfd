/-
  The checks of the functions, by the kernel.
-/
import Derived.Test.YtjbkcboklccmeaaGreatDoorR2E
import Derived.Test.YtjbkcboklccmeaaGreatDoorR2A0
import Derived.Test.YtjbkcboklccmeaaGreatDoorR2A1
import Derived.KernelRfl
set_option linter.unusedVariables false
set_option linter.unusedSimpArgs false
set_option maxRecDepth 100000
namespace Go.Proofs.YtjbkcboklccmeaaGreatDoor.Abs.R2
theorem k11 : ckFunc E D 11 af11 = true := by kernel_rfl
theorem k32 : ckFunc E D 32 af32 = true := by kernel_rfl
theorem k47 : ckFunc E D 47 af47 = true := by kernel_rfl
theorem k48 : ckFunc E D 48 af48 = true := by kernel_rfl
theorem k51 : ckFunc E D 51 af51 = true := by kernel_rfl
theorem k55 : ckFunc E D 55 af55 = true := by kernel_rfl
theorem k56 : ckFunc E D 56 af56 = true := by kernel_rfl
theorem k60 : ckFunc E D 60 af60 = true := by kernel_rfl
theorem k75 : ckFunc E D 75 af75 = true := by kernel_rfl
theorem k76 : ckFunc E D 76 af76 = true := by kernel_rfl
theorem k79 : ckFunc E D 79 af79 = true := by kernel_rfl
theorem k82 : ckFunc E D 82 af82 = true := by kernel_rfl
theorem k92 : ckFunc E D 92 af92 = true := by kernel_rfl
theorem k94 : ckFunc E D 94 af94 = true := by kernel_rfl
theorem k110 : ckFunc E D 110 af110 = true := by kernel_rfl
theorem k115 : ckFunc E D 115 af115 = true := by kernel_rfl
theorem k118 : ckFunc E D 118 af118 = true := by kernel_rfl
theorem k131 : ckFunc E D 131 af131 = true := by kernel_rfl
theorem k137 : ckFunc E D 137 af137 = true := by kernel_rfl
theorem k154 : ckFunc E D 154 af154 = true := by kernel_rfl
theorem k159 : ckFunc E D 159 af159 = true := by kernel_rfl
theorem k160 : ckFunc E D 160 af160 = true := by kernel_rfl
theorem k161 : ckFunc E D 161 af161 = true := by kernel_rfl
theorem k165 : ckFunc E D 165 af165 = true := by kernel_rfl
end Go.Proofs.YtjbkcboklccmeaaGreatDoor.Abs.R2
