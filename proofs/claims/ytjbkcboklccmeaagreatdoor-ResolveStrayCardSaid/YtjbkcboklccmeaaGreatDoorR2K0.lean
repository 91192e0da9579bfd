/-
  The checks of the functions, by the kernel.
-/
import Derived.Test.YtjbkcboklccmeaaGreatDoorR2E
import Derived.Test.YtjbkcboklccmeaaGreatDoorR2A0
import Derived.Test.YtjbkcboklccmeaaGreatDoorR2A1
import Derived.KernelRfl
set_option linter.unusedVariables false
set_option linter.unusedSimpArgs false
set_option maxRecDepth 100000
namespace Go.Proofs.YtjbkcboklccmeaaGreatDoor.Abs.R2
theorem k14 : ckFunc E D 14 af14 = true := by kernel_rfl
theorem k17 : ckFunc E D 17 af17 = true := by kernel_rfl
theorem k35 : ckFunc E D 35 af35 = true := by kernel_rfl
theorem k37 : ckFunc E D 37 af37 = true := by kernel_rfl
theorem k46 : ckFunc E D 46 af46 = true := by kernel_rfl
theorem k49 : ckFunc E D 49 af49 = true := by kernel_rfl
theorem k52 : ckFunc E D 52 af52 = true := by kernel_rfl
theorem k59 : ckFunc E D 59 af59 = true := by kernel_rfl
theorem k77 : ckFunc E D 77 af77 = true := by kernel_rfl
theorem k80 : ckFunc E D 80 af80 = true := by kernel_rfl
theorem k81 : ckFunc E D 81 af81 = true := by kernel_rfl
theorem k88 : ckFunc E D 88 af88 = true := by kernel_rfl
theorem k89 : ckFunc E D 89 af89 = true := by kernel_rfl
theorem k91 : ckFunc E D 91 af91 = true := by kernel_rfl
theorem k113 : ckFunc E D 113 af113 = true := by kernel_rfl
theorem k121 : ckFunc E D 121 af121 = true := by kernel_rfl
theorem k136 : ckFunc E D 136 af136 = true := by kernel_rfl
theorem k146 : ckFunc E D 146 af146 = true := by kernel_rfl
theorem k153 : ckFunc E D 153 af153 = true := by kernel_rfl
theorem k157 : ckFunc E D 157 af157 = true := by kernel_rfl
theorem k158 : ckFunc E D 158 af158 = true := by kernel_rfl
theorem k164 : ckFunc E D 164 af164 = true := by kernel_rfl
theorem k166 : ckFunc E D 166 af166 = true := by kernel_rfl
theorem k167 : ckFunc E D 167 af167 = true := by kernel_rfl
end Go.Proofs.YtjbkcboklccmeaaGreatDoor.Abs.R2
