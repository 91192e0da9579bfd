/-
  The checks of the functions, by the kernel.
-/
import Derived.Test.YtjbkcboklccmeaaGreatDoorR1E
import Derived.Test.YtjbkcboklccmeaaGreatDoorR1A0
import Derived.Test.YtjbkcboklccmeaaGreatDoorR1A1
import Derived.Test.YtjbkcboklccmeaaGreatDoorR1A2
import Derived.Test.YtjbkcboklccmeaaGreatDoorR1A3
import Derived.KernelRfl
set_option linter.unusedVariables false
set_option linter.unusedSimpArgs false
set_option maxRecDepth 100000
namespace Go.Proofs.YtjbkcboklccmeaaGreatDoor.Abs.R1
theorem k11 : ckFunc E D 11 af11 = true := by kernel_rfl
theorem k13 : ckFunc E D 13 af13 = true := by kernel_rfl
theorem k14 : ckFunc E D 14 af14 = true := by kernel_rfl
theorem k15 : ckFunc E D 15 af15 = true := by kernel_rfl
theorem k20 : ckFunc E D 20 af20 = true := by kernel_rfl
theorem k21 : ckFunc E D 21 af21 = true := by kernel_rfl
theorem k23 : ckFunc E D 23 af23 = true := by kernel_rfl
theorem k24 : ckFunc E D 24 af24 = true := by kernel_rfl
theorem k25 : ckFunc E D 25 af25 = true := by kernel_rfl
theorem k30 : ckFunc E D 30 af30 = true := by kernel_rfl
theorem k32 : ckFunc E D 32 af32 = true := by kernel_rfl
theorem k35 : ckFunc E D 35 af35 = true := by kernel_rfl
theorem k37 : ckFunc E D 37 af37 = true := by kernel_rfl
theorem k44 : ckFunc E D 44 af44 = true := by kernel_rfl
theorem k47 : ckFunc E D 47 af47 = true := by kernel_rfl
theorem k51 : ckFunc E D 51 af51 = true := by kernel_rfl
theorem k54 : ckFunc E D 54 af54 = true := by kernel_rfl
theorem k55 : ckFunc E D 55 af55 = true := by kernel_rfl
theorem k63 : ckFunc E D 63 af63 = true := by kernel_rfl
theorem k64 : ckFunc E D 64 af64 = true := by kernel_rfl
theorem k70 : ckFunc E D 70 af70 = true := by kernel_rfl
theorem k76 : ckFunc E D 76 af76 = true := by kernel_rfl
theorem k77 : ckFunc E D 77 af77 = true := by kernel_rfl
theorem k81 : ckFunc E D 81 af81 = true := by kernel_rfl
theorem k96 : ckFunc E D 96 af96 = true := by kernel_rfl
theorem k99 : ckFunc E D 99 af99 = true := by kernel_rfl
theorem k116 : ckFunc E D 116 af116 = true := by kernel_rfl
theorem k122 : ckFunc E D 122 af122 = true := by kernel_rfl
theorem k123 : ckFunc E D 123 af123 = true := by kernel_rfl
theorem k124 : ckFunc E D 124 af124 = true := by kernel_rfl
theorem k129 : ckFunc E D 129 af129 = true := by kernel_rfl
theorem k131 : ckFunc E D 131 af131 = true := by kernel_rfl
theorem k137 : ckFunc E D 137 af137 = true := by kernel_rfl
theorem k144 : ckFunc E D 144 af144 = true := by kernel_rfl
theorem k150 : ckFunc E D 150 af150 = true := by kernel_rfl
theorem k154 : ckFunc E D 154 af154 = true := by kernel_rfl
theorem k157 : ckFunc E D 157 af157 = true := by kernel_rfl
theorem k161 : ckFunc E D 161 af161 = true := by kernel_rfl
theorem k168 : ckFunc E D 168 af168 = true := by kernel_rfl
end Go.Proofs.YtjbkcboklccmeaaGreatDoor.Abs.R1
