/-
  The checks of the functions, by the kernel.
-/
import Derived.Test.YtjbkcboklccmeaaGreatDoorR1E
import Derived.Test.YtjbkcboklccmeaaGreatDoorR1A0
import Derived.Test.YtjbkcboklccmeaaGreatDoorR1A1
import Derived.Test.YtjbkcboklccmeaaGreatDoorR1A2
import Derived.Test.YtjbkcboklccmeaaGreatDoorR1A3
import Derived.KernelRfl
set_option linter.unusedVariables false
set_option linter.unusedSimpArgs false
set_option maxRecDepth 100000
namespace Go.Proofs.YtjbkcboklccmeaaGreatDoor.Abs.R1
theorem k4 : ckFunc E D 4 af4 = true := by kernel_rfl
theorem k6 : ckFunc E D 6 af6 = true := by kernel_rfl
theorem k7 : ckFunc E D 7 af7 = true := by kernel_rfl
theorem k8 : ckFunc E D 8 af8 = true := by kernel_rfl
theorem k10 : ckFunc E D 10 af10 = true := by kernel_rfl
theorem k19 : ckFunc E D 19 af19 = true := by kernel_rfl
theorem k36 : ckFunc E D 36 af36 = true := by kernel_rfl
theorem k38 : ckFunc E D 38 af38 = true := by kernel_rfl
theorem k42 : ckFunc E D 42 af42 = true := by kernel_rfl
theorem k43 : ckFunc E D 43 af43 = true := by kernel_rfl
theorem k45 : ckFunc E D 45 af45 = true := by kernel_rfl
theorem k46 : ckFunc E D 46 af46 = true := by kernel_rfl
theorem k57 : ckFunc E D 57 af57 = true := by kernel_rfl
theorem k60 : ckFunc E D 60 af60 = true := by kernel_rfl
theorem k62 : ckFunc E D 62 af62 = true := by kernel_rfl
theorem k72 : ckFunc E D 72 af72 = true := by kernel_rfl
theorem k79 : ckFunc E D 79 af79 = true := by kernel_rfl
theorem k84 : ckFunc E D 84 af84 = true := by kernel_rfl
theorem k86 : ckFunc E D 86 af86 = true := by kernel_rfl
theorem k89 : ckFunc E D 89 af89 = true := by kernel_rfl
theorem k91 : ckFunc E D 91 af91 = true := by kernel_rfl
theorem k95 : ckFunc E D 95 af95 = true := by kernel_rfl
theorem k106 : ckFunc E D 106 af106 = true := by kernel_rfl
theorem k108 : ckFunc E D 108 af108 = true := by kernel_rfl
theorem k109 : ckFunc E D 109 af109 = true := by kernel_rfl
theorem k110 : ckFunc E D 110 af110 = true := by kernel_rfl
theorem k113 : ckFunc E D 113 af113 = true := by kernel_rfl
theorem k120 : ckFunc E D 120 af120 = true := by kernel_rfl
theorem k126 : ckFunc E D 126 af126 = true := by kernel_rfl
theorem k127 : ckFunc E D 127 af127 = true := by kernel_rfl
theorem k128 : ckFunc E D 128 af128 = true := by kernel_rfl
theorem k134 : ckFunc E D 134 af134 = true := by kernel_rfl
theorem k136 : ckFunc E D 136 af136 = true := by kernel_rfl
theorem k155 : ckFunc E D 155 af155 = true := by kernel_rfl
theorem k159 : ckFunc E D 159 af159 = true := by kernel_rfl
theorem k160 : ckFunc E D 160 af160 = true := by kernel_rfl
theorem k162 : ckFunc E D 162 af162 = true := by kernel_rfl
theorem k166 : ckFunc E D 166 af166 = true := by kernel_rfl
end Go.Proofs.YtjbkcboklccmeaaGreatDoor.Abs.R1
