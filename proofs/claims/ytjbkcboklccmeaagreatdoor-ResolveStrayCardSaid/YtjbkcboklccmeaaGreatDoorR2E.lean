/-
  What the checks of the program's functions are held against.
-/
import Derived.Test.YtjbkcboklccmeaaGreatDoorGg
import Derived.Test.YtjbkcboklccmeaaGreatDoorProg
set_option linter.unusedVariables false
set_option linter.unusedSimpArgs false
namespace Go.Proofs.YtjbkcboklccmeaaGreatDoor.Abs.R2
noncomputable def E : CkEnv := { P := Go.Proofs.Tryz.prog, ext := fun f => Nat.beq f 12 || Nat.beq f 111 || Nat.beq f 112 || Nat.beq f 140, calm := fun f => Nat.beq f 91 }
noncomputable def D : DrawCk := drawCk E
end Go.Proofs.YtjbkcboklccmeaaGreatDoor.Abs.R2
