/-
  The package-level tables that this seat's rows lay; functions of the library; the run of the functions 'awake'.
-/
import Derived.Test.YtjbkcboklccmeaaGreatDoorR1B
import Derived.Test.YtjbkcboklccmeaaGreatDoorR1S
import Derived.Test.YtjbkcboklccmeaaGreatDoorGh
import Derived.KernelRfl
set_option linter.unusedVariables false
set_option linter.unusedSimpArgs false
namespace Go.Proofs.YtjbkcboklccmeaaGreatDoor.Abs.R1
open Go.Proofs
def w0 : List (List UInt8) := [[78, 82], [78, 70], [70, 83], [79, 70, 83], [79, 82, 83], [70, 73, 76, 69, 78, 65, 77, 69], [82, 83, 84, 65, 82, 84], [82, 76, 69, 78, 71, 84, 72]]
def w1 : List (List UInt8) := [[108, 101, 110, 103, 116, 104], [115, 117, 98, 115, 116, 114], [105, 110, 100, 101, 120], [115, 112, 108, 105, 116], [109, 97, 116, 99, 104], [116, 111, 108, 111, 119, 101, 114], [116, 111, 117, 112, 112, 101, 114], [105, 110, 116], [115, 112, 114, 105, 110, 116, 102], [114, 97, 110, 100], [115, 114, 97, 110, 100]]
def w2 : List (List UInt8) := [[78, 82], [78, 70], [70, 83], [79, 70, 83], [79, 82, 83], [70, 73, 76, 69, 78, 65, 77, 69], [82, 83, 84, 65, 82, 84], [82, 76, 69, 78, 71, 84, 72]]
def w3 : List (List UInt8) := [[61], [43, 61], [45, 61], [42, 61], [47, 61], [37, 61], [112, 114, 101, 105, 110, 99], [112, 114, 101, 100, 101, 99], [112, 111, 115, 116, 105, 110, 99], [112, 111, 115, 116, 100, 101, 99]]
def w4 : List (List UInt8) := [[110, 111, 116], [110, 101, 103], [112, 108, 117, 115]]
def w5 : List (List UInt8) := [[97, 100, 100], [115, 117, 98], [109, 117, 108], [100, 105, 118], [109, 111, 100], [99, 97, 116], [108, 101, 115, 115], [108, 101, 115, 115, 101, 113], [101, 113, 117, 97, 108], [110, 111, 116, 101, 113, 117, 97, 108], [103, 114, 101, 97, 116, 101, 114], [103, 114, 101, 97, 116, 101, 114, 101, 113]]
def w6 : List (List UInt8) := [[66, 69, 71, 73, 78], [69, 78, 68], [102, 117, 110, 99, 116, 105, 111, 110], [105, 102], [101, 108, 115, 101], [119, 104, 105, 108, 101], [102, 111, 114], [105, 110], [98, 114, 101, 97, 107], [99, 111, 110, 116, 105, 110, 117, 101], [110, 101, 120, 116], [101, 120, 105, 116], [114, 101, 116, 117, 114, 110], [100, 101, 108, 101, 116, 101], [112, 114, 105, 110, 116], [112, 114, 105, 110, 116, 102]]
def w7 : List (List UInt8) := [[108, 101, 110, 103, 116, 104], [115, 117, 98, 115, 116, 114], [105, 110, 100, 101, 120], [115, 112, 108, 105, 116], [115, 117, 98], [103, 115, 117, 98], [109, 97, 116, 99, 104], [116, 111, 108, 111, 119, 101, 114], [116, 111, 117, 112, 112, 101, 114], [105, 110, 116], [115, 112, 114, 105, 110, 116, 102], [114, 97, 110, 100], [115, 114, 97, 110, 100]]
def w8 : List (List UInt8) := [[103, 101, 116, 108, 105, 110, 101], [115, 121, 115, 116, 101, 109], [99, 108, 111, 115, 101], [102, 102, 108, 117, 115, 104], [115, 121, 115, 116, 105, 109, 101], [115, 116, 114, 102, 116, 105, 109, 101]]

def glR (m : Int) : Globals := glOf [(2, strTab w2), (6, strTab w6), (7, strTab w7), (8, strTab w8), (9, [.int .i64 m])]
def glC (m : Int) : Globals := glOf [(0, strTab w0), (1, strTab w1), (2, strTab w2), (3, strTab w3), (4, strTab w4), (5, strTab w5), (6, strTab w6), (7, strTab w7), (8, strTab w8), (9, [.int .i64 m])]

theorem mixed : E.P.follows .mixedOrders = true := by kernel_rfl
theorem tOK : ∀ f af, T f = some af → ckFunc E (drawCk E) f af = true := tree_ok.spec

theorem ext_ok0 {gl : Globals} {m : Int} (h : gl 9 = some [.int .i64 m]) : ∀ f, ExtOK (ckK E (drawCk E)) E.P ⟨gl, ext⟩ f :=
  ext_ok (P := Tryz.prog) (c := ⟨gl, ext⟩) (gm := 9) (m := m) (fun s sub m w hs hm => strings_Contains s sub m w hs hm)
    (callFunc_enter Tryz.func111 (by kernel_rfl) (by kernel_rfl)) (fun s b w => strings_IndexByte s b w) (callFunc_enter Tryz.func112 (by kernel_rfl) (by kernel_rfl))
    (fun x w => by
      rw [run_callFunc_extern Tryz.func140 (by kernel_rfl) (by kernel_rfl) (by kernel_rfl) (e := Extern.AbiNoEscape.same) (by kernel_rfl)]
      rfl) h rfl

end Go.Proofs.YtjbkcboklccmeaaGreatDoor.Abs.R1
