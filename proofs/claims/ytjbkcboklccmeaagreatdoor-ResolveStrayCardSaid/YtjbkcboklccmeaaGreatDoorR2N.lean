/-
  The package-level tables that this seat's rows lay; functions of the library; the run of the functions 'awake'.
-/
import Derived.Test.YtjbkcboklccmeaaGreatDoorR2B
import Derived.Test.YtjbkcboklccmeaaGreatDoorR2S
import Derived.Test.YtjbkcboklccmeaaGreatDoorGh
import Derived.KernelRfl
set_option linter.unusedVariables false
set_option linter.unusedSimpArgs false
namespace Go.Proofs.YtjbkcboklccmeaaGreatDoor.Abs.R2
open Go.Proofs
def w2 : List (List UInt8) := [[78, 82], [78, 70], [70, 83], [79, 70, 83], [79, 82, 83], [70, 73, 76, 69, 78, 65, 77, 69], [82, 83, 84, 65, 82, 84], [82, 76, 69, 78, 71, 84, 72]]
def w6 : List (List UInt8) := [[66, 69, 71, 73, 78], [69, 78, 68], [102, 117, 110, 99, 116, 105, 111, 110], [105, 102], [101, 108, 115, 101], [119, 104, 105, 108, 101], [102, 111, 114], [105, 110], [98, 114, 101, 97, 107], [99, 111, 110, 116, 105, 110, 117, 101], [110, 101, 120, 116], [101, 120, 105, 116], [114, 101, 116, 117, 114, 110], [100, 101, 108, 101, 116, 101], [112, 114, 105, 110, 116], [112, 114, 105, 110, 116, 102]]
def w7 : List (List UInt8) := [[108, 101, 110, 103, 116, 104], [115, 117, 98, 115, 116, 114], [105, 110, 100, 101, 120], [115, 112, 108, 105, 116], [115, 117, 98], [103, 115, 117, 98], [109, 97, 116, 99, 104], [116, 111, 108, 111, 119, 101, 114], [116, 111, 117, 112, 112, 101, 114], [105, 110, 116], [115, 112, 114, 105, 110, 116, 102], [114, 97, 110, 100], [115, 114, 97, 110, 100]]
def w8 : List (List UInt8) := [[103, 101, 116, 108, 105, 110, 101], [115, 121, 115, 116, 101, 109], [99, 108, 111, 115, 101], [102, 102, 108, 117, 115, 104], [115, 121, 115, 116, 105, 109, 101], [115, 116, 114, 102, 116, 105, 109, 101]]

def glR (m : Int) : Globals := glOf [(2, strTab w2), (6, strTab w6), (7, strTab w7), (8, strTab w8), (9, [.int .i64 m])]

theorem mixed : E.P.follows .mixedOrders = true := by kernel_rfl
theorem tOK : ∀ f af, T f = some af → ckFunc E (drawCk E) f af = true := tree_ok.spec

theorem ext_ok0 {gl : Globals} {m : Int} (h : gl 9 = some [.int .i64 m]) : ∀ f, ExtOK (ckK E (drawCk E)) E.P ⟨gl, ext⟩ f :=
  ext_ok (P := Tryz.prog) (c := ⟨gl, ext⟩) (gm := 9) (m := m) (fun s sub m w hs hm => strings_Contains s sub m w hs hm)
    (callFunc_enter Tryz.func111 (by kernel_rfl) (by kernel_rfl)) (fun s b w => strings_IndexByte s b w) (callFunc_enter Tryz.func112 (by kernel_rfl) (by kernel_rfl))
    (fun x w => by
      rw [run_callFunc_extern Tryz.func140 (by kernel_rfl) (by kernel_rfl) (by kernel_rfl) (e := Extern.AbiNoEscape.same) (by kernel_rfl)]
      rfl) h rfl

/-- The function 'awake' is taken by what is said of it. -/
def specA : Exts := fun f args => bif Nat.beq f 12 then (match args with
    | [] => some (.bool true)
    | _ => none) else none
def ext1 : Exts := extOr specA ext

theorem glR_pure (m : Int) : ∀ g cs, glR m g = some cs → AV.pures cs = true := by
  have key : ∀ (l : List (Nat × List AV)), (∀ p ∈ l, AV.pures p.2 = true) → ∀ g cs, glOf l g = some cs → AV.pures cs = true := by
    intro l
    induction l with
    | nil => intro _ g cs h; simp [glOf] at h
    | cons p l ih =>
      intro hp g cs h
      obtain ⟨k, x⟩ := p
      simp only [glOf] at h
      cases hb : Nat.beq k g with
      | true => rw [hb] at h; cases h; exact hp _ List.mem_cons_self
      | false => rw [hb] at h; exact ih (fun q hq => hp q (List.mem_cons_of_mem _ hq)) g cs h
  refine key _ fun p hp => ?_
  simp only [List.mem_cons, List.not_mem_nil, or_false] at hp
  rcases hp with rfl | rfl | rfl | rfl | rfl <;> rfl

end Go.Proofs.YtjbkcboklccmeaaGreatDoor.Abs.R2
