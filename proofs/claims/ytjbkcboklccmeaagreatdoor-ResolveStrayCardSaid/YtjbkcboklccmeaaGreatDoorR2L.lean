/-
  What the rows of this seat lay; a world that is laid so (the witness).
-/
import Derived.Test.YtjbkcboklccmeaaGreatDoorR2N
import Derived.Test.YtjbkcboklccmeaaGreatDoorCards
import Derived.Test.YtjbkcboklccmeaaGreatDoorTie
import Derived.ProofKit
import Derived.OpenShut
import Derived.Deep.DeepHandedRow
import Derived.Deep.DeepWitnessRowRef
import Derived.Deep.DeepLaidRun
import Derived.Shelf.Vars
set_option linter.unusedVariables false
set_option linter.unusedSimpArgs false
namespace Go.Proofs.YtjbkcboklccmeaaGreatDoor.Abs.R2
open Go.Proofs Go.Proofs.YtjbkcboklccmeaaGreatDoor
open Go.ChangeShapes Go.WideShapes Go.ChangeAt Go.RowKit

theorem own : ownKnob Tryz.prog.godebug = none := by kernel_rfl
theorem cells9 : Tryz.prog.cellsOf 9 = 1 := by kernel_rfl

theorem maxLen {W : World} (h : W.ShapedOpen Tryz.prog) : ∃ m, W.cell? ⟨9, 0, none⟩ = some (.int .i64 m) :=
  cell_of_shapedOpen_int (zero := #[.int .i64 0]) (t := 3) h (of_decide_eq_true (by kernel_rfl)) (by kernel_rfl) rfl (by kernel_rfl) (by kernel_rfl) Tryz.underlying3

theorem strs_rel {W : World} {name : String} {g : Nat} {ss : List (List UInt8)} (hn : Tryz.prog.globalNamed name = some g) (hy : (Tryz.prog.globals[g]?).map (·.type) = some 37) (hl : 0 < ss.length)
    (h : Lib.VarReads Tryz.prog W name (strData ss)) : VRel (ghost0 W) (.cref (strTab ss)) (.pointer (some ⟨g, 0, none⟩)) :=
  tab_rel hn hy Tryz.underlying37 Tryz.underlying9 cells9 hl h

abbrev tabsR : List (String × DataW Unit) := [("scribe/lex.words", strData w6), ("scribe/lex.builtins", strData w7), ("scribe/lex.banned", strData w8), ("scribe/resolve.special", strData w2)]
theorem glR_rel {W : World} (h : laidMet Tryz.prog tabsR W) (hs : W.ShapedOpen Tryz.prog) : ∃ m, GlRel (ghost0 W) (glR m) := by
  obtain ⟨m, hm⟩ := maxLen hs
  refine ⟨m, glRel_of fun p hp => ?_⟩
  simp only [List.mem_cons, List.not_mem_nil, or_false] at hp
  rcases hp with rfl | rfl | rfl | rfl | rfl
  · exact strs_rel (by kernel_rfl) (by kernel_rfl) (by decide) (Lib.laidMet.reads h (.tail _ (.tail _ (.tail _ (.head _)))))
  · exact strs_rel (by kernel_rfl) (by kernel_rfl) (by decide) (Lib.laidMet.reads h (.head _))
  · exact strs_rel (by kernel_rfl) (by kernel_rfl) (by decide) (Lib.laidMet.reads h (.tail _ (.head _)))
  · exact strs_rel (by kernel_rfl) (by kernel_rfl) (by decide) (Lib.laidMet.reads h (.tail _ (.tail _ (.head _))))
  · exact int_rel hm

/-- A world for the witness: the settled one, each table in a block of its own. -/
def strObj (ss : List (List UInt8)) : Obj := .cells (ss.map fun s => Value.string ⟨s.toArray⟩).toArray 9
def putVar (h : Array Obj) (g b n : Nat) : Array Obj := h.modify g fun
  | .cells _ t frozen => .cells #[.slice (some ⟨b, 0, none⟩) n n] t frozen
  | o => o
noncomputable def laidWorld (os : Os) : World :=
  let N := (World.settled Tryz.prog os).heap.size
  let w := World.holding Tryz.prog os ⟨#[strObj w2, strObj w6, strObj w7, strObj w8], #[], []⟩
  { w with heap := putVar (putVar (putVar (putVar w.heap 2 N w2.length) 6 (N + 1) w6.length) 7 (N + 2) w7.length) 8 (N + 3) w8.length }

theorem laid_metR (os : Os) (args : Array Value) : laidMet Tryz.prog tabsR ((laidWorld os).forCall (fun _ _ => 0) ⟨#[], args, []⟩).memory :=
  laidMet_of_run3 8 (by kernel_rfl) (by kernel_rfl) (by kernel_rfl)
end Go.Proofs.YtjbkcboklccmeaaGreatDoor.Abs.R2
