/-
  ResolveStray: misplaced statements are reported.
-/
import Derived.Test.YtjbkcboklccmeaaGreatDoorR2V
import Derived.Test.YtjbkcboklccmeaaGreatDoorR2Q0
import Derived.Test.YtjbkcboklccmeaaGreatDoorR2Q1
import Derived.Test.YtjbkcboklccmeaaGreatDoorR2Q2
import Derived.Test.YtjbkcboklccmeaaGreatDoorR2Q3
import Derived.Test.YtjbkcboklccmeaaGreatDoorR2Q4
import Derived.Test.YtjbkcboklccmeaaGreatDoorR2Q5
set_option linter.unusedVariables false
set_option linter.unusedSimpArgs false
namespace Go.Proofs.YtjbkcboklccmeaaGreatDoor.Abs.R2
open Go.Proofs

theorem law5_low (m n : Int) (h : n < 0) : Run (call ⟨glR m, ext1⟩ T 1 (.fn 5) [.int .i64 n] []) fun r => r.1 = .bool true := by
  have hT : T 5 = some af5 := rfl
  refine ⟨?_⟩
  simp [call, hT, runFunc, af5, argEnv, exec, doOps, doOper, goOper, doOp, Opd.eval, Env.get, Env.put, afterOp, ND.bind, St.keep, Env.keep, Loc.keep, rebuild, lptrOf, out, AV.clean, AV.ofValue, binOf, intBin, evalAll, ext1, extOr, specA, Nat.beq_eq_decide', newArr, fillElems, AV.cells, readRes, resultOf, runDefers, ND.Sat, h, List.replicate]

theorem law5_high (m n : Int) (h : 6 ≤ n) : Run (call ⟨glR m, ext1⟩ T 1 (.fn 5) [.int .i64 n] []) fun r => r.1 = .bool true := by
  have hT : T 5 = some af5 := rfl
  have h0 : ¬ n < 0 := by omega
  refine ⟨?_⟩
  simp [call, hT, runFunc, af5, argEnv, exec, doOps, doOper, goOper, doOp, Opd.eval, Env.get, Env.put, afterOp, ND.bind, St.keep, Env.keep, Loc.keep, rebuild, lptrOf, out, AV.clean, AV.ofValue, binOf, intBin, evalAll, ext1, extOr, specA, Nat.beq_eq_decide', newArr, fillElems, AV.cells, lenOf, readRes, resultOf, runDefers, ND.Sat, h, h0, List.replicate]

theorem ext_ok1 (m : Int) (f : Nat) : ExtOK (ckK E (drawCk E)) E.P ⟨glR m, ext1⟩ f := by
  refine ext_or ?_ (ext_ok0 (m := m) rfl f)
  refine closed_ext (E := E) (c := ⟨glR m, ext⟩) (c' := ⟨glR m, specA⟩) (T := T) tOK mixed (ext_ok0 (m := m) rfl) rfl (glR_pure m) fun args v h => ?_
  simp only [specA] at h
  cases h12 : Nat.beq f 12 with
  | true =>
    rw [h12] at h
    have := Nat.eq_of_beq_eq_true h12; subst this
    cases args with
    | nil => cases h; exact ⟨rfl, rfl, _, ka_true m⟩
    | cons => cases h
  | false => rw [h12] at h; cases h

theorem stray_calls (m : Int) (n : Int) {W : World} (hg : GlRel (ghost0 W) (glR m)) : Calls Tryz.prog 5 #[.int .i64 n] W fun e W' => e = .returned (.bool true) ∧ ∀ may, W.keptBut W' may := by
  have go : ∀ {N : Nat}, Run (call ⟨glR m, ext1⟩ T N (.fn 5) [.int .i64 n] []) (fun r => r.1 = .bool true) → Calls Tryz.prog 5 #[.int .i64 n] W fun e W' => e = .returned (.bool true) ∧ ∀ may, W.keptBut W' may := fun hr =>
    law_calls (E := E) (c := ⟨glR m, ext1⟩) (T := T) tOK mixed (ext_ok1 m) hg (VsRel.cons (.int .i64 n) (VsRel.nil _)) hr
  by_cases h0 : n < 0
  · exact go (law5_low m n h0)
  by_cases h6 : 6 ≤ n
  · exact go (law5_high m n h6)
  have hn : n = 0 ∨ n = 1 ∨ n = 2 ∨ n = 3 ∨ n = 4 ∨ n = 5 := by omega
  rcases hn with rfl | rfl | rfl | rfl | rfl | rfl
  · exact go (kb0_true m)
  · exact go (kb1_true m)
  · exact go (kb2_true m)
  · exact go (kb3_true m)
  · exact go (kb4_true m)
  · exact go (kb5_true m)
end Go.Proofs.YtjbkcboklccmeaaGreatDoor.Abs.R2
