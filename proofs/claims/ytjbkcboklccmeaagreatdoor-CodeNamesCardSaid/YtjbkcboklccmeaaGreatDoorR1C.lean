/-
  CodeNames: the names of the functions of the language.
-/
import Derived.Test.YtjbkcboklccmeaaGreatDoorR1N
import Derived.Test.YtjbkcboklccmeaaGreatDoorGh
import Derived.Test.YtjbkcboklccmeaaGreatDoorR1W
set_option linter.unusedVariables false
set_option linter.unusedSimpArgs false
namespace Go.Proofs.YtjbkcboklccmeaaGreatDoor.Abs.R1
open Go.Proofs
def g8 : AFunc := ⟨1, [.tmp 2],
  (.seq (.ops [
    ⟨some 2, .mov (.const (.bool false)), none, false⟩] [0])
  (.seq (.ops [
    ⟨some 5, .ext 22 [], none, false⟩,
    ⟨some 3, .mov (.tmp 5), none, false⟩] [0, 3])
  (.seq (.ops [
    ⟨some 4, .mov (.const (.string ⟨#[]⟩)), none, false⟩] [0, 3, 4])
  (.seq (.seq (.ops [
    ⟨some 6, .mov (.tmp 0), none, false⟩,
    ⟨some 7, .bin .geq (.tmp 6) (.const (.int .i64 0)), none, false⟩,
    ⟨some 8, .mov (.tmp 7), none, false⟩,
    ⟨some 9, .mov (.tmp 0), some (8, true), false⟩,
    ⟨some 10, .mov (.tmp 3), some (8, true), false⟩,
    ⟨some 11, .len .slice (.tmp 10), some (8, true), false⟩,
    ⟨some 12, .bin .lss (.tmp 9) (.tmp 11), some (8, true), false⟩,
    ⟨some 13, .pick (.tmp 8) (.tmp 12) (.const (.bool false)), none, false⟩] [0, 3, 4, 13])
  (.cond (.tmp 13)
  (.ops [
      ⟨some 14, .mov (.tmp 3), none, false⟩,
      ⟨some 15, .mov (.tmp 0), none, false⟩,
      ⟨some 16, .indexAddr 1 (.tmp 14) (.tmp 15), none, false⟩,
      ⟨some 17, .load false 1 (.tmp 16), none, false⟩,
      ⟨some 4, .mov (.tmp 17), none, false⟩] [0, 4])
  .skip))
  (.seq (.ops [
    ⟨some 18, .ext 19 [], none, false⟩,
    ⟨some 19, .mov (.tmp 18), none, false⟩,
    ⟨some 20, .mov (.tmp 0), some (19, true), false⟩,
    ⟨some 21, .ext 23 [(.tmp 20)], some (19, true), false⟩,
    ⟨some 22, .mov (.tmp 4), some (19, true), false⟩,
    ⟨some 23, .bin .eql (.tmp 21) (.tmp 22), some (19, true), false⟩,
    ⟨some 24, .pick (.tmp 19) (.tmp 23) (.const (.bool false)), none, false⟩,
    ⟨some 2, .mov (.tmp 24), none, false⟩] [2])
  .ret)))))⟩

def nameOf (n : Int) : List UInt8 := if 0 ≤ n ∧ n < 11 then (w1[n.toNat]?).getD [] else []

def extN : Exts := fun f args => bif Nat.beq f 19 then (match args with | [] => some (.bool true) | _ => none)
  else bif Nat.beq f 22 then (match args with | [] => some (.list 1 true (w1.map fun s => [.str s])) | _ => none)
  else bif Nat.beq f 23 then (match args with | [.int .i64 n] => some (.str (nameOf n)) | _ => none)
  else none

def TN : Table := fun f => bif Nat.beq f 8 then some g8 else none

theorem law8 (m n : Int) : Run (call ⟨glC m, extN⟩ TN 1 (.fn 8) [.int .i64 n] []) fun r => r.1 = .bool true := by
  have hl : (List.map (fun s => [AV.str s]) w1).length = 11 := rfl
  by_cases h0 : 0 ≤ n
  · by_cases h1 : n < 11
    · obtain ⟨k, rfl⟩ := Int.eq_ofNat_of_zero_le h0
      have hk : k < 11 := by omega
      have hg : (List.map (fun s => [AV.str s]) w1)[k]? = some [.str ((w1[k]?).getD [])] := by
        have : k < w1.length := hk
        simp [this]
      refine ⟨?_⟩
      simp [call, TN, runFunc, g8, argEnv, exec, doOps, doOper, goOper, doOp, Opd.eval, Env.get, Env.put, afterOp, ND.bind, St.keep, Env.keep, Loc.keep, rebuild, lptrOf, out, AV.clean, AV.ofValue, binOf, intBin, evalAll, extN, Nat.beq_eq_decide', lenOf, hl, indexAt, idxOf, hg, loadAt, cellsAt, mkVal, nameOf, strBin, readRes, resultOf, runDefers, ND.Sat, hk, h1]
      have : k < w1.length := hk
      simp [this]
    · refine ⟨?_⟩
      simp [call, TN, runFunc, g8, argEnv, exec, doOps, doOper, goOper, doOp, Opd.eval, Env.get, Env.put, afterOp, ND.bind, St.keep, Env.keep, Loc.keep, rebuild, lptrOf, out, AV.clean, AV.ofValue, binOf, intBin, evalAll, extN, Nat.beq_eq_decide', lenOf, hl, nameOf, strBin, readRes, resultOf, runDefers, ND.Sat, h0, h1]
  · refine ⟨?_⟩
    simp [call, TN, runFunc, g8, argEnv, exec, doOps, doOper, goOper, doOp, Opd.eval, Env.get, Env.put, afterOp, ND.bind, St.keep, Env.keep, Loc.keep, rebuild, lptrOf, out, AV.clean, AV.ofValue, binOf, intBin, evalAll, extN, Nat.beq_eq_decide', lenOf, nameOf, strBin, readRes, resultOf, runDefers, ND.Sat, h0]
theorem law23 (m n : Int) : Run (call ⟨glC m, ext⟩ T 1 (.fn 23) [.int .i64 n] []) fun r => r.1 = .str (nameOf n) := by
  have hT : T 23 = some af23 := rfl
  have hg1 : glC m 1 = some (strTab w1) := rfl
  have hl : (List.map (fun s => [AV.str s]) w1).length = 11 := rfl
  by_cases h0 : 0 ≤ n
  · by_cases h1 : n < 11
    · obtain ⟨k, rfl⟩ := Int.eq_ofNat_of_zero_le h0
      have hk : k < 11 := by omega
      have h2 : ¬ (11 ≤ (k : Int)) := by omega
      have h3 : ¬ ((k : Int) < 0) := by omega
      have hg : (List.map (fun s => [AV.str s]) w1)[k]? = some [.str ((w1[k]?).getD [])] := by
        have : k < w1.length := hk
        simp [this]
      have hw : w1[k]? = some (w1[k]'hk) := List.getElem?_eq_getElem hk
      refine ⟨?_⟩
      simp [call, hT, hw, runFunc, af23, argEnv, exec, doOps, doOper, goOper, doOp, Opd.eval, hg1, strTab, Env.get, Env.put, afterOp, ND.bind, St.keep, Env.keep, Loc.keep, rebuild, lptrOf, out, AV.clean, AV.ofValue, binOf, intBin, evalAll, Nat.beq_eq_decide', lenOf, hl, indexAt, idxOf, hg, loadAt, cellsAt, mkVal, nameOf, strBin, readRes, resultOf, runDefers, ND.Sat, hk, h1, h2, h3]
    · have h2 : 11 ≤ n := by omega
      have h3 : ¬ n < 0 := by omega
      refine ⟨?_⟩
      simp [call, hT, runFunc, af23, argEnv, exec, doOps, doOper, goOper, doOp, Opd.eval, hg1, strTab, Env.get, Env.put, afterOp, ND.bind, St.keep, Env.keep, Loc.keep, rebuild, lptrOf, out, AV.clean, AV.ofValue, binOf, intBin, evalAll, Nat.beq_eq_decide', lenOf, hl, loadAt, cellsAt, mkVal, nameOf, strBin, readRes, resultOf, runDefers, ND.Sat, h0, h1, h2, h3]
  · have h3 : n < 0 := by omega
    refine ⟨?_⟩
    simp [call, hT, runFunc, af23, argEnv, exec, doOps, doOper, goOper, doOp, Opd.eval, hg1, strTab, Env.get, Env.put, afterOp, ND.bind, St.keep, Env.keep, Loc.keep, rebuild, lptrOf, out, AV.clean, AV.ofValue, binOf, intBin, evalAll, Nat.beq_eq_decide', lenOf, nameOf, strBin, readRes, resultOf, runDefers, ND.Sat, h0, h3]

theorem law22_b (m : Int) : ND.ok (sameR (.list 1 true (w1.map fun s => [.str s]))) (callF ⟨glC m, ext⟩ T 10 (.fn 22) [] []) = true := by kernel_rfl
theorem law22 (m : Int) : Run (call ⟨glC m, ext⟩ T 10 (.fn 22) [] []) fun r => r.1 = .list 1 true (w1.map fun s => [.str s]) := closed_valF (law22_b m)

noncomputable def EN : CkEnv := { P := Go.Proofs.Tryz.prog, ext := fun f => Nat.beq f 19 || Nat.beq f 22 || Nat.beq f 23, calm := fun _ => false }
theorem k8N : ckFunc EN (drawCk EN) 8 g8 = true := by kernel_rfl
theorem tNOK : ∀ f af, TN f = some af → ckFunc EN (drawCk EN) f af = true := by
  intro f af h
  unfold TN at h
  cases hb : Nat.beq f 8 with
  | true => rw [hb] at h; cases h; have := Nat.eq_of_beq_eq_true hb; subst this; exact k8N
  | false => rw [hb] at h; cases h

theorem glC_pure (m : Int) : ∀ g cs, glC m g = some cs → AV.pures cs = true := by
  have key : ∀ (l : List (Nat × List AV)), (∀ p ∈ l, AV.pures p.2 = true) → ∀ g cs, glOf l g = some cs → AV.pures cs = true := by
    intro l
    induction l with
    | nil => intro _ g cs h; simp [glOf] at h
    | cons p l ih =>
      intro hp g cs h
      obtain ⟨k, x⟩ := p
      simp only [glOf] at h
      cases hb : Nat.beq k g with
      | true => rw [hb] at h; cases h; exact hp _ List.mem_cons_self
      | false => rw [hb] at h; exact ih (fun q hq => hp q (List.mem_cons_of_mem _ hq)) g cs h
  refine key _ fun p hp => ?_
  simp only [List.mem_cons, List.not_mem_nil, or_false] at hp
  rcases hp with rfl | rfl | rfl | rfl | rfl | rfl | rfl | rfl | rfl | rfl <;> rfl

theorem extN_ok (m : Int) (f : Nat) : ExtOK (ckK EN (drawCk EN)) EN.P ⟨glC m, extN⟩ f := by
  show ExtOK (ckK EN (drawCk EN)) E.P ⟨glC m, extN⟩ f
  refine closed_ext (E := E) (c := ⟨glC m, ext⟩) (c' := ⟨glC m, extN⟩) (T := T) tOK mixed (ext_ok0 (m := m) rfl) rfl (glC_pure m) fun args v h => ?_
  simp only [extN] at h
  cases h19 : Nat.beq f 19 with
  | true =>
    rw [h19] at h
    have := Nat.eq_of_beq_eq_true h19; subst this
    cases args with
    | nil => cases h; exact ⟨rfl, rfl, 400, awake15 m⟩
    | cons => cases h
  | false =>
    rw [h19] at h
    cases h22 : Nat.beq f 22 with
    | true =>
      rw [h22] at h
      have := Nat.eq_of_beq_eq_true h22; subst this
      cases args with
      | nil => cases h; exact ⟨rfl, rfl, 10, law22 m⟩
      | cons => cases h
    | false =>
      rw [h22] at h
      cases h23 : Nat.beq f 23 with
      | true =>
        rw [h23] at h
        have := Nat.eq_of_beq_eq_true h23; subst this
        simp only [cond_true, cond_false] at h
        split at h
        · cases h; exact ⟨rfl, rfl, 1, law23 m _⟩
        · cases h
      | false => rw [h23] at h; cases h

theorem names_calls (m : Int) (n : Int) {W : World} (hg : GlRel (ghost0 W) (glC m)) : Calls Tryz.prog 8 #[.int .i64 n] W fun e W' => e = .returned (.bool true) ∧ ∀ may, W.keptBut W' may :=
  law_calls (E := EN) (c := ⟨glC m, extN⟩) (T := TN) tNOK (by kernel_rfl) (extN_ok m) hg (VsRel.cons (.int .i64 n) (VsRel.nil _)) (law8 m n)

end Go.Proofs.YtjbkcboklccmeaaGreatDoor.Abs.R1
