/-
  More that is known of the functions called gives no less; long runs in parts.
-/
import Derived.Test.YtjbkcboklccmeaaGreatDoorGi
set_option linter.unusedVariables false
set_option linter.unusedSimpArgs false
namespace Go.Proofs.YtjbkcboklccmeaaGreatDoor.Abs

inductive ND.Le {α : Type} : ND α → ND α → Prop
  | fail (y : ND α) : Le .fail y
  | ret (a : α) : Le (.ret a) (.ret a)
  | pick {n : Nat} {k k' : Nat → ND α} (h : ∀ i, Le (k i) (k' i)) : Le (.pick n k) (.pick n k')

theorem ND.Le.refl {α : Type} : ∀ x : ND α, ND.Le x x
  | .fail => .fail _
  | .ret a => .ret a
  | .pick _ k => .pick fun i => ND.Le.refl (k i)

theorem ND.Le.of_ret {α : Type} {a : α} {y : ND α} (h : ND.Le (.ret a) y) : y = .ret a := by cases h; rfl

theorem ND.Le.trans {α : Type} {x y z : ND α} (h : ND.Le x y) (h' : ND.Le y z) : ND.Le x z := by
  induction h generalizing z with
  | fail => exact .fail _
  | ret a => exact h'
  | pick h ih => cases h' with | pick h2 => exact .pick fun i => ih i (h2 i)

theorem ND.Le.bind {α β : Type} {x y : ND α} (h : ND.Le x y) {f g : α → ND β} (hf : ∀ a, ND.Le (f a) (g a)) : ND.Le (x.bind f) (y.bind g) := by
  induction h with
  | fail => exact .fail _
  | ret a => exact hf a
  | pick h ih => exact .pick ih

theorem ND.Le.sat {α : Type} {x y : ND α} (h : ND.Le x y) {Q : α → Prop} (s : x.Sat Q) : y.Sat Q := by
  induction h with
  | fail => exact s.elim
  | ret a => exact s
  | pick h ih => exact ⟨s.1, fun i hi => ih i (s.2 i hi)⟩

theorem restSame_mono {α : Type} {eq : α → α → Bool} {a : α} {f g : Nat → Option α} (h : ∀ i b, f i = some b → g i = some b) : ∀ {n : Nat}, restSame eq a f n = true → restSame eq a g n = true
  | 0, _ => rfl
  | n + 1, hr => by
    simp only [restSame, Bool.and_eq_true] at hr ⊢
    refine ⟨?_, restSame_mono h hr.2⟩
    cases hf : f n with
    | none => rw [hf] at hr; exact absurd hr.1 (by simp)
    | some b => rw [hf] at hr; rw [h n b hf]; exact hr.1

theorem ND.one_mono {α : Type} {eq : α → α → Bool} {x y : ND α} (h : ND.Le x y) : ∀ {a : α}, ND.one eq x = some a → ND.one eq y = some a := by
  induction h with
  | fail => intro a e; simp [ND.one] at e
  | ret a => intro b e; exact e
  | pick h ih =>
    rename_i n k k'
    intro a e
    unfold ND.one at e ⊢
    cases n with
    | zero => cases e
    | succ n =>
      dsimp only at e ⊢
      cases hk : ND.one eq (k n) with
      | none => rw [hk] at e; cases e
      | some b =>
        rw [hk] at e
        dsimp only at e
        split at e
        · next hr =>
          cases e
          rw [ih n hk]
          dsimp only
          rw [if_pos (restSame_mono (fun i b hb => ih i hb) hr)]
        · cases e

def Rec.Le (r r' : Rec) : Prop := ∀ f args h, ND.Le (r f args h) (r' f args h)
theorem Rec.Le.refl (r : Rec) : Rec.Le r r := fun _ _ _ => .refl _
theorem Rec.Le.trans {a b c : Rec} (h : Rec.Le a b) (h' : Rec.Le b c) : Rec.Le a c := fun f args hp => (h f args hp).trans (h' f args hp)

section
variable {c : Ctx} {rec rec' : Rec} {n n' : Nat}

theorem callValue_mono (hr : Rec.Le rec rec') (f : AV) (args : List AV) (h : Heap) : ND.Le (callValue rec f args h) (callValue rec' f args h) := by
  unfold callValue
  split
  · exact hr _ _ _
  · exact hr _ _ _
  · exact .refl _

theorem doOp_mono (hr : Rec.Le rec rec') (e : Env) (l : Loc) (op : AOp) (h : Heap) : ND.Le (doOp c rec e l op h) (doOp c rec' e l op h) := by
  cases op with
  | call f args => simp only [doOp]; exact (hr _ _ _).bind fun _ => .refl _
  | callv f args => simp only [doOp]; exact (callValue_mono hr _ _ _).bind fun _ => .refl _
  | _ => exact .refl _

theorem goOper_mono (hr : Rec.Le rec rec') (st : St) (o : AOper) (h : Heap) : ND.Le (goOper c rec st o h) (goOper c rec' st o h) := by
  unfold goOper
  split
  · exact .refl _
  · exact (doOp_mono hr _ _ _ _).bind fun _ => .refl _

theorem doOper_mono (hr : Rec.Le rec rec') (st : St) (o : AOper) (h : Heap) : ND.Le (doOper c rec st o h) (doOper c rec' st o h) := by
  unfold doOper
  split
  · exact goOper_mono hr _ _ _
  · split
    · split
      · exact goOper_mono hr _ _ _
      · exact .refl _
    · exact .refl _
    · exact .refl _

theorem doOps_mono (hr : Rec.Le rec rec') : ∀ (l : List AOper) (st : St) (h : Heap), ND.Le (doOps c rec l st h) (doOps c rec' l st h)
  | [], st, h => .refl _
  | o :: l, st, h => by
    simp only [doOps]
    exact (doOper_mono hr _ _ _).bind fun r => doOps_mono hr l r.1 r.2

theorem doDs_mono (hr : Rec.Le rec rec') : ∀ (l : List (AOper × List (Nat × AOp))) (st : St) (h : Heap), ND.Le (doDs c rec l st h) (doDs c rec' l st h)
  | [], st, h => .refl _
  | o :: l, st, h => by
    simp only [doDs, doD]
    exact ((doOper_mono hr _ _ _).bind fun _ => .refl _).bind fun r => doDs_mono hr l r.1 r.2

theorem loopM_mono {b b' : St → M (AExit × St)} (hb : ∀ st h, ND.Le (b st h) (b' st h)) : ∀ {n n' : Nat}, n ≤ n' → ∀ (st : St) (h : Heap), ND.Le (loopM b n st h) (loopM b' n' st h)
  | 0, _, _, st, h => .fail _
  | n + 1, n', hn, st, h => by
    obtain ⟨n', rfl⟩ : ∃ m, n' = m + 1 := ⟨n' - 1, by omega⟩
    simp only [loopM]
    refine (hb _ _).bind fun r => ?_
    obtain ⟨⟨e, st'⟩, h'⟩ := r
    cases e with
    | normal => exact loopM_mono hb (by omega) st' h'
    | exit i => exact .refl _
    | ret => exact .refl _

theorem exec_mono (hr : Rec.Le rec rec') (hn : n ≤ n') : ∀ (code : ACode) (st : St) (h : Heap), ND.Le (exec c rec n code st h) (exec c rec' n' code st h) := by
  intro code
  induction code with
  | skip => intro st h; exact .refl _
  | fail => intro st h; exact .refl _
  | ops l live => intro st h; simp only [exec]; exact (doOps_mono hr _ _ _).bind fun _ => .refl _
  | opsD l live => intro st h; simp only [exec]; exact (doDs_mono hr _ _ _).bind fun _ => .refl _
  | seq a b ia ib =>
    intro st h
    simp only [exec]
    refine (ia st h).bind fun r => ?_
    obtain ⟨⟨e, st'⟩, h'⟩ := r
    cases e with
    | normal => exact ib st' h'
    | exit i => exact .refl _
    | ret => exact .refl _
  | cond p a b ia ib =>
    intro st h
    simp only [exec]
    split
    · exact ia st h
    · exact ib st h
    · exact .refl _
  | block id b ib => intro st h; simp only [exec]; exact (ib st h).bind fun _ => .refl _
  | mblock id it room live b ib =>
    intro st h
    simp only [exec]
    split
    · next i _ =>
      have hm : ND.Le ((exec c rec n b st h).bind fun r => (blockM id r).bind (behindRange i (st.loc.nb + room) live)) ((exec c rec' n' b st h).bind fun r => (blockM id r).bind (behindRange i (st.loc.nb + room) live)) :=
        (ib st h).bind fun _ => .refl _
      cases h1 : ND.one outSame ((exec c rec n b st h).bind fun r => (blockM id r).bind (behindRange i (st.loc.nb + room) live)) with
      | none => exact .fail _
      | some r => rw [ND.one_mono hm h1]; exact .refl _
    · exact .refl _
  | loop live b ib => intro st h; simp only [exec]; exact loopM_mono (fun st h => ib (st.keep live) h) hn st h
  | exit id => intro st h; exact .refl _
  | ret => intro st h; exact .refl _
  | rangeFunc f ps assign body live ia ib =>
    intro st h
    simp only [exec]
    split
    · exact (hr _ _ _).bind fun _ => .refl _
    · exact .refl _

theorem runDefers_mono (hr : Rec.Le rec rec') : ∀ (ds : List (Nat × List AV)) (h : Heap), ND.Le (runDefers rec ds h) (runDefers rec' ds h)
  | [], h => .refl _
  | (f, args) :: ds, h => by simp only [runDefers]; exact (hr _ _ _).bind fun r => runDefers_mono hr ds r.2

theorem runFunc_mono (hr : Rec.Le rec rec') (hn : n ≤ n') (af : AFunc) (args : List AV) (h : Heap) : ND.Le (runFunc c rec n af args h) (runFunc c rec' n' af args h) := by
  unfold runFunc
  split
  · refine (exec_mono hr hn _ _ _).bind fun r => ?_
    split
    · exact .refl _
    · exact (runDefers_mono hr _ _).bind fun _ => .refl _
  · exact .refl _

theorem runRound_mono (hr : Rec.Le rec rec') (hn : n ≤ n') (l : Nat) (args : List AV) (h : Heap) : ND.Le (runRound c rec n l args h) (runRound c rec' n' l args h) := by
  unfold runRound
  split
  · split
    · refine (exec_mono hr hn _ _ _).bind fun r => ?_
      split
      · split
        · split
          · exact (exec_mono hr hn _ _ _).bind fun _ => .refl _
          · exact .refl _
        · exact .refl _
      · exact .refl _
    · exact .refl _
  · exact .refl _

theorem call_mono (T : Table) : ∀ {n n' : Nat}, n ≤ n' → Rec.Le (call c T n) (call c T n')
  | 0, _, _ => fun _ _ _ => .fail _
  | n + 1, n', hn => by
    obtain ⟨n', rfl⟩ : ∃ m, n' = m + 1 := ⟨n' - 1, by omega⟩
    have hn : n ≤ n' := by omega
    intro f args h
    cases f with
    | fn f =>
      simp only [call]
      cases T f with
      | none => exact .refl _
      | some af => exact runFunc_mono (call_mono T hn) hn af args h
    | yield l => exact runRound_mono (call_mono T hn) hn l args h

/-! ### Runs in parts -/

/-- A memory out of another one: some names turned, some new. -/
def hpat : Heap → List (Nat × Option AObj) → List (Option AObj) → Heap
  | h, [], l => h ++ l
  | h, (i, o) :: ps, l => hpat (hset h i o) ps l

/-- A call that is known. -/
structure Known where
  f : Nat
  args : List AV
  h : Heap
  v : AV
  h' : Heap

def Known.hit (k : Known) (f : Nat) (args : List AV) (h : Heap) : Bool := Nat.beq k.f f && (AV.sames k.args args && heapSame k.h h)

def known : List Known → Nat → List AV → Heap → Option (AV × Heap)
  | [], _, _, _ => none
  | k :: l, f, args, h => bif k.hit f args h then some (k.v, k.h') else known l f args h

noncomputable def knownOr (l : List Known) (f : Nat) (args : List AV) (h : Heap) (x : ND (AV × Heap)) : ND (AV × Heap) := match known l f args h with
  | some r => .ret r
  | none => x

/-- The reading, with some calls known. -/
noncomputable def callK (c : Ctx) (T : Table) (l : List Known) (n : Nat) : Rec :=
  Nat.rec (motive := fun _ => Rec) (fun _ _ _ => .fail) (fun n ih f args h => match f with
    | .fn f => knownOr l f args h (fnF c ih n (T f) args h)
    | .yield l => runRound c ih n l args h) n

def Holds (c : Ctx) (T : Table) (N : Nat) (k : Known) : Prop := call c T N (.fn k.f) k.args k.h = .ret (k.v, k.h')

theorem known_spec {T : Table} {N : Nat} : ∀ {l : List Known}, (∀ k ∈ l, Holds c T N k) → ∀ {f : Nat} {args : List AV} {h : Heap} {r : AV × Heap}, known l f args h = some r → call c T N (.fn f) args h = .ret r
  | [], _, f, args, h, r, e => by simp [known] at e
  | k :: l, hl, f, args, h, r, e => by
    simp only [known] at e
    cases hh : k.hit f args h with
    | true =>
      rw [hh] at e
      cases e
      simp only [Known.hit, Bool.and_eq_true] at hh
      have := hl k List.mem_cons_self
      unfold Holds at this
      rw [Nat.eq_of_beq_eq_true hh.1, AV.sames_eq hh.2.1, heapSame_eq hh.2.2] at this
      exact this
    | false => rw [hh] at e; exact known_spec (fun q hq => hl q (List.mem_cons_of_mem _ hq)) e

theorem callK_le {T : Table} {N : Nat} {l : List Known} (hl : ∀ k ∈ l, Holds c T N k) : ∀ n, Rec.Le (callK c T l n) (call c T (n + N))
  | 0 => fun _ _ _ => .fail _
  | n + 1 => by
    have ih := callK_le hl n
    intro f args h
    cases f with
    | fn f =>
      show ND.Le (knownOr l f args h (fnF c (callK c T l n) n (T f) args h)) _
      unfold knownOr
      cases hk : known l f args h with
      | some r =>
        have h1 := known_spec hl hk
        have h2 := call_mono (c := c) T (show N ≤ n + 1 + N by omega) (.fn f) args h
        rw [h1] at h2
        rw [h2.of_ret]
        exact .refl _
      | none =>
        show ND.Le (fnF c (callK c T l n) n (T f) args h) (call c T (n + 1 + N) (.fn f) args h)
        rw [show n + 1 + N = (n + N) + 1 by omega]
        simp only [call]
        cases T f with
        | none => exact .refl _
        | some af =>
          show ND.Le (runF c (callK c T l n) n af args h) _
          rw [runF_eq]
          exact runFunc_mono ih (by omega) af args h
    | yield i =>
      show ND.Le (runRound c (callK c T l n) n i args h) _
      rw [show n + 1 + N = (n + N) + 1 by omega]
      exact runRound_mono ih (by omega) i args h

/-- One end, aS wanted. -/
def ND.isRet {α : Type} (p : α → Bool) : ND α → Bool
  | .ret a => p a
  | _ => false

def Known.end (k : Known) (r : AV × Heap) : Bool := AV.same r.1 k.v && heapSame r.2 k.h'

/-- A call becomes known, out of others that are. -/
theorem Holds.step {T : Table} {N n : Nat} {l : List Known} {k : Known} (hl : ∀ k ∈ l, Holds c T N k) (hb : ND.isRet k.end (callK c T l n (.fn k.f) k.args k.h) = true) : Holds c T (n + N) k := by
  have hle := callK_le hl n (.fn k.f) k.args k.h
  cases hx : callK c T l n (.fn k.f) k.args k.h with
  | fail => rw [hx] at hb; simp [ND.isRet] at hb
  | pick m q => rw [hx] at hb; simp [ND.isRet] at hb
  | ret r =>
    rw [hx] at hb hle
    simp only [ND.isRet, Known.end, Bool.and_eq_true] at hb
    unfold Holds
    rw [hle.of_ret, ← AV.same_eq hb.1, ← heapSame_eq hb.2]

theorem Holds.mono {T : Table} {N N' : Nat} {k : Known} (h : Holds c T N k) (hn : N ≤ N') : Holds c T N' k := by
  have h2 := call_mono (c := c) T hn (.fn k.f) k.args k.h
  rw [show call c T N (.fn k.f) k.args k.h = .ret (k.v, k.h') from h] at h2
  exact h2.of_ret

theorem Holds.none {T : Table} {N : Nat} : ∀ k ∈ ([] : List Known), Holds c T N k := fun _ hk => by cases hk

theorem Holds.cons {T : Table} {N N' : Nat} {k : Known} {l : List Known} (hk : Holds c T N' k) (hl : ∀ k ∈ l, Holds c T N k) (hn : N ≤ N' := by decide) : ∀ q ∈ k :: l, Holds c T N' q := by
  intro q hq
  rcases List.mem_cons.1 hq with rfl | hq
  · exact hk
  · exact (hl q hq).mono hn

/-- A run whose parts are known returns true. -/
theorem closed_trueK {T : Table} {N n : Nat} {l : List Known} {f : Nat} {args : List AV} {h : Heap} (hl : ∀ k ∈ l, Holds c T N k) (hb : ND.ok trueR (callK c T l n (.fn f) args h) = true) :
    Run (call c T (n + N) (.fn f) args h) fun r => r.1 = .bool true :=
  ⟨(callK_le hl n (.fn f) args h).sat (closed_true hb).sat⟩

end
end Go.Proofs.YtjbkcboklccmeaaGreatDoor.Abs
