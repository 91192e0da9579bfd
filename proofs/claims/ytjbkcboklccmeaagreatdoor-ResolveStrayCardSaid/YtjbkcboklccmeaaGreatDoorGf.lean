/-
  Operations that call.
-/
import Derived.Test.YtjbkcboklccmeaaGreatDoorGe
import Derived.Test.YtjbkcboklccmeaaGreatDoorGb
import Derived.Scope
set_option linter.unusedVariables false
set_option linter.unusedSimpArgs false
namespace Go.Proofs.YtjbkcboklccmeaaGreatDoor.Abs

def fence (r : Option Nat) : Fence := { Fence.wide with round := r }

def RetPost (K : Reads) (G : Ghost) (h : Heap) (w : World) (Q : AV × Heap → Prop) : Ending → World → Prop
  | .returned cv, w' => ∃ v h' G', Q (v, h') ∧ Evolve K G h w G' h' w' ∧ VRel G' v cv
  | _, _ => False

/-- What is said of a function that is not walked. -/
def ExtOK (K : Reads) (P : Program) (c : Ctx) (f : Nat) : Prop :=
  ∀ (args : List AV) (cargs : Array Value) (G : Ghost) (h : Heap) (w : World) (v : AV), GlRel G c.gl → Mem K G h w → VsRel G args cargs.toList → c.ext f args = some v →
    (∃ cv G' w', (callFunc f cargs).run P w = .ok (.value cv) w' ∧ Evolve K G h w G' h w' ∧ VRel G' v cv) ∨
    ((callFunc f cargs).run P w = .ok (.enter f cargs) w ∧ CallsIn Fence.wide 0 P f cargs w (RetPost K G h w fun r => r = (v, h)))

structure Good (E : CkEnv) (K : Reads) (c : Ctx) (rec : Rec) : Prop where
  fn : ∀ (f : Nat) (args : List AV) (cargs : Array Value) (G : Ghost) (h : Heap) (w : World) (Q : AV × Heap → Prop), GlRel G c.gl → Mem K G h w → VsRel G args cargs.toList → (rec (.fn f) args h).Sat Q →
    (callFunc f cargs).run E.P w = .ok (.enter f cargs) w ∧ CallsIn Fence.wide 0 E.P f cargs w (RetPost K G h w Q) ∧
    (E.calm f = true → ∀ u, CallsDIn Fence.wide 0 E.P f cargs u w fun e u' w' => u' = u ∧ RetPost K G h w Q e w')
  yield : ∀ (l : Nat) (args : List AV) (cargs : Array Value) (G : Ghost) (h : Heap) (w : World) (Q : AV × Heap → Prop) (cb : Nat), GlRel G c.gl → G.σ l = some cb → Mem K G h w → VsRel G args cargs.toList → (rec (.yield l) args h).Sat Q →
    ∃ fid tmps assign body, (Instr.yield cb cargs).run E.P w = .ok (.round cb fid tmps assign body) w ∧ RoundIn Fence.wide 0 E.P cb fid tmps assign body w (RetPost K G h w Q)
  ext : ∀ f, E.ext f = true → ExtOK K E.P c f

section
variable {E : CkEnv} {K : Reads} {N : Fr} {G0 : Ghost} {h0 : Heap} {w0 : World} {G : Ghost} {h : Heap} {β : Nat → Option Nat} {st : St} {a : Act} {w : World}
variable {o : Oper} {Q : (AV × Option Loc) × Heap → Prop} {c : Ctx} {rec : Rec} {r : Option Nat} {Kn : Act → World → Prop} {Qx : Exit → Act → World → Prop}

/-- Behind an operation: go on with its result. -/
def Next' (K : Reads) (N : Fr) (G0 : Ghost) (h0 : Heap) (w0 : World) (st : St) (a : Act) (dst : Option Tmp) (Q : (AV × Option Loc) × Heap → Prop) (Kn : Act → World → Prop) : Prop :=
  ∀ r, Q r → ∀ cv w' G' β', SRel K N G0 h0 w0 G' r.2 β' { st with loc := r.1.2.getD st.loc } a w' → VRelL G' β' r.1.1 cv → Kn (a.put dst cv) w'

theorem wpIn_of_run {P : Program} (hd : ∀ cl, o.op ≠ .defer cl) (h : o.uponIn (fence r) 0 P a Kn Qx ((execOp a.eval o).run P w)) : o.wpIn (fence r) 0 P a w Kn Qx :=
  ⟨fun _ _ => trivial, by rw [Oper.semAt_eq _ _ _ hd]; exact h⟩

theorem plain_wp {op : Op} {ao : AOp} (s : SRel K N G0 h0 w0 G h β st a w) (hg : GlRel G c.gl) (ho : o.op = op) (hck : ckOp E op ao = true) (hnc : isCall ao = false)
    (hs : (doOp c rec st.env st.loc ao h).Sat Q) (hK : Next' K N G0 h0 w0 st a o.dst Q Kn) : o.wpIn (fence r) 0 E.P a w Kn Qx := by
  have hd : ∀ cl, o.op ≠ .defer cl := by
    intro cl hcl
    rw [← ho, hcl] at hck
    cases ao <;> simp [ckOp] at hck
  obtain ⟨q, hq, nx, cv, w', G', β', h1, h2, h3, h4⟩ := op_sim s hg ho hck hnc hs
  refine wpIn_of_run hd ?_
  rw [h1]
  rcases h2 with rfl | ⟨rfl, rfl⟩
  · exact hK q hq cv w' G' β' h3 h4
  · exact hK q hq undef w' G' β' h3 h4

theorem enter_wp {f : Nat} {cargs : Array Value} {Q' : AV × Heap → Prop} (s : SRel K N G0 h0 w0 G h β st a w) (hd : ∀ cl, o.op ≠ .defer cl) (he : (execOp a.eval o).run E.P w = .ok (.enter f cargs) w)
    (hc : CallsIn Fence.wide 0 E.P f cargs w (RetPost K G h w Q')) (hQ : ∀ q, Q' q → Q ((q.1, none), q.2)) (hK : Next' K N G0 h0 w0 st a o.dst Q Kn) : o.wpIn (fence r) 0 E.P a w Kn Qx := by
  refine wpIn_of_run hd ?_
  rw [he]
  refine ⟨fun h => by simp [fence, Fence.wide] at h, ?_⟩
  have hc' : CallsIn (fence r) (0 - 1) E.P f cargs w (RetPost K G h w Q') := hc
  refine hc'.mono fun e w'' hr => ?_
  cases e with
  | returned cv =>
    obtain ⟨v, h', G', q1, q2, q3⟩ := hr
    exact hK _ (hQ _ q1) cv w'' G' β (s.evolve q2) (.of q3)
  | panicked ch => exact hr.elim
  | outgrown => exact hr.elim

theorem exec_value {cl : Call} {x : Operand} (ho : o.op = .call cl) (hc : cl.callee = .value x) (ρ : Operand → Value) : execOp ρ o = (do let d ← Deferred.ofValue (ρ x) (cl.args.map ρ); invoke d.target d.args) := by
  simp only [execOp, ho, resolve, hc]

theorem call_wp {cl : Call} {ao : AOp} (g : Good E K c rec) (s : SRel K N G0 h0 w0 G h β st a w) (hg : GlRel G c.gl) (ho : o.op = .call cl) (hck : ckCall E cl ao = true) (hc : isCall ao = true)
    (hs : (doOp c rec st.env st.loc ao h).Sat Q) (hK : Next' K N G0 h0 w0 st a o.dst Q Kn) : o.wpIn (fence r) 0 E.P a w Kn Qx := by
  have hd : ∀ cl, o.op ≠ .defer cl := by intro cl hcl; rw [ho] at hcl; cases hcl
  have hargs : ∀ args, opdsEq cl.args.toList args = true → VsRel G (evalAll c.gl st.env args) (cl.args.map a.eval).toList := by
    intro args h
    have := opdsEq_eq h; subst this
    have := s.evalAll hg cl.args.toList
    rwa [← Array.toList_map] at this
  unfold ckCall at hck
  split at hck <;> first | (cases hc; done) | skip
  · -- a function by name
    next f gg args hcal =>
    simp only [Bool.and_eq_true] at hck
    have := Nat.eq_of_beq_eq_true hck.1.1; subst this
    simp only [doOp, ND.sat_bind] at hs
    obtain ⟨h1, h2, _⟩ := g.fn f _ _ G h w _ hg s.ev.mem (hargs _ hck.1.2) hs
    refine enter_wp (f := f) (cargs := cl.args.map a.eval) s hd ?_ h2 (fun q hq => hq) hK
    rw [exec_value ho hcal]
    simp only [Act.eval, Deferred.ofValue, Sem.run_bind, Sem.run_pure, Result.andThen_ok, invoke, Array.empty_append, Array.append_empty]
    exact h1
  · -- a function by what is said of it
    next f gg args hcal =>
    simp only [Bool.and_eq_true] at hck
    have := Nat.eq_of_beq_eq_true hck.1.1; subst this
    obtain ⟨v, hv, hq⟩ := sat_out hs
    have hex : execOp a.eval o = callFunc f (cl.args.map a.eval) := by
      rw [exec_value ho hcal]
      show callFunc f (#[] ++ cl.args.map a.eval ++ #[]) = _
      rw [Array.empty_append, Array.append_empty]
    rcases g.ext f hck.2 _ _ G h w v (hg.mono (.refl G)) s.ev.mem (hargs _ hck.1.2) hv with ⟨cv, G', w', h1, h2, h3⟩ | ⟨h1, h2⟩
    · refine wpIn_of_run hd ?_
      rw [hex, h1]
      exact hK _ hq cv w' G' β (s.evolve h2) (.of h3)
    · exact enter_wp s hd (by rw [hex]; exact h1) h2 (fun q hq' => by subst hq'; exact hq) hK
  · -- a function's value
    next x y args hcal =>
    simp only [Bool.and_eq_true] at hck
    have := opdEq_eq hck.1; subst this
    have hx := s.evalC hg x
    simp only [doOp, ND.sat_bind] at hs
    have hr := hargs _ hck.2
    cases hvx : (Opd.eval c.gl st.env x).clean with
    | clos f first caps =>
      rw [hvx] at hs hx
      simp only [callValue] at hs
      cases hcx : a.eval x with
      | func fn first' caps' =>
        rw [hcx] at hx
        cases hx with
        | clos p1 p2 p3 p4 =>
        have hall : VsRel G (first ++ evalAll c.gl st.env args ++ caps) (first' ++ cl.args.map a.eval ++ caps').toList := by
          simp only [Array.toList_append]
          exact ((⟨by simpa using p1, fun i a v ha hv => p3 i a v ha (by simpa using hv)⟩ : VsRel G first first'.toList).append hr).append ⟨by simpa using p2, fun i a v ha hv => p4 i a v ha (by simpa using hv)⟩
        obtain ⟨h1, h2, _⟩ := g.fn f _ _ G h w _ hg s.ev.mem hall hs
        refine enter_wp (f := f) s hd ?_ h2 (fun q hq => hq) hK
        rw [exec_value ho hcal, hcx]
        simp only [Deferred.ofValue, Sem.run_bind, Sem.run_pure, Result.andThen_ok, invoke]
        exact h1
      | _ => rw [hcx] at hx; cases hx
    | yield l =>
      rw [hvx] at hs hx
      simp only [callValue] at hs
      cases hcx : a.eval x with
      | func fn first' caps' =>
        rw [hcx] at hx
        cases hx with
        | yield hσ =>
        next cb =>
        obtain ⟨fid, tmps, assign, body, h1, h2⟩ := g.yield l _ _ G h w _ cb hg hσ s.ev.mem hr hs
        refine wpIn_of_run hd ?_
        have he : (execOp a.eval o).run E.P w = .ok (.round cb fid tmps assign body) w := by
          rw [exec_value ho hcal, hcx]
          simp only [Deferred.ofValue, Sem.run_bind, Sem.run_pure, Result.andThen_ok, invoke, Array.empty_append]
          exact h1
        rw [he]
        refine ⟨fun h => by simp [fence, Fence.wide] at h, ?_⟩
        have h2' : RoundIn (fence r) (0 - 1) E.P cb fid tmps assign body w (RetPost K G h w fun q => (ND.ret ((q.1, none), q.2)).Sat Q) := h2
        refine h2'.mono fun e w'' hr => ?_
        cases e with
        | returned cv =>
          obtain ⟨v, h', G', q1, q2, q3⟩ := hr
          exact hK _ q1 cv w'' G' β (s.evolve q2) (.of q3)
        | panicked ch => exact hr.elim
        | outgrown => exact hr.elim
      | _ => rw [hcx] at hx; cases hx
    | _ => rw [hvx] at hs; exact hs.elim
  · cases hck

end
end Go.Proofs.YtjbkcboklccmeaaGreatDoor.Abs
/-
  Operations with their guards; lists of them; regions.
-/
namespace Go.Proofs.YtjbkcboklccmeaaGreatDoor.Abs

def dstOK (N : Nat) : Option Nat → Option Nat → Bool
  | none, none => true
  | some d, some d' => Nat.beq d d' && Nat.blt d N
  | _, _ => false

theorem dstOK_spec {N : Nat} {d d' : Option Nat} (h : dstOK N d d' = true) : d = d' ∧ ∀ x, d = some x → x < N := by
  unfold dstOK at h
  split at h
  · exact ⟨rfl, fun x h => by cases h⟩
  · simp only [Bool.and_eq_true] at h
    have := Nat.eq_of_beq_eq_true h.1
    subst this
    exact ⟨rfl, fun x hx => by cases hx; exact Nat.lt_of_lt_of_eq (Nat.le_of_ble_eq_true h.2) rfl⟩
  · cases h

def guardOK (ops : Array Oper) : Option (Nat × Bool) → Option (Nat × Bool) → Bool
  | none, none => true
  | some (j, b), some (s, b') => (b == b') && (match ops[j]? with | some o => (match o.dst with | some d => Nat.beq d s | none => false) | none => false)
  | _, _ => false

def ckOper (E : CkEnv) (N : Nat) (rd : Bool) (ops : Array Oper) (o : Oper) (ao : AOper) : Bool :=
  dstOK N o.dst ao.dst && guardOK ops o.guard ao.guard &&
  (match o.op, ao.op with
   | .defer cl, .defer f args => !rd && E.calm f && opdsEq cl.args.toList args && (match cl.callee with | .value (.func g) => Nat.beq g f | _ => false)
   | .defer _, _ => false
   | _, .defer .. => false
   | .call cl, x => ckCall E cl x
   | op, x => !isCall x && ckOp E op x)

section
variable {E : CkEnv} {K : Reads} {N : Fr} {G0 : Ghost} {h0 : Heap} {w0 : World} {G : Ghost} {h : Heap} {β : Nat → Option Nat} {st : St} {a : Act} {w : World}
variable {o : Oper} {c : Ctx} {rec : Rec} {r : Option Nat} {Kn : Act → World → Prop} {Qx : Exit → Act → World → Prop} {ops : Array Oper}

theorem freezeL_rel' (s : SRel K N G0 h0 w0 G h β st a w) {v v' : AV} {cv : Value} {h' : Heap} (hf : freeze v h = some (v', h')) (hv : VRelL G β v cv) : ∃ G', SRel K N G0 h0 w0 G' h' β st a w ∧ VRelL G' β v' cv := by
  by_cases hl : ∃ i f, v = .lptr i f
  · obtain ⟨i, f, rfl⟩ := hl
    simp only [freeze, freeze1, Option.some.injEq, Prod.mk.injEq] at hf
    obtain ⟨rfl, rfl⟩ := hf
    exact ⟨G, s, hv⟩
  · have hv' : VRel G v cv := by cases v <;> first | exact hv | exact absurd ⟨_, _, rfl⟩ hl
    obtain ⟨G', ev, hr⟩ := freeze_rel s.ev.mem hf hv'
    exact ⟨G', s.evolve ev, .of hr⟩

theorem goOper_ne {st : St} {ao : AOper} (hn : ∀ f args, ao.op = .defer f args → False) : goOper c rec st ao h = (doOp c rec st.env st.loc ao.op h).bind (afterOp st ao) := by
  unfold goOper
  split
  · next f args hao => exact (hn _ _ hao).elim
  · rfl

/-- What is done behind an operation that is carried out. -/
theorem next_of (hd : ∀ x, o.dst = some x → x < N.1) {ao : AOper} {Q : St × Heap → Prop} (hdst : o.dst = ao.dst)
    (hK : ∀ st' h' G' β' a' w', Q (st', h') → SRel K N G0 h0 w0 G' h' β' st' a' w' → Kn a' w') :
    Next' K N G0 h0 w0 st a o.dst (fun q => (afterOp st ao q).Sat Q) Kn := by
  intro q hq cv w' G' β' s hv
  unfold afterOp at hq
  cases hf : ao.frz with
  | false =>
    simp only [hf, cond_false] at hq
    exact hK _ _ G' β' _ _ hq (by rw [← hdst]; exact s.put hd hv)
  | true =>
    simp only [hf, cond_true] at hq
    split at hq
    · next v' h' hfr =>
      obtain ⟨G'', s', hv'⟩ := freezeL_rel' s hfr hv
      exact hK _ _ G'' β' _ _ hq (by rw [← hdst]; exact s'.put hd hv')
    · exact hq.elim

theorem oper_go {ao : AOper} {Q : St × Heap → Prop} (g : Good E K c rec) (s : SRel K N G0 h0 w0 G h β st a w) (hg : GlRel G c.gl) (hrd : (r.isSome = true → N.2 = true) ∧ N.3 = E.calm) (hck : ckOper E N.1 N.2 ops o ao = true)
    (hs : (goOper c rec st ao h).Sat Q)
    (hK : ∀ st' h' G' β' a' w', Q (st', h') → SRel K N G0 h0 w0 G' h' β' st' a' w' → Kn a' w') : o.wpIn (fence r) 0 E.P a w Kn Qx := by
  unfold ckOper at hck
  simp only [Bool.and_eq_true] at hck
  obtain ⟨⟨h1, h2⟩, h3⟩ := hck
  obtain ⟨hdst, hd⟩ := dstOK_spec h1
  split at h3
  · -- defer
    next cl f args ho hao =>
    unfold goOper at hs
    rw [hao] at hs
    simp only [Bool.and_eq_true, Bool.not_eq_true'] at h3
    obtain ⟨⟨⟨hr, hcalm⟩, hargs⟩, hcal⟩ := h3
    split at hcal
    · next gg hcc =>
      have := Nat.eq_of_beq_eq_true hcal; subst this
      have hrn : r = none := by
        cases r with
        | none => rfl
        | some l => have := hrd.1 rfl; rw [hr] at this; cases this
      subst hrn
      have := opdsEq_eq hargs; subst this
      refine ⟨fun _ _ => trivial, ?_⟩
      have he : (Oper.semAt (fence none).round a.eval o).run E.P w = .ok (.defer { target := .fn (.func gg) #[], args := cl.args.map a.eval }) w := by
        show (execOp a.eval o).run E.P w = _
        simp only [execOp, ho, resolve, hcc, Act.eval, Deferred.ofValue, Sem.run_bind, Sem.run_pure, Result.andThen_ok, Array.empty_append]
      rw [he]
      have hv := s.evalAll hg cl.args.toList
      rw [← Array.toList_map] at hv
      have s1 : SRel K N G0 h0 w0 G h β { st with defers := (gg, evalAll c.gl st.env cl.args.toList) :: st.defers } { a with defers := { target := .fn (.func gg) #[], args := cl.args.map a.eval } :: a.defers } w :=
        ⟨s.ev, s.size, fun h => (by rw [hr] at h; cases h), s.env, s.loc, .call (by rw [hrd.2]; exact hcalm) hv s.dfr⟩
      exact hK _ _ G β _ _ hs (by rw [← hdst]; exact s1.put hd (.of (.undef _)))
    · cases hcal
  · cases h3
  · cases h3
  · -- call
    next _ cl ho hnd =>
    have hs' := hs
    rw [goOper_ne hnd] at hs'
    by_cases hc : isCall ao.op = true
    · refine call_wp g s hg ho h3 hc (Q := _) ?_ (next_of hd hdst hK)
      rw [← ND.sat_bind]
      exact hs'
    · have hnc : isCall ao.op = false := by simpa using hc
      refine plain_wp (rec := rec) (op := .call cl) s hg ho (by unfold ckOp; exact h3) hnc (Q := _) ?_ (next_of hd hdst hK)
      rw [← ND.sat_bind]
      exact hs'
  · next hnd hnd' hncl =>
    simp only [Bool.and_eq_true, Bool.not_eq_true'] at h3
    have hs' := hs
    rw [goOper_ne (fun f args hh => by rw [hh] at h3; simp [isCall] at h3)] at hs'
    refine plain_wp (rec := rec) (op := o.op) s hg rfl h3.2 h3.1 (Q := _) ?_ (next_of hd hdst hK)
    rw [← ND.sat_bind]
    exact hs'


theorem yielded_bool (s : SRel K N G0 h0 w0 G h β st a w) {j sl : Nat} {oj : Oper} {b : Bool} (h1 : ops[j]? = some oj) (h2 : oj.dst = some sl) (he : st.env.get sl = .bool b) : yielded ops a.tmps j = some b := by
  have hv := s.env sl
  rw [he] at hv
  have hv' : a.tmps.getD sl undef = .bool b := (show VRel G (.bool b) _ from hv).bool_inv
  have : a.tmps[sl]? = some (.bool b) := by
    rw [Array.getD_eq_getD_getElem?] at hv'
    cases hx : a.tmps[sl]? with
    | none => rw [hx] at hv'; cases hv'
    | some v => rw [hx] at hv'; simpa using hv'
  simp [yielded, h1, h2, this]

theorem yielded_none (s : SRel K N G0 h0 w0 G h β st a w) {j sl : Nat} {oj : Oper} (h1 : ops[j]? = some oj) (h2 : oj.dst = some sl) (he : st.env.get sl = .tuple []) : yielded ops a.tmps j = none := by
  have hv := s.env sl
  rw [he] at hv
  have hv' : ∃ vs, a.tmps.getD sl undef = .tuple vs := by
    obtain ⟨vs, h, _⟩ := tuple_inv (show VRel G (.tuple []) _ from hv)
    exact ⟨vs, h⟩
  obtain ⟨vs, hv'⟩ := hv'
  rw [Array.getD_eq_getD_getElem?] at hv'
  cases hx : a.tmps[sl]? with
  | none => simp [yielded, h1, h2, hx]
  | some v =>
    rw [hx] at hv'
    have : v = .tuple vs := by simpa using hv'
    subst this
    simp [yielded, h1, h2, hx]

theorem oper_wp {ao : AOper} {Q : St × Heap → Prop} (g : Good E K c rec) (s : SRel K N G0 h0 w0 G h β st a w) (hg : GlRel G c.gl) (hrd : (r.isSome = true → N.2 = true) ∧ N.3 = E.calm) (hck : ckOper E N.1 N.2 ops o ao = true)
    (hs : (doOper c rec st ao h).Sat Q) (hK : ∀ st' h' G' β' a' w', Q (st', h') → SRel K N G0 h0 w0 G' h' β' st' a' w' → Kn a' w') :
    if Region.wanted o (yielded ops a.tmps) then o.wpIn (fence r) 0 E.P a w Kn Qx else (∀ f, o.about E.P w a.eval = some f → (fence r).fn f) ∧ Kn (a.put o.dst undef) w := by
  have hck' := hck
  unfold ckOper at hck'
  simp only [Bool.and_eq_true] at hck'
  obtain ⟨⟨h1, h2⟩, _⟩ := hck'
  obtain ⟨hdst, hd⟩ := dstOK_spec h1
  have hskip : ∀ Q' : St × Heap → Prop, (∀ q, Q' q → Q q) → (ND.ret ({ st with env := st.env.put ao.dst (.tuple []) }, h) : ND (St × Heap)).Sat Q' → Kn (a.put o.dst undef) w := by
    intro Q' hQ hq
    exact hK _ _ G β _ _ (hQ _ hq) (by rw [← hdst]; exact s.put hd (.of (tuple_mk (vs := []) (.nil G))))
  unfold doOper at hs
  split at hs
  · next hgd =>
    have : o.guard = none := by
      rw [hgd] at h2; cases ho : o.guard with
      | none => rfl
      | some x => rw [ho] at h2; simp [guardOK] at h2
    simp only [Region.wanted, this, if_true]
    exact oper_go g s hg hrd hck hs hK
  · next sl want hgd =>
    obtain ⟨j, oj, ho, hj, hjd⟩ : ∃ j oj, o.guard = some (j, want) ∧ ops[j]? = some oj ∧ oj.dst = some sl := by
      rw [hgd] at h2; cases ho : o.guard with
      | none => rw [ho] at h2; simp [guardOK] at h2
      | some x =>
        obtain ⟨j, b⟩ := x
        rw [ho] at h2
        simp only [guardOK, Bool.and_eq_true] at h2
        obtain ⟨q1, q2⟩ := h2
        have := eq_of_beq q1; subst this
        split at q2
        · next oj hj =>
          split at q2
          · next d hdj => have := Nat.eq_of_beq_eq_true q2; subst this; exact ⟨j, oj, rfl, hj, hdj⟩
          · cases q2
        · cases q2
    split at hs
    · next b he =>
      have hy := yielded_bool s hj hjd he
      split at hs
      · next hb =>
        have hw : Region.wanted o (yielded ops a.tmps) = true := by simp [Region.wanted, ho, hy, hb]
        rw [if_pos hw]
        exact oper_go g s hg hrd hck hs hK
      · next hb =>
        have hw : ¬ Region.wanted o (yielded ops a.tmps) = true := by simp [Region.wanted, ho, hy, hb]
        rw [if_neg hw]
        exact ⟨fun _ _ => trivial, hskip _ (fun _ h => h) hs⟩
    · next he =>
      have hy := yielded_none s hj hjd he
      have hw : ¬ Region.wanted o (yielded ops a.tmps) = true := by simp [Region.wanted, ho, hy]
      rw [if_neg hw]
      exact ⟨fun _ _ => trivial, hskip _ (fun _ h => h) hs⟩
    · exact hs.elim

/-- Which operations a list of numbers names, and how they are read. -/
def ckOps (E : CkEnv) (N : Nat) (rd : Bool) (ops : Array Oper) : List Nat → List AOper → Bool
  | [], [] => true
  | i :: l, ao :: aos => (match ops[i]? with | some o => ckOper E N rd ops o ao | none => false) && ckOps E N rd ops l aos
  | _, _ => false

theorem ops_wp (g : Good E K c rec) (hrd : (r.isSome = true → N.2 = true) ∧ N.3 = E.calm) : ∀ {l : List Nat} {aos : List AOper} {G : Ghost} {h : Heap} {β : Nat → Option Nat} {st : St} {a : Act} {w : World} {Q : St × Heap → Prop},
    SRel K N G0 h0 w0 G h β st a w → GlRel G0 c.gl → ckOps E N.1 N.2 ops l aos = true → (doOps c rec aos st h).Sat Q →
    (∀ st' h' G' β' a' w', Q (st', h') → SRel K N G0 h0 w0 G' h' β' st' a' w' → Qx .normal a' w') → wpOpsIn (fence r) 0 E.P ops Qx l a w
  | [], [], G, h, β, st, a, w, Q, s, hg, _, hs, hK => hK _ _ G β _ _ hs s
  | [], _ :: _, G, h, β, st, a, w, Q, s, hg, hck, hs, hK => by simp [ckOps] at hck
  | _ :: _, [], G, h, β, st, a, w, Q, s, hg, hck, hs, hK => by simp [ckOps] at hck
  | i :: l, ao :: aos, G, h, β, st, a, w, Q, s, hg, hck, hs, hK => by
    simp only [ckOps, Bool.and_eq_true] at hck
    obtain ⟨h1, h2⟩ := hck
    split at h1
    · next o ho =>
      simp only [doOps, ND.sat_bind] at hs
      simp only [wpOpsIn, ho]
      exact oper_wp g s (hg.mono s.ev.le) hrd h1 hs fun st' h' G' β' a' w' hq s' => ops_wp g hrd s' hg h2 hq hK
    · cases h1

end
end Go.Proofs.YtjbkcboklccmeaaGreatDoor.Abs
/-
  Code.
-/
namespace Go.Proofs.YtjbkcboklccmeaaGreatDoor.Abs

def isSkip : Code → Bool
  | .skip => true
  | .label _ => true
  | .seq a b => isSkip a && isSkip b
  | _ => false

def natsOK (N : Nat) : List Nat → List Nat → Bool
  | [], [] => true
  | a :: aS, b :: bs => Nat.beq a b && Nat.blt a N && natsOK N aS bs
  | _, _ => false

theorem natsOK_spec {N : Nat} : ∀ {aS bs : List Nat}, natsOK N aS bs = true → aS = bs ∧ ∀ s ∈ bs, s < N
  | [], [], _ => ⟨rfl, fun s h => by simp at h⟩
  | [], _ :: _, h => by simp [natsOK] at h
  | _ :: _, [], h => by simp [natsOK] at h
  | a :: aS, b :: bs, h => by
    simp only [natsOK, Bool.and_eq_true] at h
    obtain ⟨⟨h1, h2⟩, h3⟩ := h
    have := Nat.eq_of_beq_eq_true h1; subst this
    obtain ⟨rfl, h4⟩ := natsOK_spec h3
    exact ⟨rfl, fun s hs => by rcases List.mem_cons.1 hs with rfl | hs; exact Nat.le_of_ble_eq_true h2; exact h4 s hs⟩

/-- The check of a region that draws its order. -/
abbrev DrawCk := Nat → Bool → Array Oper → List (AOper × List (Nat × AOp)) → List Nat → Bool

def ckCode (E : CkEnv) (D : DrawCk) (N : Nat) (rd : Bool) : Code → ACode → Bool
  | .skip, .skip => true
  | .label _, .skip => true
  | .region _ ops draw, .ops l _ => !draw && ckOps E N rd ops (List.range ops.size) l
  | .region _ ops draw, .opsD l live => draw && D N rd ops l live
  | .seq a b, x => (isSkip a && ckCode E D N rd b x) || (isSkip b && ckCode E D N rd a x) || (match x with | .seq a' b' => ckCode E D N rd a a' && ckCode E D N rd b b' | .skip => isSkip a && isSkip b | _ => false)
  | .cond c a b, .cond c' a' b' => opdEq c c' && ckCode E D N rd a a' && ckCode E D N rd b b'
  | .block i b, .block i' b' => Nat.beq i i' && ckCode E D N rd b b'
  | .block i b, .mblock i' _ _ _ b' => Nat.beq i i' && ckCode E D N rd b b'
  | .loop b, .loop _ b' => ckCode E D N rd b b'
  | .exit i, .exit i' => Nat.beq i i'
  | .ret, .ret => true
  | .refuse _, .fail => true
  | .scope b, x => !rd && ckCode E D N rd b x
  | .rangeFunc f ps assign body, .rangeFunc f' ps' assign' body' _ => !rd && opdEq f f' && natsOK N ps.toList ps' && ckCode E D N true assign assign' && ckCode E D N true body body'
  | _, _ => false

def ckK (E : CkEnv) (D : DrawCk) : Reads := fun N code acode => ckCode E D N true code acode = true

def DrawOK (E : CkEnv) (D : DrawCk) (K : Reads) (c : Ctx) (rec : Rec) : Prop :=
  ∀ (N : Fr) (r : Option Nat) (ops : Array Oper) (aos : List (AOper × List (Nat × AOp))) (live : List Nat) (G0 : Ghost) (h0 : Heap) (w0 : World) (G : Ghost) (h : Heap) (β : Nat → Option Nat) (st : St) (a : Act) (w : World) (Q : St × Heap → Prop) (Qx : Exit → Act → World → Prop),
    (r.isSome = true → N.2 = true) ∧ N.3 = E.calm → D N.1 N.2 ops aos live = true → SRel K N G0 h0 w0 G h β st a w → GlRel G0 c.gl → (doDs c rec aos st h).Sat (fun q => Q (q.1.keep live, q.2)) →
    (∀ st' h' G' β' a' w', Q (st', h') → SRel K N G0 h0 w0 G' h' β' st' a' w' → Qx .normal a' w') → ∀ t, wpOpsIn (fence r) 0 E.P ops Qx (Region.schedule (E.P.follows .mixedOrders) ops t) a { w with drawn := w.drawn + 1 }

def exitOf : AExit → Exit
  | .normal => .normal
  | .exit i => .exit i
  | .ret => .ret

section
variable {E : CkEnv} {D : DrawCk} {K : Reads} {N : Fr} {G0 : Ghost} {h0 : Heap} {w0 : World} {G : Ghost} {h : Heap} {β : Nat → Option Nat} {st : St} {a : Act} {w : World}
variable {c : Ctx} {rec : Rec} {r : Option Nat} {Qx : Exit → Act → World → Prop}

theorem Env.get_keep {e : Env} : ∀ {l : List Nat} {s : Nat}, (Env.keep e l).get s = if s ∈ l then e.get s else .undef
  | [], s => rfl
  | k :: l, s => by
    have ih := Env.get_keep (e := e) (l := l) (s := s)
    unfold Env.keep at ih ⊢
    simp only [List.map_cons, Env.get, Nat.beq_eq_decide', ih]
    by_cases hk : k = s
    · subst hk; simp
    · have : s ≠ k := fun h => hk h.symm
      simp [hk, this]

theorem boxGet_rebuild {b : List (Nat × List AV)} {e : Env} {i : Nat} {cs : List AV} (h : boxGet (rebuild b e) i = some cs) : boxGet b i = some cs := by
  induction e with
  | nil => simp [rebuild, boxGet] at h
  | cons p e ih =>
    simp only [rebuild] at h
    cases hl : lptrOf p.2 with
    | none => rw [hl] at h; exact ih h
    | some j =>
      rw [hl] at h
      cases hb : boxGet b j with
      | none => simp only [hb] at h; exact ih h
      | some cs' =>
        simp only [hb, boxGet_cons] at h
        split at h
        · next e => subst e; rw [hb]; exact h
        · exact ih h

theorem SRel.keep (s : SRel K N G0 h0 w0 G h β st a w) (live : List Nat) : SRel K N G0 h0 w0 G h β (st.keep live) a w := by
  refine ⟨s.ev, s.size, s.flat, fun i => ?_, ⟨fun i cs hb => s.loc.box i cs (boxGet_rebuild hb), s.loc.own, s.loc.inj, fun i hi _ => ?_, fun i cb hb => ?_⟩, s.dfr⟩
  · show VRelL G β ((Env.keep st.env live).get i) _
    rw [Env.get_keep]
    split
    · exact s.env i
    · exact .of (.undef _)
  · cases hb : β i with
    | none => rfl
    | some cb => exact absurd (Nat.lt_of_lt_of_le (s.loc.bound i cb hb) (show (st.loc.nb + 1) * 64 ≤ i from hi)) (Nat.lt_irrefl _)
  · exact Nat.lt_of_lt_of_le (s.loc.bound i cb hb) (Nat.mul_le_mul_right 64 (Nat.le_succ (st.loc.nb + 1)))

theorem SRel.keepAt (s : SRel K N G0 h0 w0 G h β st a w) (live : List Nat) {nb : Nat} (hnb : st.loc.nb < nb) : SRel K N G0 h0 w0 G h β (st.keepAt live nb) a w := by
  have k := s.keep live
  refine ⟨k.ev, k.size, k.flat, k.env, ⟨k.loc.box, k.loc.own, k.loc.inj, fun i hi _ => ?_, fun i cb hb => ?_⟩, k.dfr⟩
  · cases hb : β i with
    | none => rfl
    | some cb =>
      have h1 := s.loc.bound i cb hb
      have h2 : nb * 64 ≤ i := hi
      exact absurd (Nat.lt_of_lt_of_le h1 (Nat.le_trans (Nat.mul_le_mul_right 64 hnb) h2)) (Nat.lt_irrefl _)
  · exact Nat.lt_of_lt_of_le (s.loc.bound i cb hb) (Nat.mul_le_mul_right 64 (Nat.le_succ_of_le hnb))

theorem SRel.dropIter (s : SRel K N G0 h0 w0 G h β st a w) {i : Nat} {m : Option Nat} {si : Nat} {se : List Nat} {la : Nat} (hit : hget h i = some (.iter m si se la)) : SRel K N G0 h0 w0 G (hset h i none) β st a w := by
  obtain ⟨cb, obj, h1, h2, h3⟩ := s.ev.mem.obj i _ hit
  have hn : ∀ c t fz, obj ≠ .cells c t fz := by
    intro c t fz he
    subst he
    exact h3
  have e := Evolve.drop s.ev.mem (obj' := obj) hit h1 h2 hn
  rw [upd_self h2] at e
  exact s.evolve e

theorem SRel.drew (s : SRel K N G0 h0 w0 G h β st a w) : SRel K N G0 h0 w0 G h β st a { w with drawn := w.drawn + 1 } := s.evolve (Evolve.drew s.ev.mem)

theorem skip_wp {code : Code} {Qx : Exit → Act → World → Prop} (hs : isSkip code = true) (h : Qx .normal a w) : code.wpIn (fence r) 0 E.P Qx a w := by
  induction code generalizing Qx with
  | skip => exact wpIn_skip h
  | label _ => exact wpIn_label h
  | seq x y ihx ihy =>
    simp only [isSkip, Bool.and_eq_true] at hs
    exact wpIn_seq (ihx hs.1 (ihy hs.2 h))
  | _ => simp [isSkip] at hs

/-- Code is walked aS the abstract one is carried out (a range over a function apart: 'hR'). -/
theorem code_wp (g : Good E K c rec) (hdr : DrawOK E D K c rec) (hK : K = ckK E D) (hg0 : GlRel G0 c.gl) {n : Nat} (hrd : (r.isSome = true → N.2 = true) ∧ N.3 = E.calm)
    (hR : ∀ (f : Operand) (ps : Array Tmp) (assign body : Code) (f' : Operand) (ps' : List Nat) (assign' body' : ACode) (live : List Nat) (G : Ghost) (h : Heap) (β : Nat → Option Nat) (st : St) (a : Act) (w : World) (Q : (AExit × St) × Heap → Prop) (Qx : Exit → Act → World → Prop),
      ckCode E D N.1 N.2 (.rangeFunc f ps assign body) (.rangeFunc f' ps' assign' body' live) = true → SRel K N G0 h0 w0 G h β st a w → (exec c rec n (.rangeFunc f' ps' assign' body' live) st h).Sat Q →
      (∀ e st' h' G' β' a' w', Q ((e, st'), h') → SRel K N G0 h0 w0 G' h' β' st' a' w' → Qx (exitOf e) a' w') → (Code.rangeFunc f ps assign body).wpIn (fence r) 0 E.P Qx a w) :
    ∀ (code : Code) (ac : ACode) (G : Ghost) (h : Heap) (β : Nat → Option Nat) (st : St) (a : Act) (w : World) (Q : (AExit × St) × Heap → Prop) (Qx : Exit → Act → World → Prop),
      ckCode E D N.1 N.2 code ac = true → SRel K N G0 h0 w0 G h β st a w → (exec c rec n ac st h).Sat Q →
      (∀ e st' h' G' β' a' w', Q ((e, st'), h') → SRel K N G0 h0 w0 G' h' β' st' a' w' → Qx (exitOf e) a' w') → code.wpIn (fence r) 0 E.P Qx a w := by
  intro code
  induction code with
  | skip =>
    intro ac G h β st a w Q Qx hck s hs hq
    cases ac <;> simp only [ckCode, Bool.false_eq_true] at hck
    exact wpIn_skip (hq _ _ _ G β a w hs s)
  | label l =>
    intro ac G h β st a w Q Qx hck s hs hq
    cases ac <;> simp only [ckCode, Bool.false_eq_true] at hck
    exact wpIn_label (hq _ _ _ G β a w hs s)
  | region id ops draw =>
    intro ac G h β st a w Q Qx hck s hs hq
    cases ac <;> simp only [ckCode, Bool.false_eq_true, Bool.and_eq_true, Bool.not_eq_true'] at hck
    · obtain ⟨hd, hck⟩ := hck
      subst hd
      simp only [exec, ND.sat_bind] at hs
      exact wpIn_region (ops_wp g hrd s hg0 hck hs fun st' h' G' β' a' w' hq' s' => hq .normal _ _ G' β' a' w' hq' (s'.keep _))
    · obtain ⟨hd, hck⟩ := hck
      subst hd
      simp only [exec, ND.sat_bind] at hs
      exact wpIn_region_draw (hdr N r ops _ _ G0 h0 w0 G h β st a w (fun q => Q ((.normal, q.1), q.2)) Qx hrd hck s hg0 hs fun st' h' G' β' a' w' hq' s' => hq .normal _ _ G' β' a' w' hq' s')
  | seq x y ihx ihy =>
    intro ac G h β st a w Q Qx hck s hs hq
    simp only [ckCode, Bool.or_eq_true, Bool.and_eq_true] at hck
    rcases hck with (⟨h1, h2⟩ | ⟨h1, h2⟩) | h2
    · exact wpIn_seq (skip_wp h1 (ihy ac G h β st a w Q Qx h2 s hs hq))
    · refine wpIn_seq (ihx ac G h β st a w Q _ h2 s hs fun e st' h' G' β' a' w' hq' s' => ?_)
      have := hq e st' h' G' β' a' w' hq' s'
      cases e with
      | normal => exact skip_wp h1 this
      | exit i => exact this
      | ret => exact this
    · split at h2
      · next a' b' =>
        simp only [Bool.and_eq_true] at h2
        simp only [exec, ND.sat_bind] at hs
        refine wpIn_seq (ihx a' G h β st a w _ _ h2.1 s hs fun e st' h' G' β' a' w' hq' s' => ?_)
        cases e with
        | normal => exact ihy b' G' h' β' st' a' w' Q Qx h2.2 s' hq' hq
        | exit i => exact hq _ _ _ G' β' _ _ hq' s'
        | ret => exact hq _ _ _ G' β' _ _ hq' s'
      · simp only [Bool.and_eq_true] at h2
        exact wpIn_seq (skip_wp h2.1 (skip_wp h2.2 (hq _ _ _ G β a w hs s)))
      · cases h2
  | cond p x y ihx ihy =>
    intro ac G h β st a w Q Qx hck s hs hq
    cases ac <;> simp only [ckCode, Bool.false_eq_true] at hck
    simp only [Bool.and_eq_true] at hck
    obtain ⟨⟨h1, h2⟩, h3⟩ := hck
    have := opdEq_eq h1; subst this
    have hv := s.eval (hg0.mono s.ev.le) p
    simp only [exec] at hs
    split at hs
    · next he =>
      rw [he] at hv
      exact wpIn_cond_true (show VRel G (.bool true) _ from hv).bool_inv (ihx _ G h β st a w Q Qx h2 s hs hq)
    · next he =>
      rw [he] at hv
      exact wpIn_cond_false (show VRel G (.bool false) _ from hv).bool_inv (ihy _ G h β st a w Q Qx h3 s hs hq)
    · exact hs.elim
  | block id x ih =>
    intro ac G h β st a w Q Qx hck s hs hq
    cases ac <;> simp only [ckCode, Bool.false_eq_true] at hck
    · simp only [Bool.and_eq_true] at hck
      have := Nat.eq_of_beq_eq_true hck.1; subst this
      simp only [exec, ND.sat_bind] at hs
      refine wpIn_block (ih _ G h β st a w _ _ hck.2 s hs fun e st' h' G' β' a' w' hq' s' => ?_)
      cases e with
      | normal => exact hq .normal _ _ G' β' _ _ hq' s'
      | ret => exact hq .ret _ _ G' β' _ _ hq' s'
      | exit i =>
        show Exit.inBlock id Qx (.exit i) a' w'
        simp only [Exit.inBlock]
        dsimp only at hq'
        by_cases hi : i = id
        · rw [if_pos hi] at hq' ⊢; exact hq .normal _ _ G' β' _ _ hq' s'
        · rw [if_neg hi] at hq' ⊢; exact hq (.exit i) _ _ G' β' _ _ hq' s'
    · rename_i id' it room live b
      simp only [Bool.and_eq_true] at hck
      have := Nat.eq_of_beq_eq_true hck.1; subst this
      simp only [exec] at hs
      split at hs
      · next i he =>
        split at hs
        · next r1 hone =>
          have hs1 := ND.one_sat (fun a b => outSame_eq) hone
          simp only [ND.sat_bind] at hs1
          refine wpIn_block (ih _ G h β st a w _ _ hck.2 s hs1 fun e st' h' G' β' a' w' hq' s' => ?_)
          have key : ∀ (e2 : AExit), (behindRange i (st.loc.nb + room) live ((e2, st'), h')).Sat (fun b => b = r1) → Qx (exitOf e2) a' w' := by
            intro e2 hb
            simp only [behindRange] at hb
            split at hb
            · next m si se la hit =>
              split at hb
              · next hnb =>
                have hb' : ((e2, st'.keepAt live (st.loc.nb + room)), hset h' i none) = r1 := hb
                subst hb'
                exact hq e2 _ _ G' β' a' w' hs ((s'.dropIter hit).keepAt live hnb)
              · exact hb.elim
            · exact hb.elim
          cases e with
          | normal => exact key .normal hq'
          | ret => exact key .ret hq'
          | exit j =>
            show Exit.inBlock id Qx (.exit j) a' w'
            simp only [Exit.inBlock]
            simp only [blockM] at hq'
            by_cases hi : j = id
            · rw [if_pos hi] at hq' ⊢; exact key .normal hq'
            · rw [if_neg hi] at hq' ⊢; exact key (.exit j) hq'
        · exact hs.elim
      · exact hs.elim
  | loop x ih =>
    intro ac G h β st a w Q Qx hck s hs hq
    cases ac <;> simp only [ckCode, Bool.false_eq_true] at hck
    rename_i live b
    simp only [exec] at hs
    have key : ∀ m G h β st a w, SRel K N G0 h0 w0 G h β st a w → (loopM (fun st => exec c rec n b (st.keep live)) m st h).Sat Q → Code.roundsIn (fence r) 0 E.P x Qx m a w := by
      intro m
      induction m with
      | zero => intro G h β st a w s hs; exact hs.elim
      | succ m ihm =>
        intro G h β st a w s hs
        simp only [loopM, ND.sat_bind] at hs
        rw [roundsIn_succ]
        refine ih _ G h β (st.keep live) a w _ _ hck (s.keep live) hs fun e st' h' G' β' a' w' hq' s' => ?_
        cases e with
        | normal => exact ihm G' h' β' st' a' w' s' hq'
        | exit i => exact hq _ _ _ G' β' _ _ hq' s'
        | ret => exact hq _ _ _ G' β' _ _ hq' s'
    exact wpIn_loop_rounds n (key n G h β st a w s hs)
  | rangeFunc f ps assign body ih1 ih2 =>
    intro ac G h β st a w Q Qx hck s hs hq
    have hck' := hck
    cases ac <;> simp only [ckCode, Bool.false_eq_true] at hck
    exact hR f ps assign body _ _ _ _ _ G h β st a w Q Qx hck' s hs hq
  | exit id =>
    intro ac G h β st a w Q Qx hck s hs hq
    cases ac <;> simp only [ckCode, Bool.false_eq_true] at hck
    have := Nat.eq_of_beq_eq_true hck; subst this
    exact wpIn_exit (hq _ _ _ G β a w hs s)
  | scope x ih =>
    intro ac G h β st a w Q Qx hck s hs hq
    have hck' : (!N.2 && ckCode E D N.1 N.2 x ac) = true := by cases ac <;> simpa only [ckCode] using hck
    simp only [Bool.and_eq_true, Bool.not_eq_true'] at hck'
    have hrn : r = none := by
      cases r with
      | none => rfl
      | some l => have := hrd.1 rfl; rw [hck'.1] at this; cases this
    subst hrn
    have hx := ih ac G h β st a w Q (Exit.noGoto Qx) hck'.2 s hs fun e st' h' G' β' a' w' hq' s' => by
      have := hq e st' h' G' β' a' w' hq' s'
      cases e <;> exact this
    exact wpIn_wide.2 (wp_scope_straight (wpIn_wide.1 hx))
  | goto l => intro ac G h β st a w Q Qx hck; cases ac <;> simp [ckCode] at hck
  | ret =>
    intro ac G h β st a w Q Qx hck s hs hq
    cases ac <;> simp only [ckCode, Bool.false_eq_true] at hck
    exact wpIn_ret (hq _ _ _ G β a w hs s)
  | refuse why =>
    intro ac G h β st a w Q Qx hck s hs hq
    cases ac <;> simp only [ckCode, Bool.false_eq_true] at hck
    exact hs.elim

end
end Go.Proofs.YtjbkcboklccmeaaGreatDoor.Abs
/-
  A range over a function: the statement; a round.
-/
namespace Go.Proofs.YtjbkcboklccmeaaGreatDoor.Abs

section
variable {E : CkEnv} {D : DrawCk} {K : Reads} {N : Fr} {G0 : Ghost} {h0 : Heap} {w0 : World} {G : Ghost} {h : Heap} {β : Nat → Option Nat} {st : St} {a : Act} {w : World}
variable {c : Ctx} {rec : Rec} {r : Option Nat} {Qx : Exit → Act → World → Prop}

theorem loop_inv (m : Mem K G h w) {l cb : Nat} {lp : ALoop} (he : hget h l = some (.loop lp)) (hs : G.σ l = some cb) : ∃ L, w.heap[cb]? = some (.loop L) ∧ LoopRel K G lp L := by
  obtain ⟨cb', obj, q1, q2, q3⟩ := m.obj l _ he
  simp only [blk] at q1; rw [hs] at q1; cases q1
  cases obj <;> simp only [OC] at q3
  exact ⟨_, q2, q3⟩

theorem Evolve.loopSet (m : Mem K G h w) {l cb : Nat} {lp lp' : ALoop} {L L' : Loop} (he : hget h l = some (.loop lp)) (hs : G.σ l = some cb) (hw : w.heap[cb]? = some (.loop L)) (hr : LoopRel K G lp' L') :
    Evolve K G h w G (hset h l (some (.loop lp'))) (w.upd cb (.loop L')) := by
  refine Evolve.upd m he (by simpa [blk] using hs) (by simpa [blk] using hs) hr (fun n hn => ?_) (fun _ _ _ _ _ h => by cases h)
  obtain ⟨c, t, fz, h1, _⟩ := m.sz cb n hn
  rw [hw] at h1; cases h1

theorem Env.get_strip : ∀ {e : Env} {s : Nat}, (Env.strip e).get s = (e.get s).clean
  | [], s => rfl
  | (k, v) :: e, s => by
    have ih := Env.get_strip (e := e) (s := s)
    unfold Env.strip at ih ⊢
    simp only [List.map_cons, Env.get, ih]
    cases Nat.beq k s <;> rfl

theorem run_enterLoop {P : Program} {fn : FuncId} {tmps : Array Value} {ps : Array Tmp} {assign body : Code} :
    (Instr.enterLoop fn tmps ps assign body none).run P w = .ok (w.heap.size + 1, [{ target := .collected w.heap.size, args := #[] }])
      ((w.alloc (.deferred (some []))).alloc (.loop { state := .ready, pending := none, fn, tmps, params := ps, assign, body, defers := w.heap.size })) := by
  simp [Instr.enterLoop]

theorem range_wp (g : Good E K c rec) (hK : K = ckK E D) (hg0 : GlRel G0 c.gl) {n : Nat} (hrd : (r.isSome = true → N.2 = true) ∧ N.3 = E.calm) (f : Operand) (ps : Array Tmp) (assign body : Code) (f' : Operand) (ps' : List Nat) (assign' body' : ACode) (live : List Nat)
    (G : Ghost) (h : Heap) (β : Nat → Option Nat) (st : St) (a : Act) (w : World) (Q : (AExit × St) × Heap → Prop) (Qx : Exit → Act → World → Prop)
    (hck : ckCode E D N.1 N.2 (.rangeFunc f ps assign body) (.rangeFunc f' ps' assign' body' live) = true) (s : SRel K N G0 h0 w0 G h β st a w) (hs : (exec c rec n (.rangeFunc f' ps' assign' body' live) st h).Sat Q)
    (hq : ∀ e st' h' G' β' a' w', Q ((e, st'), h') → SRel K N G0 h0 w0 G' h' β' st' a' w' → Qx (exitOf e) a' w') : (Code.rangeFunc f ps assign body).wpIn (fence r) 0 E.P Qx a w := by
  simp only [ckCode, Bool.and_eq_true, Bool.not_eq_true'] at hck
  obtain ⟨⟨⟨⟨h1, h2⟩, h3⟩, h4⟩, h5⟩ := hck
  have hrn : r = none := by
    cases r with
    | none => rfl
    | some l => have := hrd.1 rfl; rw [h1] at this; cases this
  subst hrn
  have := opdEq_eq h2; subst this
  obtain ⟨hps, hpsN⟩ := natsOK_spec h3
  have hg := hg0.mono s.ev.le
  have hv := s.eval hg f
  simp only [exec] at hs
  split at hs
  · next gf first caps he =>
    rw [he] at hv
    have hv' : VRel G (.clos gf first caps) (a.eval f) := hv
    rw [ND.sat_bind] at hs
    refine wpIn_rangeFunc fun fn _ => ?_
    -- the blocks
    have e1 := Evolve.garbage s.ev.mem (.deferred (some []))
    have hle : G.le (G.addσ h.length (w.alloc (.deferred (some []))).heap.size) := Ghost.le_addσ (e1.mem.fresh _ (Nat.le_refl _)).1
    have hLR : LoopRel K (G.addσ h.length (w.alloc (.deferred (some []))).heap.size) { state := .ready, pending := none, env := (st.env.keep live).strip, params := ps', assign := assign', body := body' }
        { state := .ready, pending := none, fn, tmps := a.tmps, params := ps, assign, body, defers := w.heap.size } := by
      refine ⟨rfl, trivial, ?_, ?_, fun i => ?_⟩
      · apply Array.ext'; simpa using hps
      · rw [hK, s.size]
        exact ⟨h4, h5, hpsN⟩
      · show VRel _ (((st.env.keep live).strip).get i) (a.tmps.getD i undef)
        rw [Env.get_strip, Env.get_keep]
        split
        · exact (s.env i).clean.mono hle
        · exact .undef _
    obtain ⟨e2, hσ⟩ := Evolve.alloc e1.mem (.loop { state := .ready, pending := none, env := (st.env.keep live).strip, params := ps', assign := assign', body := body' })
      (.loop { state := .ready, pending := none, fn, tmps := a.tmps, params := ps, assign, body, defers := w.heap.size }) rfl hLR
    have hsz : (w.alloc (.deferred (some []))).heap.size = w.heap.size + 1 := by simp
    rw [hsz] at e2 hσ
    -- the closure
    cases hcx : a.eval f with
    | func fnn first' caps' =>
      rw [hcx] at hv'
      cases hv' with
      | clos p1 p2 p3 p4 =>
      have s1 := s.evolve (e1.trans e2)
      have hall : VsRel (G.addσ h.length (w.heap.size + 1)) (first ++ [.yield h.length] ++ caps) (first' ++ #[Value.func (.yield (w.heap.size + 1)) #[] #[]] ++ caps').toList := by
        simp only [Array.toList_append]
        have q1 : VsRel G first first'.toList := ⟨by simpa using p1, fun i a v ha hv => p3 i a v ha (by simpa using hv)⟩
        have q2 : VsRel G caps caps'.toList := ⟨by simpa using p2, fun i a v ha hv => p4 i a v ha (by simpa using hv)⟩
        rw [hsz] at hle
        exact ((q1.mono hle).append (.cons (.yield hσ) (.nil _))).append (q2.mono hle)
      obtain ⟨c1, c2, _⟩ := g.fn gf _ _ _ _ _ _ (hg0.mono s1.ev.le) s1.ev.mem hall hs
      refine ⟨w.heap.size + 1, [{ target := .collected w.heap.size, args := #[] }], _, { target := .fn (.func gf) caps', args := first' ++ #[Value.func (.yield (w.heap.size + 1)) #[] #[]] }, _, gf, _, _, run_enterLoop, ?_, fun _ _ => trivial, c1, fun h => by simp [fence, Fence.wide] at h, ?_⟩
      · simp only [resolve, rangeCall, hcx, Deferred.ofValue, Sem.run_pure]; simp [Act.eval]
      · have c2' : CallsIn (fence none) (0 - 1) E.P gf (first' ++ #[Value.func (.yield (w.heap.size + 1)) #[] #[]] ++ caps') _ _ := c2
        refine c2'.mono fun e w3 hr => ?_
        cases e with
        | panicked ch => exact hr.elim
        | outgrown => exact hr.elim
        | returned cv =>
          obtain ⟨v, h3', G', q1, ev, q3⟩ := hr
          -- the mark among the deferred calls
          have hap := e2.apart (cb := w.heap.size) (by simp) (fun hl => absurd (s.ev.mem.live_lt hl) (Nat.lt_irrefl _)) (by
            cases hi : G.imm w.heap.size with
            | none => rfl
            | some l => exact absurd (s.ev.mem.imm_lt hi) (Nat.lt_irrefl _))
          have hmk : ((w.alloc (.deferred (some []))).alloc (.loop { state := .ready, pending := none, fn, tmps := a.tmps, params := ps, assign, body, defers := w.heap.size })).heap[w.heap.size]? = some (.deferred (some [])) := by
            rw [hap.1]; exact heap_alloc_new
          have s2 : SRel K N G0 h0 w0 _ _ β st { a with defers := [{ target := .collected w.heap.size, args := #[] }] ++ a.defers } _ :=
            ⟨s1.ev, s1.size, fun h => (by rw [h1] at h; cases h), s1.env, s1.loc, .mark hmk hap.2.2.1 hap.2.2.2 s.ev.size (fun d hd hr => absurd (s.dfr.lt d hd _ hr) (Nat.lt_irrefl _)) s1.dfr⟩
          have s3 := s2.evolve ev
          have hσ' := ev.le.σ _ _ hσ
          dsimp only at q1
          split at q1
          · next lp hlp =>
            obtain ⟨L, hL, hLr⟩ := loop_inv ev.mem hlp hσ'
            have hst := hLr.state
            have hdrop : Evolve K G' h3' w3 G' (hset h3' h.length none) (w3.upd (w.heap.size + 1) (.loop { L with state := .exhausted })) :=
              Evolve.drop ev.mem hlp (by simpa [blk] using hσ') hL (by intro c t fz h; cases h)
            have s4 := s3.evolve hdrop
            have hend : ∀ (hb : L.state ≠ .busy), (Instr.endLoop (w.heap.size + 1)).run E.P w3 = .ok L.pending (w3.upd (w.heap.size + 1) (.loop { L with state := .exhausted })) := by
              intro hb
              have hb' : (L.state == .busy) = false := by cases hh : L.state <;> first | rfl | exact absurd hh hb
              simp only [Instr.endLoop, Instr.getLoop, Sem.run_bind, run_getObj hL, Result.andThen_ok, Sem.run_pure, hb', Bool.false_eq_true, if_false, run_setObj _ hL]
            split at q1
            · exact q1.elim
            · next hnb =>
              have hb : L.state ≠ .busy := by rw [hst]; exact hnb
              have hp := hLr.pending
              refine ⟨L.pending, _, hend hb, ?_⟩
              split at q1
              · next hpe =>
                rw [hpe] at hp
                cases hLp : L.pending with
                | none => rw [hLp] at s4; exact hq .normal _ _ G' β _ _ q1 s4
                | some cd => rw [hLp] at hp; exact hp.elim
              · next hpe =>
                rw [hpe] at hp
                cases hLp : L.pending with
                | none => rw [hLp] at hp; exact hp.elim
                | some cd =>
                  rw [hLp] at hp s4
                  cases cd <;> simp only [pendRel] at hp
                  exact wpIn_ret (hq .ret _ _ G' β _ _ q1 s4)
              · next i hpe =>
                rw [hpe] at hp
                cases hLp : L.pending with
                | none => rw [hLp] at hp; exact hp.elim
                | some cd =>
                  rw [hLp] at hp s4
                  cases cd <;> simp only [pendRel] at hp
                  subst hp
                  exact wpIn_exit (hq (.exit i) _ _ G' β _ _ q1 s4)
              · exact q1.elim
          · exact q1.elim
    | _ => rw [hcx] at hv'; cases hv'
  · exact hs.elim


theorem zip_env : ∀ {ps : List Nat} {aS : List AV} {vs : List Value} {e : Env} {tmps : Array Value}, VsRel G aS vs → (∀ s, VRel G (e.get s) (tmps.getD s undef)) → (∀ s ∈ ps, s < tmps.size) → aS.length = ps.length →
    (∀ s, VRel G ((putAll e ps aS).get s) (((ps.zip vs).foldl (fun tmps (t, a) => tmps.setIfInBounds t a) tmps).getD s undef)) ∧ ((ps.zip vs).foldl (fun tmps (t, a) => tmps.setIfInBounds t a) tmps).size = tmps.size
  | [], aS, vs, e, tmps, hv, he, hp, hl => by
    have : aS = [] := List.eq_nil_of_length_eq_zero hl
    subst this
    exact ⟨fun s => by simpa [putAll] using he s, rfl⟩
  | p :: ps, [], vs, e, tmps, hv, he, hp, hl => by simp at hl
  | p :: ps, x :: aS, [], e, tmps, hv, he, hp, hl => by have := hv.len; simp at this
  | p :: ps, x :: aS, v :: vs, e, tmps, hv, he, hp, hl => by
    simp only [putAll, List.zip_cons_cons, List.foldl_cons]
    have hlt := hp p (by simp)
    obtain ⟨h1, h2⟩ := zip_env (ps := ps) (aS := aS) (vs := vs) (e := (p, x) :: e) (tmps := tmps.setIfInBounds p v) hv.tail (fun s => by
      show VRel G ((Env.put e (some p) x).get s) _
      rw [Env.get_put]
      by_cases hs : p = s
      · subst hs
        simp only [if_true, Array.getD, Array.size_setIfInBounds, hlt, dif_pos]
        simpa using hv.head
      · rw [if_neg hs]
        have e : (tmps.setIfInBounds p v).getD s undef = tmps.getD s undef := by
          simp only [Array.getD_eq_getD_getElem?]
          rw [Array.getElem?_setIfInBounds_ne hs]
        rw [e]; exact he s) (fun s hs => by simpa using hp s (by simp [hs])) (by simpa using hl)
    exact ⟨h1, by simpa using h2⟩

theorem round_wp (g : Good E K c rec) (hdr : DrawOK E D K c rec) (hK : K = ckK E D) {n : Nat} {l cb : Nat} {args : List AV} {cargs : Array Value} {Q : AV × Heap → Prop} (hg : GlRel G c.gl) (hσ : G.σ l = some cb) (m : Mem K G h w)
    (hv : VsRel G args cargs.toList) (hs : (runRound c rec n l args h).Sat Q) :
    ∃ fid tmps assign body, (Instr.yield cb cargs).run E.P w = .ok (.round cb fid tmps assign body) w ∧ RoundIn Fence.wide 0 E.P cb fid tmps assign body w (RetPost K G h w Q) := by
  unfold runRound at hs
  split at hs
  · next lp he =>
    obtain ⟨L, hL, hr⟩ := loop_inv m he hσ
    split at hs
    · next hlen =>
      rw [ND.sat_bind] at hs
      have hcode := hr.code
      rw [hK] at hcode
      obtain ⟨k1, k2, k3⟩ := hcode
      have hps : L.params.toList = lp.params := by rw [hr.params]
      have hsz : cargs.size = L.params.size := by
        rw [← Array.length_toList, ← Array.length_toList, ← hv.len, hlen, hps]
      obtain ⟨z1, z2⟩ := zip_env (ps := lp.params) hv hr.env k3 hlen
      have hfold : (L.params.zip cargs).foldl (fun tmps (t, a) => tmps.setIfInBounds t a) L.tmps = (lp.params.zip cargs.toList).foldl (fun tmps (t, a) => tmps.setIfInBounds t a) L.tmps := by
        rw [← Array.foldl_toList, Array.toList_zip, hps]
      refine ⟨L.fn, (L.params.zip cargs).foldl (fun tmps (t, a) => tmps.setIfInBounds t a) L.tmps, L.assign, L.body, ?_, ?_⟩
      · simp only [Instr.yield, Instr.getLoop, Sem.run_bind, run_getObj hL, Result.andThen_ok, Sem.run_pure, hsz, ne_eq, not_true, if_false]
      · rw [hfold]
        have s0 : SRel K ⟨L.tmps.size, true, E.calm⟩ G h w G h (fun _ => none) { env := putAll lp.env lp.params args, loc := ⟨[], 0⟩, defers := [] } { tmps := (lp.params.zip cargs.toList).foldl (fun tmps (t, a) => tmps.setIfInBounds t a) L.tmps, defers := [] } w :=
          ⟨.refl m, z2, fun _ => rfl, fun s => .of (z1 s), ⟨(fun i cs h => by simp [boxGet] at h), (fun i cb h => by cases h), (fun i j cb h => by cases h), (fun i _ _ => rfl), (fun i cb h => by cases h)⟩, .nil⟩
        refine roundIn_of_wpIn (F := Fence.wide) trivial ?_
        have hF : Fence.wide.inRound cb = fence (some cb) := rfl
        rw [hF]
        refine code_wp (N := ⟨L.tmps.size, true, E.calm⟩) (r := some cb) g hdr hK hg ⟨fun _ => rfl, rfl⟩ (n := n) (fun f ps assign body f' ps' assign' body' live G h β st a w Q Qx hck => by simp [ckCode] at hck) L.assign lp.assign G h _ _ _ w _ _ k1 s0 hs ?_
        intro e st1 h1 G1 β1 a1 w1 q1 s1
        cases e with
        | exit i => exact q1.elim
        | ret => exact q1.elim
        | normal =>
          dsimp only at q1
          have hσ1 := s1.ev.le.σ _ _ hσ
          split at q1
          · next lp2 he2 =>
            obtain ⟨L2, hL2, hr2⟩ := loop_inv s1.ev.mem he2 hσ1
            split at q1
            · next hst =>
              have hst2 : L2.state = .ready := by rw [hr2.state, hst]
              have ev2 := Evolve.loopSet (lp' := { lp2 with state := .busy }) (L' := { L2 with state := .busy }) s1.ev.mem he2 hσ1 hL2 ⟨rfl, hr2.pending, hr2.params, hr2.code, hr2.env⟩
              refine ⟨w1.upd cb (.loop { L2 with state := .busy }), ?_, ?_⟩
              · simp only [Instr.beginRound, Instr.getLoop, Sem.run_bind, run_getObj hL2, Result.andThen_ok, Sem.run_pure, run_setObj _ hL2, hst2]
              · have s2 := s1.evolve ev2
                rw [ND.sat_bind] at q1
                refine code_wp (N := ⟨L.tmps.size, true, E.calm⟩) (r := some cb) g hdr hK hg ⟨fun _ => rfl, rfl⟩ (n := n) (fun f ps assign body f' ps' assign' body' live G h β st a w Q Qx hck => by simp [ckCode] at hck) L.body lp.body G1 _ β1 _ _ _ _ _ k2 s2 q1 ?_
                intro e st3 h3 G3 β3 a3 w3 q3 s3
                have hσ3 := s3.ev.le.σ _ _ hσ
                -- the round's end
                have fin : ∀ (jump : Option Code) (pe : Option AExit) (ls : LoopState), pendRel pe jump → ls = (if jump.isNone then .ready else .done) → ∀ (v : AV) (b : Bool), jump.isNone = b →
                    (∀ h', setLoop l (fun lp => { lp with state := ls, pending := pe }) h3 = some h' → Q (.bool b, h')) → (∃ h', setLoop l (fun lp => { lp with state := ls, pending := pe }) h3 = some h') →
                    ∃ v w', (Instr.endRound cb jump).run E.P w3 = .ok v w' ∧ RetPost K G h w Q (.returned v) w' := by
                  intro jump pe ls hp hls v b hb hQ hex
                  obtain ⟨h', hh⟩ := hex
                  have hQ' := hQ h' hh
                  unfold setLoop at hh
                  split at hh
                  · next lp4 he4 =>
                    cases hh
                    obtain ⟨L4, hL4, hr4⟩ := loop_inv s3.ev.mem he4 hσ3
                    have ev4 := Evolve.loopSet (lp' := { lp4 with state := ls, pending := pe }) (L' := { L4 with state := ls, pending := jump }) s3.ev.mem he4 hσ3 hL4 ⟨rfl, hp, hr4.params, hr4.code, hr4.env⟩
                    refine ⟨.bool b, w3.upd cb (.loop { L4 with state := ls, pending := jump }), ?_, ⟨_, _, G3, hQ', s3.ev.trans ev4, .bool b⟩⟩
                    simp only [Instr.endRound, Instr.getLoop, Sem.run_bind, run_getObj hL4, Result.andThen_ok, Sem.run_pure, run_setObj _ hL4, hls, hb]
                  · cases hh
                unfold endRoundM at q3
                cases e with
                | normal =>
                  dsimp only at q3
                  refine fin none none .ready trivial rfl .undef true rfl (fun h' hh => ?_) ?_
                  · rw [hh] at q3; exact q3
                  · split at q3
                    · next h' hh => exact ⟨h', hh⟩
                    · exact q3.elim
                | ret =>
                  dsimp only at q3
                  refine fin (some .ret) (some .ret) .done trivial rfl .undef false rfl (fun h' hh => ?_) ?_
                  · rw [hh] at q3; exact q3
                  · split at q3
                    · next h' hh => exact ⟨h', hh⟩
                    · exact q3.elim
                | exit i =>
                  dsimp only at q3
                  refine fin (some (.exit i)) (some (.exit i)) .done rfl rfl .undef false rfl (fun h' hh => ?_) ?_
                  · rw [hh] at q3; exact q3
                  · split at q3
                    · next h' hh => exact ⟨h', hh⟩
                    · exact q3.elim
            · exact q1.elim
          · exact q1.elim
    · exact hs.elim
  · exact hs.elim

end
end Go.Proofs.YtjbkcboklccmeaaGreatDoor.Abs
/-
  Functions; the whole.
-/
namespace Go.Proofs.YtjbkcboklccmeaaGreatDoor.Abs

def ckRes (P : Program) (N : Nat) : List ResultVar → List ARes → Bool
  | [], [] => true
  | .tmp t :: l, .tmp s :: l' => Nat.beq t s && ckRes P N l l'
  | .cell a t :: l, .cellL agg n s :: l' => Nat.beq a s && undI P t (fun d => aggD d == agg) && szOK P t n && ckRes P N l l'
  | .cell a t :: l, .cellH agg n s :: l' => Nat.beq a s && undI P t (fun d => aggD d == agg) && szOK P t n && ckRes P N l l'
  | _, _ => false

def ckFunc (E : CkEnv) (D : DrawCk) (f : Nat) (af : AFunc) : Bool :=
  match E.P.funcs[f]? with
  | some fn => (match fn.body with | some code => ckCode E D fn.ntmps (E.calm f) code af.body | none => false) && Nat.ble af.params fn.ntmps && ckRes E.P fn.ntmps fn.results.toList af.results && !(fn.name == "runtime.NumGoroutine")
  | none => false

section
variable {E : CkEnv} {D : DrawCk} {K : Reads} {N : Fr} {G0 : Ghost} {h0 : Heap} {w0 : World} {G : Ghost} {h : Heap} {β : Nat → Option Nat} {st : St} {a : Act} {w : World}
variable {c : Ctx} {rec : Rec} {r : Option Nat} {Qx : Exit → Act → World → Prop}

theorem ND.sat_some {α β : Type} {Q : β → Prop} {o : Option α} {f : α → ND β} (h : (match o with | some v => f v | none => .fail : ND β).Sat Q) : ∃ v, o = some v ∧ (f v).Sat Q := by
  cases o with
  | none => exact h.elim
  | some v => exact ⟨v, rfl, h⟩

theorem readRes_rel (s : SRel K N G0 h0 w0 G h β st a w) {rv : ResultVar} {ar : ARes} {v : AV} (hck : ckRes E.P N.1 [rv] [ar] = true) (hv : readRes st h ar = some v) :
    ∃ cv, (match rv with | .tmp t => pure (a.tmps.getD t undef) | .cell x t => do loadVar t (← asAddr (a.tmps.getD x undef)) : Sem Value).run E.P w = .ok cv w ∧ VRel G v cv := by
  cases rv with
  | tmp t =>
    cases ar with
    | tmp sl =>
      simp only [ckRes, Bool.and_true] at hck
      have := Nat.eq_of_beq_eq_true hck; subst this
      simp only [readRes, Option.some.injEq] at hv; subst hv
      exact ⟨_, rfl, (s.env t).clean⟩
    | cellL agg n sl => simp [ckRes] at hck
    | cellH agg n sl => simp [ckRes] at hck
  | cell x t =>
    cases ar with
    | tmp sl => simp [ckRes] at hck
    | cellL agg n sl =>
      simp only [ckRes, Bool.and_true, Bool.and_eq_true] at hck
      have := Nat.eq_of_beq_eq_true hck.1.1; subst this
      obtain ⟨d, hd, hda⟩ := undI_spec hck.1.2
      obtain ⟨ti, hi, rfl⟩ := szOK_spec hck.2
      have := eq_of_beq hda; subst this
      simp only [readRes] at hv
      split at hv
      · next i off he =>
        split at hv
        · next cs hb =>
          split at hv
          · have hx := s.env x
            rw [he] at hx
            obtain ⟨cb, cc, t', fz, _, h1, h3, h4, h5⟩ := s.boxAt hx hb
            obtain ⟨cv, g1, g2⟩ := mkVal_rel' (h5.drop off) hv
            refine ⟨cv, ?_, g2⟩
            simp only [h1, Sem.run_bind]
            simp [asAddr, run_loadVar_at hd hi h3 g1]
          · cases hv
        · cases hv
      · cases hv
    | cellH agg n sl =>
      simp only [ckRes, Bool.and_true, Bool.and_eq_true] at hck
      have := Nat.eq_of_beq_eq_true hck.1.1; subst this
      obtain ⟨d, hd, hda⟩ := undI_spec hck.1.2
      obtain ⟨ti, hi, rfl⟩ := szOK_spec hck.2
      have := eq_of_beq hda; subst this
      simp only [readRes] at hv
      have hx : VRel G (st.env.get x) (a.tmps.getD x undef) := by
        have := s.env x
        cases hh : st.env.get x <;> rw [hh] at this hv <;> first | exact this | (simp [loadAt, cellsAt] at hv)
      unfold Abs.loadAt at hv
      split at hv
      · next cs hcs =>
        obtain ⟨cb, off, cc, t', fz, h0, h1, h2⟩ := cellsAt_rel s.ev.mem hcs hx
        obtain ⟨cv, h3, h4⟩ := mkVal_rel h2 hv
        refine ⟨cv, ?_, h4⟩
        simp only [h0, Sem.run_bind]
        simp [asAddr, run_loadVar_at hd hi h1 h3]
      · cases hv

theorem readAll_rel (s : SRel K N G0 h0 w0 G h β st a w) : ∀ {rvs : List ResultVar} {ars : List ARes} {vs : List AV}, ckRes E.P N.1 rvs ars = true → readAll st h ars = some vs →
    ∃ cvs, (rvs.mapM fun rv => (match rv with | .tmp t => pure (a.tmps.getD t undef) | .cell x t => do loadVar t (← asAddr (a.tmps.getD x undef)) : Sem Value)).run E.P w = .ok cvs w ∧ VsRel G vs cvs
  | [], [], vs, _, h => by simp [readAll] at h; subst h; exact ⟨[], by simp, .nil G⟩
  | [], _ :: _, vs, hck, _ => by simp [ckRes] at hck
  | _ :: _, [], vs, hck, _ => by rename_i rv _; cases rv <;> simp [ckRes] at hck
  | rv :: rvs, ar :: ars, vs, hck, h => by
    have h12 : ckRes E.P N.1 [rv] [ar] = true ∧ ckRes E.P N.1 rvs ars = true := by
      cases rv <;> cases ar <;> simp only [ckRes, Bool.and_eq_true, Bool.and_true, Bool.false_eq_true] at hck ⊢ <;> simp_all
    simp only [readAll] at h
    split at h
    · next v vs' h1 h2 =>
      cases h
      obtain ⟨cv, p1, p2⟩ := readRes_rel (E := E) s h12.1 h1
      obtain ⟨cvs, p3, p4⟩ := readAll_rel s h12.2 h2
      refine ⟨cv :: cvs, ?_, .cons p2 p4⟩
      simp only [List.mapM_cons, Sem.run_bind, p1, Result.andThen_ok, p3, Sem.run_pure]
    · cases h

theorem results_rel (s : SRel K N G0 h0 w0 G h β st a w) {fn : Func} {ars : List ARes} {v : AV} (hck : ckRes E.P N.1 fn.results.toList ars = true) (hv : resultOf st h ars = some v) :
    ∃ cv, (results fn a.tmps).run E.P w = .ok cv w ∧ VRel G v cv := by
  have hlen : ∀ {l : List ResultVar} {l' : List ARes}, ckRes E.P N.1 l l' = true → l.length = l'.length := by
    intro l
    induction l with
    | nil => intro l' h; cases l' <;> simp [ckRes] at h ⊢
    | cons rv l ih =>
      intro l' h
      cases l' with
      | nil => cases rv <;> simp [ckRes] at h
      | cons ar l' =>
        have : ckRes E.P N.1 l l' = true := by cases rv <;> cases ar <;> simp only [ckRes, Bool.and_eq_true, Bool.false_eq_true] at h <;> first | exact h.2 | exact h.elim
        simp [ih this]
  have hl := hlen hck
  have hres : ∀ cvs : List Value, (fn.results.toList.mapM fun rv => (match rv with | .tmp t => pure (a.tmps.getD t undef) | .cell x t => do loadVar t (← asAddr (a.tmps.getD x undef)) : Sem Value)).run E.P w = .ok cvs w →
      (results fn a.tmps).run E.P w = .ok (match cvs with | [x] => x | _ => .tuple cvs.toArray) w := by
    intro cvs h
    have e : results fn a.tmps = (do let vs ← fn.results.mapM fun rv => (match rv with | .tmp t => pure (a.tmps.getD t undef) | .cell x t => do loadVar t (← asAddr (a.tmps.getD x undef)) : Sem Value); pure (if h : vs.size = 1 then vs[0] else .tuple vs)) := by
      unfold results
      congr 1
    have h' : (fn.results.mapM fun rv => (match rv with | .tmp t => pure (a.tmps.getD t undef) | .cell x t => do loadVar t (← asAddr (a.tmps.getD x undef)) : Sem Value)).run E.P w = .ok cvs.toArray w := by
      rw [Array.mapM_eq_mapM_toList, Sem.run_map, h]
      rfl
    rw [e, Sem.run_bind, h', Result.andThen_ok, Sem.run_pure]
    congr 1
    match cvs with
    | [] => rfl
    | [x] => rfl
    | _ :: _ :: _ => rfl
  unfold resultOf at hv
  split at hv
  · next ar =>
    have hal : readAll st h [ar] = some [v] := by simp [readAll, hv]
    obtain ⟨cvs, p1, p2⟩ := readAll_rel (E := E) s hck hal
    cases cvs with
    | nil => have := p2.len; simp at this
    | cons x xs =>
      have : xs = [] := List.eq_nil_of_length_eq_zero (by have := p2.len; simpa using this.symm)
      subst this
      exact ⟨x, hres _ p1, p2.head⟩
  · next hne =>
    split at hv
    · next vs hvs =>
      cases hv
      obtain ⟨cvs, p1, p2⟩ := readAll_rel (E := E) s hck hvs
      have hcl : cvs.length ≠ 1 := by
        rw [← p2.len]
        have : ∀ {l : List ARes} {vs : List AV}, readAll st h l = some vs → vs.length = l.length := by
          intro l
          induction l with
          | nil => intro vs h; simp [readAll] at h; subst h; rfl
          | cons x l ih =>
            intro vs h
            simp only [readAll] at h
            split at h
            · next h1 h2 => cases h; simp [ih h2]
            · cases h
        rw [this hvs]
        intro h1
        match ars, h1 with
        | [x], _ => exact hne x rfl
      refine ⟨_, hres _ p1, ?_⟩
      have : (match cvs with | [x] => x | _ => Value.tuple cvs.toArray) = .tuple cvs.toArray := by
        match cvs, hcl with
        | [], _ => rfl
        | _ :: _ :: _, _ => rfl
      rw [this]
      exact tuple_mk p2
    · cases hv


/-- Leaving: the deferred calls, the results. -/
theorem leaves_rel (g : Good E K c rec) (hg0 : GlRel G0 c.gl) {fn : Func} {ars : List ARes} {Q : AV × Heap → Prop} (hcm : N.3 = E.calm) (hck : ckRes E.P N.1 fn.results.toList ars = true) (tmps : Array Value) (env : Env) (loc : Loc) :
    ∀ (ds : List Deferred) (aS : List (Nat × List AV)) (G : Ghost) (h : Heap) (β : Nat → Option Nat) (w : World), SRel K ⟨N.1, false, N.3⟩ G0 h0 w0 G h β { env, loc, defers := aS } { tmps, defers := ds } w →
      (runDefers rec aS h).Sat (fun d => (match resultOf { env, loc, defers := [] } d.2 ars with | some v => .ret (v, d.2) | none => .fail : ND (AV × Heap)).Sat Q) →
      LeavesInM Fence.wide 0 E.P fn tmps (RetPost K G0 h0 w0 Q) ds .returning w := by
  intro ds
  induction ds with
  | nil =>
    intro aS G h β w s hs
    have hd := s.dfr
    cases hd
    obtain ⟨v, hv, hq⟩ : ∃ v, resultOf { env, loc, defers := [] } h ars = some v ∧ Q (v, h) := by
      have hs' : (match resultOf { env, loc, defers := [] } h ars with | some v => .ret (v, h) | none => .fail : ND (AV × Heap)).Sat Q := hs
      cases hro : resultOf { env, loc, defers := [] } h ars with
      | none => rw [hro] at hs'; exact hs'.elim
      | some v => rw [hro] at hs'; exact ⟨v, rfl, hs'⟩
    have s' : SRel K N G0 h0 w0 G h β { env, loc, defers := [] } { tmps, defers := [] } w := ⟨s.ev, s.size, fun _ => rfl, s.env, s.loc, .nil⟩
    obtain ⟨cv, h1, h2⟩ := results_rel (E := E) s' hck hv
    exact ⟨cv, h1, _, _, G, hq, s.ev, h2⟩
  | cons d ds ih =>
    intro aS G h β w s hs
    have hd := s.dfr
    cases hd with
    | call hc hv hds =>
      rename_i f args cargs aS
      refine ⟨by simp, .inr ⟨fun h => by simp [Fence.wide] at h, .func f, #[], f, cargs, rfl, ?_, fun _ _ => trivial, ?_⟩⟩
      · simp only [runDefers, ND.sat_bind] at hs
        obtain ⟨c1, _, _⟩ := g.fn f args cargs G h w _ (hg0.mono s.ev.le) s.ev.mem hv hs
        simp only [invoke, Array.append_empty]
        exact c1
      · simp only [runDefers, ND.sat_bind] at hs
        obtain ⟨_, _, c3⟩ := g.fn f args cargs G h w _ (hg0.mono s.ev.le) s.ev.mem hv hs
        have hcf : E.calm f = true := by rw [← hcm]; exact hc
        refine (c3 hcf .returning).mono fun e u' w' hr => ?_
        obtain ⟨rfl, hr⟩ := hr
        cases e with
        | panicked ch => exact hr.elim
        | outgrown => exact hr.elim
        | returned cv =>
          obtain ⟨v, h', G', q1, ev, _⟩ := hr
          have s1 : SRel K ⟨N.1, false, N.3⟩ G0 h0 w0 G h β { env, loc, defers := aS } { tmps, defers := ds } w := ⟨s.ev, s.size, fun h => by simp at h, s.env, s.loc, hds⟩
          exact ih aS G' h' β w' (s1.evolve ev) q1
    | mark h1 h2 h3 h4 h5 hds =>
      rename_i r
      have hcb : r < w.heap.size := (Array.getElem?_eq_some_iff.1 h1).1
      have hev : Evolve K G0 h0 w0 G h (w.upd r (.deferred none)) := by
        have e := s.ev
        refine ⟨e.le, e.mem.world (fun b hl => heap_upd_other (by rintro rfl; exact h2 hl)) (fun b l hl => heap_upd_other (by rintro rfl; rw [h3] at hl; cases hl)) (fun b n hn c'' t'' fz'' hb => ⟨c'', t'', fz'', by rw [heap_upd_other (by rintro rfl; rw [h1] at hb; cases hb), hb], rfl⟩), by simpa using e.size, fun b hb hl => by rw [heap_upd_other (by omega), e.same b hb hl], e.live, e.imm, e.out⟩
      refine ⟨by simp, .inl ⟨r, w.upd r (.deferred none), rfl, ?_, ?_⟩⟩
      · simp only [Instr.takeDeferred, Sem.run_bind, run_getObj h1, Result.andThen_ok, run_setObj _ h1, Sem.run_pure]
      · refine ih aS G h β _ ⟨hev, s.size, fun h => by simp at h, s.env, ⟨fun i cs hb => ?_, fun i cb hb => ?_, s.loc.inj, s.loc.fresh, s.loc.bound⟩, ?_⟩ hs
        · obtain ⟨cb, cc, t, fz, q1, q2, q3, q4⟩ := s.loc.box i cs hb
          refine ⟨cb, cc, t, fz, q1, (heap_upd_other ?_).trans q2, q3, q4⟩
          rintro rfl; rw [h1] at q2; cases q2
        · obtain ⟨q1, q2, q3, q4⟩ := s.loc.own i cb hb
          exact ⟨by simpa using q1, q2, q3, q4⟩
        · exact hds.taken h5


theorem argEnv_get : ∀ {l : List AV} {k s : Nat}, (argEnv k l).get s = if k ≤ s then (l[s - k]?).getD .undef else .undef
  | [], k, s => by simp [argEnv, Env.get]
  | v :: l, k, s => by
    simp only [argEnv, Env.get, Nat.beq_eq_decide', argEnv_get]
    by_cases hk : k = s
    · subst hk; simp
    · by_cases hlt : k ≤ s
      · have : s - k = (s - (k + 1)) + 1 := by omega
        simp [hk, hlt, show k + 1 ≤ s by omega, this]
      · simp [hk, hlt, show ¬ k + 1 ≤ s by omega]

theorem entry_rel' {fn : Func} {args : List AV} {cargs : Array Value} {cm : Nat → Bool} {fl : Bool} (m : Mem K G h w) (hv : VsRel G args cargs.toList) (hn : args.length ≤ fn.ntmps) :
    SRel K ⟨fn.ntmps, fl, cm⟩ G h w G h (fun _ => none) { env := argEnv 0 args, loc := ⟨[], 0⟩, defers := [] } { tmps := cargs ++ Array.replicate (fn.ntmps - cargs.size) undef, defers := [] } w := by
  have hl : cargs.size = args.length := by rw [hv.len]; rfl
  refine ⟨.refl m, by simp; omega, fun _ => rfl, fun s => .of ?_, ⟨(fun i cs h => by simp [boxGet] at h), (fun i cb h => by cases h), (fun i j cb h => by cases h), (fun i _ _ => rfl), (fun i cb h => by cases h)⟩, .nil⟩
  rw [argEnv_get]
  simp only [Nat.zero_le, if_true, Nat.sub_zero]
  cases hs : args[s]? with
  | none => exact .undef _
  | some x =>
    have hlt : s < args.length := (List.getElem?_eq_some_iff.1 hs).1
    have hc : cargs.toList[s]? = some (cargs[s]'(by omega)) := by simp [hl, hlt]
    have := hv.val s x _ hs hc
    have e : (cargs ++ Array.replicate (fn.ntmps - cargs.size) undef).getD s undef = cargs[s]'(by omega) := by
      rw [Array.getD_eq_getD_getElem?, Array.getElem?_append_left (by omega)]
      simp [hl, hlt]
    rw [e]; exact this

theorem func_wp (g : Good E K c rec) (hdr : DrawOK E D K c rec) (hK : K = ckK E D) {n f : Nat} {af : AFunc} {args : List AV} {cargs : Array Value} {Q : AV × Heap → Prop} (hck : ckFunc E D f af = true) (hg : GlRel G c.gl) (m : Mem K G h w)
    (hv : VsRel G args cargs.toList) (hs : (runFunc c rec n af args h).Sat Q) :
    (callFunc f cargs).run E.P w = .ok (.enter f cargs) w ∧ CallsIn Fence.wide 0 E.P f cargs w (RetPost K G h w Q) ∧
    (E.calm f = true → ∀ u, CallsDIn Fence.wide 0 E.P f cargs u w fun e u' w' => u' = u ∧ RetPost K G h w Q e w') := by
  unfold ckFunc at hck
  split at hck
  · next fn hfn =>
    simp only [Bool.and_eq_true, Bool.not_eq_true'] at hck
    obtain ⟨⟨⟨h1, h2⟩, h3⟩, h4⟩ := hck
    split at h1
    · next code hb =>
      unfold runFunc at hs
      split at hs
      · next hlen =>
        rw [ND.sat_bind] at hs
        have hn : args.length ≤ fn.ntmps := by rw [hlen]; exact Nat.le_of_ble_eq_true h2
        have hcall : (callFunc f cargs).run E.P w = .ok (.enter f cargs) w := by
          have h4' : ¬ fn.name = "runtime.NumGoroutine" := by simpa using h4
          simp [callFunc, hfn, h4', hb]
        have main : ∀ (Qx : Exit → Act → World → Prop), (∀ e st' h' G' β' a' w', (match e with
            | AExit.exit _ => (ND.fail : ND (AV × Heap))
            | _ => (runDefers rec st'.defers h').bind fun d => match resultOf st' d.2 af.results with
              | some v => .ret (v, d.2)
              | none => .fail).Sat Q → SRel K ⟨fn.ntmps, E.calm f, E.calm⟩ G h w G' h' β' st' a' w' → Qx (exitOf e) a' w') →
            code.wpIn (fence none) 0 E.P Qx { tmps := cargs ++ Array.replicate (fn.ntmps - cargs.size) undef, defers := [] } w := by
          intro Qx hQx
          refine code_wp (N := ⟨fn.ntmps, E.calm f, E.calm⟩) (r := none) g hdr hK hg ⟨(fun h => by cases h), rfl⟩ (n := n)
            (fun f ps assign body f' ps' assign' body' live G1 h1 β1 st1 a1 w1 Q1 Qx1 hck1 s1 hs1 hq1 => range_wp g hK hg ⟨(fun h => by cases h), rfl⟩ f ps assign body f' ps' assign' body' live G1 h1 β1 st1 a1 w1 Q1 Qx1 hck1 s1 hs1 hq1)
            code af.body G h _ _ _ w _ Qx h1 (entry_rel' m hv hn) hs (fun e st' h' G' β' a' w' hq s' => hQx e st' h' G' β' a' w' ?_ s')
          cases e <;> exact hq
        have hfin : ∀ (e : AExit) (st' : St) (h' : Heap) (G' : Ghost) (β' : Nat → Option Nat) (a' : Act) (w' : World), (match e with
            | AExit.exit _ => (ND.fail : ND (AV × Heap))
            | _ => (runDefers rec st'.defers h').bind fun d => match resultOf st' d.2 af.results with
              | some v => .ret (v, d.2)
              | none => .fail).Sat Q → (e = .normal ∨ e = .ret) ∧ (runDefers rec st'.defers h').Sat (fun d => (match resultOf { env := st'.env, loc := st'.loc, defers := [] } d.2 af.results with | some v => .ret (v, d.2) | none => .fail : ND (AV × Heap)).Sat Q) := by
          intro e st' h' G' β' a' w' hq
          have hro : ∀ hh, resultOf { env := st'.env, loc := st'.loc, defers := [] } hh af.results = resultOf st' hh af.results := by
            have hr1 : ∀ hh ar, readRes { env := st'.env, loc := st'.loc, defers := [] } hh ar = readRes st' hh ar := fun hh ar => by cases ar <;> rfl
            have hr2 : ∀ hh l, readAll { env := st'.env, loc := st'.loc, defers := [] } hh l = readAll st' hh l := by
              intro hh l
              induction l with
              | nil => rfl
              | cons x l ih => simp only [readAll, hr1, ih]
            intro hh
            unfold resultOf
            split
            · exact hr1 _ _
            · rw [hr2]
          simp only [hro]
          cases e with
          | normal => exact ⟨.inl rfl, ND.sat_bind.1 hq⟩
          | ret => exact ⟨.inr rfl, ND.sat_bind.1 hq⟩
          | exit i => exact hq.elim
        refine ⟨hcall, ?_, fun hcalm u => ?_⟩
        · refine callsIn_of_wp_marks hfn hb trivial (main _ fun e st' h' G' β' a' w' hq s' => ?_)
          obtain ⟨he, hd⟩ := hfin e st' h' G' β' a' w' hq
          have := leaves_rel (N := ⟨fn.ntmps, E.calm f, E.calm⟩) (fn := fn) g hg rfl h3 a'.tmps st'.env st'.loc a'.defers st'.defers G' h' β' w' ⟨s'.ev, s'.size, (fun h => by cases h), s'.env, s'.loc, s'.dfr⟩ hd
          rcases he with rfl | rfl <;> exact this
        · refine callsDIn_of_wp hfn hb trivial (main _ fun e st' h' G' β' a' w' hq s' => ?_)
          obtain ⟨he, hd⟩ := hfin e st' h' G' β' a' w' hq
          have hfl := s'.flat hcalm
          have hdf := s'.dfr
          rw [hfl] at hdf
          have hst : st'.defers = [] := by
            generalize hx : st'.defers = x at hdf
            cases hdf; rfl
          rw [hst] at hd
          obtain ⟨v, hv', hq'⟩ : ∃ v, resultOf { env := st'.env, loc := st'.loc, defers := [] } h' af.results = some v ∧ Q (v, h') := by
            have hs' : (match resultOf { env := st'.env, loc := st'.loc, defers := [] } h' af.results with | some v => .ret (v, h') | none => .fail : ND (AV × Heap)).Sat Q := hd
            cases hro : resultOf { env := st'.env, loc := st'.loc, defers := [] } h' af.results with
            | none => rw [hro] at hs'; exact hs'.elim
            | some v => rw [hro] at hs'; exact ⟨v, rfl, hs'⟩
          have s'' : SRel K ⟨fn.ntmps, E.calm f, E.calm⟩ G h w G' h' β' { env := st'.env, loc := st'.loc, defers := [] } a' w' := ⟨s'.ev, s'.size, s'.flat, s'.env, s'.loc, by rw [hfl]; exact .nil⟩
          obtain ⟨cv, r1, r2⟩ := results_rel (E := E) (fn := fn) s'' h3 hv'
          rcases he with rfl | rfl <;> exact ⟨hfl, cv, r1, _, _, G', hq', s'.ev, r2⟩
      · exact hs.elim
    · cases h1
  · cases hck

/-- **THE WHOLE**: what the abstract reading of the functions does, they do. -/
theorem call_good {T : Table} (hT : ∀ f af, T f = some af → ckFunc E D f af = true) (hK : K = ckK E D) (hext : ∀ f, E.ext f = true → ExtOK K E.P c f) (hD : ∀ rec, Good E K c rec → DrawOK E D K c rec) : ∀ n, Good E K c (call c T n)
  | 0 => ⟨fun f args cargs G h w Q hg m hv hs => hs.elim, fun l args cargs G h w Q cb hg hσ m hv hs => hs.elim, hext⟩
  | n + 1 => by
    have ih := call_good hT hK hext hD n
    refine ⟨fun f args cargs G h w Q hg m hv hs => ?_, fun l args cargs G h w Q cb hg hσ m hv hs => ?_, hext⟩
    · simp only [call] at hs
      split at hs
      · next af haf => exact func_wp ih (hD _ ih) hK (hT f af haf) hg m hv hs
      · exact hs.elim
    · exact round_wp ih (hD _ ih) hK hg hσ m hv hs

end
end Go.Proofs.YtjbkcboklccmeaaGreatDoor.Abs
