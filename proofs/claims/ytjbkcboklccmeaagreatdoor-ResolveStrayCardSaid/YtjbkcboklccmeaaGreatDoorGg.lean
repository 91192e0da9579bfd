/-
  What an operation reads and writes.
-/
import Derived.Test.YtjbkcboklccmeaaGreatDoorGf
import Derived.Test.YtjbkcboklccmeaaGreatDoorGb
import Derived.OrdersIn
set_option linter.unusedVariables false
set_option linter.unusedSimpArgs false
namespace Go.Proofs.YtjbkcboklccmeaaGreatDoor.Abs

/-- The operands that are looked at. -/
def opnds : AOp → List Operand
  | .mov x => [x]
  | .pick c a b => [c, a, b]
  | .allocL .. => []
  | .boxL _ _ x => [x]
  | .allocH .. => []
  | .boxH _ _ x => [x]
  | .loadL _ _ a => [a]
  | .storeL _ a x => [a, x]
  | .fieldL _ x => [x]
  | .idxL _ _ x i => [x, i]
  | .same .. => []
  | .load _ _ a => [a]
  | .store _ a x => [a, x]
  | .nilCheck x => [x]
  | .fieldAddr _ x => [x]
  | .indexAddr _ x i => [x, i]
  | .indexArr _ _ x i => [x, i]
  | .field _ _ _ x => [x]
  | .index _ _ _ x i => [x, i]
  | .indexStr x i => [x, i]
  | .sliceStr x lo hi => x :: (lo.toList ++ hi.toList)
  | .slice _ x lo hi => x :: (lo.toList ++ hi.toList)
  | .bin _ x y => [x, y]
  | .binB _ x y => [x, y]
  | .eqAgg _ _ x y => [x, y]
  | .eqNil _ _ x y => [x, y]
  | .un _ x => [x]
  | .convInt _ x => [x]
  | .bytesToStr x => [x]
  | .strToBytes _ x => [x]
  | .convPtr _ _ x => [x]
  | .clos _ f cs => f ++ cs
  | .makeMap => []
  | .lookup _ _ _ m k => [m, k]
  | .mapUpdate _ m k v => [m, k, v]
  | .mapEntry _ _ m k => [m, k]
  | .entryStore m s v => [m, s, v]
  | .delete _ m k => [m, k]
  | .range m => [m]
  | .next it => [it]
  | .entry it => [it]
  | .makeSlice _ _ _ _ l c => [l, c]
  | .build _ ps => ps.map (·.2.2)
  | .buildSlice _ _ _ _ _ ps => ps.map (·.2)
  | .call _ args => args
  | .callv f args => f :: args
  | .ext _ args => args
  | .defer _ args => args
  | .append _ _ _ _ s x => [s, x]
  | .copy _ d s => [d, s]
  | .len _ x => [x]
  | .min x y => [x, y]
  | .max x y => [x, y]
  | .extract t _ => [t]
  | .sliceData x => [x]
  | .unsafeStr _ x n => [x, n]

/-- Memory may be turned. -/
def wrH : AOp → Bool
  | .allocH .. => true
  | .boxH .. => true
  | .store .. => true
  | .strToBytes .. => true
  | .makeMap => true
  | .mapUpdate .. => true
  | .mapEntry .. => true
  | .entryStore .. => true
  | .delete .. => true
  | .range _ => true
  | .next _ => true
  | .makeSlice .. => true
  | .buildSlice imm _ _ _ _ _ => !imm
  | .call .. => true
  | .callv .. => true
  | .append .. => true
  | .copy .. => true
  | .unsafeStr .. => true
  | _ => false

/-- Memory is looked at. -/
def rdH : AOp → Bool
  | .load .. => true
  | .eqNil k _ _ _ => decide (k = .ptr)
  | .bytesToStr _ => true
  | .convPtr .. => true
  | .lookup .. => true
  | .entry _ => true
  | .len k _ => decide (k = .map)
  | op => wrH op

def wrL : AOp → Bool
  | .allocL .. => true
  | .boxL .. => true
  | .storeL .. => true
  | _ => false

def rdL : AOp → Bool
  | .loadL .. => true
  | op => wrL op

section
variable {c : Ctx} {rec : Rec} {e e' : Env} {l l' : Loc} {h h' : Heap}

theorem evalAll_congr {xs : List Operand} (hx : ∀ x ∈ xs, Opd.eval c.gl e x = Opd.eval c.gl e' x) : evalAll c.gl e xs = evalAll c.gl e' xs := by
  unfold evalAll
  exact List.map_congr_left fun x h => by rw [hx x h]

theorem map_congr' {α β : Type} {xs : List α} {f g : α → β} (h : ∀ x ∈ xs, f x = g x) : xs.map f = xs.map g := List.map_congr_left h

theorem doOp_congr {op : AOp} (hx : ∀ x ∈ opnds op, Opd.eval c.gl e x = Opd.eval c.gl e' x) : doOp c rec e l op h = doOp c rec e' l op h := by
  cases op with
  | sliceStr x lo hi =>
    have h1 : lo.map (fun x => (Opd.eval c.gl e x).clean) = lo.map (fun x => (Opd.eval c.gl e' x).clean) := by
      cases lo with
      | none => rfl
      | some y => simp only [Option.map_some]; rw [hx y (by simp [opnds])]
    have h2 : hi.map (fun x => (Opd.eval c.gl e x).clean) = hi.map (fun x => (Opd.eval c.gl e' x).clean) := by
      cases hi with
      | none => rfl
      | some y => simp only [Option.map_some]; rw [hx y (by simp [opnds])]
    simp only [doOp, h1, h2, hx x (by simp [opnds])]
  | slice z x lo hi =>
    have h1 : lo.map (fun x => (Opd.eval c.gl e x).clean) = lo.map (fun x => (Opd.eval c.gl e' x).clean) := by
      cases lo with
      | none => rfl
      | some y => simp only [Option.map_some]; rw [hx y (by simp [opnds])]
    have h2 : hi.map (fun x => (Opd.eval c.gl e x).clean) = hi.map (fun x => (Opd.eval c.gl e' x).clean) := by
      cases hi with
      | none => rfl
      | some y => simp only [Option.map_some]; rw [hx y (by simp [opnds])]
    simp only [doOp, h1, h2, hx x (by simp [opnds])]
  | clos f fs cs =>
    have h1 := evalAll_congr (c := c) (e := e) (e' := e') (xs := fs) fun x hm => hx x (by simp [opnds, hm])
    have h2 := evalAll_congr (c := c) (e := e) (e' := e') (xs := cs) fun x hm => hx x (by simp [opnds, hm])
    simp only [doOp, h1, h2]
  | build zero ps =>
    have h1 : (ps.map fun p => (p.1, p.2.1, (Opd.eval c.gl e p.2.2).clean)) = ps.map fun p => (p.1, p.2.1, (Opd.eval c.gl e' p.2.2).clean) :=
      map_congr' fun p hp => by rw [hx p.2.2 (by simp only [opnds, List.mem_map]; exact ⟨p, hp, rfl⟩)]
    simp only [doOp, h1]
  | buildSlice imm ty z n zero ps =>
    have h1 : (ps.map fun p => (p.1, (Opd.eval c.gl e p.2).clean)) = ps.map fun p => (p.1, (Opd.eval c.gl e' p.2).clean) :=
      map_congr' fun p hp => by rw [hx p.2 (by simp only [opnds, List.mem_map]; exact ⟨p, hp, rfl⟩)]
    simp only [doOp, h1]
  | call f args =>
    have h1 := evalAll_congr (c := c) (e := e) (e' := e') (xs := args) hx
    simp only [doOp, h1]
  | callv f args =>
    have h1 := evalAll_congr (c := c) (e := e) (e' := e') (xs := args) fun x hm => hx x (by simp [opnds, hm])
    simp only [doOp, h1, hx f (by simp [opnds])]
  | ext f args =>
    have h1 := evalAll_congr (c := c) (e := e) (e' := e') (xs := args) hx
    simp only [doOp, h1]
  | defer f args => rfl
  | _ => simp only [opnds, List.mem_cons, List.not_mem_nil, or_false, forall_eq_or_imp, forall_eq] at hx; simp only [doOp, hx]

end
end Go.Proofs.YtjbkcboklccmeaaGreatDoor.Abs
/-
  What an operation leaves alone.
-/
namespace Go.Proofs.YtjbkcboklccmeaaGreatDoor.Abs

section
variable {c : Ctx} {rec : Rec} {e e' : Env} {l l' : Loc} {h h' : Heap}

/-- Fails, or ends with memory aS it was. -/
def Still (x : Heap → ND ((AV × Option Loc) × Heap)) : Prop := ∃ f : Heap → Option (AV × Option Loc), ∀ h, x h = match f h with | some v => .ret (v, h) | none => .fail
/-- .. and looks at nothing of it. -/
def Blind (x : Heap → ND ((AV × Option Loc) × Heap)) : Prop := ∃ o : Option (AV × Option Loc), ∀ h, x h = match o with | some v => .ret (v, h) | none => .fail

def asOpt (x : ND ((AV × Option Loc) × Heap)) : Option (AV × Option Loc) := match x with | .ret v => some v.1 | _ => none

theorem asOpt_out {v : Option AV} : asOpt (out v h) = v.map fun v => (v, none) := by cases v <;> rfl

theorem out_eq {v : Option AV} : out v h = match asOpt (out v h') with | some x => .ret (x, h) | none => .fail := by cases v <;> rfl

theorem doOp_blind {op : AOp} (hr : rdH op = false) : doOp c rec e l op h = match asOpt (doOp c rec e l op h') with | some x => .ret (x, h) | none => .fail := by
  have hlen : ∀ k x, k ≠ .map → lenOf k h x = lenOf k h' x := by
    intro k x hk
    cases k <;> first | exact absurd rfl hk | (cases x <;> rfl)
  have heq : ∀ k x y, k ≠ .ptr → eqPtr k h x y = eqPtr k h' x y := by
    intro k x y hk
    cases k <;> first | exact absurd rfl hk | rfl
  cases op <;> simp only [rdH, wrH, reduceCtorEq, decide_eq_false_iff_not, Bool.not_eq_false'] at hr <;> simp only [doOp] <;>
    first
    | exact out_eq
    | rfl
    | skip
  all_goals (repeat' (first | rfl | exact out_eq | split))
  all_goals simp_all [asOpt, newArr]


/-- What does not turn memory fails, or ends with memory aS it was. -/
theorem doOp_still {op : AOp} (hw : wrH op = false) : doOp c rec e l op h = match asOpt (doOp c rec e l op h) with | some x => .ret (x, h) | none => .fail := by
  cases op <;> simp only [wrH, reduceCtorEq, Bool.not_eq_false'] at hw <;> simp only [doOp] <;>
    first
    | exact out_eq
    | rfl
    | skip
  all_goals (repeat' (first | rfl | exact out_eq | split))
  all_goals simp_all [asOpt, newArr]

/-- What does not look at the boxes does not turn on them. -/
theorem doOp_loc {op : AOp} (hr : rdL op = false) : doOp c rec e l op h = doOp c rec e l' op h := by
  cases op <;> simp only [rdL, wrL, reduceCtorEq] at hr <;> rfl

/-- No box is turned. -/
def NoLoc (x : ND ((AV × Option Loc) × Heap)) : Prop := x = x.bind fun r => .ret ((r.1.1, none), r.2)

theorem noLoc_out {v : Option AV} : NoLoc (out v h) := by cases v <;> rfl
theorem noLoc_outH {v : Option (AV × Heap)} : NoLoc (outH v h) := by cases v <;> rfl
theorem noLoc_outS {v : Option Heap} : NoLoc (outS v h) := by cases v <;> rfl

theorem ND.bind_assoc {α β γ : Type} {f : α → ND β} {g : β → ND γ} : ∀ {x : ND α}, (x.bind f).bind g = x.bind fun a => (f a).bind g
  | .fail => rfl
  | .ret a => rfl
  | .pick n k => by simp only [ND.bind]; congr 1; funext i; exact bind_assoc

theorem doOp_noLoc {op : AOp} (hw : wrL op = false) : NoLoc (doOp c rec e l op h) := by
  cases op <;> simp only [wrL, reduceCtorEq] at hw <;> simp only [doOp] <;>
    first
    | exact noLoc_out
    | exact noLoc_outH
    | exact noLoc_outS
    | rfl
    | (unfold NoLoc; rw [ND.bind_assoc]; rfl)
    | skip
  all_goals (repeat' (first | rfl | exact noLoc_out | exact noLoc_outH | split))

end
end Go.Proofs.YtjbkcboklccmeaaGreatDoor.Abs
/-
  One operation of a list, in parts: its value, the boxes, the deferred calls, memory.
-/
namespace Go.Proofs.YtjbkcboklccmeaaGreatDoor.Abs

structure ARet where
  v : AV
  loc : Option Loc
  defer : Option (Nat × List AV)

def afterAct (o : AOper) (r : (AV × Option Loc) × Heap) : ND (ARet × Heap) :=
  bif o.frz then match freeze r.1.1 r.2 with
    | some (v, h) => .ret (⟨v, r.1.2, none⟩, h)
    | none => .fail
  else .ret (⟨r.1.1, r.1.2, none⟩, r.2)

def goAct (c : Ctx) (rec : Rec) (e : Env) (l : Loc) (o : AOper) (h : Heap) : ND (ARet × Heap) :=
  match o.op with
  | .defer f args => .ret (⟨.undef, none, some (f, evalAll c.gl e args)⟩, h)
  | op => (doOp c rec e l op h).bind (afterAct o)

def act (c : Ctx) (rec : Rec) (e : Env) (l : Loc) (o : AOper) (h : Heap) : ND (ARet × Heap) :=
  match o.guard with
  | none => goAct c rec e l o h
  | some (s, want) => match e.get s with
    | .bool b => if b = want then goAct c rec e l o h else .ret (⟨.tuple [], none, none⟩, h)
    | .tuple [] => .ret (⟨.tuple [], none, none⟩, h)
    | _ => .fail

def St.upd (st : St) (dst : Option Nat) (r : ARet) : St :=
  { env := st.env.put dst r.v, loc := r.loc.getD st.loc, defers := match r.defer with | some d => d :: st.defers | none => st.defers }

section
variable {c : Ctx} {rec : Rec} {e e' : Env} {l l' : Loc} {h h' : Heap} {st : St} {o : AOper}

theorem goAct_ne (hn : ∀ f args, o.op = .defer f args → False) : goAct c rec e l o h = (doOp c rec e l o.op h).bind (afterAct o) := by
  unfold goAct
  split
  · next f args ho => exact (hn _ _ ho).elim
  · rfl

theorem goAct_defer {f : Nat} {args : List Operand} (ho : o.op = .defer f args) : goAct c rec e l o h = .ret (⟨.undef, none, some (f, evalAll c.gl e args)⟩, h) := by
  unfold goAct; rw [ho]

theorem goOper_act : goOper c rec st o h = (goAct c rec st.env st.loc o h).bind fun r => .ret (st.upd o.dst r.1, r.2) := by
  by_cases hd : ∃ f args, o.op = .defer f args
  · obtain ⟨f, args, ho⟩ := hd
    rw [goAct_defer ho]
    unfold goOper
    rw [ho]
    rfl
  · have hn : ∀ f args, o.op = .defer f args → False := fun f args ho => hd ⟨f, args, ho⟩
    rw [goAct_ne hn, goOper_ne hn, ND.bind_assoc]
    congr 1
    funext r
    unfold afterOp afterAct
    cases o.frz with
    | false => rfl
    | true =>
      simp only [cond_true]
      cases freeze r.1.1 r.2 <;> rfl

theorem doOper_act : doOper c rec st o h = (act c rec st.env st.loc o h).bind fun r => .ret (st.upd o.dst r.1, r.2) := by
  unfold doOper act
  cases o.guard with
  | none => exact goOper_act
  | some g =>
    obtain ⟨s, want⟩ := g
    dsimp only
    cases st.env.get s with
    | bool b =>
      dsimp only
      by_cases hb : b = want
      · rw [if_pos hb, if_pos hb]; exact goOper_act
      · rw [if_neg hb, if_neg hb]; rfl
    | tuple vs => cases vs <;> rfl
    | _ => rfl

def slotsOf (l : List Operand) : List Nat := l.filterMap fun | .tmp t => some t | _ => none

/-- The slots that an operation looks at. -/
def readsOf (o : AOper) : List Nat := (match o.guard with | some (s, _) => [s] | none => []) ++ slotsOf (opnds o.op)

def wH (o : AOper) : Bool := wrH o.op || o.frz
def rH (o : AOper) : Bool := rdH o.op || o.frz
def isDefer : AOp → Bool
  | .defer .. => true
  | _ => false

theorem eval_slots {xs : List Operand} (hx : ∀ s ∈ slotsOf xs, e.get s = e'.get s) : ∀ x ∈ xs, Opd.eval c.gl e x = Opd.eval c.gl e' x := by
  intro x hm
  cases x with
  | tmp t => exact hx t (List.mem_filterMap.2 ⟨_, hm, rfl⟩)
  | const v => rfl
  | global g => rfl
  | func f => rfl

theorem goAct_congr (hx : ∀ s ∈ slotsOf (opnds o.op), e.get s = e'.get s) : goAct c rec e l o h = goAct c rec e' l o h := by
  by_cases hd : ∃ f args, o.op = .defer f args
  · obtain ⟨f, args, ho⟩ := hd
    rw [goAct_defer ho, goAct_defer ho]
    rw [ho] at hx
    have he : evalAll c.gl e args = evalAll c.gl e' args := evalAll_congr (eval_slots (xs := args) hx)
    rw [he]
  · have hn : ∀ f args, o.op = .defer f args → False := fun f args ho => hd ⟨f, args, ho⟩
    rw [goAct_ne hn, goAct_ne hn, doOp_congr (eval_slots hx)]

theorem act_congr (hx : ∀ s ∈ readsOf o, e.get s = e'.get s) : act c rec e l o h = act c rec e' l o h := by
  have h1 : goAct c rec e l o h = goAct c rec e' l o h := goAct_congr fun s hs => hx s (List.mem_append_right _ hs)
  unfold act
  rw [h1]
  split
  · rfl
  · next s want hg =>
    have : e.get s = e'.get s := hx s (by simp [readsOf, hg])
    rw [this]


def asRet (x : ND (ARet × Heap)) : Option ARet := match x with | .ret v => some v.1 | _ => none

theorem goAct_still (hw : wH o = false) : goAct c rec e l o h = match asRet (goAct c rec e l o h) with | some x => .ret (x, h) | none => .fail := by
  simp only [wH, Bool.or_eq_false_iff] at hw
  by_cases hd : ∃ f args, o.op = .defer f args
  · obtain ⟨f, args, ho⟩ := hd
    rw [goAct_defer ho]; rfl
  · have hn : ∀ f args, o.op = .defer f args → False := fun f args ho => hd ⟨f, args, ho⟩
    rw [goAct_ne hn, doOp_still hw.1]
    cases asOpt (doOp c rec e l o.op h) with
    | none => rfl
    | some x => simp only [ND.bind, afterAct, hw.2, cond_false]; rfl

theorem act_still (hw : wH o = false) : act c rec e l o h = match asRet (act c rec e l o h) with | some x => .ret (x, h) | none => .fail := by
  unfold act
  cases o.guard with
  | none => exact goAct_still hw
  | some g =>
    obtain ⟨s, want⟩ := g
    dsimp only
    cases e.get s with
    | bool b =>
      dsimp only
      by_cases hb : b = want
      · rw [if_pos hb]; exact goAct_still hw
      · rw [if_neg hb]; rfl
    | tuple vs => cases vs <;> rfl
    | _ => rfl

theorem goAct_blind (hr : rH o = false) : goAct c rec e l o h = match asRet (goAct c rec e l o h') with | some x => .ret (x, h) | none => .fail := by
  simp only [rH, Bool.or_eq_false_iff] at hr
  by_cases hd : ∃ f args, o.op = .defer f args
  · obtain ⟨f, args, ho⟩ := hd
    rw [goAct_defer ho, goAct_defer ho]; rfl
  · have hn : ∀ f args, o.op = .defer f args → False := fun f args ho => hd ⟨f, args, ho⟩
    obtain ⟨q, e1, e2⟩ : ∃ q : Option (AV × Option Loc), doOp c rec e l o.op h = (match q with | some x => .ret (x, h) | none => .fail) ∧ doOp c rec e l o.op h' = (match q with | some x => .ret (x, h') | none => .fail) :=
      ⟨_, doOp_blind (h' := h') hr.1, doOp_blind (h' := h') hr.1⟩
    rw [goAct_ne hn, goAct_ne hn, e1, e2]
    cases q with
    | none => rfl
    | some x => simp only [ND.bind, afterAct, hr.2, cond_false]; rfl

theorem act_blind (hr : rH o = false) : act c rec e l o h = match asRet (act c rec e l o h') with | some x => .ret (x, h) | none => .fail := by
  unfold act
  cases o.guard with
  | none => exact goAct_blind hr
  | some g =>
    obtain ⟨s, want⟩ := g
    dsimp only
    cases e.get s with
    | bool b =>
      dsimp only
      by_cases hb : b = want
      · rw [if_pos hb, if_pos hb]; exact goAct_blind hr
      · rw [if_neg hb, if_neg hb]; rfl
    | tuple vs => cases vs <;> rfl
    | _ => rfl

theorem act_loc (hl : rdL o.op = false) : act c rec e l o h = act c rec e l' o h := by
  have hg : goAct c rec e l o h = goAct c rec e l' o h := by
    by_cases hd : ∃ f args, o.op = .defer f args
    · obtain ⟨f, args, ho⟩ := hd
      rw [goAct_defer ho, goAct_defer ho]
    · have hn : ∀ f args, o.op = .defer f args → False := fun f args ho => hd ⟨f, args, ho⟩
      rw [goAct_ne hn, goAct_ne hn, doOp_loc (l' := l') hl]
  unfold act
  rw [hg]

end
end Go.Proofs.YtjbkcboklccmeaaGreatDoor.Abs
/-
  Boxes that are equal by what they hold.
-/
namespace Go.Proofs.YtjbkcboklccmeaaGreatDoor.Abs

structure LocEq (l l' : Loc) : Prop where
  nb : l.nb = l'.nb
  get : ∀ i, boxGet l.boxes i = boxGet l'.boxes i

theorem LocEq.refl (l : Loc) : LocEq l l := ⟨rfl, fun _ => rfl⟩
theorem LocEq.symm {l l' : Loc} (h : LocEq l l') : LocEq l' l := ⟨h.nb.symm, fun i => (h.get i).symm⟩
theorem LocEq.trans {a b c : Loc} (h : LocEq a b) (h' : LocEq b c) : LocEq a c := ⟨h.nb.trans h'.nb, fun i => (h.get i).trans (h'.get i)⟩

theorem LocEq.add {l l' : Loc} (h : LocEq l l') (k : Nat) (cs : List AV) : LocEq (l.add k cs) (l'.add k cs) :=
  ⟨h.nb, fun i => by simp only [Loc.add, boxGet_cons, Loc.id, h.nb, h.get i]⟩
theorem LocEq.set {l l' : Loc} (h : LocEq l l') (i : Nat) (cs : List AV) : LocEq (l.set i cs) (l'.set i cs) :=
  ⟨h.nb, fun j => by simp only [Loc.set, boxGet_set, h.get j, h.get i]⟩
theorem LocEq.free {l l' : Loc} (h : LocEq l l') (k : Nat) : l.free k = l'.free k := by
  simp only [Loc.free, Loc.id, h.nb, h.get]
theorem LocEq.id {l l' : Loc} (h : LocEq l l') (k : Nat) : l.id k = l'.id k := by simp only [Loc.id, h.nb]
theorem LocEq.rebuild {l l' : Loc} (h : LocEq l l') : ∀ e : Env, rebuild l.boxes e = rebuild l'.boxes e
  | [] => rfl
  | p :: e => by
    simp only [Abs.rebuild]
    cases lptrOf p.2 with
    | none => exact h.rebuild e
    | some i =>
      dsimp only
      rw [h.get i, h.rebuild e]
theorem LocEq.keep {l l' : Loc} (h : LocEq l l') (e : Env) : l.keep e = l'.keep e := by simp only [Loc.keep, h.rebuild e, h.nb]

/-- Two results alike: the same but for the boxes, which are alike. -/
inductive OLocEq : Option Loc → Option Loc → Prop
  | none : OLocEq none none
  | some {l l' : Loc} (h : LocEq l l') : OLocEq (some l) (some l')

/-- The two go alike. -/
inductive NDRel {α : Type} (R : α → α → Prop) : ND α → ND α → Prop
  | fail : NDRel R .fail .fail
  | ret {a b : α} (h : R a b) : NDRel R (.ret a) (.ret b)
  | pick {n : Nat} {k k' : Nat → ND α} (h : ∀ i, NDRel R (k i) (k' i)) : NDRel R (.pick n k) (.pick n k')

theorem NDRel.refl {α : Type} {R : α → α → Prop} (hr : ∀ a, R a a) : ∀ x : ND α, NDRel R x x
  | .fail => .fail
  | .ret a => .ret (hr a)
  | .pick n k => .pick fun i => NDRel.refl hr (k i)

theorem NDRel.bind {α β : Type} {R : α → α → Prop} {S : β → β → Prop} {x y : ND α} (h : NDRel R x y) {f g : α → ND β} (hf : ∀ a b, R a b → NDRel S (f a) (g b)) : NDRel S (x.bind f) (y.bind g) := by
  induction h with
  | fail => exact .fail
  | ret h => exact hf _ _ h
  | pick h ih => exact .pick ih

theorem NDRel.sat {α : Type} {R : α → α → Prop} {x y : ND α} (h : NDRel R x y) {Q Q' : α → Prop} (hq : ∀ a b, R a b → Q a → Q' b) (s : x.Sat Q) : y.Sat Q' := by
  induction h with
  | fail => exact s
  | ret h => exact hq _ _ h s
  | pick h ih => exact ⟨s.1, fun i hi => ih i (s.2 i hi)⟩

def ResEq (a b : (AV × Option Loc) × Heap) : Prop := a.1.1 = b.1.1 ∧ OLocEq a.1.2 b.1.2 ∧ a.2 = b.2

section
variable {c : Ctx} {rec : Rec} {e e' : Env} {l l' : Loc} {h h' : Heap} {o : AOper}

theorem OLocEq.refl : ∀ x : Option Loc, OLocEq x x
  | .none => .none
  | .some l => .some (.refl l)

theorem doOp_locEq {op : AOp} (hl : LocEq l l') : NDRel ResEq (doOp c rec e l op h) (doOp c rec e l' op h) := by
  by_cases hr : rdL op = false
  · rw [doOp_loc (l' := l') hr]; exact .refl (fun a => ⟨rfl, OLocEq.refl _, rfl⟩) _
  · cases op <;> simp only [rdL, wrL, not_true_eq_false, reduceCtorEq, not_false_eq_true] at hr <;> simp only [doOp]
    · rw [hl.free]
      split
      · rw [hl.id]; exact .ret ⟨rfl, .some (hl.add _ _), rfl⟩
      · exact .fail
    · split
      · split
        · rw [hl.free]
          split
          · rw [hl.id]; exact .ret ⟨rfl, .some (hl.add _ _), rfl⟩
          · exact .fail
        · exact .fail
      · exact .fail
    · split
      · rw [hl.get]; exact .refl (fun a => ⟨rfl, OLocEq.refl _, rfl⟩) _
      · exact .fail
    · split
      · rw [hl.get]
        split
        · split
          · exact .ret ⟨rfl, .some (hl.set _ _), rfl⟩
          · exact .fail
        · exact .fail
      · exact .fail

end
end Go.Proofs.YtjbkcboklccmeaaGreatDoor.Abs
/-
  Two operations that have nothing to do with each other change places.
-/
namespace Go.Proofs.YtjbkcboklccmeaaGreatDoor.Abs

structure StEq (a b : St) : Prop where
  env : ∀ s, a.env.get s = b.env.get s
  loc : LocEq a.loc b.loc
  defers : a.defers = b.defers

theorem StEq.refl (a : St) : StEq a a := ⟨fun _ => rfl, .refl _, rfl⟩
theorem StEq.symm {a b : St} (h : StEq a b) : StEq b a := ⟨fun s => (h.env s).symm, h.loc.symm, h.defers.symm⟩
theorem StEq.trans {a b c : St} (h : StEq a b) (h' : StEq b c) : StEq a c := ⟨fun s => (h.env s).trans (h'.env s), h.loc.trans h'.loc, h.defers.trans h'.defers⟩

theorem StEq.keep {a b : St} (h : StEq a b) (live : List Nat) : a.keep live = b.keep live := by
  have he : a.env.keep live = b.env.keep live := by
    unfold Env.keep
    exact List.map_congr_left fun s _ => by rw [h.env s]
  simp only [St.keep, he, h.loc.keep, h.defers]

def PairEq (a b : St × Heap) : Prop := StEq a.1 b.1 ∧ a.2 = b.2
def Closed (Q : St × Heap → Prop) : Prop := ∀ a b, PairEq a b → Q a → Q b

structure RetEq (a b : ARet × Heap) : Prop where
  v : a.1.v = b.1.v
  loc : OLocEq a.1.loc b.1.loc
  defer : a.1.defer = b.1.defer
  heap : a.2 = b.2

theorem RetEq.refl (a : ARet × Heap) : RetEq a a := ⟨rfl, .refl _, rfl, rfl⟩

section
variable {c : Ctx} {rec : Rec} {e e' : Env} {l l' : Loc} {h h' : Heap} {st st' : St} {o o1 o2 : AOper}

theorem goAct_locEq (hl : LocEq l l') : NDRel RetEq (goAct c rec e l o h) (goAct c rec e l' o h) := by
  by_cases hd : ∃ f args, o.op = .defer f args
  · obtain ⟨f, args, ho⟩ := hd
    rw [goAct_defer ho, goAct_defer ho]; exact .refl RetEq.refl _
  · have hn : ∀ f args, o.op = .defer f args → False := fun f args ho => hd ⟨f, args, ho⟩
    rw [goAct_ne hn, goAct_ne hn]
    refine (doOp_locEq hl).bind fun a b hab => ?_
    obtain ⟨h1, h2, h3⟩ := hab
    unfold afterAct
    rw [h1, h3]
    cases o.frz with
    | false => exact .ret ⟨rfl, h2, rfl, rfl⟩
    | true =>
      simp only [cond_true]
      cases freeze b.1.1 b.2 with
      | none => exact .fail
      | some x => exact .ret ⟨rfl, h2, rfl, rfl⟩

theorem act_locEq (hl : LocEq l l') : NDRel RetEq (act c rec e l o h) (act c rec e l' o h) := by
  unfold act
  cases o.guard with
  | none => exact goAct_locEq hl
  | some g =>
    obtain ⟨s, want⟩ := g
    dsimp only
    cases e.get s with
    | bool b =>
      dsimp only
      by_cases hb : b = want
      · rw [if_pos hb, if_pos hb]; exact goAct_locEq hl
      · rw [if_neg hb, if_neg hb]; exact .refl RetEq.refl _
    | tuple vs => cases vs <;> exact .refl RetEq.refl _
    | _ => exact .refl RetEq.refl _

theorem upd_eq {a b : ARet} (hs : StEq st st') (h1 : a.v = b.v) (h2 : OLocEq a.loc b.loc) (h3 : a.defer = b.defer) (d : Option Nat) : StEq (st.upd d a) (st'.upd d b) := by
  refine ⟨fun s => ?_, ?_, ?_⟩
  · cases d with
    | none => exact hs.env s
    | some d =>
      show (Env.put st.env (some d) a.v).get s = (Env.put st'.env (some d) b.v).get s
      rw [Env.get_put, Env.get_put, h1, hs.env s]
  · show LocEq (a.loc.getD st.loc) (b.loc.getD st'.loc)
    generalize a.loc = x at h2 ⊢
    generalize b.loc = y at h2 ⊢
    cases h2 with
    | none => exact hs.loc
    | some h => exact h
  · simp only [St.upd, h3, hs.defers]

/-- Alike frames go alike. -/
theorem doOper_eq (hs : StEq st st') : NDRel PairEq (doOper c rec st o h) (doOper c rec st' o h) := by
  rw [doOper_act, doOper_act]
  rw [act_congr (e := st.env) (e' := st'.env) fun s _ => hs.env s]
  exact (act_locEq hs.loc).bind fun a b hab => .ret ⟨upd_eq hs hab.v hab.loc hab.defer _, hab.heap⟩

theorem doOps_eq : ∀ {os : List AOper} {st st' : St} {h : Heap}, StEq st st' → NDRel PairEq (doOps c rec os st h) (doOps c rec os st' h)
  | [], st, st', h, hs => .ret ⟨hs, rfl⟩
  | o :: os, st, st', h, hs => (doOper_eq hs).bind fun a b hab => by
    obtain ⟨h1, h2⟩ := hab
    rw [h2]
    exact doOps_eq h1

end
end Go.Proofs.YtjbkcboklccmeaaGreatDoor.Abs
/-
  Two operations that have nothing to do with each other change places.
-/
namespace Go.Proofs.YtjbkcboklccmeaaGreatDoor.Abs

theorem ND.sat_never {α β : Type} {Q : β → Prop} : ∀ {x : ND α}, (x.bind fun _ => (.fail : ND β)).Sat Q → False
  | .fail, h => h
  | .ret _, h => h
  | .pick n k, h => sat_never (h.2 0 h.1)

def optND {α : Type} (q : Option α) (h : Heap) : ND (α × Heap) :=
  match q with
  | some x => .ret (x, h)
  | none => .fail

section
variable {c : Ctx} {rec : Rec} {e e' : Env} {l l' : Loc} {h h' : Heap} {st st' : St} {o o1 o2 : AOper}

/-- Two ways of doing two things, the one behind the other. -/
theorem swap_core {α γ : Type} {A : Heap → ND (α × Heap)} {B : Heap → ND (γ × Heap)} {Q : (α × γ) × Heap → Prop} {wa ra wb rb : Bool}
    (hwa : wa = false → ∀ h, ∃ q : Option α, A h = optND q h)
    (hra : ra = false → ∃ q : Option α, ∀ h, A h = optND q h)
    (hwb : wb = false → ∀ h, ∃ q : Option γ, B h = optND q h)
    (hrb : rb = false → ∃ q : Option γ, ∀ h, B h = optND q h)
    (h1 : wa = true → rb = false) (h2 : wb = true → ra = false) {h : Heap}
    (hs : ((A h).bind fun r1 => (B r1.2).bind fun r2 => (.ret ((r1.1, r2.1), r2.2) : ND ((α × γ) × Heap))).Sat Q) :
    ((B h).bind fun r2 => (A r2.2).bind fun r1 => (.ret ((r1.1, r2.1), r1.2) : ND ((α × γ) × Heap))).Sat Q := by
  cases wa with
  | true =>
    obtain ⟨q, hq⟩ := hrb (h1 rfl)
    cases q with
    | none =>
      exfalso
      have : ((A h).bind fun _ => (.fail : ND ((α × γ) × Heap))).Sat Q := by
        have e : (fun r1 : α × Heap => (B r1.2).bind fun r2 => (.ret ((r1.1, r2.1), r2.2) : ND ((α × γ) × Heap))) = fun _ => .fail := by
          funext r1; rw [hq]; rfl
        rw [e] at hs; exact hs
      exact ND.sat_never this
    | some x2 =>
      rw [hq h]
      show ((A h).bind fun r1 => (.ret ((r1.1, x2), r1.2) : ND ((α × γ) × Heap))).Sat Q
      have e : (fun r1 : α × Heap => (B r1.2).bind fun r2 => (.ret ((r1.1, r2.1), r2.2) : ND ((α × γ) × Heap))) = fun r1 => .ret ((r1.1, x2), r1.2) := by
        funext r1; rw [hq]; rfl
      rwa [e] at hs
  | false =>
    obtain ⟨q, hq⟩ := hwa rfl h
    rw [hq] at hs
    cases q with
    | none => exact hs.elim
    | some x1 =>
      have hs' : ((B h).bind fun r2 => (.ret ((x1, r2.1), r2.2) : ND ((α × γ) × Heap))).Sat Q := hs
      cases wb with
      | true =>
        obtain ⟨q', hq'⟩ := hra (h2 rfl)
        have : q' = some x1 := by
          have e := hq' h
          rw [hq] at e
          cases q' with
          | none => cases e
          | some y => cases e; rfl
        subst this
        have e : (fun r2 : γ × Heap => (A r2.2).bind fun r1 => (.ret ((r1.1, r2.1), r1.2) : ND ((α × γ) × Heap))) = fun r2 => .ret ((x1, r2.1), r2.2) := by
          funext r2; rw [hq']; rfl
        rw [e]; exact hs'
      | false =>
        obtain ⟨q', hq'⟩ := hwb rfl h
        rw [hq'] at hs' ⊢
        cases q' with
        | none => exact hs'.elim
        | some x2 =>
          show ((A h).bind fun r1 => (.ret ((r1.1, x2), r1.2) : ND ((α × γ) × Heap))).Sat Q
          rw [hq]
          exact hs'


/-- What an operation's kind says of its outcome. -/
def normA (o : AOper) (r : ARet) : ARet := { v := r.v, loc := if wrL o.op then r.loc else none, defer := if isDefer o.op then r.defer else none }

theorem goAct_norm : goAct c rec e l o h = (goAct c rec e l o h).bind fun r => .ret (normA o r.1, r.2) := by
  by_cases hd : ∃ f args, o.op = .defer f args
  · obtain ⟨f, args, ho⟩ := hd
    rw [goAct_defer ho]
    simp [ND.bind, normA, ho, isDefer, wrL]
  · have hn : ∀ f args, o.op = .defer f args → False := fun f args ho => hd ⟨f, args, ho⟩
    have hnd : isDefer o.op = false := by
      cases hh : o.op <;> first | rfl | exact (hn _ _ hh).elim
    rw [goAct_ne hn]
    cases hw : wrL o.op with
    | true =>
      rw [ND.bind_assoc]
      congr 1
      funext r
      unfold afterAct
      cases o.frz with
      | false => simp [ND.bind, normA, hw, hnd]
      | true =>
        simp only [cond_true]
        cases freeze r.1.1 r.2 <;> simp [ND.bind, normA, hw, hnd]
    | false =>
      have hnl := doOp_noLoc (c := c) (rec := rec) (e := e) (l := l) (h := h) hw
      unfold NoLoc at hnl
      rw [hnl, ND.bind_assoc, ND.bind_assoc]
      congr 1
      funext r
      show afterAct o ((r.1.1, none), r.2) = (afterAct o ((r.1.1, none), r.2)).bind _
      unfold afterAct
      cases o.frz with
      | false => simp [ND.bind, normA, hw, hnd]
      | true =>
        simp only [cond_true]
        cases freeze r.1.1 r.2 <;> simp [ND.bind, normA, hw, hnd]

theorem act_norm : act c rec e l o h = (act c rec e l o h).bind fun r => .ret (normA o r.1, r.2) := by
  have hg : goAct c rec e l o h = (goAct c rec e l o h).bind fun r => .ret (normA o r.1, r.2) := goAct_norm
  have hsk : ∀ h : Heap, (ND.ret ((⟨.tuple [], none, none⟩ : ARet), h) : ND (ARet × Heap)) = (ND.ret ((⟨.tuple [], none, none⟩ : ARet), h) : ND (ARet × Heap)).bind fun r => .ret (normA o r.1, r.2) := by
    intro h; simp [ND.bind, normA]
  unfold act
  cases o.guard with
  | none => exact hg
  | some g =>
    obtain ⟨s, want⟩ := g
    dsimp only
    cases e.get s with
    | bool b =>
      dsimp only
      by_cases hb : b = want
      · rw [if_pos hb]; exact hg
      · rw [if_neg hb]; exact hsk h
    | tuple vs => cases vs <;> first | exact hsk h | rfl
    | _ => rfl

end
end Go.Proofs.YtjbkcboklccmeaaGreatDoor.Abs
/-
  Two operations of a list change places.
-/
namespace Go.Proofs.YtjbkcboklccmeaaGreatDoor.Abs

def disj (d : Option Nat) (l : List Nat) : Bool := match d with
  | none => true
  | some d => !(l.any fun x => Nat.beq d x)
def dstNe : Option Nat → Option Nat → Bool
  | some a, some b => !Nat.beq a b
  | _, _ => true

def locIndep (a b : AOp) : Bool := (!wrL a || !rdL b) && (!wrL b || !rdL a)

def indep (o1 o2 : AOper) : Bool :=
  disj o1.dst (readsOf o2) && disj o2.dst (readsOf o1) && dstNe o1.dst o2.dst && (!wH o1 || !rH o2) && (!wH o2 || !rH o1) && locIndep o1.op o2.op && !(isDefer o1.op && isDefer o2.op)

theorem disj_spec {d : Option Nat} {l : List Nat} (h : disj d l = true) : ∀ x, d = some x → x ∉ l := by
  intro x hx hm
  subst hx
  simp only [disj, Bool.not_eq_true'] at h
  have : (l.any fun y => Nat.beq x y) = true := List.any_eq_true.2 ⟨x, hm, by simp⟩
  rw [h] at this; cases this

theorem dstNe_spec {a b : Option Nat} (h : dstNe a b = true) : ∀ x, a = some x → b ≠ some x := by
  intro x ha hb
  subst ha hb
  simp [dstNe] at h

section
variable {c : Ctx} {rec : Rec} {e e' : Env} {l l' : Loc} {h h' : Heap} {st st' : St} {o o1 o2 : AOper}

theorem put_get_ne {e : Env} {d : Option Nat} {v : AV} {s : Nat} (hs : ∀ x, d = some x → x ≠ s) : (Env.put e d v).get s = e.get s := by
  cases d with
  | none => rfl
  | some d => rw [Env.get_put, if_neg (hs d rfl)]

/-- The second operation behind the first: aS if the first had not been. -/
theorem second_act {r : ARet} (hd : disj o1.dst (readsOf o2) = true) (hl : wrL o1.op = true → rdL o2.op = false) :
    doOper c rec (st.upd o1.dst (normA o1 r)) o2 h = (act c rec st.env st.loc o2 h).bind fun r2 => .ret ((st.upd o1.dst (normA o1 r)).upd o2.dst r2.1, r2.2) := by
  rw [doOper_act]
  have henv : act c rec (st.upd o1.dst (normA o1 r)).env (st.upd o1.dst (normA o1 r)).loc o2 h = act c rec st.env (st.upd o1.dst (normA o1 r)).loc o2 h :=
    act_congr fun s hs => put_get_ne fun x hx hxs => disj_spec hd x hx (hxs ▸ hs)
  have hloc : act c rec st.env (st.upd o1.dst (normA o1 r)).loc o2 h = act c rec st.env st.loc o2 h := by
    cases hw : wrL o1.op with
    | true => exact act_loc (hl hw)
    | false =>
      have : (st.upd o1.dst (normA o1 r)).loc = st.loc := by simp [St.upd, normA, hw]
      rw [this]
  rw [henv, hloc]

theorem pair_form (hd : disj o1.dst (readsOf o2) = true) (hl : wrL o1.op = true → rdL o2.op = false) :
    ((doOper c rec st o1 h).bind fun r => doOper c rec r.1 o2 r.2) =
      (((act c rec st.env st.loc o1 h).bind fun r1 => (act c rec st.env st.loc o2 r1.2).bind fun r2 => (.ret ((r1.1, r2.1), r2.2) : ND ((ARet × ARet) × Heap))).bind fun q =>
        .ret ((st.upd o1.dst (normA o1 q.1.1)).upd o2.dst (normA o2 q.1.2), q.2)) := by
  rw [doOper_act, act_norm (o := o1)]
  simp only [ND.bind_assoc]
  congr 1
  funext r1
  have hnn : ∀ (o : AOper) (r : ARet), normA o (normA o r) = normA o r := by
    intro o r
    unfold normA
    cases wrL o.op <;> cases isDefer o.op <;> rfl
  show doOper c rec (st.upd o1.dst (normA o1 r1.1)) o2 r1.2 = (act c rec st.env st.loc o2 r1.2).bind fun r2 => .ret ((st.upd o1.dst (normA o1 (normA o1 r1.1))).upd o2.dst (normA o2 r2.1), r2.2)
  rw [second_act hd hl, hnn, act_norm (o := o2)]
  simp only [ND.bind_assoc]
  congr 1
  funext r2
  show (ND.ret ((st.upd o1.dst (normA o1 r1.1)).upd o2.dst (normA o2 r2.1), r2.2) : ND (St × Heap)) = .ret ((st.upd o1.dst (normA o1 r1.1)).upd o2.dst (normA o2 (normA o2 r2.1)), r2.2)
  rw [hnn]

/-- What two operations do to a frame does not hang on their order. -/
theorem upd_comm {a b : ARet} (hd : dstNe o1.dst o2.dst = true) (hl : locIndep o1.op o2.op = true) (hf : (isDefer o1.op && isDefer o2.op) = false) :
    StEq ((st.upd o1.dst (normA o1 a)).upd o2.dst (normA o2 b)) ((st.upd o2.dst (normA o2 b)).upd o1.dst (normA o1 a)) := by
  refine ⟨fun s => ?_, ?_, ?_⟩
  · show (Env.put (Env.put st.env o1.dst a.v) o2.dst b.v).get s = (Env.put (Env.put st.env o2.dst b.v) o1.dst a.v).get s
    cases h1 : o1.dst with
    | none => rfl
    | some x =>
      cases h2 : o2.dst with
      | none => rfl
      | some y =>
        have hxy : x ≠ y := by
          rintro rfl
          exact dstNe_spec hd x h1 h2
        simp only [Env.get_put]
        by_cases hx : x = s
        · subst hx
          rw [if_neg (fun h => hxy h.symm), if_pos rfl, if_pos rfl]
        · by_cases hy : y = s
          · subst hy; simp [hx]
          · simp [hx, hy]
  · have hw : wrL o1.op = false ∨ wrL o2.op = false := by
      simp only [locIndep, Bool.and_eq_true, Bool.or_eq_true, Bool.not_eq_true'] at hl
      rcases hl.1 with h | h
      · exact .inl h
      · right
        cases hh : o2.op <;> first | rfl | (rw [hh] at h; simp [rdL, wrL] at h)
    rcases hw with hw | hw
    · simp only [St.upd, normA, hw]
      exact .refl _
    · simp only [St.upd, normA, hw]
      exact .refl _
  · cases h1 : isDefer o1.op with
    | false => simp [St.upd, normA, h1]
    | true =>
      rw [h1] at hf
      have h2 : isDefer o2.op = false := by simpa using hf
      simp [St.upd, normA, h1, h2]

theorem still_opt (hw : wH o = false) : act c rec e l o h = optND (asRet (act c rec e l o h)) h := by
  have := act_still (c := c) (rec := rec) (e := e) (l := l) (h := h) hw
  cases hq : asRet (act c rec e l o h) with
  | none => rw [hq] at this; exact this
  | some x => rw [hq] at this; exact this

theorem blind_opt (hr : rH o = false) : act c rec e l o h = optND (asRet (act c rec e l o h')) h := by
  have := act_blind (c := c) (rec := rec) (e := e) (l := l) (h := h) (h' := h') hr
  cases hq : asRet (act c rec e l o h') with
  | none => rw [hq] at this; exact this
  | some x => rw [hq] at this; exact this

theorem swap_oper {Q : St × Heap → Prop} (hi : indep o1 o2 = true) (hQ : Closed Q) (hs : ((doOper c rec st o1 h).bind fun r => doOper c rec r.1 o2 r.2).Sat Q) :
    ((doOper c rec st o2 h).bind fun r => doOper c rec r.1 o1 r.2).Sat Q := by
  simp only [indep, Bool.and_eq_true, Bool.or_eq_true, Bool.not_eq_true'] at hi
  obtain ⟨⟨⟨⟨⟨⟨d1, d2⟩, d3⟩, w1⟩, w2⟩, lo⟩, df⟩ := hi
  have lo' := lo
  simp only [locIndep, Bool.and_eq_true, Bool.or_eq_true, Bool.not_eq_true'] at lo'
  rw [pair_form d1 (fun h => by rcases lo'.1 with h' | h'; rw [h] at h'; cases h'; exact h'), ND.sat_bind] at hs
  rw [pair_form d2 (fun h => by rcases lo'.2 with h' | h'; rw [h] at h'; cases h'; exact h'), ND.sat_bind]
  have key := swap_core (A := act c rec st.env st.loc o1) (B := act c rec st.env st.loc o2) (wa := wH o1) (ra := rH o1) (wb := wH o2) (rb := rH o2)
    (fun h x => ⟨_, still_opt h⟩) (fun h => ⟨asRet (act c rec st.env st.loc o1 []), fun x => blind_opt h⟩)
    (fun h x => ⟨_, still_opt h⟩) (fun h => ⟨asRet (act c rec st.env st.loc o2 []), fun x => blind_opt h⟩)
    (fun h => by rcases w1 with h' | h'; rw [h] at h'; cases h'; exact h') (fun h => by rcases w2 with h' | h'; rw [h] at h'; cases h'; exact h')
    (Q := fun q => Q ((st.upd o2.dst (normA o2 q.1.2)).upd o1.dst (normA o1 q.1.1), q.2)) (h := h)
    (ND.Sat.mono (fun q hq => hQ (((st.upd o1.dst (normA o1 q.1.1)).upd o2.dst (normA o2 q.1.2)), q.2) (((st.upd o2.dst (normA o2 q.1.2)).upd o1.dst (normA o1 q.1.1)), q.2) ⟨upd_comm d3 lo df, rfl⟩ hq) hs)
  -- the pair's halves change places
  have e : ((act c rec st.env st.loc o2 h).bind fun r1 => (act c rec st.env st.loc o1 r1.2).bind fun r2 => (.ret ((r1.1, r2.1), r2.2) : ND ((ARet × ARet) × Heap))) =
      ((act c rec st.env st.loc o2 h).bind fun r2 => (act c rec st.env st.loc o1 r2.2).bind fun r1 => (.ret ((r1.1, r2.1), r1.2) : ND ((ARet × ARet) × Heap))).bind fun q => .ret ((q.1.2, q.1.1), q.2) := by
    simp only [ND.bind_assoc]
    rfl
  rw [e, ND.sat_bind]
  exact ND.Sat.mono (fun q hq => hq) key

end
end Go.Proofs.YtjbkcboklccmeaaGreatDoor.Abs
/-
  Two new boxes in whichever order.
-/
namespace Go.Proofs.YtjbkcboklccmeaaGreatDoor.Abs

def allocK : AOp → Option Nat
  | .allocL k _ => some k
  | .boxL k _ _ => some k
  | _ => none

section
variable {c : Ctx} {rec : Rec} {e e' : Env} {l l' : Loc} {h h' : Heap} {st st' : St} {o o1 o2 : AOper}

def allocND (k : Nat) (a : Option (Option (List AV))) (l : Loc) (h : Heap) : ND (ARet × Heap) :=
  match a with
  | none => .fail
  | some none => .ret (⟨.tuple [], none, none⟩, h)
  | some (some cs) => if l.free k then .ret (⟨.lptr (l.id k) 0, some (l.add k cs), none⟩, h) else .fail

theorem goAct_alloc {k : Nat} (hk : allocK o.op = some k) (hf : o.frz = false) : ∃ a, ∀ l h, goAct c rec e l o h = allocND k a l h := by
  have hn : ∀ f args, o.op = .defer f args → False := fun f args ho => by rw [ho] at hk; cases hk
  have aft : ∀ r, afterAct o r = .ret (⟨r.1.1, r.1.2, none⟩, r.2) := fun r => by unfold afterAct; rw [hf]; rfl
  cases ho : o.op <;> rw [ho] at hk <;> simp only [allocK, reduceCtorEq, Option.some.injEq] at hk
  · subst hk
    rename_i k zero
    refine ⟨some (some zero), fun l h => ?_⟩
    rw [goAct_ne hn, ho]
    simp only [doOp, allocND]
    split
    · simp only [ND.bind, aft]
    · rfl
  · subst hk
    rename_i k n x
    cases hc : ((Opd.eval c.gl e x).clean).cells with
    | none =>
      refine ⟨none, fun l h => ?_⟩
      rw [goAct_ne hn, ho]
      simp only [doOp, hc]
      rfl
    | some cs =>
      by_cases hl : cs.length = n
      · refine ⟨some (some cs), fun l h => ?_⟩
        rw [goAct_ne hn, ho]
        simp only [doOp, hc, hl, if_true, allocND]
        split
        · simp only [ND.bind, aft]
        · rfl
      · refine ⟨none, fun l h => ?_⟩
        rw [goAct_ne hn, ho]
        simp only [doOp, hc, hl, if_false]
        rfl

theorem act_alloc {k : Nat} (hk : allocK o.op = some k) (hf : o.frz = false) : ∃ a, ∀ l h, act c rec e l o h = allocND k a l h := by
  obtain ⟨a, ha⟩ := goAct_alloc (c := c) (rec := rec) (e := e) hk hf
  cases hg : o.guard with
  | none => exact ⟨a, fun l h => by unfold act; rw [hg]; exact ha l h⟩
  | some g =>
    obtain ⟨s, want⟩ := g
    cases hs : e.get s with
    | bool b =>
      by_cases hb : b = want
      · exact ⟨a, fun l h => by unfold act; rw [hg]; dsimp only; rw [hs]; dsimp only; rw [if_pos hb]; exact ha l h⟩
      · exact ⟨some none, fun l h => by unfold act; rw [hg]; dsimp only; rw [hs]; dsimp only; rw [if_neg hb]; rfl⟩
    | tuple vs =>
      cases vs with
      | nil => exact ⟨some none, fun l h => by unfold act; rw [hg]; dsimp only; rw [hs]; rfl⟩
      | cons v vs => exact ⟨none, fun l h => by unfold act; rw [hg]; dsimp only; rw [hs]; rfl⟩
    | _ => exact ⟨none, fun l h => by unfold act; rw [hg]; dsimp only; rw [hs]; rfl⟩

theorem free_add {k k' : Nat} (hk : k ≠ k') (cs : List AV) : (l.add k cs).free k' = l.free k' := by
  simp only [Loc.free, Loc.add, Loc.id, boxGet_cons]
  rw [if_neg (by omega)]

theorem add_comm' {k k' : Nat} (hk : k ≠ k') (cs cs' : List AV) : LocEq ((l.add k cs).add k' cs') ((l.add k' cs').add k cs) := by
  refine ⟨rfl, fun i => ?_⟩
  simp only [Loc.add, Loc.id, boxGet_cons]
  by_cases h1 : l.nb * 64 + k = i
  · by_cases h2 : l.nb * 64 + k' = i
    · omega
    · simp [h1, h2]
  · simp [h1]


/-- Two new boxes of different numbers: either may be first. -/
def allocPair (o1 o2 : AOper) : Bool :=
  match allocK o1.op, allocK o2.op with
  | some k, some k' => !Nat.beq k k' && !o1.frz && !o2.frz && disj o1.dst (readsOf o2) && disj o2.dst (readsOf o1) && dstNe o1.dst o2.dst
  | _, _ => false

theorem upd_env_comm {a b : ARet} (hd : dstNe o1.dst o2.dst = true) (s : Nat) : ((st.upd o1.dst a).upd o2.dst b).env.get s = ((st.upd o2.dst b).upd o1.dst a).env.get s := by
  show (Env.put (Env.put st.env o1.dst a.v) o2.dst b.v).get s = (Env.put (Env.put st.env o2.dst b.v) o1.dst a.v).get s
  cases h1 : o1.dst with
  | none => rfl
  | some x =>
    cases h2 : o2.dst with
    | none => rfl
    | some y =>
      have hxy : x ≠ y := by
        rintro rfl
        exact dstNe_spec hd x h1 h2
      simp only [Env.get_put]
      by_cases hx : x = s
      · subst hx
        rw [if_neg (fun h => hxy h.symm), if_pos rfl, if_pos rfl]
      · by_cases hy : y = s
        · subst hy; simp [hx]
        · simp [hx, hy]

theorem swap_alloc {Q : St × Heap → Prop} (hi : allocPair o1 o2 = true) (hQ : Closed Q) (hs : ((doOper c rec st o1 h).bind fun r => doOper c rec r.1 o2 r.2).Sat Q) :
    ((doOper c rec st o2 h).bind fun r => doOper c rec r.1 o1 r.2).Sat Q := by
  unfold allocPair at hi
  split at hi
  · next k k' h1 h2 =>
    simp only [Bool.and_eq_true, Bool.not_eq_true'] at hi
    obtain ⟨⟨⟨⟨⟨hk, f1⟩, f2⟩, d1⟩, d2⟩, d3⟩ := hi
    have hkk : k ≠ k' := by rintro rfl; simp at hk
    obtain ⟨a, ha⟩ := act_alloc (c := c) (rec := rec) (e := st.env) h1 f1
    obtain ⟨b, hb⟩ := act_alloc (c := c) (rec := rec) (e := st.env) h2 f2
    have ha' : ∀ (r : ARet) l h, act c rec (st.upd o2.dst r).env l o1 h = allocND k a l h := fun r l h => by
      rw [← ha l h]
      exact act_congr fun s hs => put_get_ne fun x hx hxs => disj_spec d2 x hx (hxs ▸ hs)
    have hb' : ∀ (r : ARet) l h, act c rec (st.upd o1.dst r).env l o2 h = allocND k' b l h := fun r l h => by
      rw [← hb l h]
      exact act_congr fun s hs => put_get_ne fun x hx hxs => disj_spec d1 x hx (hxs ▸ hs)
    simp only [doOper_act, ha, hb, ND.sat_bind] at hs ⊢
    cases a with
    | none => exact hs.elim
    | some a =>
      cases b with
      | none =>
        exfalso
        cases a with
        | none =>
          simp only [allocND, ND.Sat, hb'] at hs
        | some cs =>
          simp only [allocND] at hs
          split at hs
          · simp only [ND.Sat, hb', allocND] at hs
          · exact hs
      | some b =>
        cases a with
        | none =>
          cases b with
          | none =>
            simp only [allocND, ND.Sat, hb', ha'] at hs ⊢
            refine hQ _ _ ?_ hs
            exact ⟨⟨fun s => upd_env_comm d3 s, .refl _, rfl⟩, rfl⟩
          | some cs' =>
            simp only [allocND, ND.Sat, hb'] at hs ⊢
            have e : (st.upd o1.dst ⟨.tuple [], none, none⟩).loc = st.loc := rfl
            rw [e] at hs
            split at hs
            · next hf =>
              rw [if_pos hf]
              simp only [ND.Sat, ha', allocND] at hs ⊢
              refine hQ _ _ ?_ hs
              exact ⟨⟨fun s => upd_env_comm d3 s, .refl _, rfl⟩, rfl⟩
            · exact hs.elim
        | some cs =>
          cases b with
          | none =>
            simp only [allocND] at hs ⊢
            split at hs
            · next hf =>
              simp only [ND.Sat, ha', hb', allocND] at hs ⊢
              have e : (st.upd o2.dst ⟨.tuple [], none, none⟩).loc = st.loc := rfl
              rw [e, if_pos hf]
              refine hQ _ _ ?_ hs
              exact ⟨⟨fun s => upd_env_comm d3 s, .refl _, rfl⟩, rfl⟩
            · exact hs.elim
          | some cs' =>
            simp only [allocND] at hs ⊢
            split at hs
            · next hf =>
              simp only [ND.Sat, hb', allocND] at hs
              have e1 : (st.upd o1.dst ⟨.lptr (st.loc.id k) 0, some (st.loc.add k cs), none⟩).loc = st.loc.add k cs := rfl
              rw [e1, free_add hkk] at hs
              split at hs
              · next hf' =>
                rw [if_pos hf']
                simp only [ND.Sat, ha', allocND] at hs ⊢
                have e2 : (st.upd o2.dst ⟨.lptr (st.loc.id k') 0, some (st.loc.add k' cs'), none⟩).loc = st.loc.add k' cs' := rfl
                rw [e2, free_add (fun h => hkk h.symm), if_pos hf]
                refine hQ _ _ ?_ hs
                exact ⟨⟨fun s => upd_env_comm d3 s, add_comm' hkk _ _, rfl⟩, rfl⟩
              · exact hs.elim
            · exact hs.elim
  · cases hi

end
end Go.Proofs.YtjbkcboklccmeaaGreatDoor.Abs
/-
  Loads done again behind an operation.
-/
namespace Go.Proofs.YtjbkcboklccmeaaGreatDoor.Abs

abbrev DOp := AOper × List (Nat × AOp)

/-- The slots that a load done again looks at. -/
def reSlots (r : Nat × AOp) : List Nat := r.1 :: slotsOf (opnds r.2)

section
variable {c : Ctx} {rec : Rec} {e e' : Env} {l l' : Loc} {h h' : Heap} {st st' : St} {o o1 o2 : AOper}

theorem loadV_congr {op : AOp} (hx : ∀ s ∈ slotsOf (opnds op), st.env.get s = st'.env.get s) (hl : ∀ i, boxGet st.loc.boxes i = boxGet st'.loc.boxes i) : loadV c st h op = loadV c st' h op := by
  have he := eval_slots (c := c) hx
  cases op with
  | load agg n a => simp only [loadV, he a (by simp [opnds])]
  | loadL agg n a =>
    simp only [loadV, he a (by simp [opnds])]
    cases Opd.eval c.gl st'.env a <;> first | rfl | skip
    simp only [hl]
  | _ => rfl

theorem reOK_congr : ∀ {rs : List (Nat × AOp)}, (∀ r ∈ rs, ∀ s ∈ reSlots r, st.env.get s = st'.env.get s) → (∀ i, boxGet st.loc.boxes i = boxGet st'.loc.boxes i) → reOK c st h rs = reOK c st' h rs
  | [], _, _ => rfl
  | (d, op) :: rs, hx, hl => by
    have h0 := hx (d, op) List.mem_cons_self
    simp only [reOK]
    rw [loadV_congr (fun s hs => h0 s (List.mem_cons_of_mem _ hs)) hl, h0 d List.mem_cons_self, reOK_congr (fun r hr => hx r (List.mem_cons_of_mem _ hr)) hl]

theorem doD_eq {d : DOp} (hs : StEq st st') : NDRel PairEq (doD c rec st d h) (doD c rec st' d h) := by
  refine (doOper_eq hs).bind fun a b hab => ?_
  obtain ⟨h1, h2⟩ := hab
  rw [h2, reOK_congr (fun r _ s _ => h1.env s) h1.loc.get]
  split
  · exact .ret ⟨h1, h2⟩
  · exact .fail

theorem doDs_eq : ∀ {os : List DOp} {st st' : St} {h : Heap}, StEq st st' → NDRel PairEq (doDs c rec os st h) (doDs c rec os st' h)
  | [], st, st', h, hs => .ret ⟨hs, rfl⟩
  | o :: os, st, st', h, hs => (doD_eq hs).bind fun a b hab => by
    obtain ⟨h1, h2⟩ := hab
    rw [h2]
    exact doDs_eq h1

end
end Go.Proofs.YtjbkcboklccmeaaGreatDoor.Abs
/-
  Two operations with loads done again behind them change places.
-/
namespace Go.Proofs.YtjbkcboklccmeaaGreatDoor.Abs

section
variable {c : Ctx} {rec : Rec} {e e' : Env} {l l' : Loc} {h h' : Heap} {st st' : St} {o o1 o2 : AOper}

theorem doD_sat {d : DOp} {Q : St × Heap → Prop} : (doD c rec st d h).Sat Q ↔ (doOper c rec st d.1 h).Sat fun q => reOK c q.1 q.2 d.2 = true ∧ Q q := by
  unfold doD
  rw [ND.sat_bind]
  have e : (fun r : St × Heap => (if reOK c r.1 r.2 d.2 = true then (ND.ret r : ND (St × Heap)) else .fail).Sat Q) = fun q => reOK c q.1 q.2 d.2 = true ∧ Q q := by
    funext r
    cases hr : reOK c r.1 r.2 d.2 with
    | false => simp [ND.Sat]
    | true => simp [ND.Sat]
  rw [e]

def reOne (c : Ctx) (st : St) (h : Heap) (r : Nat × AOp) : Bool := match loadV c st h r.2 with | some v => AV.same v (st.env.get r.1) | none => false

theorem reOK_iff : ∀ {rs : List (Nat × AOp)}, reOK c st h rs = true ↔ ∀ r ∈ rs, reOne c st h r = true
  | [] => by simp [reOK]
  | (d, op) :: rs => by
    simp only [reOK, Bool.and_eq_true, List.mem_cons, forall_eq_or_imp]
    rw [reOK_iff (rs := rs)]
    rfl

theorem reOK_sub {rs rs' : List (Nat × AOp)} (hs : ∀ r ∈ rs', r ∈ rs) (hr : reOK c st h rs = true) : reOK c st h rs' = true :=
  reOK_iff.2 fun r hm => reOK_iff.1 hr r (hs r hm)

theorem closed_re {Q : St × Heap → Prop} (hQ : Closed Q) (rs : List (Nat × AOp)) : Closed fun q => reOK c q.1 q.2 rs = true ∧ Q q := by
  intro a b hab hq
  refine ⟨?_, hQ a b hab hq.2⟩
  rw [← hab.2, ← reOK_congr (fun r _ s _ => hab.1.env s) hab.1.loc.get]
  exact hq.1

theorem doD_sub {Q : St × Heap → Prop} {rs rs' : List (Nat × AOp)} (hs : ∀ r ∈ rs', r ∈ rs) (hd : (doD c rec st (o, rs) h).Sat Q) : (doD c rec st (o, rs') h).Sat Q :=
  doD_sat.2 (ND.Sat.mono (fun _ hq => ⟨reOK_sub hs hq.1, hq.2⟩) ((doD_sat (d := (o, rs))).1 hd))

/-- An operation that turns nothing at which these loads look. -/
def noTouch (o : AOper) (rs : List (Nat × AOp)) : Bool :=
  rs.all fun r => disj o.dst (reSlots r) && (match r.2 with | .load .. => !wH o | .loadL .. => !wrL o.op | _ => false)

theorem reOne_congr {r : Nat × AOp} (hx : ∀ s ∈ reSlots r, st.env.get s = st'.env.get s)
    (hm : match r.2 with | .load .. => h = h' | .loadL .. => st.loc = st'.loc | _ => False) : reOne c st h r = reOne c st' h' r := by
  obtain ⟨d, op⟩ := r
  have he := eval_slots (c := c) (fun s hs => hx s (List.mem_cons_of_mem _ hs))
  have h0 := hx d List.mem_cons_self
  unfold reOne
  cases op <;> first | exact hm.elim | skip
  · dsimp only at hm ⊢
    simp only [loadV, he _ (List.mem_singleton.2 rfl), h0, hm]
  · dsimp only at hm ⊢
    simp only [loadV, he _ (List.mem_singleton.2 rfl), h0, hm]

theorem ND.sat_and {α : Type} {A B : α → Prop} : ∀ {x : ND α}, x.Sat A → x.Sat B → x.Sat fun a => A a ∧ B a
  | .fail, h, _ => h
  | .ret _, h, h' => ⟨h, h'⟩
  | .pick _ _, h, h' => ⟨h.1, fun i hi => ND.sat_and (h.2 i hi) (h'.2 i hi)⟩

theorem Closed.use {Q : St × Heap → Prop} (hQ : Closed Q) (hs : StEq st st') (hq : Q (st, h)) : Q (st', h) := hQ (st, h) (st', h) ⟨hs, rfl⟩ hq

theorem noTouch_keeps {Q : St × Heap → Prop} {rs : List (Nat × AOp)} (hn : noTouch o rs = true) (hs : (doOper c rec st o h).Sat Q) :
    (doOper c rec st o h).Sat fun q => Q q ∧ reOK c q.1 q.2 rs = reOK c st h rs := by
  rw [doOper_act, ND.sat_bind] at hs ⊢
  rw [act_norm, ND.sat_bind] at hs ⊢
  have hn' := List.all_eq_true.1 hn
  -- memory
  have hH : wH o = false → (act c rec st.env st.loc o h).Sat fun r => r.2 = h := by
    intro hw
    rw [still_opt hw]
    cases hq : asRet (act c rec st.env st.loc o h) with
    | none =>
      rw [still_opt hw, hq] at hs
      exact hs.elim
    | some x => rfl
  have both : (act c rec st.env st.loc o h).Sat fun r => (wH o = false → r.2 = h) := by
    cases hw : wH o with
    | false => exact ND.Sat.mono (fun _ hr _ => hr) (hH hw)
    | true => exact ND.Sat.mono (fun _ _ hf => by cases hf) hs
  refine ND.Sat.mono (fun r hr => ?_) (ND.sat_and hs both)
  obtain ⟨hr1, hr2⟩ := hr
  refine ⟨hr1, ?_⟩
  rw [Bool.eq_iff_iff, reOK_iff, reOK_iff]
  refine forall_congr' fun x => ?_
  refine forall_congr' fun hx => ?_
  have hx' := hn' x hx
  simp only [Bool.and_eq_true] at hx'
  obtain ⟨hx1, hx2⟩ := hx'
  have : reOne c (st.upd o.dst (normA o r.1)) r.2 x = reOne c st h x := by
    refine reOne_congr (fun s hs => put_get_ne fun y hy hys => disj_spec hx1 y hy (hys ▸ hs)) ?_
    cases hop : x.2 with
    | load agg n a =>
      rw [hop] at hx2
      simp only [Bool.not_eq_true'] at hx2
      exact hr2 hx2
    | loadL agg n a =>
      rw [hop] at hx2
      simp only [Bool.not_eq_true'] at hx2
      simp [St.upd, normA, hx2]
    | _ => rw [hop] at hx2; cases hx2
  show reOne c (st.upd o.dst (normA o r.1)) r.2 x = true ↔ _
  rw [this]

def SwapOK (c : Ctx) (rec : Rec) (x w : AOper) : Prop := ∀ (st : St) (h : Heap) (Q : St × Heap → Prop), Closed Q →
  ((doOper c rec st x h).bind fun r => doOper c rec r.1 w r.2).Sat Q → ((doOper c rec st w h).bind fun r => doOper c rec r.1 x r.2).Sat Q

theorem ND.sat_ex {α : Type} {p : Prop} : ∀ {x : ND α}, (x.Sat fun _ => p) → p
  | .fail, h => h.elim
  | .ret _, h => h
  | .pick _ _, h => ND.sat_ex (h.2 0 h.1)

theorem swap_re {x w : DOp} {Q : St × Heap → Prop} (hw : SwapOK c rec x.1 w.1) (h1 : noTouch x.1 w.2 = true) (h2 : noTouch w.1 x.2 = true) (hQ : Closed Q)
    (hs : ((doD c rec st x h).bind fun r => doD c rec r.1 w r.2).Sat Q) : ((doD c rec st w h).bind fun r => doD c rec r.1 x r.2).Sat Q := by
  rw [ND.sat_bind, doD_sat] at hs ⊢
  have a1 : ((doOper c rec st x.1 h).bind fun r => doOper c rec r.1 w.1 r.2).Sat fun q => reOK c q.1 q.2 x.2 = true ∧ (reOK c q.1 q.2 w.2 = true ∧ Q q) := by
    rw [ND.sat_bind]
    refine ND.Sat.mono (fun q hq => ?_) hs
    obtain ⟨hq1, hq2⟩ := hq
    have := noTouch_keeps h2 (doD_sat.1 hq2)
    exact ND.Sat.mono (fun p hp => ⟨hp.2.trans hq1, hp.1⟩) this
  have a2 := hw st h _ (closed_re (closed_re hQ w.2) x.2) a1
  rw [ND.sat_bind] at a2
  refine ND.Sat.mono (fun q hq => ?_) a2
  have a3 := noTouch_keeps h1 hq
  refine ⟨ND.sat_ex (ND.Sat.mono (fun p hp => ?_) a3), doD_sat.2 (ND.Sat.mono (fun p hp => ⟨hp.1.1, hp.1.2.2⟩) a3)⟩
  rw [← hp.2]; exact hp.1.2.1

/-! ### Loads -/

def isLoad (x : AOper) : Bool := (match x.op with | .load .. => true | .loadL .. => true | _ => false) && x.guard.isNone && !x.frz

theorem load_form {x : AOper} (hl : isLoad x = true) (st : St) (h : Heap) : doOper c rec st x h = match loadV c st h x.op with
    | some v => .ret (st.upd x.dst ⟨v, none, none⟩, h)
    | none => .fail := by
  simp only [isLoad, Bool.and_eq_true, Bool.not_eq_true'] at hl
  obtain ⟨⟨h1, h2⟩, h3⟩ := hl
  have hg : x.guard = none := by simpa using h2
  rw [doOper_act]
  unfold act
  rw [hg]
  dsimp only
  cases hop : x.op with
  | load agg n a =>
    rw [goAct_ne (fun f args ho => by rw [hop] at ho; cases ho), hop]
    simp only [doOp, loadV]
    cases loadAt agg n h (Opd.eval c.gl st.env a).clean with
    | none => rfl
    | some v => simp only [out, ND.bind, afterAct, h3, cond_false]
  | loadL agg n a =>
    rw [goAct_ne (fun f args ho => by rw [hop] at ho; cases ho), hop]
    simp only [doOp, loadV]
    cases Opd.eval c.gl st.env a with
    | lptr i off =>
      dsimp only
      cases boxGet st.loc.boxes i with
      | none => rfl
      | some cs =>
        dsimp only
        split
        · cases mkVal agg n (cs.drop off) with
          | none => rfl
          | some v => simp only [out, ND.bind, afterAct, h3, cond_false]
        · rfl
    | _ => rfl
  | _ => rw [hop] at h1; cases h1

theorem upd_swap {x w : AOper} {v : AV} {r : ARet} (hd : dstNe x.dst w.dst = true) : StEq ((st.upd x.dst ⟨v, none, none⟩).upd w.dst r) ((st.upd w.dst r).upd x.dst ⟨v, none, none⟩) :=
  ⟨fun s => upd_env_comm hd s, .refl _, rfl⟩

/-- A load that is done again behind an operation: it may aS well be done behind it alone. -/
theorem reload {x w : AOper} {d : Nat} {rs : List (Nat × AOp)} {Q : St × Heap → Prop} (hl : isLoad x = true) (hx : x.dst = some d)
    (h1 : disj x.dst (readsOf w) = true) (h2 : dstNe x.dst w.dst = true) (h3 : disj x.dst (slotsOf (opnds x.op)) = true)
    (h4 : ∀ r ∈ rs, d ∉ reSlots r) (hQ : Closed Q)
    (hs : ((doD c rec st (x, []) h).bind fun r => doD c rec r.1 (w, (d, x.op) :: rs) r.2).Sat Q) :
    ((doD c rec st (w, rs) h).bind fun r => doD c rec r.1 (x, []) r.2).Sat Q := by
  rw [ND.sat_bind, doD_sat] at hs ⊢
  dsimp only at hs ⊢
  rw [load_form hl] at hs
  cases hv : loadV c st h x.op with
  | none => rw [hv] at hs; exact hs.elim
  | some v =>
    rw [hv] at hs
    have hs2 := (show (_ ∧ _) from hs).2
    dsimp only at hs2
    rw [doD_sat, doOper_act, ND.sat_bind] at hs2
    rw [doOper_act, ND.sat_bind]
    have hact : act c rec (st.upd x.dst ⟨v, none, none⟩).env (st.upd x.dst ⟨v, none, none⟩).loc w h = act c rec st.env st.loc w h :=
      act_congr fun s hs => put_get_ne fun y hy hys => disj_spec h1 y hy (hys ▸ hs)
    rw [hact] at hs2
    refine ND.Sat.mono (fun r hr => ?_) hs2
    obtain ⟨hr1, hr2⟩ := hr
    have hslot : ∀ s, s ≠ d → ((st.upd x.dst ⟨v, none, none⟩).upd w.dst r.1).env.get s = (st.upd w.dst r.1).env.get s := by
      intro s hsd
      rw [(upd_swap (x := x) (w := w) (v := v) (r := r.1) h2).env s]
      exact put_get_ne fun y hy => by rw [hx] at hy; cases hy; exact fun h => hsd h.symm
    have hd : ((st.upd x.dst ⟨v, none, none⟩).upd w.dst r.1).env.get d = v := by
      rw [(upd_swap (x := x) (w := w) (v := v) (r := r.1) h2).env d]
      show (Env.put _ x.dst v).get d = v
      rw [hx, Env.get_put, if_pos rfl]
    simp only [reOK, Bool.and_eq_true] at hr1
    obtain ⟨hr3, hr4⟩ := hr1
    dsimp only at hr3 hr4 hr2
    have hload : loadV c ((st.upd x.dst ⟨v, none, none⟩).upd w.dst r.1) r.2 x.op = loadV c (st.upd w.dst r.1) r.2 x.op :=
      loadV_congr (fun s hs => hslot s fun hsd => disj_spec h3 d hx (hsd ▸ hs)) fun i => rfl
    rw [hload, hd] at hr3
    constructor
    · show reOK c (st.upd w.dst r.1) r.2 rs = true
      rw [← hr4]
      exact reOK_congr (fun q hq s hs => (hslot s fun hsd => h4 q hq (hsd ▸ hs)).symm) fun i => rfl
    · rw [doD_sat]
      dsimp only
      rw [load_form hl]
      cases hv2 : loadV c (st.upd w.dst r.1) r.2 x.op with
      | none => rw [hv2] at hr3; cases hr3
      | some v2 =>
        rw [hv2] at hr3
        have := AV.same_eq hr3
        subst this
        exact ⟨rfl, hQ.use (upd_swap h2) hr2⟩

/-- A local variable read ahead of a new box. -/
def loadAlloc (x w : AOper) : Bool :=
  isLoad x && (match x.op with | .loadL .. => true | _ => false) && (allocK w.op).isSome && !w.frz && disj x.dst (readsOf w) && disj w.dst (readsOf x) && dstNe x.dst w.dst

theorem swap_loadAlloc {x w : AOper} (hi : loadAlloc x w = true) : SwapOK c rec x w := by
  intro st h Q hQ hs
  simp only [loadAlloc, Bool.and_eq_true, Bool.not_eq_true'] at hi
  obtain ⟨⟨⟨⟨⟨⟨hl, hop⟩, hk⟩, hf⟩, d1⟩, d2⟩, d3⟩ := hi
  obtain ⟨k, hk⟩ := Option.isSome_iff_exists.1 hk
  obtain ⟨b, hb⟩ := act_alloc (c := c) (rec := rec) (e := st.env) hk hf
  rw [ND.sat_bind] at hs ⊢
  rw [load_form hl] at hs
  cases hv : loadV c st h x.op with
  | none => rw [hv] at hs; exact hs.elim
  | some v =>
    rw [hv] at hs
    replace hs : (doOper c rec (st.upd x.dst ⟨v, none, none⟩) w h).Sat Q := hs
    rw [doOper_act, ND.sat_bind] at hs ⊢
    have hact : act c rec (st.upd x.dst ⟨v, none, none⟩).env (st.upd x.dst ⟨v, none, none⟩).loc w h = act c rec st.env st.loc w h :=
      act_congr fun s hs => put_get_ne fun y hy hys => disj_spec d1 y hy (hys ▸ hs)
    rw [hact] at hs
    have hrd : ∀ s ∈ slotsOf (opnds x.op), ∀ r, (st.upd w.dst r).env.get s = st.env.get s := fun s hs r =>
      put_get_ne fun y hy hys => disj_spec d2 y hy (hys ▸ List.mem_append_right _ hs)
    rw [hb] at hs ⊢
    cases b with
    | none => exact hs.elim
    | some b =>
      cases b with
      | none =>
        have hs : Q ((st.upd x.dst ⟨v, none, none⟩).upd w.dst ⟨.tuple [], none, none⟩, h) := hs
        show (doOper c rec (st.upd w.dst ⟨.tuple [], none, none⟩) x h).Sat Q
        rw [load_form hl, show loadV c (st.upd w.dst ⟨.tuple [], none, none⟩) h x.op = some v from by rw [← hv]; exact loadV_congr (fun s hs => hrd s hs _) fun i => rfl]
        exact hQ.use (upd_swap d3) hs
      | some cs =>
        simp only [allocND] at hs ⊢
        split at hs
        · next hfree =>
          rw [if_pos hfree]
          have hs : Q ((st.upd x.dst ⟨v, none, none⟩).upd w.dst ⟨.lptr (st.loc.id k) 0, some (st.loc.add k cs), none⟩, h) := hs
          show (doOper c rec (st.upd w.dst ⟨.lptr (st.loc.id k) 0, some (st.loc.add k cs), none⟩) x h).Sat Q
          have hnone : boxGet st.loc.boxes (st.loc.id k) = none := by
            simp only [Loc.free, Bool.and_eq_true] at hfree
            cases hg : boxGet st.loc.boxes (st.loc.id k) with
            | none => rfl
            | some y => rw [hg] at hfree; cases hfree.2
          have hlv : loadV c (st.upd w.dst ⟨.lptr (st.loc.id k) 0, some (st.loc.add k cs), none⟩) h x.op = some v := by
            cases hxo : x.op with
            | loadL agg n a =>
              rw [hxo] at hv hrd
              have he : Opd.eval c.gl (st.upd w.dst ⟨.lptr (st.loc.id k) 0, some (st.loc.add k cs), none⟩).env a = Opd.eval c.gl st.env a :=
                eval_slots (xs := [a]) (fun s hs => hrd s hs _) a (List.mem_singleton.2 rfl)
              simp only [loadV, he] at hv ⊢
              cases hev : Opd.eval c.gl st.env a with
              | lptr i off =>
                rw [hev] at hv
                dsimp only at hv ⊢
                have hi : boxGet (st.upd w.dst ⟨.lptr (st.loc.id k) 0, some (st.loc.add k cs), none⟩).loc.boxes i = boxGet st.loc.boxes i := by
                  show boxGet ((st.loc.id k, cs) :: st.loc.boxes) i = _
                  rw [boxGet_cons]
                  split
                  · next hki => subst hki; rw [hnone] at hv; cases hv
                  · rfl
                rw [hi]; exact hv
              | _ => rw [hev] at hv; cases hv
            | _ => rw [hxo] at hop; cases hop
          rw [load_form hl, hlv]
          exact hQ.use (upd_swap d3) hs
        · exact hs.elim

end
end Go.Proofs.YtjbkcboklccmeaaGreatDoor.Abs
/-
  A list of operations in another order.
-/
namespace Go.Proofs.YtjbkcboklccmeaaGreatDoor.Abs

def loadEq : AOp → AOp → Bool
  | .load a n x, .load a' n' x' => (a == a') && Nat.beq n n' && opdEq x x'
  | .loadL a n x, .loadL a' n' x' => (a == a') && Nat.beq n n' && opdEq x x'
  | _, _ => false

theorem loadEq_eq {a b : AOp} (h : loadEq a b = true) : a = b := by
  unfold loadEq at h
  split at h
  · simp only [Bool.and_eq_true] at h
    rw [eq_of_beq h.1.1, Nat.eq_of_beq_eq_true h.1.2, opdEq_eq h.2]
  · simp only [Bool.and_eq_true] at h
    rw [eq_of_beq h.1.1, Nat.eq_of_beq_eq_true h.1.2, opdEq_eq h.2]
  · cases h

/-- Which operation of the list gives a slot. -/
def posOf (os : List DOp) (d : Nat) : Nat := os.findIdx fun x => match x.1.dst with | some e => Nat.beq e d | none => false

def reloadCk (pos : Nat → Nat) (i : Nat) (x w : DOp) : Bool :=
  x.2.isEmpty && isLoad x.1 && (match x.1.dst with
    | some d => Nat.beq (pos d) i && w.2.any (fun r => Nat.beq r.1 d && loadEq r.2 x.1.op) && w.2.all (fun r => !(Nat.blt (pos r.1) i) || disj (some d) (reSlots r))
    | none => false) && disj x.1.dst (readsOf w.1) && dstNe x.1.dst w.1.dst && disj x.1.dst (slotsOf (opnds x.1.op))

def swapCk (x w : AOper) : Bool := indep x w || allocPair x w || loadAlloc x w

def pairCk (pos : Nat → Nat) (i : Nat) (x w : DOp) : Bool :=
  (swapCk x.1 w.1 && noTouch x.1 (w.2.filter fun r => Nat.blt (pos r.1) i) && noTouch w.1 x.2) || reloadCk pos i x w

section
variable {c : Ctx} {rec : Rec} {st st' : St} {h : Heap} {Q : St × Heap → Prop} {os : List DOp}

theorem swapCk_ok {x w : AOper} (hi : swapCk x w = true) : SwapOK c rec x w := by
  simp only [swapCk, Bool.or_eq_true] at hi
  rcases hi with (hi | hi) | hi
  · exact fun st h Q hQ hs => swap_oper hi hQ hs
  · exact fun st h Q hQ hs => swap_alloc hi hQ hs
  · exact swap_loadAlloc hi

theorem noTouch_sub {o : AOper} {rs rs' : List (Nat × AOp)} (hs : ∀ r ∈ rs', r ∈ rs) (hn : noTouch o rs = true) : noTouch o rs' = true :=
  List.all_eq_true.2 fun r hr => List.all_eq_true.1 hn r (hs r hr)

/-- An operation behind another, with those loads done again that come of the places of a list. -/
def among (pos : Nat → Nat) (S : List Nat) (w : DOp) : DOp := (w.1, w.2.filter fun r => S.any (Nat.beq (pos r.1)))

theorem mem_among {pos : Nat → Nat} {S : List Nat} {w : DOp} {r : Nat × AOp} : r ∈ (among pos S w).2 ↔ r ∈ w.2 ∧ pos r.1 ∈ S := by
  simp only [among, List.mem_filter, List.any_eq_true, Nat.beq_eq]
  constructor
  · rintro ⟨h1, x, h2, h3⟩; exact ⟨h1, by rw [h3]; exact h2⟩
  · rintro ⟨h1, h2⟩; exact ⟨h1, _, h2, rfl⟩

/-- A list with fewer loads done again. -/
inductive Fewer : List DOp → List DOp → Prop
  | nil : Fewer [] []
  | cons {x y : DOp} {xs ys : List DOp} (h : x.1 = y.1) (hs : ∀ r ∈ y.2, r ∈ x.2) (t : Fewer xs ys) : Fewer (x :: xs) (y :: ys)

theorem Fewer.refl : ∀ xs : List DOp, Fewer xs xs
  | [] => .nil
  | x :: xs => .cons rfl (fun _ h => h) (Fewer.refl xs)

theorem Fewer.append {a b c d : List DOp} (h : Fewer a b) (h' : Fewer c d) : Fewer (a ++ c) (b ++ d) := by
  induction h with
  | nil => exact h'
  | cons h1 h2 _ ih => exact .cons h1 h2 ih

theorem Fewer.map {f g : Nat → DOp} (h1 : ∀ i, (f i).1 = (g i).1) : ∀ {l : List Nat}, (∀ i ∈ l, ∀ r ∈ (g i).2, r ∈ (f i).2) → Fewer (l.map f) (l.map g)
  | [], _ => .nil
  | i :: l, h2 => .cons (h1 i) (h2 i List.mem_cons_self) (Fewer.map h1 fun j hj => h2 j (List.mem_cons_of_mem _ hj))

theorem Fewer.sat {a b : List DOp} (hf : Fewer a b) : ∀ {st : St} {h : Heap}, (doDs c rec a st h).Sat Q → (doDs c rec b st h).Sat Q := by
  induction hf with
  | nil => exact fun h => h
  | cons h1 h2 _ ih =>
    rename_i x y xs ys _
    intro st h hs
    simp only [doDs, ND.sat_bind] at hs ⊢
    obtain ⟨x1, x2⟩ := x
    obtain ⟨y1, y2⟩ := y
    dsimp only at h1
    subst h1
    exact doD_sub h2 (ND.Sat.mono (fun q hq => ih hq) hs)

theorem doDs_append : ∀ {a b : List DOp} {st : St} {h : Heap}, (doDs c rec (a ++ b) st h).Sat Q ↔ (doDs c rec a st h).Sat fun q => (doDs c rec b q.1 q.2).Sat Q
  | [], b, st, h => Iff.rfl
  | x :: a, b, st, h => by
    simp only [List.cons_append, doDs, ND.sat_bind]
    have e : (fun q : St × Heap => (doDs c rec (a ++ b) q.1 q.2).Sat Q) = fun q => (doDs c rec a q.1 q.2).Sat fun q => (doDs c rec b q.1 q.2).Sat Q := by
      funext q
      exact propext doDs_append
    rw [e]

theorem closed_doDs (hQ : Closed Q) (l : List DOp) : Closed fun q => (doDs c rec l q.1 q.2).Sat Q := by
  intro a b hab hq
  obtain ⟨h1, h2⟩ := hab
  rw [← h2]
  exact (doDs_eq h1).sat hQ hq

/-- Two neighbours change places. -/
theorem swap_pair {pos : Nat → Nat} {P Z : List Nat} {a : Nat} {x w : DOp} (hp : pairCk pos a x w = true) (hP : ∀ p ∈ P, p < a) (hQ : Closed Q)
    (hs : ((doD c rec st (among pos Z x) h).bind fun r => doD c rec r.1 (among pos (P ++ [a]) w) r.2).Sat Q) :
    ((doD c rec st (among pos P w) h).bind fun r => doD c rec r.1 (among pos Z x) r.2).Sat Q := by
  simp only [pairCk, Bool.or_eq_true, Bool.and_eq_true] at hp
  rcases hp with ⟨⟨h1, h2⟩, h3⟩ | hp
  · refine swap_re (swapCk_ok h1) (noTouch_sub (fun r hr => ?_) h2) (noTouch_sub (fun r hr => (mem_among.1 hr).1) h3) hQ ?_
    · obtain ⟨m1, m2⟩ := mem_among.1 hr
      exact List.mem_filter.2 ⟨m1, by simpa [Nat.blt_eq] using hP _ m2⟩
    · rw [ND.sat_bind] at hs ⊢
      exact ND.Sat.mono (fun q hq => doD_sub (fun r hr => mem_among.2 ⟨(mem_among.1 hr).1, List.mem_append_left _ (mem_among.1 hr).2⟩) hq) hs
  · simp only [reloadCk, Bool.and_eq_true] at hp
    obtain ⟨⟨⟨⟨⟨h0, h1⟩, h2⟩, h3⟩, h4⟩, h5⟩ := hp
    split at h2
    · next d hd =>
      simp only [Bool.and_eq_true] at h2
      obtain ⟨⟨q1, q2⟩, q3⟩ := h2
      have q1 := Nat.eq_of_beq_eq_true q1
      obtain ⟨r0, hr0, hr1⟩ := List.any_eq_true.1 q2
      simp only [Bool.and_eq_true] at hr1
      have e1 := Nat.eq_of_beq_eq_true hr1.1
      have e2 := loadEq_eq hr1.2
      have hx2 : x.2 = [] := List.isEmpty_iff.1 h0
      have hxa : among pos Z x = (x.1, []) := by unfold among; rw [hx2]; rfl
      rw [hxa] at hs ⊢
      refine reload h1 hd h3 h4 h5 (fun r hr hm => ?_) hQ ?_
      · obtain ⟨m1, m2⟩ := mem_among.1 hr
        have := List.all_eq_true.1 q3 r m1
        simp only [Bool.or_eq_true, Bool.not_eq_true'] at this
        rcases this with hh | hh
        · have h' : Nat.blt (pos r.1) a = true := by rw [Nat.blt_eq]; exact hP _ m2
          rw [h'] at hh; cases hh
        · exact disj_spec hh d rfl hm
      · rw [ND.sat_bind] at hs ⊢
        refine ND.Sat.mono (fun q hq => doD_sub (fun r hr => ?_) hq) hs
        rcases List.mem_cons.1 hr with rfl | hr
        · refine mem_among.2 ⟨?_, List.mem_append_right _ (List.mem_singleton.2 q1)⟩
          rw [← e1, ← e2]; exact hr0
        · exact mem_among.2 ⟨(mem_among.1 hr).1, List.mem_append_left _ (mem_among.1 hr).2⟩
    · cases h2

/-- An operation goes to the front, past those that it does not hang on. -/
theorem bubble {pos : Nat → Nat} {at_ : Nat → DOp} {Z : List Nat} {w : DOp} : ∀ {A P : List Nat} {st : St} {h : Heap} {Q : St × Heap → Prop},
    (∀ a ∈ A, pairCk pos a (at_ a) w = true) → (P ++ A).Pairwise (· < ·) → Closed Q →
    (doDs c rec (A.map (fun a => among pos Z (at_ a)) ++ [among pos (P ++ A) w]) st h).Sat Q →
    (doDs c rec (among pos P w :: A.map fun a => among pos Z (at_ a)) st h).Sat Q
  | [], P, st, h, Q, _, _, _, hs => by simpa using hs
  | a :: A, P, st, h, Q, hp, hw, hQ, hs => by
    have e : P ++ a :: A = (P ++ [a]) ++ A := by simp
    rw [e] at hs hw
    simp only [List.map_cons, List.cons_append, doDs, ND.sat_bind] at hs ⊢
    have h1 : (doD c rec st (among pos Z (at_ a)) h).Sat fun q => (doDs c rec (among pos (P ++ [a]) w :: A.map fun a => among pos Z (at_ a)) q.1 q.2).Sat Q :=
      ND.Sat.mono (fun q hq => bubble (fun b hb => hp b (List.mem_cons_of_mem _ hb)) hw hQ hq) hs
    simp only [doDs, ND.sat_bind] at h1
    have hPa : ∀ p ∈ P, p < a := fun p hm => by
      rw [List.append_assoc] at hw
      exact (List.pairwise_append.1 hw).2.2 p hm a (by simp)
    have h2 := swap_pair (st := st) (h := h) (Z := Z) (hp a List.mem_cons_self) hPa (closed_doDs hQ (A.map fun a => among pos Z (at_ a))) (by rw [ND.sat_bind]; exact h1)
    rw [ND.sat_bind] at h2
    exact h2

theorem among_nil {pos : Nat → Nat} {w : DOp} : among pos [] w = (w.1, []) := by
  have : (w.2.filter fun r => ([] : List Nat).any (Nat.beq (pos r.1))) = [] := by
    rw [List.filter_eq_nil_iff]; intro r _; simp
  unfold among
  rw [this]

theorem doD_nil {o : AOper} : (doD c rec st (o, []) h).Sat Q ↔ (doOper c rec st o h).Sat Q := by
  rw [doD_sat]
  simp [reOK]

/-- Any of a list's operations may be the first, if none of those ahead of it must be. -/
theorem pull {pos : Nat → Nat} {at_ : Nat → DOp} {A B : List Nat} {i : Nat} (hp : ∀ a ∈ A, pairCk pos a (at_ a) (at_ i) = true) (hA : A.Pairwise (· < ·)) (hQ : Closed Q)
    (hs : (doDs c rec ((A ++ i :: B).map fun a => among pos (A ++ i :: B) (at_ a)) st h).Sat Q) :
    (doOper c rec st (at_ i).1 h).Sat fun q => (doDs c rec ((A ++ B).map fun a => among pos (A ++ B) (at_ a)) q.1 q.2).Sat Q := by
  have sub : ∀ a, ∀ r ∈ (among pos (A ++ B) (at_ a)).2, r ∈ (among pos (A ++ i :: B) (at_ a)).2 := fun a r hr => by
    obtain ⟨m1, m2⟩ := mem_among.1 hr
    refine mem_among.2 ⟨m1, ?_⟩
    simp only [List.mem_append, List.mem_cons] at m2 ⊢
    rcases m2 with m | m
    · exact .inl m
    · exact .inr (.inr m)
  have f1 : Fewer ((A ++ i :: B).map fun a => among pos (A ++ i :: B) (at_ a))
      ((A.map (fun a => among pos (A ++ B) (at_ a)) ++ [among pos ([] ++ A) (at_ i)]) ++ B.map fun a => among pos (A ++ B) (at_ a)) := by
    rw [List.map_append, List.map_cons, List.append_assoc]
    have fm : ∀ l : List Nat, Fewer (l.map fun a => among pos (A ++ i :: B) (at_ a)) (l.map fun a => among pos (A ++ B) (at_ a)) := fun l =>
      Fewer.map (f := fun a => among pos (A ++ i :: B) (at_ a)) (g := fun a => among pos (A ++ B) (at_ a)) (fun _ => rfl) fun a _ => sub a
    refine (fm A).append (.cons rfl (fun r hr => ?_) (fm B))
    obtain ⟨m1, m2⟩ := mem_among.1 hr
    exact mem_among.2 ⟨m1, List.mem_append_left _ m2⟩
  have s1 := doDs_append.1 (f1.sat hs)
  have s2 := bubble (P := []) hp hA (closed_doDs hQ _) s1
  rw [among_nil] at s2
  simp only [doDs, ND.sat_bind] at s2
  refine ND.Sat.mono (fun q hq => ?_) (doD_nil.1 s2)
  rw [List.map_append]
  exact doDs_append.2 hq

end
end Go.Proofs.YtjbkcboklccmeaaGreatDoor.Abs
/-
  A region that draws its order is carried out aS its text says.
-/
namespace Go.Proofs.YtjbkcboklccmeaaGreatDoor.Abs

/-- The places that an operation waits for. -/
def waitsOf (o : Oper) : List Nat := (o.after.toList.filter fun e => Region.binds .any e).map (·.on)

def maskOf (masks : List Nat) : List Nat → Nat
  | [] => 0
  | k :: ks => Nat.lor (Nat.lor (Nat.pow 2 k) (masks.getD k 0)) (maskOf masks ks)

def mkMasks (ws : List (List Nat)) (acc : List Nat) : List Nat :=
  match ws with
  | [] => acc
  | w :: ws => mkMasks ws (acc ++ [maskOf acc w])

def inMask (m a : Nat) : Bool := Nat.testBit m a

/-- The masks are what they should be; what is waited for comes ahead. -/
def masksCk (masks : List Nat) : Nat → List (List Nat) → Bool
  | _, [] => true
  | j, w :: ws => Nat.beq (masks.getD j 0) (maskOf masks w) && w.all (fun k => Nat.blt k j) && masksCk masks (j + 1) ws

def rowCk (pos : Nat → Nat) (mask : Nat) (w : DOp) : Nat → List DOp → Bool
  | _, [] => true
  | i, x :: xs => (inMask mask i || pairCk pos i x w) && rowCk pos mask w (i + 1) xs

def rowsCk (os : List DOp) (pos : Nat → Nat) (masks : List Nat) : Nat → List DOp → Bool
  | _, [] => true
  | j, w :: ws => rowCk pos (masks.getD j 0) w 0 (os.take j) && rowsCk os pos masks (j + 1) ws

def orderCk (ops : Array Oper) (os : List DOp) : Bool :=
  let ws := ops.toList.map waitsOf
  let masks := mkMasks ws []
  masksCk masks 0 ws && rowsCk os (posOf os) masks 0 os

def drawCk (E : CkEnv) : DrawCk := fun N rd ops os _ => ckOps E N rd ops (List.range ops.size) (os.map (·.1)) && orderCk ops os

theorem maskOf_spec {masks : List Nat} {a : Nat} : ∀ {ks : List Nat}, inMask (maskOf masks ks) a = true → ∃ k ∈ ks, k = a ∨ inMask (masks.getD k 0) a = true
  | [], h => by simp [maskOf, inMask] at h
  | k :: ks, h => by
    have e : maskOf masks (k :: ks) = (2 ^ k ||| masks.getD k 0) ||| maskOf masks ks := rfl
    simp only [inMask, e, Nat.testBit_or, Bool.or_eq_true] at h
    rcases h with (h | h) | h
    · rw [Nat.testBit_two_pow] at h
      exact ⟨k, List.mem_cons_self, .inl (of_decide_eq_true h)⟩
    · exact ⟨k, List.mem_cons_self, .inr h⟩
    · obtain ⟨k', h1, h2⟩ := maskOf_spec h
      exact ⟨k', List.mem_cons_of_mem _ h1, h2⟩

theorem masksCk_spec {masks : List Nat} : ∀ {ws : List (List Nat)} {j0 : Nat}, masksCk masks j0 ws = true → ∀ j w, ws[j]? = some w → masks.getD (j0 + j) 0 = maskOf masks w ∧ ∀ k ∈ w, k < j0 + j
  | [], j0, _, j, w, hw => by simp at hw
  | w :: ws, j0, h, j, w', hw => by
    simp only [masksCk, Bool.and_eq_true] at h
    obtain ⟨⟨h1, h2⟩, h3⟩ := h
    cases j with
    | zero =>
      simp only [List.getElem?_cons_zero, Option.some.injEq] at hw
      subst hw
      refine ⟨Nat.eq_of_beq_eq_true h1, fun k hk => ?_⟩
      have := List.all_eq_true.1 h2 k hk
      rw [Nat.blt_eq] at this
      exact this
    | succ j =>
      simp only [List.getElem?_cons_succ] at hw
      have := masksCk_spec h3 j w' hw
      rw [show j0 + (j + 1) = j0 + 1 + j by omega]
      exact this

theorem rowCk_spec {pos : Nat → Nat} {mask : Nat} {w : DOp} : ∀ {xs : List DOp} {i0 : Nat}, rowCk pos mask w i0 xs = true → ∀ i x, xs[i]? = some x → inMask mask (i0 + i) = true ∨ pairCk pos (i0 + i) x w = true
  | [], i0, _, i, x, hx => by simp at hx
  | y :: xs, i0, h, i, x, hx => by
    simp only [rowCk, Bool.and_eq_true, Bool.or_eq_true] at h
    cases i with
    | zero =>
      simp only [List.getElem?_cons_zero, Option.some.injEq] at hx
      subst hx
      exact h.1
    | succ i =>
      simp only [List.getElem?_cons_succ] at hx
      have := rowCk_spec h.2 i x hx
      rw [show i0 + (i + 1) = i0 + 1 + i by omega]
      exact this

theorem rowsCk_spec {os : List DOp} {pos : Nat → Nat} {masks : List Nat} : ∀ {ws : List DOp} {j0 : Nat}, rowsCk os pos masks j0 ws = true → ∀ j w, ws[j]? = some w → ∀ i x, i < j0 + j → os[i]? = some x → inMask (masks.getD (j0 + j) 0) i = true ∨ pairCk pos i x w = true
  | [], j0, _, j, w, hw => by simp at hw
  | y :: ws, j0, h, j, w, hw => by
    simp only [rowsCk, Bool.and_eq_true] at h
    cases j with
    | zero =>
      simp only [List.getElem?_cons_zero, Option.some.injEq] at hw
      subst hw
      intro i x hi hx
      have := rowCk_spec h.1 i x (by rw [List.getElem?_take]; simp only [Nat.add_zero] at hi; simp [hi, hx])
      simpa using this
    | succ j =>
      simp only [List.getElem?_cons_succ] at hw
      have := rowsCk_spec h.2 j w hw
      rw [show j0 + (j + 1) = j0 + 1 + j by omega]
      exact this

theorem ckOps_length {E : CkEnv} {N : Nat} {rd : Bool} {ops : Array Oper} : ∀ {l : List Nat} {aos : List AOper}, ckOps E N rd ops l aos = true → l.length = aos.length
  | [], [], _ => rfl
  | [], _ :: _, h => by simp [ckOps] at h
  | _ :: _, [], h => by simp [ckOps] at h
  | i :: l, a :: aos, h => by
    simp only [ckOps, Bool.and_eq_true] at h
    simp [ckOps_length h.2]

theorem ckOps_at {E : CkEnv} {N : Nat} {rd : Bool} {ops : Array Oper} : ∀ {l : List Nat} {aos : List AOper}, ckOps E N rd ops l aos = true → ∀ (j i : Nat) (ao : AOper), l[j]? = some i → aos[j]? = some ao → ∃ o, ops[i]? = some o ∧ ckOper E N rd ops o ao = true
  | [], _, _, j, i, ao, hi, _ => by simp at hi
  | _ :: _, [], h, _, _, _, _, _ => by simp [ckOps] at h
  | i :: l, a :: aos, h, j, i', ao, hi, ha => by
    simp only [ckOps, Bool.and_eq_true] at h
    cases j with
    | zero =>
      simp only [List.getElem?_cons_zero, Option.some.injEq] at hi ha
      subst hi ha
      split at h
      · next o ho => exact ⟨o, ho, h.1⟩
      · exact absurd h.1 (by simp)
    | succ j =>
      simp only [List.getElem?_cons_succ] at hi ha
      exact ckOps_at h.2 j i' ao hi ha

section
variable {E : CkEnv} {K : Reads} {c : Ctx} {rec : Rec}

theorem draw_ok (hm : E.P.follows .mixedOrders = true) (g : Good E K c rec) : DrawOK E (drawCk E) K c rec := by
  intro N r ops os live G0 h0 w0 G h β st a w Q Qx hrd hck s hg0 hs hK t
  simp only [drawCk, orderCk, Bool.and_eq_true] at hck
  obtain ⟨hops, hmask, hrows⟩ := hck
  have hlen : os.length = ops.size := by
    have := ckOps_length hops
    simpa using this.symm
  simp only [Region.schedule, hm, Bool.true_or, if_true]
  refine wpAnyIn_sound ops.size t _ a _ ?_
  generalize hmk : mkMasks (ops.toList.map waitsOf) [] = masks at hmask hrows
  generalize hpos : posOf os = pos at hrows
  generalize hat : (fun i => os.getD i default) = at_
  have hatE : ∀ i, i < ops.size → os[i]? = some (at_ i) := by
    intro i hi
    rw [← hat]
    have : i < os.length := by rw [hlen]; exact hi
    simp [List.getD, this]
  -- what each operation waits for
  have hwait : ∀ i o, ops[i]? = some o → ∀ b, inMask (masks.getD i 0) b = true → ∃ e ∈ o.after, Region.binds .any e = true ∧ (e.on = b ∨ inMask (masks.getD e.on 0) b = true) := by
    intro i o ho b hb
    have hw := (masksCk_spec hmask i (waitsOf o) (by rw [List.getElem?_map]; simp [ho])).1
    rw [Nat.zero_add] at hw
    rw [hw] at hb
    obtain ⟨k, hk, hkb⟩ := maskOf_spec hb
    simp only [waitsOf, List.mem_map, List.mem_filter] at hk
    obtain ⟨e, ⟨he1, he2⟩, he3⟩ := hk
    exact ⟨e, Array.mem_toList_iff.1 he1, he2, by rw [he3]; exact hkb⟩
  have hbelow : ∀ i o, ops[i]? = some o → ∀ e ∈ o.after, Region.binds .any e = true → e.on < i := by
    intro i o ho e he hb
    have hw := (masksCk_spec hmask i (waitsOf o) (by rw [List.getElem?_map]; simp [ho])).2
    rw [Nat.zero_add] at hw
    exact hw e.on (List.mem_map.2 ⟨e, List.mem_filter.2 ⟨Array.mem_toList_iff.2 he, hb⟩, rfl⟩)
  have hQc : Closed fun q : St × Heap => Q (q.1.keep live, q.2) := by
    intro x y hxy hq
    obtain ⟨h1, h2⟩ := hxy
    rw [← h1.keep, ← h2]; exact hq
  -- the walk
  have walk : ∀ (fuel : Nat) (L : Array Bool) (R : List Nat) (G : Ghost) (h : Heap) (β : Nat → Option Nat) (st : St) (a : Act) (w : World),
      SRel K N G0 h0 w0 G h β st a w → R.Pairwise (· < ·) → (∀ i, i ∈ R ↔ i < ops.size ∧ L.getD i true = false) →
      (∀ k, L.getD k false = true → ∀ b, inMask (masks.getD k 0) b = true → L.getD b false = true) → L.size = ops.size → R.length ≤ fuel →
      (doDs c rec (R.map fun i => among pos R (at_ i)) st h).Sat (fun q => Q (q.1.keep live, q.2)) → wpAnyIn (fence r) 0 E.P .any ops Qx fuel L a w := by
    intro fuel
    -- nothing is ready only if nothing is left
    have hnone : ∀ (L : Array Bool) (R : List Nat), R.Pairwise (· < ·) → (∀ i, i ∈ R ↔ i < ops.size ∧ L.getD i true = false) → L.size = ops.size → Region.ready .any ops L = [] → R = [] := by
      intro L R hRs hR hL hr
      cases R with
      | nil => rfl
      | cons i R =>
        exfalso
        obtain ⟨hi, hu⟩ := (hR i).1 List.mem_cons_self
        obtain ⟨o, ho⟩ : ∃ o, ops[i]? = some o := ⟨ops[i], by simp [hi]⟩
        have : i ∈ Region.ready .any ops L := mem_ready.2 ⟨hu, o, ho, fun e he hb => by
          have hlt := hbelow i o ho e he hb
          cases hle : L.getD e.on false with
          | true => rfl
          | false =>
            have hin : e.on < L.size := by omega
            have : e.on ∈ i :: R := (hR e.on).2 ⟨by omega, by
              rw [Array.getD_eq_getD_getElem?] at hle ⊢
              simp only [hin, Array.getElem?_eq_getElem, Option.getD_some] at hle ⊢
              exact hle⟩
            rcases List.mem_cons.1 this with h' | h'
            · omega
            · have := (List.pairwise_cons.1 hRs).1 _ h'; omega⟩
        rw [hr] at this
        cases this
    induction fuel with
    | zero =>
      intro L R G h β st a w s hRs hR hI hL hf hs
      have hR0 : R = [] := List.length_eq_zero_iff.1 (Nat.le_zero.1 hf)
      subst hR0
      refine ⟨?_, hK _ _ G β _ _ hs (s.keep live)⟩
      cases hr : Region.ready .any ops L with
      | nil => rfl
      | cons i l =>
        have hm : i ∈ Region.ready .any ops L := by rw [hr]; exact List.mem_cons_self
        obtain ⟨h1, o, ho, _⟩ := mem_ready.1 hm
        have := (hR i).2 ⟨(Array.getElem?_eq_some_iff.1 ho).1, h1⟩
        cases this
    | succ fuel ih =>
      intro L R G h β st a w s hRs hR hI hL hf hs
      refine ⟨fun hr => ?_, fun i hi => ?_⟩
      · have := hnone L R hRs hR hL hr
        subst this
        exact hK _ _ G β _ _ hs (s.keep live)
      · obtain ⟨h1, o, ho, hready⟩ := mem_ready.1 hi
        have hin : i < ops.size := (Array.getElem?_eq_some_iff.1 ho).1
        have hiR : i ∈ R := (hR i).2 ⟨hin, h1⟩
        obtain ⟨A, B, rfl⟩ := List.append_of_mem hiR
        have hAi : ∀ x ∈ A, x < i := fun x hx => (List.pairwise_append.1 hRs).2.2 x hx i List.mem_cons_self
        have hclosed : ∀ b, inMask (masks.getD i 0) b = true → L.getD b false = true := by
          intro b hb
          obtain ⟨e, he1, he2, he3⟩ := hwait i o ho b hb
          have hl := hready e he1 he2
          rcases he3 with rfl | he3
          · exact hl
          · exact hI _ hl b he3
        have hpairs : ∀ x ∈ A, pairCk pos x (at_ x) (at_ i) = true := by
          intro x hx
          have hxs := (hR x).1 (List.mem_append_left _ hx)
          have := rowsCk_spec hrows i (at_ i) (hatE i hin) x (at_ x) (by have := hAi x hx; omega) (hatE x hxs.1)
          rw [Nat.zero_add] at this
          rcases this with hh | hh
          · exfalso
            have hl := hclosed x hh
            have hxin : x < L.size := by omega
            have h2 := hxs.2
            rw [Array.getD_eq_getD_getElem?] at hl h2
            simp only [hxin, Array.getElem?_eq_getElem, Option.getD_some] at hl h2
            rw [hl] at h2; cases h2
          · exact hh
        have hp := pull hpairs ((List.pairwise_append.1 hRs).1) hQc hs
        obtain ⟨o', ho', hcko⟩ := ckOps_at hops i i (at_ i).1 (by simp [hin]) (by rw [List.getElem?_map, hatE i hin]; rfl)
        rw [ho] at ho'; cases ho'
        show wpOpIn (fence r) 0 E.P ops Qx i _ a w
        unfold wpOpIn
        simp only [ho]
        refine oper_wp g s (hg0.mono s.ev.le) hrd hcko hp fun st' h' G' β' a' w' hq s' => ?_
        refine ih (L.setIfInBounds i true) (A ++ B) G' h' β' st' a' w' s' ?_ ?_ ?_ (by simp [hL]) ?_ hq
        · have := hRs
          rw [List.pairwise_append] at this ⊢
          refine ⟨this.1, (List.pairwise_cons.1 this.2.1).2, fun x hx y hy => this.2.2 x hx y (List.mem_cons_of_mem _ hy)⟩
        · intro j
          have hnd : i ∉ A ++ B := by
            intro hm
            rcases List.mem_append.1 hm with hm | hm
            · exact absurd (hAi i hm) (Nat.lt_irrefl _)
            · exact absurd ((List.pairwise_cons.1 (List.pairwise_append.1 hRs).2.1).1 i hm) (Nat.lt_irrefl _)
          by_cases hij : i = j
          · subst hij
            refine ⟨fun hm => absurd hm hnd, fun hm => ?_⟩
            exfalso
            have hiL : i < L.size := by omega
            have h2 := hm.2
            rw [Array.getD_eq_getD_getElem?] at h2
            simp [hiL] at h2
          · rw [getD_set_ne true hij]
            have := hR j
            simp only [List.mem_append, List.mem_cons] at this ⊢
            rw [← this]
            constructor
            · rintro (h' | h')
              · exact .inl h'
              · exact .inr (.inr h')
            · rintro (h' | h' | h')
              · exact .inl h'
              · exact absurd h'.symm hij
              · exact .inr h'
        · intro k hk b hb
          by_cases hik : i = k
          · subst hik
            exact getD_set_true (hclosed b hb)
          · rw [getD_set_ne false hik] at hk
            exact getD_set_true (hI k hk b hb)
        · simp only [List.length_append, List.length_cons] at hf ⊢
          omega
  refine walk ops.size _ (List.range ops.size) G h β st a _ s.drew ?_ ?_ ?_ (by simp) (by simp) ?_
  · exact List.pairwise_lt_range
  · intro i
    rw [List.mem_range]
    constructor
    · intro hi; refine ⟨hi, ?_⟩; rw [Array.getD_eq_getD_getElem?]; simp [hi]
    · exact fun h => h.1
  · intro k hk
    exfalso
    rw [Array.getD_eq_getD_getElem?] at hk
    by_cases hkk : k < ops.size
    · simp [hkk] at hk
    · simp [hkk] at hk
  · have hf : Fewer os ((List.range ops.size).map fun i => among pos (List.range ops.size) (at_ i)) := by
      have e : os = (List.range ops.size).map at_ := by
        apply List.ext_getElem?
        intro i
        rw [List.getElem?_map]
        by_cases hi : i < ops.size
        · rw [hatE i hi]; simp [hi]
        · have : os.length ≤ i := by omega
          simp [hi, List.getElem?_eq_none this]
      have hf := Fewer.map (f := at_) (g := fun i => among pos (List.range ops.size) (at_ i)) (l := List.range ops.size) (fun _ => rfl) (fun i _ r hr => (mem_among.1 hr).1)
      rw [← e] at hf
      exact hf
    exact hf.sat hs

end
end Go.Proofs.YtjbkcboklccmeaaGreatDoor.Abs
