/-
  An activation: its temporaries, its local variables' boxes, its deferred calls.
-/
import Derived.Test.YtjbkcboklccmeaaGreatDoorGd
import Derived.RangeFuncLeaves
import Derived.LoopNIn
import Derived.RangeFuncCalls
import Derived.TacticsIn
set_option linter.unusedVariables false
set_option linter.unusedSimpArgs false
namespace Go.Proofs.YtjbkcboklccmeaaGreatDoor.Abs

/-! ### Results of what may go several ways -/

theorem ND.Sat.mono {α : Type} {Q Q' : α → Prop} (h : ∀ a, Q a → Q' a) : ∀ {x : ND α}, x.Sat Q → x.Sat Q'
  | .fail, s => s
  | .ret a, s => h a s
  | .pick n k, s => ⟨s.1, fun i hi => (s.2 i hi).mono h⟩

theorem ND.sat_bind {α β : Type} {Q : β → Prop} {f : α → ND β} : ∀ {x : ND α}, (x.bind f).Sat Q ↔ x.Sat fun a => (f a).Sat Q
  | .fail => Iff.rfl
  | .ret a => Iff.rfl
  | .pick n k => ⟨fun s => ⟨s.1, fun i hi => sat_bind.1 (s.2 i hi)⟩, fun s => ⟨s.1, fun i hi => sat_bind.2 (s.2 i hi)⟩⟩

/-! ### Constants -/

mutual
theorem ofValue_rel (G : Ghost) : ∀ v : Value, VRel G (AV.ofValue v) v
  | .bool b => .bool b
  | .int k n => .int k n
  | .string s => .str s
  | .pointer none => .nil
  | .pointer (some _) => .undef _
  | .slice none 0 0 => .nilSlice
  | .slice none 0 (_ + 1) => .undef _
  | .slice none (_ + 1) _ => .undef _
  | .slice (some _) _ _ => .undef _
  | .map none => .nilMap
  | .map (some _) => .undef _
  | .nilFunc => .nilFunc
  | .func .. => .undef _
  | .nilIface => .nilIface
  | .iface .. => .undef _
  | .float .. => .undef _
  | .complex .. => .undef _
  | .chan _ => .undef _
  | .tuple _ => .undef _
  | .agg ⟨cs⟩ => by
    unfold AV.ofValue
    split
    · next aS h =>
      obtain ⟨h1, h2, h3⟩ := ofValues_rel G cs h
      exact .agg (by simpa using h1) (fun i a v ha hv => h2 i a v ha (by simpa using hv)) (fun i v hv => h3 v (List.mem_of_getElem? (by simpa using hv)))
    · exact .undef _
theorem ofValues_rel (G : Ghost) : ∀ (vs : List Value) {aS : List AV}, AV.ofValues vs = some aS → aS.length = vs.length ∧ (∀ (i : Nat) (a : AV) (v : Value), aS[i]? = some a → vs[i]? = some v → VRel G a v) ∧ ∀ v ∈ vs, v.oneCell' = true
  | [], aS, h => by simp only [AV.ofValues, Option.some.injEq] at h; subst h; exact ⟨rfl, fun i a v h => by simp at h, fun v h => by simp at h⟩
  | v :: vs, aS, h => by
    have hv := ofValue_rel G v
    simp only [AV.ofValues] at h
    split at h
    · cases h
    · cases h
    · cases h
    · next _ _ aS' h2 h3 h4 =>
      cases h
      obtain ⟨r1, r2, r3⟩ := ofValues_rel G vs h2
      refine ⟨by simp [r1], fun i b u hb hu => ?_, fun u hu => ?_⟩
      · cases i with
        | zero => simp at hb hu; subst hb hu; exact hv
        | succ i => simp at hb hu; exact r2 i b u hb hu
      · rcases List.mem_cons.1 hu with rfl | hu
        · cases u <;> first | rfl | skip
          · next cs =>
            obtain ⟨cs⟩ := cs
            simp only [AV.ofValue] at h3 h4
            split at h4
            · exact absurd rfl (h4 _)
            · next hn => rw [hn] at h3; exact absurd rfl h3
          · exact absurd rfl h3
        · exact r3 u hu
end

/-- A slot's value: an abstract value's, or the address in a local variable's box. -/
def VRelL (G : Ghost) (β : Nat → Option Nat) (a : AV) (v : Value) : Prop :=
  match a with
  | .lptr i off => ∃ cb, β i = some cb ∧ v = .pointer (some ⟨cb, off, none⟩)
  | a => VRel G a v

section
variable {K : Reads} {P : Program} {G G' : Ghost} {h h' : Heap} {w w' : World} {β β' : Nat → Option Nat}

theorem VRelL.of {a : AV} {v : Value} (h : VRel G a v) : VRelL G β a v := by
  cases a <;> first | exact h | (cases h; done)
theorem VRelL.clean {a : AV} {v : Value} (h : VRelL G β a v) : VRel G a.clean v := by
  cases a <;> first | exact h | exact .undef v
theorem VRelL.mono (hG : G.le G') (hβ : ∀ i b, β i = some b → β' i = some b) {a : AV} {v : Value} (h : VRelL G β a v) : VRelL G' β' a v := by
  cases a <;> first | exact VRel.mono hG h | (obtain ⟨cb, h1, h2⟩ := h; exact ⟨cb, hβ _ _ h1, h2⟩)

/-- The boxes of the local variables that lie in the frame: blocks of their own, of no name. -/
structure BRel (G : Ghost) (h : Heap) (w : World) (n0 : Nat) (l : Loc) (β : Nat → Option Nat) : Prop where
  box : ∀ i cs, boxGet l.boxes i = some cs → ∃ cb c t fz, β i = some cb ∧ w.heap[cb]? = some (.cells c t fz) ∧ fz.2 ≤ fz.1 ∧ CsRel G cs c.toList
  own : ∀ i cb, β i = some cb → cb < w.heap.size ∧ ¬ Live G h cb ∧ G.imm cb = none ∧ n0 ≤ cb
  inj : ∀ i j cb, β i = some cb → β j = some cb → i = j
  fresh : ∀ i, l.nb * 64 ≤ i → boxGet l.boxes i = none → β i = none
  bound : ∀ i cb, β i = some cb → i < (l.nb + 1) * 64

/-- An activation's kind: how many slots; whether nothing is deferred; which functions may be deferred. -/
structure Fr where
  n : Nat
  flat : Bool
  calm : Nat → Bool

/-- Deferred calls; a mark of a loop over a function among them. -/
inductive DRel (cm : Nat → Bool) (G : Ghost) (h : Heap) (w : World) (n0 : Nat) : List (Nat × List AV) → List Deferred → Prop
  | nil : DRel cm G h w n0 [] []
  | call {f : Nat} {args : List AV} {cargs : Array Value} {aS : List (Nat × List AV)} {ds : List Deferred} (hc : cm f = true) (hv : VsRel G args cargs.toList) (hs : DRel cm G h w n0 aS ds) :
      DRel cm G h w n0 ((f, args) :: aS) ({ target := .fn (.func f) #[], args := cargs } :: ds)
  | mark {r : Nat} {aS : List (Nat × List AV)} {ds : List Deferred} (h1 : w.heap[r]? = some (.deferred (some []))) (h2 : ¬ Live G h r) (h3 : G.imm r = none) (h4 : n0 ≤ r) (h5 : ∀ d ∈ ds, d.target ≠ .collected r) (hs : DRel cm G h w n0 aS ds) :
      DRel cm G h w n0 aS ({ target := .collected r, args := #[] } :: ds)

theorem Evolve.apart (e : Evolve K G h w G' h' w') {cb : Nat} (h1 : cb < w.heap.size) (h2 : ¬ Live G h cb) (h3 : G.imm cb = none) : w'.heap[cb]? = w.heap[cb]? ∧ cb < w'.heap.size ∧ ¬ Live G' h' cb ∧ G'.imm cb = none := by
  refine ⟨e.same cb h1 h2, Nat.lt_of_lt_of_le h1 e.size, fun hl => ?_, ?_⟩
  · rcases e.live cb hl with hl | hl
    · exact h2 hl
    · omega
  · cases hi : G'.imm cb with
    | none => rfl
    | some l => rcases e.imm cb l hi with hh | hh | hh
                · rw [h3] at hh; cases hh
                · exact absurd hh h2
                · omega

theorem BRel.evolve {n0 : Nat} {l : Loc} (b : BRel G h w n0 l β) (e : Evolve K G h w G' h' w') : BRel G' h' w' n0 l β where
  box i cs hb := by
    obtain ⟨cb, c, t, fz, h1, h2, h3, h4⟩ := b.box i cs hb
    obtain ⟨q1, q2, q3, _⟩ := b.own i cb h1
    exact ⟨cb, c, t, fz, h1, (e.apart q1 q2 q3).1.trans h2, h3, h4.mono e.le⟩
  own i cb hb := by
    obtain ⟨q1, q2, q3, q4⟩ := b.own i cb hb
    obtain ⟨_, p1, p2, p3⟩ := e.apart q1 q2 q3
    exact ⟨p1, p2, p3, q4⟩
  inj := b.inj
  fresh := b.fresh
  bound := b.bound

theorem DRel.evolve {cm : Nat → Bool} {n0 : Nat} {aS : List (Nat × List AV)} {ds : List Deferred} (d : DRel cm G h w n0 aS ds) (e : Evolve K G h w G' h' w') : DRel cm G' h' w' n0 aS ds := by
  induction d with
  | nil => exact .nil
  | call hc hv hs ih => exact .call hc (hv.mono e.le) ih
  | mark h1 h2 h3 h4 h5 hs ih =>
    obtain ⟨p1, _, p2, p3⟩ := e.apart (Array.getElem?_eq_some_iff.1 h1).1 h2 h3
    exact .mark (p1.trans h1) p2 p3 h4 h5 ih

theorem DRel.lt {cm : Nat → Bool} {n0 : Nat} {aS : List (Nat × List AV)} {ds : List Deferred} (d : DRel cm G h w n0 aS ds) : ∀ x ∈ ds, ∀ r, x.target = .collected r → r < w.heap.size := by
  induction d with
  | nil => intro x hx; simp at hx
  | call hc hv hs ih =>
    intro x hx r hr
    rcases List.mem_cons.1 hx with rfl | hx
    · cases hr
    · exact ih x hx r hr
  | mark h1 h2 h3 h4 h5 hs ih =>
    intro x hx r hr
    rcases List.mem_cons.1 hx with rfl | hx
    · cases hr; exact (Array.getElem?_eq_some_iff.1 h1).1
    · exact ih x hx r hr

theorem DRel.taken {cm : Nat → Bool} {n0 r : Nat} {o : Obj} {aS : List (Nat × List AV)} {ds : List Deferred} (d : DRel cm G h w n0 aS ds) (hr : ∀ d ∈ ds, d.target ≠ .collected r) : DRel cm G h (w.upd r o) n0 aS ds := by
  induction d with
  | nil => exact .nil
  | call hc hv hs ih => exact .call hc hv (ih fun d hd => hr d (List.mem_cons_of_mem _ hd))
  | mark h1 h2 h3 h4 h5 hs ih =>
    refine .mark ((heap_upd_other ?_).trans h1) h2 h3 h4 h5 (ih fun d hd => hr d (List.mem_cons_of_mem _ hd))
    rintro rfl
    exact hr _ List.mem_cons_self rfl

/-- An activation (of N slots), and what it is read aS; since its beginning (G0, h0, w0) memory has evolved so. -/
structure SRel (K : Reads) (N : Fr) (G0 : Ghost) (h0 : Heap) (w0 : World) (G : Ghost) (h : Heap) (β : Nat → Option Nat) (st : St) (a : Act) (w : World) : Prop where
  ev : Evolve K G0 h0 w0 G h w
  size : a.tmps.size = N.1
  flat : N.2 = true → a.defers = []
  env : ∀ s, VRelL G β (st.env.get s) (a.tmps.getD s undef)
  loc : BRel G h w w0.heap.size st.loc β
  dfr : DRel N.3 G h w w0.heap.size st.defers a.defers

variable {N : Fr} {G0 : Ghost} {h0 : Heap} {w0 : World} {st : St} {a : Act}

theorem SRel.evolve (s : SRel K N G0 h0 w0 G h β st a w) (e : Evolve K G h w G' h' w') : SRel K N G0 h0 w0 G' h' β st a w' :=
  ⟨s.ev.trans e, s.size, s.flat, fun i => (s.env i).mono e.le fun _ _ h => h, s.loc.evolve e, s.dfr.evolve e⟩

theorem Env.get_put {e : Env} {d : Nat} {v : AV} {s : Nat} : (Env.put e (some d) v).get s = if d = s then v else e.get s := by
  simp only [Env.put, Env.get]
  by_cases hd : d = s
  · subst hd; simp [Nat.beq_refl]
  · have : Nat.beq d s = false := by
      cases hb : Nat.beq d s with
      | false => rfl
      | true => exact absurd (Nat.eq_of_beq_eq_true hb) hd
    simp [this, hd]

theorem SRel.put (s : SRel K N G0 h0 w0 G h β st a w) {dst : Option Nat} {v : AV} {cv : Value} (hd : ∀ d, dst = some d → d < N.1) (hv : VRelL G β v cv) : SRel K N G0 h0 w0 G h β { st with env := st.env.put dst v } (a.put dst cv) w := by
  cases dst with
  | none => exact ⟨s.ev, s.size, s.flat, s.env, s.loc, s.dfr⟩
  | some d =>
    refine ⟨s.ev, by simp [Act.put, s.size], s.flat, fun i => ?_, s.loc, s.dfr⟩
    show VRelL G β ((Env.put st.env (some d) v).get i) ((a.tmps.setIfInBounds d cv).getD i undef)
    rw [Env.get_put]
    by_cases hi : d = i
    · subst hi
      have := hd d rfl
      have hlt : d < a.tmps.size := by rw [s.size]; exact this
      simp only [if_true, Array.getD, Array.size_setIfInBounds, hlt, dif_pos]
      simpa using hv
    · rw [if_neg hi]
      have := s.env i
      have e : (a.tmps.setIfInBounds d cv).getD i undef = a.tmps.getD i undef := by
        simp only [Array.getD_eq_getD_getElem?]
        rw [Array.getElem?_setIfInBounds_ne hi]
      rw [e]; exact this

/-- What the package-level variables hold. -/
def GlRel (G : Ghost) (gl : Globals) : Prop := ∀ g cs, gl g = some cs → VRel G (.cref cs) (.pointer (some ⟨g, 0, none⟩))

theorem GlRel.mono {gl : Globals} (hg : GlRel G gl) (hG : G.le G') : GlRel G' gl := fun g cs h => (hg g cs h).mono hG

theorem SRel.eval (s : SRel K N G0 h0 w0 G h β st a w) {gl : Globals} (hg : GlRel G gl) (x : Operand) : VRelL G β (Opd.eval gl st.env x) (a.eval x) := by
  cases x with
  | tmp t => exact s.env t
  | const v => exact .of (ofValue_rel G v)
  | global g =>
    simp only [Opd.eval, Act.eval]
    split
    · next cs hcs => exact .of (hg g cs hcs)
    · exact .of (.undef _)
  | func f => exact .of (.clos rfl rfl (fun i a v h => by simp at h) (fun i a v h => by simp at h))

theorem SRel.evalC (s : SRel K N G0 h0 w0 G h β st a w) {gl : Globals} (hg : GlRel G gl) (x : Operand) : VRel G (Opd.eval gl st.env x).clean (a.eval x) := (s.eval hg x).clean

theorem SRel.evalAll (s : SRel K N G0 h0 w0 G h β st a w) {gl : Globals} (hg : GlRel G gl) (l : List Operand) : VsRel G (Abs.evalAll gl st.env l) (l.map a.eval) := by
  unfold Abs.evalAll
  exact VsRel.map l _ _ fun x _ => by
    have := s.evalC hg x
    unfold AV.clean at this
    exact this

end
end Go.Proofs.YtjbkcboklccmeaaGreatDoor.Abs
/-
  Local variables' boxes: laid, read, written.
-/
namespace Go.Proofs.YtjbkcboklccmeaaGreatDoor.Abs

section
variable {K : Reads} {P : Program} {G G' : Ghost} {h h' : Heap} {w w' : World} {β : Nat → Option Nat} {N : Fr} {G0 : Ghost} {h0 : Heap} {w0 : World} {st : St} {a : Act}

theorem Nat.beq_eq_decide' (a b : Nat) : Nat.beq a b = decide (a = b) := by
  by_cases h : a = b
  · subst h; simp
  · cases hb : Nat.beq a b with
    | false => simp [h]
    | true => exact absurd (Nat.eq_of_beq_eq_true hb) h

theorem boxGet_cons {k i : Nat} {v : List AV} {l : List (Nat × List AV)} : boxGet ((k, v) :: l) i = if k = i then some v else boxGet l i := by
  simp only [boxGet, Nat.beq_eq_decide']
  by_cases h : k = i <;> simp [h]

theorem boxGet_set : ∀ {l : List (Nat × List AV)} {i j : Nat} {x : List AV}, boxGet (boxSet l i x) j = if i = j then (boxGet l i).map fun _ => x else boxGet l j
  | [], i, j, x => by by_cases h : i = j <;> simp [boxSet, boxGet]
  | (k, v) :: l, i, j, x => by
    simp only [boxSet, Nat.beq_eq_decide']
    by_cases hk : k = i
    · subst hk
      simp only [decide_true, cond_true, boxGet_cons]
      by_cases hj : k = j <;> simp [hj]
    · simp only [hk, decide_false, cond_false, boxGet_cons, boxGet_set]
      by_cases hj : i = j
      · subst hj; simp [hk]
      · simp only [hj, if_false]

theorem SRel.addBox (s : SRel K N G0 h0 w0 G h β st a w) {k : Nat} (hk : st.loc.free k = true) {cs : List AV} {c : Array Value} {t : TypeId} (hc : CsRel G cs c.toList) :
    ∃ β', (∀ i b, β i = some b → β' i = some b) ∧ SRel K N G0 h0 w0 G h β' { st with loc := st.loc.add k cs } a (w.alloc (.cells c t (0, 0))) ∧ VRelL G β' (.lptr (st.loc.id k) 0) (.pointer (some ⟨w.heap.size, 0, none⟩)) := by
  have hk1 : k < 64 ∧ boxGet st.loc.boxes (st.loc.id k) = none := by
    simp only [Loc.free, Bool.and_eq_true] at hk
    refine ⟨Nat.le_of_ble_eq_true hk.1, ?_⟩
    cases hb : boxGet st.loc.boxes (st.loc.id k) with
    | none => rfl
    | some x => rw [hb] at hk; cases hk.2
  have hn := s.loc.fresh (st.loc.id k) (by simp [Loc.id]) hk1.2
  have hβ : ∀ i b, β i = some b → (if i = st.loc.id k then some w.heap.size else β i) = some b := by
    intro i b h
    split
    · next e => subst e; rw [hn] at h; cases h
    · exact h
  have ev := Evolve.garbage s.ev.mem (.cells c t (0, 0))
  refine ⟨fun i => if i = st.loc.id k then some w.heap.size else β i, hβ, ⟨s.ev.trans ev, s.size, s.flat, fun i => (s.env i).mono (.refl G) hβ, ⟨?_, ?_, ?_, ?_, ?_⟩, s.dfr.evolve ev⟩, ⟨_, by simp, rfl⟩⟩
  · intro i cs' hb
    simp only [Loc.add, boxGet_cons] at hb
    split at hb
    · next e => cases hb; exact ⟨w.heap.size, c, t, (0, 0), by simp [← e], heap_alloc_new, Nat.le_refl _, hc⟩
    · obtain ⟨cb, c', t', fz, h1, h2, h3, h4⟩ := s.loc.box i cs' hb
      exact ⟨cb, c', t', fz, hβ _ _ h1, (heap_alloc_old (s.loc.own i cb h1).1).trans h2, h3, h4⟩
  · intro i cb hb
    split at hb
    · cases hb
      refine ⟨by simp, fun hl => absurd (s.ev.mem.live_lt hl) (Nat.lt_irrefl _), ?_, s.ev.size⟩
      cases hi : G.imm w.heap.size with
      | none => rfl
      | some l => exact absurd (s.ev.mem.imm_lt hi) (Nat.lt_irrefl _)
    · obtain ⟨q1, q2, q3, q4⟩ := s.loc.own i cb hb
      exact ⟨by simp; omega, q2, q3, q4⟩
  · intro i j cb hi hj
    split at hi
    · next e1 =>
      cases hi
      split at hj
      · next e2 => rw [e1, e2]
      · exact absurd (s.loc.own j _ hj).1 (Nat.lt_irrefl _)
    · split at hj
      · cases hj; exact absurd (s.loc.own i _ hi).1 (Nat.lt_irrefl _)
      · exact s.loc.inj i j cb hi hj
  · intro i hi hb
    simp only [Loc.add, boxGet_cons] at hi hb
    split at hb
    · cases hb
    · next hne => rw [if_neg (fun h => hne h.symm)]; exact s.loc.fresh i hi hb
  · intro i cb hb
    split at hb
    · next e => subst e; show st.loc.id k < (st.loc.nb + 1) * 64; unfold Loc.id; omega
    · exact s.loc.bound i cb hb

theorem Evolve.localUpd (e : Evolve K G0 h0 w0 G h w) {cb : Nat} {c c' : Array Value} {t t' : TypeId} {fz fz' : Nat × Nat} (h2 : ¬ Live G h cb) (h3 : G.imm cb = none) (h4 : w0.heap.size ≤ cb)
    (hw : w.heap[cb]? = some (.cells c t fz)) (hs : c'.size = c.size) : Evolve K G0 h0 w0 G h (w.upd cb (.cells c' t' fz')) where
  le := e.le
  mem := e.mem.world (fun b hl => heap_upd_other (by rintro rfl; exact h2 hl)) (fun b l hl => heap_upd_other (by rintro rfl; rw [h3] at hl; cases hl)) (fun b n hn c'' t'' fz'' hb => by
    by_cases hbc : b = cb
    · subst hbc; rw [hw] at hb; cases hb; exact ⟨c', t', fz', heap_upd_same hw, hs⟩
    · exact ⟨c'', t'', fz'', by rw [heap_upd_other hbc, hb], rfl⟩)
  size := by simpa using e.size
  same b hb hl := by rw [heap_upd_other (by omega), e.same b hb hl]
  live := e.live
  imm := e.imm
  out := e.out

theorem SRel.setBox (s : SRel K N G0 h0 w0 G h β st a w) {i : Nat} {cs cs' : List AV} {cb : Nat} {c c' : Array Value} {t t' : TypeId} {fz fz' : Nat × Nat} (hb : boxGet st.loc.boxes i = some cs) (hβ : β i = some cb)
    (hw : w.heap[cb]? = some (.cells c t fz)) (hs : c'.size = c.size) (hf : fz'.2 ≤ fz'.1) (hc : CsRel G cs' c'.toList) :
    SRel K N G0 h0 w0 G h β { st with loc := st.loc.set i cs' } a (w.upd cb (.cells c' t' fz')) := by
  obtain ⟨q1, q2, q3, q4⟩ := s.loc.own i cb hβ
  refine ⟨s.ev.localUpd q2 q3 q4 hw hs, s.size, s.flat, s.env, ⟨?_, ?_, s.loc.inj, ?_, s.loc.bound⟩, ?_⟩
  · intro j ds hj
    simp only [Loc.set, boxGet_set] at hj
    split at hj
    · next e =>
      subst e
      rw [hb] at hj; cases hj
      exact ⟨cb, c', t', fz', hβ, heap_upd_same hw, hf, hc⟩
    · next e =>
      obtain ⟨cb2, c2, t2, fz2, h1, h2, h3, h4⟩ := s.loc.box j ds hj
      refine ⟨cb2, c2, t2, fz2, h1, (heap_upd_other ?_).trans h2, h3, h4⟩
      rintro rfl
      exact e (s.loc.inj _ _ _ hβ h1)
  · intro j cb2 hj
    obtain ⟨p1, p2, p3, p4⟩ := s.loc.own j cb2 hj
    exact ⟨by simpa using p1, p2, p3, p4⟩
  · intro j hj hn
    simp only [Loc.set, boxGet_set] at hn
    split at hn
    · next e => subst e; rw [hb] at hn; cases hn
    · exact s.loc.fresh j hj hn
  · have : ∀ {aS : List (Nat × List AV)} {ds : List Deferred}, DRel N.3 G h w w0.heap.size aS ds → DRel N.3 G h (w.upd cb (.cells c' t' fz')) w0.heap.size aS ds := by
      intro aS ds d
      induction d with
      | nil => exact .nil
      | call hc hv hs ih => exact .call hc hv ih
      | mark h1 h2 h3 h4 h5 hs ih =>
        refine .mark ((heap_upd_other ?_).trans h1) h2 h3 h4 h5 ih
        rintro rfl
        rw [hw] at h1; cases h1
    exact this s.dfr

/-- A local variable's cells at an address. -/
theorem SRel.boxAt (s : SRel K N G0 h0 w0 G h β st a w) {i off : Nat} {v : Value} {cs : List AV} (hv : VRelL G β (.lptr i off) v) (hb : boxGet st.loc.boxes i = some cs) :
    ∃ cb c t fz, β i = some cb ∧ v = .pointer (some ⟨cb, off, none⟩) ∧ w.heap[cb]? = some (.cells c t fz) ∧ fz.2 ≤ fz.1 ∧ CsRel G cs c.toList := by
  obtain ⟨cb, h1, rfl⟩ := hv
  obtain ⟨cb', c, t, fz, h2, h3, h4, h5⟩ := s.loc.box i cs hb
  rw [h1] at h2; cases h2
  exact ⟨cb, c, t, fz, h1, rfl, h3, h4, h5⟩

theorem SRel.loadL (s : SRel K N G0 h0 w0 G h β st a w) {t : TypeId} {d : TypeDesc} {ti : TypeInfo} {i off : Nat} {v : Value} {cs : List AV} {x : AV} (hd : P.underlying t = some d) (hi : P.info? t = some ti)
    (hv : VRelL G β (.lptr i off) v) (hb : boxGet st.loc.boxes i = some cs) (hx : mkVal (aggD d) ti.size (cs.drop off) = some x) : ∃ cv, (Instr.loadAt t v).run P w = .ok cv w ∧ VRel G x cv := by
  obtain ⟨cb, c, t', fz, _, rfl, h3, h4, h5⟩ := s.boxAt hv hb
  obtain ⟨cv, g1, g2⟩ := mkVal_rel' (h5.drop off) hx
  exact ⟨cv, by simp [Instr.loadAt, Instr.sureAddr, run_loadVar_at hd hi h3 g1], g2⟩

theorem SRel.storeL (s : SRel K N G0 h0 w0 G h β st a w) {t : TypeId} {ti : TypeInfo} {i off : Nat} {v cx : Value} {cs xs : List AV} {x : AV} (hi : P.info? t = some ti)
    (hv : VRelL G β (.lptr i off) v) (hb : boxGet st.loc.boxes i = some cs) (hx : VRel G x cx) (hc : x.cells = some xs) (hl : xs.length = ti.size ∧ off + ti.size ≤ cs.length) :
    ∃ w', (Instr.storeAt t v cx).run P w = .ok () w' ∧ SRel K N G0 h0 w0 G h β { st with loc := st.loc.set i (splice cs off xs) } a w' := by
  obtain ⟨cb, c, t', fz, hβ, rfl, h3, h4, h5⟩ := s.boxAt hv hb
  have hxc := hx.cells hc
  have hsz : cx.cells.size = ti.size := by rw [← hl.1, hxc.len]; rfl
  have hcl : cs.length = c.size := by rw [h5.len]; rfl
  have hst := run_storeVar_at (P := P) hi hsz h3 (by omega : off + ti.size ≤ c.size) (.inl h4) hxc.one
  refine ⟨w.upd cb (.cells (splice c.toList off cx.cells.toList).toArray t' fz), by simp [Instr.storeAt, Instr.sureAddr, hst], s.setBox hb hβ h3 ?_ h4 ?_⟩
  · have : (splice c.toList off cx.cells.toList).length = c.toList.length := splice_length (by simp; omega)
    simpa using this
  · exact h5.splice hxc off

end
end Go.Proofs.YtjbkcboklccmeaaGreatDoor.Abs
/-
  A name is dropped.
-/
namespace Go.Proofs.YtjbkcboklccmeaaGreatDoor.Abs

section
variable {K : Reads} {G : Ghost} {h : Heap} {w : World}

/-- A name is dropped; its block (no cells) may be turned. -/
theorem Evolve.drop (m : Mem K G h w) {id cb : Nat} {o : AObj} {obj obj' : Obj} (e : hget h id = some o) (hb : blk G id o = some cb) (hw : w.heap[cb]? = some obj) (hn : ∀ c t fz, obj ≠ .cells c t fz) :
    Evolve K G h w G (hset h id none) (w.upd cb obj') := by
  have hl : Live G h cb := ⟨id, o, e, hb⟩
  have hget' : ∀ j oj, hget (hset h id none) j = some oj → hget h j = some oj ∧ j ≠ id := by
    intro j oj ej
    rw [hget_hset] at ej
    split at ej
    · cases ej
    · next c => exact ⟨ej, fun hj => c ⟨hj.symm, hget_lt e⟩⟩
  have hlive : ∀ b, Live G (hset h id none) b → Live G h b ∧ b ≠ cb := by
    rintro b ⟨j, oj, a, b'⟩
    obtain ⟨a1, a2⟩ := hget' j oj a
    exact ⟨⟨j, oj, a1, b'⟩, by rintro rfl; exact a2 (m.inj j id oj o b a1 e b' hb)⟩
  refine ⟨.refl G, ⟨?_, ?_, ?_, ?_, ?_, ?_⟩, by simp, ?_, fun b hl => .inl (hlive b hl).1, fun b l e => .inl e, rfl, rfl⟩
  · intro j oj ej
    obtain ⟨a1, a2⟩ := hget' j oj ej
    refine (m.obj j oj a1).congr (.refl G) fun b hbj => heap_upd_other ?_
    rintro rfl
    exact a2 (m.inj j id oj o b a1 e hbj hb)
  · intro i j oi oj b ei ej hi hj
    exact m.inj i j oi oj b (hget' i oi ei).1 (hget' j oj ej).1 hi hj
  · intro b l el
    obtain ⟨⟨c, t, fz, a, b'⟩, hn'⟩ := m.imm b l el
    refine ⟨⟨c, t, fz, (heap_upd_other ?_).trans a, b'⟩, fun hl => hn' (hlive b hl).1⟩
    rintro rfl; exact hn' hl
  · intro b n en
    obtain ⟨c, t, fz, a, b'⟩ := m.sz b n en
    refine ⟨c, t, fz, (heap_upd_other ?_).trans a, b'⟩
    rintro rfl
    rw [hw] at a; cases a
    exact hn _ _ _ rfl
  · intro j hj; exact m.fresh j (by simpa using hj)
  · intro j ty esz froz mk es ej; exact m.top j ty esz froz mk es (hget' _ _ ej).1
  · intro b hb'' hl'
    refine heap_upd_other ?_
    rintro rfl; exact hl' hl

end
end Go.Proofs.YtjbkcboklccmeaaGreatDoor.Abs
/-
  The check that a piece of the program's code is read rightly: computed, once for each function.
-/
namespace Go.Proofs.YtjbkcboklccmeaaGreatDoor.Abs

/-! ### Constants -/

/-- A plain cell's value is read so (whatever the memory). -/
def relC : AV → Value → Bool
  | .bool a, .bool b => a == b
  | .int k a, .int k' b => decide (k = k') && decide (a = b)
  | .str l, .string s => decide (l = s.data.toList)
  | .nil, .pointer none => true
  | .nilSlice, .slice none 0 0 => true
  | .nilMap, .map none => true
  | .nilFunc, .nilFunc => true
  | .nilIface, .nilIface => true
  | _, _ => false

def relCs : List AV → List Value → Bool
  | [], [] => true
  | a :: aS, v :: vs => relC a v && relCs aS vs
  | _, _ => false

def relB : AV → Value → Bool
  | .agg aS, .agg ⟨vs⟩ => relCs aS vs
  | a, v => relC a v

theorem relC_rel {G : Ghost} {a : AV} {v : Value} (h : relC a v = true) : VRel G a v ∧ v.oneCell' = true := by
  unfold relC at h
  split at h
  · rw [eq_of_beq h]; exact ⟨.bool _, rfl⟩
  · simp only [Bool.and_eq_true, decide_eq_true_eq] at h; obtain ⟨rfl, rfl⟩ := h; exact ⟨.int _ _, rfl⟩
  · simp only [decide_eq_true_eq] at h; subst h; exact ⟨.str _, rfl⟩
  · exact ⟨.nil, rfl⟩
  · exact ⟨.nilSlice, rfl⟩
  · exact ⟨.nilMap, rfl⟩
  · exact ⟨.nilFunc, rfl⟩
  · exact ⟨.nilIface, rfl⟩
  · cases h

theorem relCs_rel {G : Ghost} : ∀ {aS : List AV} {vs : List Value}, relCs aS vs = true → CsRel G aS vs
  | [], [], _ => CsRel.nil G
  | [], _ :: _, h => by simp [relCs] at h
  | _ :: _, [], h => by simp [relCs] at h
  | a :: aS, v :: vs, h => by
    simp only [relCs, Bool.and_eq_true] at h
    obtain ⟨h1, h2⟩ := relC_rel (G := G) h.1
    have ih := relCs_rel (G := G) h.2
    exact ⟨by simp [ih.len], (VsRel.cons h1 ih.vs).val, fun u hu => by rcases List.mem_cons.1 hu with rfl | hu; exact h2; exact ih.one u hu⟩

theorem relB_rel {G : Ghost} {a : AV} {v : Value} (h : relB a v = true) : VRel G a v := by
  unfold relB at h
  split at h
  · have := relCs_rel (G := G) h
    exact .agg (by simpa using this.len) (fun i a v ha hv => this.val i a v ha (by simpa using hv)) (fun i v hv => this.one v (List.mem_of_getElem? (by simpa using hv)))
  · exact (relC_rel h).1

/-- The cells of a variable of no value yet. -/
def zeroOK (P : Program) (t : TypeId) (zero : List AV) : Bool :=
  match P.info? t with
  | some i => match i.zero with
    | some z => relCs zero z.cells.toList && decide (z.cells.size = i.size)
    | none => false
  | none => false

def zeroV (P : Program) (t : TypeId) (zero : AV) : Bool :=
  match P.info? t with
  | some i => match i.zero with
    | some z => relB zero z
    | none => false
  | none => false

theorem zeroOK_spec {P : Program} {t : TypeId} {zero : List AV} (h : zeroOK P t zero = true) : ∃ i z, P.info? t = some i ∧ i.zero = some z ∧ z.cells.size = i.size ∧ ∀ G, CsRel G zero z.cells.toList := by
  unfold zeroOK at h
  split at h
  · next i hi =>
    split at h
    · next z hz =>
      simp only [Bool.and_eq_true, decide_eq_true_eq] at h
      exact ⟨i, z, hi, hz, h.2, fun G => relCs_rel h.1⟩
    · cases h
  · cases h

theorem zeroV_spec {P : Program} {t : TypeId} {zero : AV} (h : zeroV P t zero = true) : ∃ i z, P.info? t = some i ∧ i.zero = some z ∧ ∀ G, VRel G zero z := by
  unfold zeroV at h
  split at h
  · next i hi =>
    split at h
    · next z hz => exact ⟨i, z, hi, hz, fun G => relB_rel h⟩
    · cases h
  · cases h

/-! ### Operands -/

def valEq : Value → Value → Bool
  | .bool a, .bool b => a == b
  | .int k a, .int k' b => decide (k = k') && decide (a = b)
  | .string a, .string b => decide (a.data.toList = b.data.toList)
  | .pointer none, .pointer none => true
  | .slice none a b, .slice none c d => decide (a = c) && decide (b = d)
  | .map none, .map none => true
  | .nilFunc, .nilFunc => true
  | .nilIface, .nilIface => true
  | .tuple ⟨[]⟩, .tuple ⟨[]⟩ => true
  | _, _ => false

def valsEq : List Value → List Value → Bool
  | [], [] => true
  | a :: aS, b :: bs => valEq a b && valsEq aS bs
  | _, _ => false

def valEq1 : Value → Value → Bool
  | .agg ⟨aS⟩, .agg ⟨bs⟩ => valsEq aS bs
  | a, b => valEq a b

theorem valEq_eq {a b : Value} (h : valEq a b = true) : a = b := by
  unfold valEq at h
  split at h <;> (try simp only [Bool.and_eq_true, decide_eq_true_eq, Bool.false_eq_true] at h) <;> first | rfl | skip
  · rw [eq_of_beq h]
  · rw [h.1, h.2]
  · exact congrArg _ (ByteArray.ext (Array.ext' h))
  · rw [h.1, h.2]

theorem valsEq_eq : ∀ {a b : List Value}, valsEq a b = true → a = b
  | [], [], _ => rfl
  | [], _ :: _, h => by simp [valsEq] at h
  | _ :: _, [], h => by simp [valsEq] at h
  | a :: aS, b :: bs, h => by
    simp only [valsEq, Bool.and_eq_true] at h
    rw [valEq_eq h.1, valsEq_eq h.2]

theorem valEq1_eq {a b : Value} (h : valEq1 a b = true) : a = b := by
  unfold valEq1 at h
  split at h
  · rw [valsEq_eq h]
  · exact valEq_eq h

def opdEq : Operand → Operand → Bool
  | .tmp a, .tmp b => Nat.beq a b
  | .const a, .const b => valEq1 a b
  | .global a, .global b => Nat.beq a b
  | .func a, .func b => Nat.beq a b
  | _, _ => false

theorem opdEq_eq {a b : Operand} (h : opdEq a b = true) : a = b := by
  unfold opdEq at h
  split at h
  · rw [Nat.eq_of_beq_eq_true h]
  · rw [valEq1_eq h]
  · rw [Nat.eq_of_beq_eq_true h]
  · rw [Nat.eq_of_beq_eq_true h]
  · cases h

def opdsEq : List Operand → List Operand → Bool
  | [], [] => true
  | a :: aS, b :: bs => opdEq a b && opdsEq aS bs
  | _, _ => false

theorem opdsEq_eq : ∀ {a b : List Operand}, opdsEq a b = true → a = b
  | [], [], _ => rfl
  | [], _ :: _, h => by simp [opdsEq] at h
  | _ :: _, [], h => by simp [opdsEq] at h
  | a :: aS, b :: bs, h => by
    simp only [opdsEq, Bool.and_eq_true] at h
    rw [opdEq_eq h.1, opdsEq_eq h.2]

def optEq : Option Operand → Option Operand → Bool
  | none, none => true
  | some a, some b => opdEq a b
  | _, _ => false

theorem optEq_eq {a b : Option Operand} (h : optEq a b = true) : a = b := by
  unfold optEq at h
  split at h
  · rfl
  · rw [opdEq_eq h]
  · cases h

/-! ### One operation -/

def szOK (P : Program) (t : TypeId) (n : Nat) : Bool := match P.info? t with | some i => Nat.beq i.size n | none => false
def undI (P : Program) (t : TypeId) (f : TypeDesc → Bool) : Bool := match P.underlying t with | some d => f d | none => false

theorem szOK_spec {P : Program} {t : TypeId} {n : Nat} (h : szOK P t n = true) : ∃ i, P.info? t = some i ∧ i.size = n := by
  unfold szOK at h; split at h
  · next i hi => exact ⟨i, hi, Nat.eq_of_beq_eq_true h⟩
  · cases h
theorem undI_spec {P : Program} {t : TypeId} {f : TypeDesc → Bool} (h : undI P t f = true) : ∃ d, P.underlying t = some d ∧ f d = true := by
  unfold undI at h; split at h
  · next d hd => exact ⟨d, hd, h⟩
  · cases h

/-- Where the parts of a build lie. -/
def placeOf (P : Program) (t : TypeId) (i : Nat) : Option (Nat × Nat) :=
  match P.underlying t with
  | some (.struct fs) => match fs[i]? with
    | some f => match P.info? f.type with
      | some j => some (f.offset, j.size)
      | none => none
    | none => none
  | some (.array _ e) => match P.info? e with
    | some j => some (i * j.size, j.size)
    | none => none
  | _ => none

def ckParts (P : Program) (t : TypeId) : List (Nat × Operand) → List (Nat × Nat × Operand) → Bool
  | [], [] => true
  | (i, x) :: ps, (off, n, y) :: aS => (match placeOf P t i with | some (o, m) => Nat.beq o off && Nat.beq m n | none => false) && opdEq x y && ckParts P t ps aS
  | _, _ => false

def ckElems : List (Nat × Operand) → List (Nat × Operand) → Bool
  | [], [] => true
  | (i, x) :: ps, (j, y) :: aS => Nat.beq i j && opdEq x y && ckElems ps aS
  | _, _ => false

/-- Are all fields' types known? (Then 'build' goes through.) -/
def fieldsKnown (P : Program) : List Field → Bool
  | [] => true
  | f :: fs => (P.info? f.type).isSome && fieldsKnown P fs

structure CkEnv where
  P : Program
  /-- functions taken by what is said of them -/
  ext : Nat → Bool
  /-- functions with no deferred call -/
  calm : Nat → Bool

def ckCall (E : CkEnv) (c : Call) (ao : AOp) : Bool :=
  match c.callee, ao with
  | .value (.func f), .call g args => Nat.beq f g && opdsEq c.args.toList args && !E.ext f
  | .value (.func f), .ext g args => Nat.beq f g && opdsEq c.args.toList args && E.ext f
  | .value x, .callv y args => opdEq x y && opdsEq c.args.toList args
  | .builtin .append, .append _ ty esz bytes s x =>
    opdsEq c.args.toList [s, x] &&
    (match c.argTypes.toList with
     | [t, t'] => undI E.P t (fun d => match d with | .slice e => Nat.beq e ty | _ => false) && undI E.P t' (fun d => match d with | .slice _ => true | .string => true | _ => false) &&
        (match E.P.info? ty with | some i => (Nat.beq i.size esz && Nat.beq i.bytes bytes && !Nat.beq i.bytes 0 && (match i.zero with | some z => Nat.beq z.cells.size i.size | none => false)) | none => false)
     | _ => false)
  | .builtin .copy, .copy esz d s =>
    opdsEq c.args.toList [d, s] &&
    (match c.argTypes.toList with
     | [t, _] => undI E.P t (fun d => match d with | .slice e => szOK E.P e esz | _ => false)
     | _ => false)
  | .builtin .delete, .delete kk m k =>
    opdsEq c.args.toList [m, k] &&
    (match c.argTypes.toList with
     | [t, _] => undI E.P t (fun d => match d with | .map kt _ => kkDesc E.P kt kk | _ => false)
     | _ => false)
  | .builtin .len, .len k x => opdsEq c.args.toList [x] && (match c.argTypes.toList with | t :: _ => undI E.P t (lkDesc k) | _ => false)
  | .builtin .min, .min x y => opdsEq c.args.toList [x, y]
  | .builtin .max, .max x y => opdsEq c.args.toList [x, y]
  | .builtin .unsafeSliceData, .sliceData x => opdsEq c.args.toList [x]
  | .builtin .unsafeString, .unsafeStr ty x n => opdsEq c.args.toList [x, n] &&
    (match c.argTypes.toList with | [t, _] => undI E.P t (fun d => match d with | .pointer e => Nat.beq e ty | _ => false) && Nat.beq (E.P.cellsOf ty) 1 | _ => false)
  | _, _ => false

def ckOp (E : CkEnv) (op : Op) (ao : AOp) : Bool :=
  match op, ao with
  | .move x, .mov y => opdEq x y
  | .assign x, .mov y => opdEq x y
  | .pick c a b, .pick c' a' b' => opdEq c c' && opdEq a a' && opdEq b b'
  | .alloc t, .allocL _ zero => zeroOK E.P t zero
  | .alloc t, .allocH ty zero => Nat.beq t ty && zeroOK E.P t zero
  | .box _ x, .boxL _ _ y => opdEq x y
  | .box t x, .boxH ty _ y => Nat.beq t ty && opdEq x y
  | .load t a, .load agg n b => opdEq a b && undI E.P t (fun d => aggD d == agg) && szOK E.P t n
  | .load t a, .loadL agg n b => opdEq a b && undI E.P t (fun d => aggD d == agg) && szOK E.P t n
  | .store t a x, .store n b y => opdEq a b && opdEq x y && szOK E.P t n
  | .store t a x, .storeL n b y => opdEq a b && opdEq x y && szOK E.P t n
  | .nilCheck x, .nilCheck y => opdEq x y
  | .fieldAddr t x fi, .fieldAddr off y => opdEq x y && undI E.P t (fun d => match d with
    | .struct fs => (match fs[fi]? with | some f => Nat.beq f.offset off && (match E.P.info? f.type with | some i => !Nat.beq i.size 0 | none => false) | none => false) | _ => false)
  | .fieldAddr t x fi, .fieldL off y => opdEq x y && undI E.P t (fun d => match d with
    | .struct fs => (match fs[fi]? with | some f => Nat.beq f.offset off && (match E.P.info? f.type with | some i => !Nat.beq i.size 0 | none => false) | none => false) | _ => false)
  | .indexAddr t x i, .indexAddr esz y j => opdEq x y && opdEq i j && undI E.P t (fun d => match d with | .slice e => szOK E.P e esz | _ => false)
  | .indexAddr t x i, .indexArr esz len y j => opdEq x y && opdEq i j && undI E.P t (fun d => match d with | .array n e => Nat.beq n len && szOK E.P e esz | _ => false)
  | .indexAddr t x i, .idxL esz len y j => opdEq x y && opdEq i j && undI E.P t (fun d => match d with | .array n e => Nat.beq n len && szOK E.P e esz | _ => false)
  | .field t x fi, .field agg n off y => opdEq x y && undI E.P t (fun d => match d with
    | .struct fs => (match fs[fi]? with | some f => Nat.beq f.offset off && undI E.P f.type (fun d => aggD d == agg) && szOK E.P f.type n | none => false) | _ => false)
  | .index t x i, .index agg esz len y j => opdEq x y && opdEq i j && undI E.P t (fun d => match d with | .array n e => Nat.beq n len && undI E.P e (fun d => aggD d == agg) && szOK E.P e esz | _ => false)
  | .index t x i, .indexStr y j => opdEq x y && opdEq i j && undI E.P t (fun d => match d with | .string => true | _ => false)
  | .slice t x lo hi none, .sliceStr y lo' hi' => opdEq x y && optEq lo lo' && optEq hi hi' && undI E.P t (fun d => match d with | .string => true | _ => false)
  | .slice t x lo hi none, .slice esz y lo' hi' => opdEq x y && optEq lo lo' && optEq hi hi' && undI E.P t (fun d => match d with | .slice e => szOK E.P e esz | _ => false)
  | .binOp op _ x y _, .bin op' x' y' => decide (op = op') && opdEq x x' && opdEq y y'
  | .binOp op t x y _, .binB op' x' y' => decide (op = op') && opdEq x x' && opdEq y y' && undI E.P t (fun d => match d with | .bool => true | _ => false)
  | .binOp op t x y _, .eqAgg neg ks x' y' => decide (op = if neg then .neq else .eql) && opdEq x x' && opdEq y y' && kkDesc E.P t (.agg ks)
  | .binOp op t x y _, .eqNil k neg x' y' => decide (op = if neg then .neq else .eql) && opdEq x x' && opdEq y y' && undI E.P t (nkDesc E.P k) && (!(decide (k = .iface)) || isNilConst x || isNilConst y)
  | .unOp op _ x, .un op' y => decide (op = op') && opdEq x y
  | .convert s d x, .convInt k y => opdEq x y && undI E.P s (fun _ => true) && undI E.P d (fun d => match d with | .int k' => decide (k = k') | _ => false)
  | .convert s d x, .bytesToStr y => opdEq x y && undI E.P s (fun d => match d with | .slice e => undI E.P e (fun d => match d with | .int .u8 => true | _ => false) | _ => false) && undI E.P d (fun d => match d with | .string => true | _ => false)
  | .convert s d x, .strToBytes ty y => opdEq x y && undI E.P s (fun _ => true) && undI E.P d (fun d => match d with | .slice e => Nat.beq e ty && undI E.P e (fun d => match d with | .int .u8 => true | _ => false) | _ => false)
  | .convert s d x, .convPtr ty n y => opdEq x y &&
    (undI E.P s (fun ds => match ds with | .pointer t => undI E.P d (fun dd => match dd with | .unsafePointer => true | _ => false) && (match E.P.info? t with | some i => !Nat.beq i.size 0 | none => false) && !Nat.beq n 0 | _ => false) ||
     (undI E.P s (fun ds => match ds with | .unsafePointer => true | _ => false) && undI E.P d (fun dd => match dd with | .pointer u => (E.P.info? u).isSome && liesAt E.P E.P.depth ty (n / E.P.cellsOf ty) 0 u 1 | _ => false)))
  | .makeFunc (.func f) first caps, .clos g first' caps' => Nat.beq f g && opdsEq first.toList first' && opdsEq caps.toList caps'
  | .makeMap t none, .makeMap => undI E.P t (fun d => match d with | .map .. => true | _ => false)
  | .makeMap t (some (.const (.int _ _))), .makeMap => undI E.P t (fun d => match d with | .map .. => true | _ => false)
  | .lookup t x i ok, .lookup kk zero ok' y j => opdEq x y && opdEq i j && (ok == ok') && undI E.P t (fun d => match d with | .map kt et => kkDesc E.P kt kk && zeroV E.P et zero | _ => false)
  | .mapUpdate t m k x, .mapUpdate kk m' k' x' => opdEq m m' && opdEq k k' && opdEq x x' && undI E.P t (fun d => match d with | .map kt _ => kkDesc E.P kt kk | _ => false)
  | .insert t m k x, .mapUpdate kk m' k' x' => opdEq m m' && opdEq k k' && opdEq x x' && undI E.P t (fun d => match d with | .map kt _ => kkDesc E.P kt kk | _ => false)
  | .mapEntry t m k, .mapEntry kk zero m' k' => opdEq m m' && opdEq k k' && undI E.P t (fun d => match d with | .map kt et => kkDesc E.P kt kk && zeroV E.P et zero | _ => false)
  | .entryStore _ m s x, .entryStore m' s' x' => opdEq m m' && opdEq s s' && opdEq x x'
  | .range t x, .range y => opdEq x y && undI E.P t (fun d => match d with | .map .. => true | _ => false)
  | .next it false, .next it' => opdEq it it'
  | .entry it, .entry it' => opdEq it it'
  | .extract t i, .extract t' j => opdEq t t' && Nat.beq i j
  | .makeSlice t l c, .makeSlice ty esz bytes zero l' c' => opdEq l l' && opdEq c c' && undI E.P t (fun d => match d with | .slice e => Nat.beq e ty | _ => false) && zeroOK E.P ty zero &&
    (match E.P.info? ty with | some i => Nat.beq i.size esz && Nat.beq i.bytes bytes | none => false)
  | .build t ps, .build zero aS => ckParts E.P t ps.toList aS && (match E.P.info? t with | some i => (match i.zero with | some z => relCs zero z.cells.toList | none => false) | none => false) &&
    undI E.P t (fun d => match d with | .struct fs => fieldsKnown E.P fs.toList | .array _ e => (E.P.info? e).isSome | _ => false)
  | .buildSlice t len ps, .buildSlice _ ty esz len' zero aS => Nat.beq len len' && ckElems ps.toList aS && undI E.P t (fun d => match d with | .slice e => Nat.beq e ty | _ => false) && zeroOK E.P ty zero && szOK E.P ty esz && !Nat.beq esz 0 &&
    decide (len * esz ≤ 16777216)
  | .call c, ao => ckCall E c ao
  | _, _ => false

end Go.Proofs.YtjbkcboklccmeaaGreatDoor.Abs
/-
  One operation of an activation: what the abstract one does, the model's does (calls apart).
-/
namespace Go.Proofs.YtjbkcboklccmeaaGreatDoor.Abs

section
variable {K : Reads} {P : Program} {N : Fr} {G0 : Ghost} {h0 : Heap} {w0 : World} {G : Ghost} {h : Heap} {β : Nat → Option Nat} {st : St} {a : Act} {w : World}

/-- The operation goes through, aS one of the ways in which the abstract one goes through. -/
def OpOK (K : Reads) (P : Program) (N : Fr) (G0 : Ghost) (h0 : Heap) (w0 : World) (st : St) (a : Act) (w : World) (o : Oper) (Q : (AV × Option Loc) × Heap → Prop) : Prop :=
  ∃ r, Q r ∧ ∃ nx cv w' G' β', (execOp a.eval o).run P w = .ok nx w' ∧ (nx = .value cv ∨ nx = .skip ∧ cv = undef) ∧
    SRel K N G0 h0 w0 G' r.2 β' { st with loc := r.1.2.getD st.loc } a w' ∧ VRelL G' β' r.1.1 cv

variable {o : Oper} {Q : (AV × Option Loc) × Heap → Prop} {gl : Globals}

theorem OpOK.val (s : SRel K N G0 h0 w0 G h β st a w) {v : AV} {cv : Value} (hq : Q ((v, none), h)) (he : (execOp a.eval o).run P w = .ok (.value cv) w) (hv : VRelL G β v cv) : OpOK K P N G0 h0 w0 st a w o Q :=
  ⟨_, hq, _, cv, w, G, β, he, .inl rfl, s, hv⟩

theorem OpOK.pure' (s : SRel K N G0 h0 w0 G h β st a w) {v : AV} {sem : Sem Value} (hq : Q ((v, none), h)) (he : execOp a.eval o = do pure (.value (← sem))) (hr : ∃ cv, sem.run P w = .ok cv w ∧ VRel G v cv) : OpOK K P N G0 h0 w0 st a w o Q := by
  obtain ⟨cv, h1, h2⟩ := hr
  exact .val s hq (by rw [he]; simp [h1]) (.of h2)

theorem OpOK.doesV (s : SRel K N G0 h0 w0 G h β st a w) {v : AV} {h' : Heap} {sem : Sem Value} (hq : Q ((v, none), h')) (he : execOp a.eval o = do pure (.value (← sem))) (hd : DoesV K P G h w sem v h') : OpOK K P N G0 h0 w0 st a w o Q := by
  obtain ⟨cv, G', w', h1, h2, h3⟩ := hd
  exact ⟨_, hq, _, cv, w', G', β, by rw [he]; simp [h1], .inl rfl, s.evolve h2, .of h3⟩

theorem OpOK.doesU (s : SRel K N G0 h0 w0 G h β st a w) {h' : Heap} {sem : Sem Unit} (hq : Q ((.undef, none), h')) (he : execOp a.eval o = do sem; pure .skip) (hd : DoesU K P G h w sem h') : OpOK K P N G0 h0 w0 st a w o Q := by
  obtain ⟨G', w', h1, h2⟩ := hd
  exact ⟨_, hq, _, undef, w', G', β, by rw [he]; simp [h1], .inr ⟨rfl, rfl⟩, s.evolve h2, .of (.undef _)⟩

theorem sat_out {v : Option AV} (hs : (out v h).Sat Q) : ∃ x, v = some x ∧ Q ((x, none), h) := by
  cases v with
  | none => exact hs.elim
  | some x => exact ⟨x, rfl, hs⟩
theorem sat_outH {v : Option (AV × Heap)} (hs : (outH v h).Sat Q) : ∃ x h', v = some (x, h') ∧ Q ((x, none), h') := by
  cases v with
  | none => exact hs.elim
  | some x => exact ⟨x.1, x.2, rfl, hs⟩
theorem sat_outS {v : Option Heap} (hs : (outS v h).Sat Q) : ∃ h', v = some h' ∧ Q ((.undef, none), h') := by
  cases v with
  | none => exact hs.elim
  | some x => exact ⟨x, rfl, hs⟩

theorem bool_of {a : AV} {t : Bool} {v : Value} (ha : a = .bool t) (hv : VRel G a v) : v = .bool t := by subst ha; exact hv.bool_inv

theorem optRel {x : Option Operand} (s : SRel K N G0 h0 w0 G h β st a w) (hg : GlRel G gl) : OptRel G (x.map fun x => (Opd.eval gl st.env x).clean) (x.map a.eval) := by
  cases x with
  | none => trivial
  | some x => exact s.evalC hg x

theorem sim_mov (s : SRel K N G0 h0 w0 G h β st a w) (hg : GlRel G gl) {x : Operand} (ho : o.op = .move x ∨ o.op = .assign x) (hq : Q ((Opd.eval gl st.env x, none), h)) : OpOK K P N G0 h0 w0 st a w o Q :=
  .val s hq (by rcases ho with ho | ho <;> simp [execOp, ho]) (s.eval hg x)

theorem sim_pick (s : SRel K N G0 h0 w0 G h β st a w) (hg : GlRel G gl) {p x y : Operand} {t : Bool} (ho : o.op = .pick p x y) (hp : (Opd.eval gl st.env p).clean = .bool t)
    (hq : Q ((bif t then Opd.eval gl st.env x else Opd.eval gl st.env y, none), h)) : OpOK K P N G0 h0 w0 st a w o Q := by
  have hc := bool_of hp (s.evalC hg p)
  refine .val s hq (cv := if t then a.eval x else a.eval y) ?_ ?_
  · simp [execOp, ho, hc, asBool]
  · cases t
    · exact s.eval hg y
    · exact s.eval hg x

theorem sim_allocL (s : SRel K N G0 h0 w0 G h β st a w) {k : Nat} (hk : st.loc.free k = true) {t : TypeId} {zero : List AV} (ho : o.op = .alloc t) (hz : zeroOK P t zero = true) (hq : Q ((.lptr (st.loc.id k) 0, some (st.loc.add k zero)), h)) : OpOK K P N G0 h0 w0 st a w o Q := by
  obtain ⟨i, z, h1, h2, h3, h4⟩ := zeroOK_spec hz
  obtain ⟨β', hb, hs, hv⟩ := s.addBox hk (t := t) (h4 G)
  exact ⟨_, hq, _, _, _, G, β', by simp [execOp, ho, run_allocL h1 h2], .inl rfl, hs, hv⟩

theorem sim_boxL (s : SRel K N G0 h0 w0 G h β st a w) (hg : GlRel G gl) {k : Nat} (hk : st.loc.free k = true) {t : TypeId} {x : Operand} {cs : List AV} (ho : o.op = .box t x) (hc : ((Opd.eval gl st.env x).clean).cells = some cs) (hq : Q ((.lptr (st.loc.id k) 0, some (st.loc.add k cs)), h)) : OpOK K P N G0 h0 w0 st a w o Q := by
  obtain ⟨β', hb, hs, hv⟩ := s.addBox hk (t := t) ((s.evalC hg x).cells hc)
  exact ⟨_, hq, _, _, _, G, β', by simp [execOp, ho, run_boxL], .inl rfl, hs, hv⟩

theorem sim_loadL (s : SRel K N G0 h0 w0 G h β st a w) (hg : GlRel G gl) {t : TypeId} {x : Operand} {agg : Bool} {n i off : Nat} {cs : List AV} {v : AV} (ho : o.op = .load t x) (hu : undI P t (fun d => aggD d == agg) = true) (hn : szOK P t n = true)
    (he : Opd.eval gl st.env x = .lptr i off) (hb : boxGet st.loc.boxes i = some cs) (hm : mkVal agg n (cs.drop off) = some v) (hq : Q ((v, none), h)) : OpOK K P N G0 h0 w0 st a w o Q := by
  obtain ⟨d, hd, hda⟩ := undI_spec hu
  obtain ⟨ti, hi, rfl⟩ := szOK_spec hn
  have := eq_of_beq hda; subst this
  have hv := s.eval hg x
  rw [he] at hv
  exact .pure' s hq (by simp [execOp, ho]) (s.loadL hd hi hv hb hm)

theorem sim_storeL (s : SRel K N G0 h0 w0 G h β st a w) (hg : GlRel G gl) {t : TypeId} {x y : Operand} {n i off : Nat} {cs xs : List AV} (ho : o.op = .store t x y) (hn : szOK P t n = true)
    (he : Opd.eval gl st.env x = .lptr i off) (hb : boxGet st.loc.boxes i = some cs) (hx : ((Opd.eval gl st.env y).clean).cells = some xs) (hl : xs.length = n ∧ off + n ≤ cs.length)
    (hq : Q ((.undef, some (st.loc.set i (splice cs off xs))), h)) : OpOK K P N G0 h0 w0 st a w o Q := by
  obtain ⟨ti, hi, rfl⟩ := szOK_spec hn
  have hv := s.eval hg x
  rw [he] at hv
  obtain ⟨w', h1, h2⟩ := s.storeL hi hv hb (s.evalC hg y) hx hl
  exact ⟨_, hq, _, undef, w', G, β, by simp [execOp, ho, h1], .inr ⟨rfl, rfl⟩, h2, .of (.undef _)⟩

theorem sim_load (s : SRel K N G0 h0 w0 G h β st a w) (hg : GlRel G gl) {t : TypeId} {x : Operand} {agg : Bool} {n : Nat} {v : AV} (ho : o.op = .load t x) (hu : undI P t (fun d => aggD d == agg) = true) (hn : szOK P t n = true)
    (hm : loadAt agg n h (Opd.eval gl st.env x).clean = some v) (hq : Q ((v, none), h)) : OpOK K P N G0 h0 w0 st a w o Q := by
  obtain ⟨d, hd, hda⟩ := undI_spec hu
  obtain ⟨ti, hi, rfl⟩ := szOK_spec hn
  have := eq_of_beq hda; subst this
  exact .pure' s hq (by simp [execOp, ho]) (run_load s.ev.mem hd hi hm (s.evalC hg x))

theorem sim_store (s : SRel K N G0 h0 w0 G h β st a w) (hg : GlRel G gl) {t : TypeId} {x y : Operand} {n : Nat} {h' : Heap} (ho : o.op = .store t x y) (hn : szOK P t n = true)
    (hm : storeAt n h (Opd.eval gl st.env x).clean (Opd.eval gl st.env y).clean = some h') (hq : Q ((.undef, none), h')) : OpOK K P N G0 h0 w0 st a w o Q := by
  obtain ⟨ti, hi, rfl⟩ := szOK_spec hn
  exact .doesU s hq (by simp [execOp, ho]) (run_store s.ev.mem hi hm (s.evalC hg x) (s.evalC hg y))

theorem sim_nilCheck (s : SRel K N G0 h0 w0 G h β st a w) (hg : GlRel G gl) {x : Operand} {v : AV} (ho : o.op = .nilCheck x) (hv : v = (Opd.eval gl st.env x).clean)
    (hk : (∃ i f, v = .ptr i f) ∨ (∃ i z k f, v = .eptr i z k f) ∨ ∃ cs, v = .cref cs) (hq : Q ((v, none), h)) : OpOK K P N G0 h0 w0 st a w o Q := by
  have hr := s.evalC hg x
  rw [← hv] at hr
  have : ∃ ad, a.eval x = .pointer (some ad) := by
    rcases hk with ⟨i, f, rfl⟩ | ⟨i, z, k, f, rfl⟩ | ⟨cs, rfl⟩
    · obtain ⟨cb, _, h2⟩ := ptr_inv hr; exact ⟨_, h2⟩
    · obtain ⟨cb, _, _, _, h2⟩ := eptr_inv hr; exact ⟨_, h2⟩
    · obtain ⟨cb, _, _, _, _, _, h2⟩ := cref_inv hr; exact ⟨_, h2⟩
  obtain ⟨ad, had⟩ := this
  exact .val s hq (cv := a.eval x) (by simp [execOp, ho, had]) (.of hr)

theorem fieldCk {E : CkEnv} {t : TypeId} {fi off : Nat} (hu : undI E.P t (fun d => match d with
    | .struct fs => (match fs[fi]? with | some f => Nat.beq f.offset off && (match E.P.info? f.type with | some i => !Nat.beq i.size 0 | none => false) | none => false) | _ => false) = true) :
    ∃ fs f i, E.P.underlying t = some (.struct fs) ∧ fs[fi]? = some f ∧ f.offset = off ∧ E.P.info? f.type = some i ∧ i.size ≠ 0 := by
  obtain ⟨d, hd, h⟩ := undI_spec hu
  cases d <;> simp only [Bool.false_eq_true] at h
  next fs =>
  split at h
  · next f hf =>
    simp only [Bool.and_eq_true] at h
    obtain ⟨h1, h2⟩ := h
    split at h2
    · next i hi =>
      refine ⟨fs, f, i, hd, hf, Nat.eq_of_beq_eq_true h1, hi, fun h0 => ?_⟩
      rw [h0] at h2; cases h2
    · cases h2
  · cases h

theorem sim_fieldL (s : SRel K N G0 h0 w0 G h β st a w) (hg : GlRel G gl) {t : TypeId} {x : Operand} {fi i off : Nat} {fs : Array Field} {f : Field} {ti : TypeInfo} (ho : o.op = .fieldAddr t x fi) (ht : P.underlying t = some (.struct fs)) (hf : fs[fi]? = some f)
    (hi : P.info? f.type = some ti) (hz : ti.size ≠ 0) (he : Opd.eval gl st.env x = .lptr i off) (hq : Q ((.lptr i (off + f.offset), none), h)) : OpOK K P N G0 h0 w0 st a w o Q := by
  have hv := s.eval hg x
  rw [he] at hv
  obtain ⟨cb, h1, h2⟩ := hv
  refine .val s hq (cv := .pointer (some ⟨cb, off + f.offset, none⟩)) ?_ ⟨cb, h1, rfl⟩
  simp [execOp, ho, h2, Instr.fieldAt, run_underlying' ht, hf, Instr.sureAddr, fieldPlace, run_sizeOf' hi, hz, addr_add]

theorem sim_idxL (s : SRel K N G0 h0 w0 G h β st a w) (hg : GlRel G gl) {t e : TypeId} {x y : Operand} {i off len : Nat} {ti : TypeInfo} {n : Int} (ho : o.op = .indexAddr t x y) (ht : P.underlying t = some (.array len e))
    (hi : P.info? e = some ti) (he : Opd.eval gl st.env x = .lptr i off) (hn : idxOf (Opd.eval gl st.env y).clean = some n) (hb : 0 ≤ n ∧ n < (len : Int)) (hq : Q ((.lptr i (off + n.toNat * ti.size), none), h)) : OpOK K P N G0 h0 w0 st a w o Q := by
  have hv := s.eval hg x
  rw [he] at hv
  obtain ⟨cb, h1, h2⟩ := hv
  obtain ⟨k, _, h3⟩ := idxOf_inv hn (s.evalC hg y)
  refine .val s hq (cv := .pointer (some ⟨cb, off + n.toNat * ti.size, none⟩)) ?_ ⟨cb, h1, rfl⟩
  simp [execOp, ho, h2, h3, Instr.indexAt, asIntOf, run_underlying' ht, Instr.sureAddr, hb, run_sizeOf' hi, addr_add]

end
end Go.Proofs.YtjbkcboklccmeaaGreatDoor.Abs
/-
  One operation that is no call: the whole list.
-/
namespace Go.Proofs.YtjbkcboklccmeaaGreatDoor.Abs

section
variable {K : Reads} {P : Program} {N : Fr} {G0 : Ghost} {h0 : Heap} {w0 : World} {G : Ghost} {h : Heap} {β : Nat → Option Nat} {st : St} {a : Act} {w : World}
variable {o : Oper} {Q : (AV × Option Loc) × Heap → Prop}

/-- Calls of functions. -/
def isCall : AOp → Bool
  | .call .. => true
  | .callv .. => true
  | .ext .. => true
  | .defer .. => true
  | _ => false

theorem exec_builtin {c : Call} {b : Builtin} (ho : o.op = .call c) (hb : c.callee = .builtin b) (ρ : Operand → Value) : ∃ consts, execOp ρ o = builtin b c.argTypes o.type consts (c.args.map ρ) := by
  refine ⟨c.args.map fun | .const _ => true | _ => false, ?_⟩
  simp only [execOp, ho, resolve, hb, invoke]
  rfl

theorem args2 {c : Call} {x y : Operand} (h : opdsEq c.args.toList [x, y] = true) (ρ : Operand → Value) : c.args.map ρ = #[ρ x, ρ y] := by
  have := opdsEq_eq h
  apply Array.ext'
  simp [this]
theorem args1 {c : Call} {x : Operand} (h : opdsEq c.args.toList [x] = true) (ρ : Operand → Value) : c.args.map ρ = #[ρ x] := by
  have := opdsEq_eq h
  apply Array.ext'
  simp [this]
theorem types2 {c : Call} {x y : TypeId} (h : c.argTypes.toList = [x, y]) : c.argTypes = #[x, y] := by
  apply Array.ext'; simp [h]

theorem sim_builtin {E : CkEnv} {c : Call} {ao : AOp} {ctx : Ctx} {rec : Rec} (s : SRel K N G0 h0 w0 G h β st a w) (hg : GlRel G ctx.gl) (hE : E.P = P) (hck : ckCall E c ao = true) (hnc : isCall ao = false) (ho : o.op = .call c)
    (hs : (doOp ctx rec st.env st.loc ao h).Sat Q) : OpOK K P N G0 h0 w0 st a w o Q := by
  subst hE
  unfold ckCall at hck
  split at hck
  · cases hnc
  · cases hnc
  · cases hnc
  · -- append
    next imm ty esz bytes x y hcal =>
    simp only [Bool.and_eq_true] at hck
    obtain ⟨ha, hck⟩ := hck
    split at hck
    · next t t' hat =>
      simp only [Bool.and_eq_true] at hck
      obtain ⟨⟨h1, h2⟩, h3⟩ := hck
      obtain ⟨d, hd, hd2⟩ := undI_spec h1
      obtain ⟨d', hd', hd2'⟩ := undI_spec h2
      cases d <;> simp only [Bool.false_eq_true] at hd2
      have := Nat.eq_of_beq_eq_true hd2; subst this
      split at h3
      · next i hi =>
        simp only [Bool.and_eq_true, Bool.not_eq_true'] at h3
        obtain ⟨⟨⟨h4, h5⟩, h6⟩, h7⟩ := h3
        have := Nat.eq_of_beq_eq_true h4; subst this
        have := Nat.eq_of_beq_eq_true h5; subst this
        split at h7
        · next z hz =>
          obtain ⟨v, h', hv, hq⟩ := sat_outH (h := h) hs
          refine .doesV s hq (sem := Builtin.append_ c.argTypes o.type (c.args.map a.eval)) (by obtain ⟨cn, hcn⟩ := exec_builtin ho hcal a.eval; rw [hcn]; rfl) ?_
          rw [args2 ha, types2 hat]
          exact append_rel s.ev.mem hd hd' (by intro k hk; subst hk; simp at hd2') hi hz (Nat.eq_of_beq_eq_true h7) (by intro h0; rw [h0] at h6; cases h6) hv (s.evalC hg x) (s.evalC hg y)
        · cases h7
      · cases h3
    · cases hck
  · -- copy
    next esz x y hcal =>
    simp only [Bool.and_eq_true] at hck
    obtain ⟨ha, hck⟩ := hck
    split at hck
    · next t t' hat =>
      obtain ⟨d, hd, hd2⟩ := undI_spec hck
      cases d <;> simp only [Bool.false_eq_true] at hd2
      obtain ⟨i, hi, rfl⟩ := szOK_spec hd2
      obtain ⟨v, h', hv, hq⟩ := sat_outH (h := h) hs
      refine .doesV s hq (sem := Builtin.copy_ c.argTypes o.type (c.args.map a.eval)) (by obtain ⟨cn, hcn⟩ := exec_builtin ho hcal a.eval; rw [hcn]; rfl) ?_
      rw [args2 ha, types2 hat]
      exact copy_rel s.ev.mem hd hi hv (s.evalC hg x) (s.evalC hg y)
    · cases hck
  · -- delete
    next kk x y hcal =>
    simp only [Bool.and_eq_true] at hck
    obtain ⟨ha, hck⟩ := hck
    split at hck
    · next t t' hat =>
      obtain ⟨d, hd, hd2⟩ := undI_spec hck
      cases d <;> simp only [Bool.false_eq_true] at hd2
      obtain ⟨h', hv, hq⟩ := sat_outS (h := h) hs
      obtain ⟨G', w', h1, h2⟩ := delete_rel (t' := t') (ty := o.type) s.ev.mem hd hd2 hv (s.evalC hg x) (s.evalC hg y)
      refine ⟨_, hq, .value (.tuple #[]), .tuple #[], w', G', β, ?_, .inl rfl, s.evolve h2, .of (.undef _)⟩
      obtain ⟨cn, hcn⟩ := exec_builtin ho hcal a.eval
      rw [hcn, args2 ha, types2 hat]
      simp only [builtin, Sem.run_bind, h1, Result.andThen_ok, Sem.run_pure]
    · cases hck
  · -- len
    next k x hcal =>
    simp only [Bool.and_eq_true] at hck
    obtain ⟨ha, hck⟩ := hck
    split at hck
    · next t ts hat =>
      obtain ⟨d, hd, hd2⟩ := undI_spec hck
      simp only [doOp] at hs
      split at hs
      · next n hn =>
        have h0 : c.argTypes[0]? = some t := by rw [← Array.getElem?_toList, hat]; rfl
        refine .pure' s hs (sem := Builtin.len_ c.argTypes o.type (c.args.map a.eval)) (by obtain ⟨cn, hcn⟩ := exec_builtin ho hcal a.eval; rw [hcn]; rfl) ?_
        rw [args1 ha]
        exact ⟨_, run_len s.ev.mem h0 hd hd2 hn (s.evalC hg x), .int _ _⟩
      · exact hs.elim
    · cases hck
  · -- min
    next x y hcal =>
    simp only [doOp] at hs
    split at hs
    · next k n k' n' h1 h2 =>
      split at hs
      · next hk =>
        have hx := s.evalC hg x
        have hy := s.evalC hg y
        rw [h1] at hx; rw [h2] at hy
        refine .pure' s hs (sem := Builtin.min_ c.argTypes o.type (c.args.map a.eval)) (by obtain ⟨cn, hcn⟩ := exec_builtin ho hcal a.eval; rw [hcn]; rfl) ?_
        rw [args2 hck]
        exact ⟨_, (run_minmax hx hy _ _).1, .int _ _⟩
      · exact hs.elim
    · exact hs.elim
  · -- max
    next x y hcal =>
    simp only [doOp] at hs
    split at hs
    · next k n k' n' h1 h2 =>
      split at hs
      · next hk =>
        have hx := s.evalC hg x
        have hy := s.evalC hg y
        rw [h1] at hx; rw [h2] at hy
        refine .pure' s hs (sem := Builtin.max_ c.argTypes o.type (c.args.map a.eval)) (by obtain ⟨cn, hcn⟩ := exec_builtin ho hcal a.eval; rw [hcn]; rfl) ?_
        rw [args2 hck]
        exact ⟨_, (run_minmax hx hy _ _).2, .int _ _⟩
      · exact hs.elim
    · exact hs.elim
  · -- unsafe.SliceData
    next x hcal =>
    obtain ⟨v, hv, hq⟩ := sat_out hs
    refine .pure' s hq (sem := Builtin.unsafeSliceData_ c.argTypes o.type (c.args.map a.eval)) (by obtain ⟨cn, hcn⟩ := exec_builtin ho hcal a.eval; rw [hcn]; rfl) ?_
    rw [args1 hck]
    exact sliceData_rel hv (s.evalC hg x) _ _
  · -- unsafe.String
    next ty x n hcal =>
    simp only [Bool.and_eq_true] at hck
    obtain ⟨ha, hck⟩ := hck
    split at hck
    · next t t' hat =>
      simp only [Bool.and_eq_true] at hck
      obtain ⟨d, hd, hd2⟩ := undI_spec hck.1
      cases d <;> simp only [Bool.false_eq_true] at hd2
      have := Nat.eq_of_beq_eq_true hd2; subst this
      obtain ⟨v, h', hv, hq⟩ := sat_outH (h := h) hs
      refine .doesV s hq (sem := Builtin.unsafeString_ c.argTypes o.type (c.args.map a.eval)) (by obtain ⟨cn, hcn⟩ := exec_builtin ho hcal a.eval; rw [hcn]; rfl) ?_
      rw [args2 ha, types2 hat]
      exact unsafeStr_rel s.ev.mem hd (Nat.eq_of_beq_eq_true hck.2) hv (s.evalC hg x) (s.evalC hg n)
    · cases hck
  · cases hck

end
end Go.Proofs.YtjbkcboklccmeaaGreatDoor.Abs
/-
  Any operation that is no call.
-/
namespace Go.Proofs.YtjbkcboklccmeaaGreatDoor.Abs

section
variable {K : Reads} {N : Fr} {G0 : Ghost} {h0 : Heap} {w0 : World} {G : Ghost} {h : Heap} {β : Nat → Option Nat} {st : St} {a : Act} {w : World}
variable {o : Oper} {Q : (AV × Option Loc) × Heap → Prop} {E : CkEnv}

theorem placeOf_built {t : TypeId} {z : Value} {it : TypeInfo} (hi : E.P.info? t = some it) (hz : it.zero = some z) (hk : undI E.P t (fun d => match d with | .struct fs => fieldsKnown E.P fs.toList | .array _ e => (E.P.info? e).isSome | _ => false) = true)
    (q : List (Nat × Value)) (c : Array Value) (h : Instr.fill (placeOf E.P t) z.cells q = some c) : E.P.built t q = some c := by
  obtain ⟨d, hd, hd2⟩ := undI_spec hk
  cases d <;> simp only [Bool.false_eq_true] at hd2
  · next n e =>
    unfold Program.built
    simp only [hi, hd, hz]
    cases he : E.P.info? e with
    | none => rw [he] at hd2; cases hd2
    | some j =>
      have hp' : placeOf E.P t = fun i => some (i * j.size, j.size) := funext fun i => by simp [placeOf, hd, he]
      rw [hp'] at h
      exact h
  · next fs =>
    have hm : ∀ l : List Field, fieldsKnown E.P l = true → ∃ ps, l.mapM (fun f : Field => (E.P.info? f.type).map fun i => (f.offset, i.size)) = some ps ∧
        ∀ i : Nat, ps[i]? = match (l[i]? : Option Field) with | some f => (match E.P.info? f.type with | some j => some (f.offset, j.size) | none => none) | none => none := by
      intro l
      induction l with
      | nil => intro _; exact ⟨[], rfl, fun i => by simp⟩
      | cons f l ih =>
        intro hl
        simp only [fieldsKnown, Bool.and_eq_true, Option.isSome_iff_exists] at hl
        obtain ⟨⟨j, hj⟩, hl⟩ := hl
        obtain ⟨ps, h1, h2⟩ := ih hl
        refine ⟨(f.offset, j.size) :: ps, by simp [List.mapM_cons, hj, h1], fun i => ?_⟩
        cases i with
        | zero => simp [hj]
        | succ i => simp [h2 i]
    obtain ⟨ps, h1, h2⟩ := hm fs.toList hd2
    have hp : ∀ i, placeOf E.P t i = ps.toArray[i]? := by
      intro i
      have := h2 i
      rw [List.getElem?_toArray, this, Array.getElem?_toList]
      unfold placeOf
      rw [hd]
      all_goals rfl
    have hp' : placeOf E.P t = fun i => ps.toArray[i]? := funext hp
    rw [hp'] at h
    unfold Program.built
    simp only [hi, hd, hz, h1]
    exact h

theorem ckParts_rel (s : SRel K N G0 h0 w0 G h β st a w) {gl : Globals} (hg : GlRel G gl) {t : TypeId} : ∀ {ps : List (Nat × Operand)} {aS : List (Nat × Nat × Operand)}, ckParts E.P t ps aS = true →
    PartsRel G (placeOf E.P t) (ps.map fun p => (p.1, a.eval p.2)) (aS.map fun p => (p.1, p.2.1, (Opd.eval gl st.env p.2.2).clean))
  | [], [], _ => .nil
  | [], _ :: _, h => by simp [ckParts] at h
  | _ :: _, [], h => by simp [ckParts] at h
  | (i, x) :: ps, (off, n, y) :: aS, h => by
    simp only [ckParts, Bool.and_eq_true] at h
    obtain ⟨⟨h1, h2⟩, h3⟩ := h
    have := opdEq_eq h2; subst this
    split at h1
    · next o m hp =>
      simp only [Bool.and_eq_true] at h1
      have e1 := Nat.eq_of_beq_eq_true h1.1
      have e2 := Nat.eq_of_beq_eq_true h1.2
      subst e1 e2
      exact .cons hp (s.evalC hg x) (ckParts_rel s hg h3)
    · cases h1

theorem ckElems_rel (s : SRel K N G0 h0 w0 G h β st a w) {gl : Globals} (hg : GlRel G gl) : ∀ {ps aS : List (Nat × Operand)}, ckElems ps aS = true →
    ElemsRel G (ps.map fun p => (p.1, a.eval p.2)) (aS.map fun p => (p.1, (Opd.eval gl st.env p.2).clean))
  | [], [], _ => .nil
  | [], _ :: _, h => by simp [ckElems] at h
  | _ :: _, [], h => by simp [ckElems] at h
  | (i, x) :: ps, (j, y) :: aS, h => by
    simp only [ckElems, Bool.and_eq_true] at h
    obtain ⟨⟨h1, h2⟩, h3⟩ := h
    have := opdEq_eq h2; subst this
    have e1 := Nat.eq_of_beq_eq_true h1; subst e1
    exact .cons (s.evalC hg x) (ckElems_rel s hg h3)

theorem vs_toArray {aS : List AV} {vs : Array Value} (h : VsRel G aS vs.toList) : aS.length = vs.size ∧ ∀ (i : Nat) (x : AV) (v : Value), aS[i]? = some x → vs[i]? = some v → VRel G x v :=
  ⟨by simpa using h.len, fun i x v h1 h2 => h.val i x v h1 (by simpa using h2)⟩


theorem run_sliceAt {P : Program} {t : TypeId} {d : TypeDesc} {x : Value} {lo hi mx : Option Value} (hd : P.underlying t = some d) (hn : ∀ n e, d ≠ .array n e) :
    (Instr.sliceAt t x lo hi mx).run P w = (Instr.slice t x lo hi mx).run P w := by
  unfold Instr.sliceAt
  rw [Sem.run_bind, run_underlying' hd, Result.andThen_ok]
  cases d <;> first | exact absurd rfl (hn _ _) | rfl

theorem op_sim {ctx : Ctx} {rec : Rec} {op : Op} {ao : AOp} (s : SRel K N G0 h0 w0 G h β st a w) (hg : GlRel G ctx.gl) (ho : o.op = op) (hck : ckOp E op ao = true) (hnc : isCall ao = false)
    (hs : (doOp ctx rec st.env st.loc ao h).Sat Q) : OpOK K E.P N G0 h0 w0 st a w o Q := by
  unfold ckOp at hck
  split at hck
  · next x y => have := opdEq_eq hck; subst this; exact sim_mov s hg (.inl ho) hs
  · next x y => have := opdEq_eq hck; subst this; exact sim_mov s hg (.inr ho) hs
  · next c x y c' x' y' =>
    simp only [Bool.and_eq_true] at hck
    have := opdEq_eq hck.1.1; subst this; have := opdEq_eq hck.1.2; subst this; have := opdEq_eq hck.2; subst this
    simp only [doOp] at hs
    split at hs
    · next t ht => exact sim_pick s hg ho ht hs
    · exact hs.elim
  · next t k zero =>
    simp only [doOp] at hs
    split at hs
    · next hf => exact sim_allocL s hf ho hck hs
    · exact hs.elim
  · next t ty zero =>
    simp only [Bool.and_eq_true] at hck
    have := Nat.eq_of_beq_eq_true hck.1; subst this
    obtain ⟨i, z, h1, h2, h3, h4⟩ := zeroOK_spec hck.2
    exact .doesV s hs (sem := Instr.alloc t true (.tuple #[])) (by simp [execOp, ho]) (allocH_rel s.ev.mem h1 h2 (h4 G) _)
  · next t x k n y =>
    have := opdEq_eq hck; subst this
    simp only [doOp] at hs
    split at hs
    · next cs hcs =>
      split at hs
      · split at hs
        · next hf => exact sim_boxL s hg hf ho hcs hs
        · exact hs.elim
      · exact hs.elim
    · exact hs.elim
  · next t x ty n y =>
    simp only [Bool.and_eq_true] at hck
    have := Nat.eq_of_beq_eq_true hck.1; subst this
    have := opdEq_eq hck.2; subst this
    simp only [doOp] at hs
    split at hs
    · next cs hcs =>
      split at hs
      · exact .doesV s hs (by simp [execOp, ho]) (boxH_rel s.ev.mem ((s.evalC hg x).cells hcs))
      · exact hs.elim
    · exact hs.elim
  · next t x agg n y =>
    simp only [Bool.and_eq_true] at hck
    have := opdEq_eq hck.1.1; subst this
    obtain ⟨v, hv, hq⟩ := sat_out hs
    exact sim_load s hg ho hck.1.2 hck.2 hv hq
  · next t x agg n y =>
    simp only [Bool.and_eq_true] at hck
    have := opdEq_eq hck.1.1; subst this
    simp only [doOp] at hs
    split at hs
    · next i off he =>
      split at hs
      · next cs hb =>
        split at hs
        · obtain ⟨v, hv, hq⟩ := sat_out hs
          exact sim_loadL s hg ho hck.1.2 hck.2 he hb hv hq
        · exact hs.elim
      · exact hs.elim
    · exact hs.elim
  · next t x y n x' y' =>
    simp only [Bool.and_eq_true] at hck
    have := opdEq_eq hck.1.1; subst this
    have := opdEq_eq hck.1.2; subst this
    obtain ⟨h', hv, hq⟩ := sat_outS (h := h) hs
    exact sim_store s hg ho hck.2 hv hq
  · next t x y n x' y' =>
    simp only [Bool.and_eq_true] at hck
    have := opdEq_eq hck.1.1; subst this
    have := opdEq_eq hck.1.2; subst this
    simp only [doOp] at hs
    split at hs
    · next i off xs he hx =>
      split at hs
      · next cs hb =>
        split at hs
        · next hl => exact sim_storeL s hg ho hck.2 he hb hx hl hs
        · exact hs.elim
      · exact hs.elim
    · exact hs.elim
  · next x y =>
    have := opdEq_eq hck; subst this
    simp only [doOp] at hs
    split at hs
    · next i f he => exact sim_nilCheck s hg ho he.symm (.inl ⟨_, _, rfl⟩) hs
    · next i z k f he => exact sim_nilCheck s hg ho he.symm (.inr (.inl ⟨_, _, _, _, rfl⟩)) hs
    · next cs he => exact sim_nilCheck s hg ho he.symm (.inr (.inr ⟨_, rfl⟩)) hs
    · exact hs.elim
  · next t x fi off y =>
    simp only [Bool.and_eq_true] at hck
    have := opdEq_eq hck.1; subst this
    obtain ⟨fs, f, i, h1, h2, rfl, h4, h5⟩ := fieldCk hck.2
    obtain ⟨v, hv, hq⟩ := sat_out hs
    exact .pure' s hq (by simp [execOp, ho]) (run_fieldAddr h1 h2 h4 h5 hv (s.evalC hg x))
  · next t x fi off y =>
    simp only [Bool.and_eq_true] at hck
    have := opdEq_eq hck.1; subst this
    obtain ⟨fs, f, i, h1, h2, rfl, h4, h5⟩ := fieldCk hck.2
    simp only [doOp] at hs
    split at hs
    · next j f he => exact sim_fieldL s hg ho h1 h2 h4 h5 he hs
    · exact hs.elim
  · next t x i esz y j =>
    simp only [Bool.and_eq_true] at hck
    have := opdEq_eq hck.1.1; subst this
    have := opdEq_eq hck.1.2; subst this
    obtain ⟨d, hd, hd2⟩ := undI_spec hck.2
    cases d <;> simp only [Bool.false_eq_true] at hd2
    obtain ⟨ti, hi, rfl⟩ := szOK_spec hd2
    obtain ⟨v, hv, hq⟩ := sat_out hs
    exact .pure' s hq (by simp [execOp, ho]) (run_indexAddr hd hi hv (s.evalC hg x) (s.evalC hg i))
  · next t x i esz len y j =>
    simp only [Bool.and_eq_true] at hck
    have := opdEq_eq hck.1.1; subst this
    have := opdEq_eq hck.1.2; subst this
    obtain ⟨d, hd, hd2⟩ := undI_spec hck.2
    cases d <;> simp only [Bool.false_eq_true, Bool.and_eq_true] at hd2
    have := Nat.eq_of_beq_eq_true hd2.1; subst this
    obtain ⟨ti, hi, rfl⟩ := szOK_spec hd2.2
    obtain ⟨v, hv, hq⟩ := sat_out hs
    exact .pure' s hq (by simp [execOp, ho]) (run_indexArr hd hi hv (s.evalC hg x) (s.evalC hg i))
  · next t x i esz len y j =>
    simp only [Bool.and_eq_true] at hck
    have := opdEq_eq hck.1.1; subst this
    have := opdEq_eq hck.1.2; subst this
    obtain ⟨d, hd, hd2⟩ := undI_spec hck.2
    cases d <;> simp only [Bool.false_eq_true, Bool.and_eq_true] at hd2
    have := Nat.eq_of_beq_eq_true hd2.1; subst this
    obtain ⟨ti, hi, rfl⟩ := szOK_spec hd2.2
    simp only [doOp] at hs
    split at hs
    · next k off n he hn =>
      split at hs
      · next hb => exact sim_idxL s hg ho hd hi he hn hb hs
      · exact hs.elim
    · exact hs.elim
  · next t x fi agg n off y =>
    simp only [Bool.and_eq_true] at hck
    have := opdEq_eq hck.1; subst this
    obtain ⟨d, hd, hd2⟩ := undI_spec hck.2
    cases d <;> simp only [Bool.false_eq_true] at hd2
    split at hd2
    · next f hf =>
      simp only [Bool.and_eq_true] at hd2
      have := Nat.eq_of_beq_eq_true hd2.1.1; subst this
      obtain ⟨fd, hfd, hfa⟩ := undI_spec hd2.1.2
      have := eq_of_beq hfa; subst this
      obtain ⟨ti, hi, rfl⟩ := szOK_spec hd2.2
      obtain ⟨v, hv, hq⟩ := sat_out hs
      exact .pure' s hq (by simp [execOp, ho]) (run_field hd hf hfd hi hv (s.evalC hg x))
    · cases hd2
  · next t x i agg esz len y j =>
    simp only [Bool.and_eq_true] at hck
    have := opdEq_eq hck.1.1; subst this
    have := opdEq_eq hck.1.2; subst this
    obtain ⟨d, hd, hd2⟩ := undI_spec hck.2
    cases d <;> simp only [Bool.false_eq_true, Bool.and_eq_true] at hd2
    have := Nat.eq_of_beq_eq_true hd2.1.1; subst this
    obtain ⟨fd, hfd, hfa⟩ := undI_spec hd2.1.2
    have := eq_of_beq hfa; subst this
    obtain ⟨ti, hi, rfl⟩ := szOK_spec hd2.2
    obtain ⟨v, hv, hq⟩ := sat_out hs
    exact .pure' s hq (by simp [execOp, ho]) (run_index_arr hd hfd hi hv (s.evalC hg x) (s.evalC hg i))
  · next t x i y j =>
    simp only [Bool.and_eq_true] at hck
    have := opdEq_eq hck.1.1; subst this
    have := opdEq_eq hck.1.2; subst this
    obtain ⟨d, hd, hd2⟩ := undI_spec hck.2
    cases d <;> simp only [Bool.false_eq_true] at hd2
    obtain ⟨v, hv, hq⟩ := sat_out hs
    exact .pure' s hq (by simp [execOp, ho]) (run_index_str hd hv (s.evalC hg x) (s.evalC hg i))
  · next t x lo hi y lo' hi' =>
    simp only [Bool.and_eq_true] at hck
    have := opdEq_eq hck.1.1.1; subst this
    have := optEq_eq hck.1.1.2; subst this
    have := optEq_eq hck.1.2; subst this
    obtain ⟨d, hd, hd2⟩ := undI_spec hck.2
    cases d <;> simp only [Bool.false_eq_true] at hd2
    obtain ⟨v, hv, hq⟩ := sat_out hs
    refine .pure' s hq (sem := Instr.sliceAt t (a.eval x) (lo.map a.eval) (hi.map a.eval) none) (by simp [execOp, ho]) ?_
    rw [run_sliceAt hd (by simp)]
    exact sliceStr_rel hd hv (s.evalC hg x) (optRel s hg) (optRel s hg)
  · next t x lo hi esz y lo' hi' =>
    simp only [Bool.and_eq_true] at hck
    have := opdEq_eq hck.1.1.1; subst this
    have := optEq_eq hck.1.1.2; subst this
    have := optEq_eq hck.1.2; subst this
    obtain ⟨d, hd, hd2⟩ := undI_spec hck.2
    cases d <;> simp only [Bool.false_eq_true] at hd2
    obtain ⟨ti, hie, rfl⟩ := szOK_spec hd2
    obtain ⟨v, hv, hq⟩ := sat_out hs
    refine .pure' s hq (sem := Instr.sliceAt t (a.eval x) (lo.map a.eval) (hi.map a.eval) none) (by simp [execOp, ho]) ?_
    rw [run_sliceAt hd (by simp)]
    exact run_slice hd hie hv (s.evalC hg x) (optRel s hg) (optRel s hg)
  · next bo t x y ty bo' x' y' =>
    simp only [Bool.and_eq_true, decide_eq_true_eq] at hck
    obtain ⟨⟨rfl, h1⟩, h2⟩ := hck
    have := opdEq_eq h1; subst this
    have := opdEq_eq h2; subst this
    obtain ⟨v, hv, hq⟩ := sat_out hs
    exact .pure' s hq (by simp [execOp, ho]) (run_bin hv (s.evalC hg x) (s.evalC hg y) t x y)
  · next bo t x y ty bo' x' y' =>
    simp only [Bool.and_eq_true, decide_eq_true_eq] at hck
    obtain ⟨⟨⟨rfl, h1⟩, h2⟩, h3⟩ := hck
    have := opdEq_eq h1; subst this
    have := opdEq_eq h2; subst this
    obtain ⟨d, hd, hd2⟩ := undI_spec h3
    cases d <;> simp only [Bool.false_eq_true] at hd2
    obtain ⟨v, hv, hq⟩ := sat_out hs
    exact .pure' s hq (by simp [execOp, ho]) (run_binB hv (s.evalC hg x) (s.evalC hg y) t hd x y)
  · next bo t x y ty neg ks x' y' =>
    simp only [Bool.and_eq_true, decide_eq_true_eq] at hck
    obtain ⟨⟨⟨rfl, h1⟩, h2⟩, h3⟩ := hck
    have := opdEq_eq h1; subst this
    have := opdEq_eq h2; subst this
    simp only [doOp] at hs
    split at hs
    · next b hb => exact .pure' s hs (by simp [execOp, ho]) ⟨_, run_eqAgg hb (s.evalC hg x) (s.evalC hg y) h3 x y, .bool _⟩
    · exact hs.elim
  · next bo t x y ty k neg x' y' =>
    simp only [Bool.and_eq_true, decide_eq_true_eq] at hck
    obtain ⟨⟨⟨⟨rfl, h1⟩, h2⟩, h3⟩, h4⟩ := hck
    have := opdEq_eq h1; subst this
    have := opdEq_eq h2; subst this
    obtain ⟨d, hd, hd2⟩ := undI_spec h3
    simp only [doOp] at hs
    split at hs
    · next b hb =>
      exact .pure' s hs (by simp [execOp, ho]) ⟨_, eqPtr_rel s.ev.mem hb (s.evalC hg x) (s.evalC hg y) hd hd2 x y (fun hk => by simpa [hk] using h4), .bool _⟩
    · exact hs.elim
  · next uo t x uo' y =>
    simp only [Bool.and_eq_true, decide_eq_true_eq] at hck
    obtain ⟨rfl, h1⟩ := hck
    have := opdEq_eq h1; subst this
    obtain ⟨v, hv, hq⟩ := sat_out hs
    exact .pure' s hq (by simp [execOp, ho]) (run_un hv (s.evalC hg x))
  · next sr ds x k y =>
    simp only [Bool.and_eq_true] at hck
    have := opdEq_eq hck.1.1; subst this
    obtain ⟨d, hd, _⟩ := undI_spec hck.1.2
    obtain ⟨d', hd', hd2⟩ := undI_spec hck.2
    cases d' <;> simp only [Bool.false_eq_true, decide_eq_true_eq] at hd2
    subst hd2
    simp only [doOp] at hs
    split at hs
    · next k' n he =>
      have hx := s.evalC hg x
      rw [he] at hx
      exact .pure' s hs (by simp [execOp, ho]) ⟨_, run_convInt hd hd' hx, .int _ _⟩
    · exact hs.elim
  · next sr ds x y =>
    simp only [Bool.and_eq_true] at hck
    have := opdEq_eq hck.1.1; subst this
    obtain ⟨d, hd, hd2⟩ := undI_spec hck.1.2
    cases d <;> simp only [Bool.false_eq_true] at hd2
    obtain ⟨de, hde, hde2⟩ := undI_spec hd2
    obtain ⟨d', hd', hd2'⟩ := undI_spec hck.2
    cases d' <;> simp only [Bool.false_eq_true] at hd2'
    obtain ⟨v, hv, hq⟩ := sat_out hs
    split at hde2
    · exact .pure' s hq (by simp [execOp, ho]) (bytesToStr_rel s.ev.mem hd hde hd' hv (s.evalC hg x))
    · cases hde2
  · next sr ds x ty y =>
    simp only [Bool.and_eq_true] at hck
    have := opdEq_eq hck.1.1; subst this
    obtain ⟨d, hd, _⟩ := undI_spec hck.1.2
    obtain ⟨d', hd', hd2'⟩ := undI_spec hck.2
    cases d' <;> simp only [Bool.false_eq_true, Bool.and_eq_true] at hd2'
    have := Nat.eq_of_beq_eq_true hd2'.1; subst this
    obtain ⟨de, hde, hde2⟩ := undI_spec hd2'.2
    simp only [doOp] at hs
    split at hs
    · next sx he =>
      have hx := s.evalC hg x
      rw [he] at hx
      obtain ⟨sb, hsb, rfl⟩ := hx.str_inv
      split at hde2
      · refine .doesV s hs (sem := convert sr ds (a.eval x)) (by simp [execOp, ho]) ?_
        rw [hsb]
        exact strToBytes_rel s.ev.mem hd hd' hde
      · cases hde2
    · exact hs.elim
  · next sr ds x ty n y =>
    simp only [Bool.and_eq_true] at hck
    have := opdEq_eq hck.1; subst this
    have hx := s.evalC hg x
    have ht : (∃ t i, E.P.underlying sr = some (.pointer t) ∧ E.P.underlying ds = some .unsafePointer ∧ E.P.info? t = some i ∧ i.size ≠ 0 ∧ n ≠ 0) ∨
      (∃ u i, E.P.underlying sr = some .unsafePointer ∧ E.P.underlying ds = some (.pointer u) ∧ E.P.info? u = some i ∧ liesAt E.P E.P.depth ty (n / E.P.cellsOf ty) 0 u 1 = true) := by
      have hh := hck.2
      simp only [Bool.or_eq_true] at hh
      rcases hh with hh | hh
      · left
        obtain ⟨d, hd, hd2⟩ := undI_spec hh
        cases d <;> simp only [Bool.false_eq_true, Bool.and_eq_true, Bool.not_eq_true'] at hd2
        obtain ⟨d', hd', hd2'⟩ := undI_spec hd2.1.1
        cases d' <;> simp only [Bool.false_eq_true] at hd2'
        have h3 := hd2.1.2
        split at h3
        · next i hi =>
          refine ⟨_, i, hd, hd', hi, fun h0 => ?_, fun h0 => ?_⟩
          · rw [h0] at h3; cases h3
          · have h4 := hd2.2; rw [h0] at h4; cases h4
        · cases h3
      · right
        simp only [Bool.and_eq_true] at hh
        obtain ⟨d, hd, hd2⟩ := undI_spec hh.1
        cases d <;> simp only [Bool.false_eq_true] at hd2
        obtain ⟨d', hd', hd2'⟩ := undI_spec hh.2
        cases d' <;> simp only [Bool.false_eq_true, Bool.and_eq_true, Option.isSome_iff_exists] at hd2'
        obtain ⟨⟨i, hi⟩, h4⟩ := hd2'
        exact ⟨_, i, hd, hd', hi, h4⟩
    simp only [doOp] at hs
    split at hs
    · next he =>
      rw [he] at hx
      exact .pure' s hs (by simp [execOp, ho]) ⟨_, convPtr_rel s.ev.mem (.inl rfl) ht hx, hx⟩
    · next id off he =>
      split at hs
      · next ty' cs hc =>
        split at hs
        · next hcs =>
          obtain ⟨rfl, rfl, h3⟩ := hcs
          rw [he] at hx
          exact .pure' s hs (by simp [execOp, ho]) ⟨_, convPtr_rel s.ev.mem (.inr ⟨id, cs, rfl, hc, h3⟩) ht hx, hx⟩
        · exact hs.elim
      · exact hs.elim
    · exact hs.elim
  · next f first caps g first' caps' =>
    simp only [Bool.and_eq_true] at hck
    have := Nat.eq_of_beq_eq_true hck.1.1; subst this
    have e1 := opdsEq_eq hck.1.2
    have e2 := opdsEq_eq hck.2
    subst e1 e2
    have r1 := s.evalAll hg first.toList
    have r2 := s.evalAll hg caps.toList
    rw [← Array.toList_map] at r1 r2
    obtain ⟨p1, p2⟩ := vs_toArray r1
    obtain ⟨p3, p4⟩ := vs_toArray r2
    exact .val s hs (cv := .func (.func f) (first.map a.eval) (caps.map a.eval)) (by simp [execOp, ho, Instr.makeFunc]) (.of (.clos p1 p3 p2 p4))
  · next t =>
    obtain ⟨d, hd, hd2⟩ := undI_spec hck
    cases d <;> simp only [Bool.false_eq_true] at hd2
    exact .doesV s hs (sem := Instr.makeMap t none) (by simp [execOp, ho]) (makeMap_rel s.ev.mem hd (fun v hv => by cases hv))
  · next t k n =>
    obtain ⟨d, hd, hd2⟩ := undI_spec hck
    cases d <;> simp only [Bool.false_eq_true] at hd2
    exact .doesV s hs (sem := Instr.makeMap t (some (.int k n))) (by simp [execOp, ho, Act.eval]) (makeMap_rel s.ev.mem hd (fun v hv => by cases hv; exact ⟨_, _, rfl⟩))
  · next t x i ok kk zero ok' y j =>
    simp only [Bool.and_eq_true] at hck
    have := opdEq_eq hck.1.1.1; subst this
    have := opdEq_eq hck.1.1.2; subst this
    have := eq_of_beq hck.1.2; subst this
    obtain ⟨d, hd, hd2⟩ := undI_spec hck.2
    cases d <;> simp only [Bool.false_eq_true, Bool.and_eq_true] at hd2
    obtain ⟨ti, z, h1, h2, h3⟩ := zeroV_spec hd2.2
    obtain ⟨v, hv, hq⟩ := sat_out hs
    exact .pure' s hq (by simp [execOp, ho]) (run_lookup s.ev.mem hd hd2.1 h1 h2 (h3 G) hv (s.evalC hg x) (s.evalC hg i))
  · next t m k x kk m' k' x' =>
    simp only [Bool.and_eq_true] at hck
    have := opdEq_eq hck.1.1.1; subst this
    have := opdEq_eq hck.1.1.2; subst this
    have := opdEq_eq hck.1.2; subst this
    obtain ⟨d, hd, hd2⟩ := undI_spec hck.2
    cases d <;> simp only [Bool.false_eq_true] at hd2
    obtain ⟨h', hv, hq⟩ := sat_outS (h := h) hs
    exact .doesU s hq (by simp [execOp, ho]) (mapUpdate_rel s.ev.mem hd hd2 hv (s.evalC hg m) (s.evalC hg k) (s.evalC hg x))
  · next t m k x kk m' k' x' =>
    simp only [Bool.and_eq_true] at hck
    have := opdEq_eq hck.1.1.1; subst this
    have := opdEq_eq hck.1.1.2; subst this
    have := opdEq_eq hck.1.2; subst this
    obtain ⟨d, hd, hd2⟩ := undI_spec hck.2
    cases d <;> simp only [Bool.false_eq_true] at hd2
    obtain ⟨h', hv, hq⟩ := sat_outS (h := h) hs
    exact .doesU s hq (by simp [execOp, ho]) (mapUpdate_rel s.ev.mem hd hd2 hv (s.evalC hg m) (s.evalC hg k) (s.evalC hg x))
  · next t m k kk zero m' k' =>
    simp only [Bool.and_eq_true] at hck
    have := opdEq_eq hck.1.1; subst this
    have := opdEq_eq hck.1.2; subst this
    obtain ⟨d, hd, hd2⟩ := undI_spec hck.2
    cases d <;> simp only [Bool.false_eq_true, Bool.and_eq_true] at hd2
    obtain ⟨ti, z, h1, h2, h3⟩ := zeroV_spec hd2.2
    obtain ⟨v, h', hv, hq⟩ := sat_outH (h := h) hs
    exact .doesV s hq (by simp [execOp, ho]) (mapEntry_rel s.ev.mem hd hd2.1 h1 h2 (h3 G) hv (s.evalC hg m) (s.evalC hg k))
  · next t m x y m' x' y' =>
    simp only [Bool.and_eq_true] at hck
    have := opdEq_eq hck.1.1; subst this
    have := opdEq_eq hck.1.2; subst this
    have := opdEq_eq hck.2; subst this
    obtain ⟨h', hv, hq⟩ := sat_outS (h := h) hs
    exact .doesU s hq (sem := Instr.entryStore t (a.eval m) (a.eval x) (a.eval y)) (by simp [execOp, ho]) (entryStore_rel s.ev.mem hv (s.evalC hg m) (s.evalC hg x) (s.evalC hg y))
  · next t x y =>
    simp only [Bool.and_eq_true] at hck
    have := opdEq_eq hck.1; subst this
    obtain ⟨d, hd, hd2⟩ := undI_spec hck.2
    cases d <;> simp only [Bool.false_eq_true] at hd2
    obtain ⟨v, h', hv, hq⟩ := sat_outH (h := h) hs
    exact .doesV s hq (by simp [execOp, ho]) (range_rel s.ev.mem hd hv (s.evalC hg x))
  · next it it' =>
    have := opdEq_eq hck; subst this
    simp only [doOp] at hs
    rw [ND.sat_bind] at hs
    obtain ⟨v, h', hq, hd⟩ := next_rel (P := E.P) (ty := o.type) s.ev.mem hs (s.evalC hg it)
    exact .doesV s hq (by simp [execOp, ho]) hd
  · next it it' =>
    have := opdEq_eq hck; subst this
    obtain ⟨v, hv, hq⟩ := sat_out hs
    exact .pure' s hq (by simp [execOp, ho]) (entry_rel s.ev.mem hv (s.evalC hg it))
  · next t i t' j =>
    simp only [Bool.and_eq_true] at hck
    have := opdEq_eq hck.1; subst this
    have := Nat.eq_of_beq_eq_true hck.2; subst this
    simp only [doOp] at hs
    split at hs
    · next vs he =>
      obtain ⟨v, hv, hq⟩ := sat_out hs
      have hx := s.evalC hg t
      rw [he] at hx
      exact .pure' s hq (by simp [execOp, ho]) (run_extract hv hx)
    · exact hs.elim
  · next t l c ty esz bytes zero l' c' =>
    simp only [Bool.and_eq_true] at hck
    obtain ⟨⟨⟨⟨h1, h2⟩, h3⟩, h4⟩, h5⟩ := hck
    have := opdEq_eq h1; subst this
    have := opdEq_eq h2; subst this
    obtain ⟨d, hd, hd2⟩ := undI_spec h3
    cases d <;> simp only [Bool.false_eq_true] at hd2
    have := Nat.eq_of_beq_eq_true hd2; subst this
    obtain ⟨i, z, q1, q2, q3, q4⟩ := zeroOK_spec h4
    rw [q1] at h5
    simp only [Bool.and_eq_true] at h5
    have e1 := Nat.eq_of_beq_eq_true h5.1
    have e2 := Nat.eq_of_beq_eq_true h5.2
    subst e1 e2
    simp only [doOp] at hs
    split at hs
    · next kl ln kc cn hl hc =>
      split at hs
      · next hb =>
        have hx := s.evalC hg l
        have hy := s.evalC hg c
        rw [hl] at hx; rw [hc] at hy
        refine .doesV s hs (sem := Instr.makeSlice t (a.eval l) (a.eval c)) (by simp [execOp, ho]) ?_
        rw [hx.int_inv, hy.int_inv]
        exact makeSlice_rel s.ev.mem hd q1 q2 q3 (q4 G) hb.1 hb.2.1 hb.2.2.1 hb.2.2.2
      · exact hs.elim
    · exact hs.elim
  · next t ps zero aS =>
    simp only [Bool.and_eq_true] at hck
    obtain ⟨⟨h1, h2⟩, h3⟩ := hck
    split at h2
    · next it hi =>
      split at h2
      · next z hz =>
        simp only [doOp] at hs
        split at hs
        · next cs hf =>
          refine .pure' s hs (sem := Instr.build t (ps.map fun (i, x) => (i, a.eval x))) (by simp [execOp, ho]) ?_
          have := build_rel (P := E.P) (w := w) (t := t) (fun q c hq => placeOf_built hi hz h3 q c hq) (relCs_rel h2) (ckParts_rel s hg h1) hf
          have e1 : (ps.toList.map fun p => (p.1, a.eval p.2)).toArray = ps.map fun (i, x) => (i, a.eval x) := by
            apply Array.ext'; simp
          rwa [e1] at this
        · exact hs.elim
      · cases h2
    · cases h2
  · next t len ps imm ty esz len' zero aS =>
    simp only [Bool.and_eq_true, Bool.not_eq_true', decide_eq_true_eq] at hck
    obtain ⟨⟨⟨⟨⟨⟨h1, h2⟩, h3⟩, h4⟩, h5⟩, h6⟩, h7⟩ := hck
    have := Nat.eq_of_beq_eq_true h1; subst this
    obtain ⟨d, hd, hd2⟩ := undI_spec h3
    cases d <;> simp only [Bool.false_eq_true] at hd2
    have := Nat.eq_of_beq_eq_true hd2; subst this
    obtain ⟨i, z, q1, q2, q3, q4⟩ := zeroOK_spec h4
    obtain ⟨i', hi', rfl⟩ := szOK_spec h5
    rw [q1] at hi'; cases hi'
    simp only [doOp] at hs
    split at hs
    · next es hf =>
      refine .doesV s hs (sem := Instr.buildSlice t len (ps.map fun (i, x) => (i, a.eval x))) (by simp [execOp, ho]) ?_
      have := buildSlice_rel (P := E.P) (imm := imm) s.ev.mem hd q1 q2 q3 (q4 G) (by intro h0; rw [h0] at h6; cases h6) (by omega) (ckElems_rel s hg h2) hf
      have e1 : (ps.toList.map fun p => (p.1, a.eval p.2)).toArray = ps.map fun (i, x) => (i, a.eval x) := by
        apply Array.ext'; simp
      rwa [e1] at this
    · exact hs.elim
  · next c ao => exact sim_builtin s hg rfl hck hnc ho hs
  · cases hck

end
end Go.Proofs.YtjbkcboklccmeaaGreatDoor.Abs
