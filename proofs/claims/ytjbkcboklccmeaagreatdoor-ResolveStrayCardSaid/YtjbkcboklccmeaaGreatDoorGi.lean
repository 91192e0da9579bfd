/-
  The same reading of code, laid out so that the kernel unfolds little at each step; it is the reading (proved).
-/
import Derived.Test.YtjbkcboklccmeaaGreatDoorGh
set_option linter.unusedVariables false
set_option linter.unusedSimpArgs false
set_option linter.unusedVariables false
namespace Go.Proofs.YtjbkcboklccmeaaGreatDoor.Abs

noncomputable def condF {α : Type} (b : Bool) : α → α → α := Bool.rec (motive := fun _ => α → α → α) (fun _ y => y) (fun x _ => x) b
theorem condF_eq {α : Type} (b : Bool) (x y : α) : condF b x y = bif b then x else y := by cases b <;> rfl
noncomputable def getT : Env → Nat → AV := List.rec (motive := fun _ => Nat → AV) (fun _ => .undef) (fun p _ ih s => Prod.rec (motive := fun _ => AV) (fun k v => condF (Nat.beq k s) v (ih s)) p)
noncomputable def getF (e : Env) (s : Nat) : AV := getT e s

theorem getF_eq : getF = Env.get := by
  funext e s
  induction e with
  | nil => rfl
  | cons p e ih =>
    obtain ⟨k, v⟩ := p
    show condF (Nat.beq k s) v (getF e s) = _
    rw [ih, condF_eq]; rfl

def crefO : Option (List AV) → AV
  | some cs => .cref cs
  | none => .undef
noncomputable def evT : Operand → Globals → Env → AV := Operand.rec (motive := fun _ => Globals → Env → AV) (fun s _ e => getF e s) (fun v _ _ => AV.ofValue v) (fun g gl _ => crefO (gl g)) (fun f _ _ => .clos f [] [])
noncomputable def evR (gl : Globals) (e : Env) (x : Operand) : AV := evT x gl e
theorem evR_eq : evR = Opd.eval := by
  funext gl e x
  cases x with
  | tmp s => show getF e s = _; rw [getF_eq]; rfl
  | const v => rfl
  | global g => show crefO (gl g) = _; simp only [Opd.eval]; cases gl g <;> rfl
  | func f => rfl

noncomputable def cleanF : AV → AV := AV.rec (motive_1 := fun _ => AV) (motive_2 := fun _ => Unit) (motive_3 := fun _ => Unit) (.undef ) (fun b => .bool b) (fun k n => .int k n) (fun s => .str s) (.nil ) (fun i o => .ptr i o) (fun _ _ => .undef) (fun i z k o => .eptr i z k o) (fun cs _ => .cref cs) (.nilSlice ) (fun z x es _ => .list z x es) (fun i z o l c => .slice i z o l c) (.nilMap ) (fun i => .map i) (fun f a b _ _ => .clos f a b) (fun l => .yield l) (.nilFunc ) (fun cs _ => .agg cs) (fun vs _ => .tuple vs) (.nilIface ) (fun t v _ => .iface t v) () (fun _ _ _ _ => ()) () (fun _ _ _ _ => ())
theorem cleanF_eq (v : AV) : cleanF v = v.clean := by cases v <;> rfl
noncomputable def evC (gl : Globals) (e : Env) (x : Operand) : AV := cleanF (evR gl e x)
theorem evC_eq (gl : Globals) (e : Env) : evC gl e = fun x => (Opd.eval gl e x).clean := by
  funext x; unfold evC; rw [evR_eq, cleanF_eq]

/-- A value, seen. -/
noncomputable def seenT {β : Type} : AV → (AV → β) → β := AV.rec (motive_1 := fun _ => (AV → β) → β) (motive_2 := fun _ => Unit) (motive_3 := fun _ => Unit) (fun g => g (.undef )) (fun b g => g (.bool b)) (fun k n g => g (.int k n)) (fun s g => g (.str s)) (fun g => g (.nil )) (fun i o g => g (.ptr i o)) (fun i o g => g (.lptr i o)) (fun i z k o g => g (.eptr i z k o)) (fun cs _ g => g (.cref cs)) (fun g => g (.nilSlice )) (fun z x es _ g => g (.list z x es)) (fun i z o l c g => g (.slice i z o l c)) (fun g => g (.nilMap )) (fun i g => g (.map i)) (fun f a b _ _ g => g (.clos f a b)) (fun l g => g (.yield l)) (fun g => g (.nilFunc )) (fun cs _ g => g (.agg cs)) (fun vs _ g => g (.tuple vs)) (fun g => g (.nilIface )) (fun t v _ g => g (.iface t v)) () (fun _ _ _ _ => ()) () (fun _ _ _ _ => ())
noncomputable def seen {β : Type} (g : AV → β) (v : AV) : β := seenT v g
theorem seen_eq {β : Type} (k : AV → β) (v : AV) : seen k v = k v := by cases v <;> rfl

noncomputable def seenAll {β : Type} (gl : Globals) (e : Env) (xs : List Operand) : (List AV → β) → β :=
  List.rec (motive := fun _ => (List AV → β) → β) (fun k => k []) (fun x _ ih k => seen (fun v => ih fun l => k (v :: l)) (evC gl e x)) xs
theorem seenAll_eq {β : Type} (gl : Globals) (e : Env) : ∀ (xs : List Operand) (k : List AV → β), seenAll gl e xs k = k (evalAll gl e xs)
  | [], k => rfl
  | x :: xs, k => by
    show seen (fun v => seenAll gl e xs fun l => k (v :: l)) (evC gl e x) = _
    rw [seen_eq, seenAll_eq gl e xs, evC_eq]; rfl

noncomputable def keptK {β : Type} (ih : Env → (Env → β) → β) (s : Nat) (e : Env) (k : Env → β) (v : AV) : β := ih e fun r => k ((s, v) :: r)
noncomputable def keptT {β : Type} : List Nat → Env → (Env → β) → β :=
  List.rec (motive := fun _ => Env → (Env → β) → β) (fun _ k => k []) (fun s _ ih e k => seen (keptK ih s e k) (getT e s))
noncomputable def keptF {β : Type} (e : Env) (l : List Nat) (k : Env → β) : β := keptT l e k
theorem keptF_eq {β : Type} (e : Env) : ∀ (l : List Nat) (k : Env → β), keptF e l k = k (e.keep l)
  | [], k => rfl
  | s :: l, k => by
    show seen (keptK (fun e k => keptF e l k) s e k) (getF e s) = _
    rw [seen_eq]
    show keptF e l (fun r => k ((s, getF e s) :: r)) = _
    rw [keptF_eq e l, getF_eq]; rfl

/-- What is kept of a frame, seen. -/
noncomputable def boxesT : List (Nat × List AV) → Env → List (Nat × List AV) := List.rec (motive := fun _ => Env → List (Nat × List AV)) (fun _ => []) (fun b bs _ e => rebuild (b :: bs) e)
noncomputable def keepK {β : Type} (l : Loc) (ds : List (Nat × List AV)) (k : St → β) (e : Env) : β := k ⟨e, ⟨boxesT l.boxes e, l.nb + 1⟩, ds⟩
noncomputable def keepT {β : Type} : St → List Nat → (St → β) → β := St.rec (motive := fun _ => List Nat → (St → β) → β) (fun e l ds live k => keptT live e (keepK l ds k))
noncomputable def keepF {β : Type} (st : St) (live : List Nat) (k : St → β) : β := keepT st live k
theorem rebuild_nil : ∀ e : Env, rebuild [] e = []
  | [] => rfl
  | p :: e => by
    simp only [rebuild]
    cases lptrOf p.2 with
    | none => exact rebuild_nil e
    | some i => simp only [boxGet]; exact rebuild_nil e
theorem keepF_eq {β : Type} (st : St) (live : List Nat) (k : St → β) : keepF st live k = k (st.keep live) := by
  obtain ⟨e, ⟨boxes, nb⟩, ds⟩ := st
  show keptF e live (keepK ⟨boxes, nb⟩ ds k) = _
  rw [keptF_eq]
  unfold keepK
  cases boxes with
  | nil =>
    simp only [St.keep, Loc.keep, rebuild_nil]
    rfl
  | cons b boxes => rfl

noncomputable def d_mov (c : Ctx) (rec : Rec) (e : Env) (l : Loc) (x : Operand) (h : Heap) : ND ((AV × Option Loc) × Heap) := .ret (((evR c.gl e) x, none), h)
noncomputable def d_pick (c : Ctx) (rec : Rec) (e : Env) (l : Loc) (p : Operand) (a : Operand) (b : Operand) (h : Heap) : ND ((AV × Option Loc) × Heap) := match (evC c.gl e) p with
  | .bool t => .ret ((bif t then (evR c.gl e) a else (evR c.gl e) b, none), h)
  | _ => .fail
noncomputable def d_allocL (c : Ctx) (rec : Rec) (e : Env) (l : Loc) (k : Nat) (zero : List AV) (h : Heap) : ND ((AV × Option Loc) × Heap) := if l.free k then .ret ((.lptr (l.id k) 0, some (l.add k zero)), h) else .fail
noncomputable def d_boxL (c : Ctx) (rec : Rec) (e : Env) (l : Loc) (k : Nat) (n : Nat) (x : Operand) (h : Heap) : ND ((AV × Option Loc) × Heap) := match ((evC c.gl e) x).cells with
  | some cs => if cs.length = n then (if l.free k then .ret ((.lptr (l.id k) 0, some (l.add k cs)), h) else .fail) else .fail
  | none => .fail
noncomputable def d_allocH (c : Ctx) (rec : Rec) (e : Env) (l : Loc) (ty : Nat) (zero : List AV) (h : Heap) : ND ((AV × Option Loc) × Heap) := .ret ((.ptr h.length 0, none), h ++ [some (.cells ty zero)])
noncomputable def d_boxH (c : Ctx) (rec : Rec) (e : Env) (l : Loc) (ty : Nat) (n : Nat) (x : Operand) (h : Heap) : ND ((AV × Option Loc) × Heap) := match ((evC c.gl e) x).cells with
  | some cs => if cs.length = n then .ret ((.ptr h.length 0, none), h ++ [some (.cells ty cs)]) else .fail
  | none => .fail
noncomputable def d_loadL (c : Ctx) (rec : Rec) (e : Env) (l : Loc) (agg : Bool) (n : Nat) (a : Operand) (h : Heap) : ND ((AV × Option Loc) × Heap) := match (evR c.gl e) a with
  | .lptr i off => match boxGet l.boxes i with
    | some cs => if off ≤ cs.length then out (mkVal agg n (cs.drop off)) h else .fail
    | none => .fail
  | _ => .fail
noncomputable def d_storeL (c : Ctx) (rec : Rec) (e : Env) (l : Loc) (n : Nat) (a : Operand) (x : Operand) (h : Heap) : ND ((AV × Option Loc) × Heap) := match (evR c.gl e) a, ((evC c.gl e) x).cells with
  | .lptr i off, some xs => match boxGet l.boxes i with
    | some cs => if xs.length = n ∧ off + n ≤ cs.length then .ret ((.undef, some (l.set i (splice cs off xs))), h) else .fail
    | none => .fail
  | _, _ => .fail
noncomputable def d_fieldL (c : Ctx) (rec : Rec) (e : Env) (l : Loc) (off : Nat) (x : Operand) (h : Heap) : ND ((AV × Option Loc) × Heap) := match (evR c.gl e) x with
  | .lptr i o => .ret ((.lptr i (o + off), none), h)
  | _ => .fail
noncomputable def d_idxL (c : Ctx) (rec : Rec) (e : Env) (l : Loc) (esz : Nat) (len : Nat) (x : Operand) (i : Operand) (h : Heap) : ND ((AV × Option Loc) × Heap) := match (evR c.gl e) x, idxOf ((evC c.gl e) i) with
  | .lptr j o, some i => if 0 ≤ i ∧ i < (len : Int) then .ret ((.lptr j (o + i.toNat * esz), none), h) else .fail
  | _, _ => .fail
noncomputable def d_load (c : Ctx) (rec : Rec) (e : Env) (l : Loc) (agg : Bool) (n : Nat) (a : Operand) (h : Heap) : ND ((AV × Option Loc) × Heap) := out (loadAt agg n h ((evC c.gl e) a)) h
noncomputable def d_store (c : Ctx) (rec : Rec) (e : Env) (l : Loc) (n : Nat) (a : Operand) (x : Operand) (h : Heap) : ND ((AV × Option Loc) × Heap) := outS (storeAt n h ((evC c.gl e) a) ((evC c.gl e) x)) h
noncomputable def d_nilCheck (c : Ctx) (rec : Rec) (e : Env) (l : Loc) (x : Operand) (h : Heap) : ND ((AV × Option Loc) × Heap) := match (evC c.gl e) x with
  | .ptr i o => .ret ((.ptr i o, none), h)
  | .eptr i s k o => .ret ((.eptr i s k o, none), h)
  | .cref cs => .ret ((.cref cs, none), h)
  | _ => .fail
noncomputable def d_fieldAddr (c : Ctx) (rec : Rec) (e : Env) (l : Loc) (off : Nat) (x : Operand) (h : Heap) : ND ((AV × Option Loc) × Heap) := out (fieldAt off ((evC c.gl e) x)) h
noncomputable def d_indexAddr (c : Ctx) (rec : Rec) (e : Env) (l : Loc) (esz : Nat) (x : Operand) (i : Operand) (h : Heap) : ND ((AV × Option Loc) × Heap) := out (indexAt esz ((evC c.gl e) x) ((evC c.gl e) i)) h
noncomputable def d_indexArr (c : Ctx) (rec : Rec) (e : Env) (l : Loc) (esz : Nat) (len : Nat) (x : Operand) (i : Operand) (h : Heap) : ND ((AV × Option Loc) × Heap) := out (indexArrAt esz len ((evC c.gl e) x) ((evC c.gl e) i)) h
noncomputable def d_field (c : Ctx) (rec : Rec) (e : Env) (l : Loc) (agg : Bool) (n : Nat) (off : Nat) (x : Operand) (h : Heap) : ND ((AV × Option Loc) × Heap) := out (fieldOf agg n off ((evC c.gl e) x)) h
noncomputable def d_index (c : Ctx) (rec : Rec) (e : Env) (l : Loc) (agg : Bool) (esz : Nat) (len : Nat) (x : Operand) (i : Operand) (h : Heap) : ND ((AV × Option Loc) × Heap) := out (indexOf agg esz len ((evC c.gl e) x) ((evC c.gl e) i)) h
noncomputable def d_indexStr (c : Ctx) (rec : Rec) (e : Env) (l : Loc) (x : Operand) (i : Operand) (h : Heap) : ND ((AV × Option Loc) × Heap) := out (indexStrOf ((evC c.gl e) x) ((evC c.gl e) i)) h
noncomputable def d_sliceStr (c : Ctx) (rec : Rec) (e : Env) (l : Loc) (x : Operand) (lo : Option Operand) (hi : Option Operand) (h : Heap) : ND ((AV × Option Loc) × Heap) := out (sliceStrOf ((evC c.gl e) x) (lo.map (evC c.gl e)) (hi.map (evC c.gl e))) h
noncomputable def d_slice (c : Ctx) (rec : Rec) (e : Env) (l : Loc) (esz : Nat) (x : Operand) (lo : Option Operand) (hi : Option Operand) (h : Heap) : ND ((AV × Option Loc) × Heap) := out (sliceOf esz ((evC c.gl e) x) (lo.map (evC c.gl e)) (hi.map (evC c.gl e))) h
noncomputable def d_bin (c : Ctx) (rec : Rec) (e : Env) (l : Loc) (op : BinOp) (x : Operand) (y : Operand) (h : Heap) : ND ((AV × Option Loc) × Heap) := out (binOf op ((evC c.gl e) x) ((evC c.gl e) y)) h
noncomputable def d_binB (c : Ctx) (rec : Rec) (e : Env) (l : Loc) (op : BinOp) (x : Operand) (y : Operand) (h : Heap) : ND ((AV × Option Loc) × Heap) := out (binBOf op ((evC c.gl e) x) ((evC c.gl e) y)) h
noncomputable def d_eqAgg (c : Ctx) (rec : Rec) (e : Env) (l : Loc) (neg : Bool) (ks : List CK) (x : Operand) (y : Operand) (h : Heap) : ND ((AV × Option Loc) × Heap) := match eqKey (.agg ks) ((evC c.gl e) x) ((evC c.gl e) y) with
  | some b => .ret ((.bool (neg != b), none), h)
  | none => .fail
noncomputable def d_eqNil (c : Ctx) (rec : Rec) (e : Env) (l : Loc) (k : NK) (neg : Bool) (x : Operand) (y : Operand) (h : Heap) : ND ((AV × Option Loc) × Heap) := match eqPtr k h ((evC c.gl e) x) ((evC c.gl e) y) with
  | some b => .ret ((.bool (neg != b), none), h)
  | none => .fail
noncomputable def d_un (c : Ctx) (rec : Rec) (e : Env) (l : Loc) (op : UnOp) (x : Operand) (h : Heap) : ND ((AV × Option Loc) × Heap) := out (unOf op ((evC c.gl e) x)) h
noncomputable def d_convInt (c : Ctx) (rec : Rec) (e : Env) (l : Loc) (k : IntKind) (x : Operand) (h : Heap) : ND ((AV × Option Loc) × Heap) := match (evC c.gl e) x with
  | .int _ n => .ret ((.int k (k.wrap n), none), h)
  | _ => .fail
noncomputable def d_bytesToStr (c : Ctx) (rec : Rec) (e : Env) (l : Loc) (x : Operand) (h : Heap) : ND ((AV × Option Loc) × Heap) := out (strOf h ((evC c.gl e) x)) h
noncomputable def d_strToBytes (c : Ctx) (rec : Rec) (e : Env) (l : Loc) (ty : Nat) (x : Operand) (h : Heap) : ND ((AV × Option Loc) × Heap) := match (evC c.gl e) x with
  | .str s => .ret ((.slice h.length 1 0 s.length s.length, none), h ++ [some (.arr ty 1 0 true (s.map fun b => [.int .u8 b.toNat]))])
  | _ => .fail
noncomputable def d_convPtr (c : Ctx) (rec : Rec) (e : Env) (l : Loc) (ty : Nat) (n : Nat) (x : Operand) (h : Heap) : ND ((AV × Option Loc) × Heap) := match (evC c.gl e) x with
  | .nil => .ret ((.nil, none), h)
  | .ptr id off => match hget h id with
    | some (.cells ty' cs) => if ty' = ty ∧ off = 0 ∧ cs.length = n then .ret ((.ptr id off, none), h) else .fail
    | _ => .fail
  | _ => .fail
noncomputable def d_clos (c : Ctx) (rec : Rec) (e : Env) (l : Loc) (f : Nat) (first : List Operand) (caps : List Operand) (h : Heap) : ND ((AV × Option Loc) × Heap) := .ret ((.clos f (evalAll c.gl e first) (evalAll c.gl e caps), none), h)
noncomputable def d_makeMap (c : Ctx) (rec : Rec) (e : Env) (l : Loc)  (h : Heap) : ND ((AV × Option Loc) × Heap) := .ret ((.map h.length, none), h ++ [some (.map [] 0)])
noncomputable def d_lookup (c : Ctx) (rec : Rec) (e : Env) (l : Loc) (kk : KK) (zero : AV) (ok : Bool) (m : Operand) (k : Operand) (h : Heap) : ND ((AV × Option Loc) × Heap) := out (lookupOf kk zero ok ((evC c.gl e) m) ((evC c.gl e) k) h) h
noncomputable def d_mapUpdate (c : Ctx) (rec : Rec) (e : Env) (l : Loc) (kk : KK) (m : Operand) (k : Operand) (v : Operand) (h : Heap) : ND ((AV × Option Loc) × Heap) := outS (mapUpdateOf kk ((evC c.gl e) m) ((evC c.gl e) k) ((evC c.gl e) v) h) h
noncomputable def d_mapEntry (c : Ctx) (rec : Rec) (e : Env) (l : Loc) (kk : KK) (zero : AV) (m : Operand) (k : Operand) (h : Heap) : ND ((AV × Option Loc) × Heap) := outH (mapEntryOf kk zero ((evC c.gl e) m) ((evC c.gl e) k) h) h
noncomputable def d_entryStore (c : Ctx) (rec : Rec) (e : Env) (l : Loc) (m : Operand) (s : Operand) (v : Operand) (h : Heap) : ND ((AV × Option Loc) × Heap) := outS (entryStoreOf ((evC c.gl e) m) ((evC c.gl e) s) ((evC c.gl e) v) h) h
noncomputable def d_delete (c : Ctx) (rec : Rec) (e : Env) (l : Loc) (kk : KK) (m : Operand) (k : Operand) (h : Heap) : ND ((AV × Option Loc) × Heap) := outS (deleteOf kk ((evC c.gl e) m) ((evC c.gl e) k) h) h
noncomputable def d_range (c : Ctx) (rec : Rec) (e : Env) (l : Loc) (m : Operand) (h : Heap) : ND ((AV × Option Loc) × Heap) := outH (rangeOf ((evC c.gl e) m) h) h
noncomputable def d_next (c : Ctx) (rec : Rec) (e : Env) (l : Loc) (it : Operand) (h : Heap) : ND ((AV × Option Loc) × Heap) := (nextOf ((evC c.gl e) it) h).bind fun r => .ret ((r.1, none), r.2)
noncomputable def d_entry (c : Ctx) (rec : Rec) (e : Env) (l : Loc) (it : Operand) (h : Heap) : ND ((AV × Option Loc) × Heap) := out (entryOf ((evC c.gl e) it) h) h
noncomputable def d_makeSlice (c : Ctx) (rec : Rec) (e : Env) (l : Loc) (ty : Nat) (esz : Nat) (bytes : Nat) (zero : List AV) (len : Operand) (cap : Operand) (h : Heap) : ND ((AV × Option Loc) × Heap) := match (evC c.gl e) len, (evC c.gl e) cap with
  | .int _ l, .int _ n => if 0 ≤ l ∧ l ≤ n ∧ n * bytes ≤ maxBytes ∧ n ≤ 9223372036854775807 then
      .ret ((.slice h.length esz 0 l.toNat n.toNat, none), h ++ [some (.arr ty esz 0 false (List.replicate n.toNat zero))])
    else .fail
  | _, _ => .fail
noncomputable def d_build (c : Ctx) (rec : Rec) (e : Env) (l : Loc) (zero : List AV) (ps : List (Nat × Nat × Operand)) (h : Heap) : ND ((AV × Option Loc) × Heap) := match fillParts zero (ps.map fun p => (p.1, p.2.1, (evC c.gl e) p.2.2)) with
  | some cs => .ret ((.agg cs, none), h)
  | none => .fail
noncomputable def d_buildSlice (c : Ctx) (rec : Rec) (e : Env) (l : Loc) (imm : Bool) (ty : Nat) (esz : Nat) (len : Nat) (zero : List AV) (ps : List (Nat × Operand)) (h : Heap) : ND ((AV × Option Loc) × Heap) := match fillElems esz (List.replicate len zero) (ps.map fun p => (p.1, (evC c.gl e) p.2)) with
  | some es => .ret (((newArr imm ty esz true es h).1, none), (newArr imm ty esz true es h).2)
  | none => .fail
noncomputable def d_call (c : Ctx) (rec : Rec) (e : Env) (l : Loc) (f : Nat) (args : List Operand) (h : Heap) : ND ((AV × Option Loc) × Heap) := (seenAll c.gl e args fun l => rec (.fn f) l h).bind fun r => .ret ((r.1, none), r.2)
noncomputable def d_callv (c : Ctx) (rec : Rec) (e : Env) (l : Loc) (f : Operand) (args : List Operand) (h : Heap) : ND ((AV × Option Loc) × Heap) := (seenAll c.gl e args fun l => callValue rec ((evC c.gl e) f) l h).bind fun r => .ret ((r.1, none), r.2)
noncomputable def d_ext (c : Ctx) (rec : Rec) (e : Env) (l : Loc) (f : Nat) (args : List Operand) (h : Heap) : ND ((AV × Option Loc) × Heap) := out (c.ext f (evalAll c.gl e args)) h
noncomputable def d_append (c : Ctx) (rec : Rec) (e : Env) (l : Loc) (imm : Bool) (ty : Nat) (esz : Nat) (bytes : Nat) (s : Operand) (x : Operand) (h : Heap) : ND ((AV × Option Loc) × Heap) := outH (appendOf imm ty esz bytes ((evC c.gl e) s) ((evC c.gl e) x) h) h
noncomputable def d_copy (c : Ctx) (rec : Rec) (e : Env) (l : Loc) (esz : Nat) (d : Operand) (s : Operand) (h : Heap) : ND ((AV × Option Loc) × Heap) := outH (copyOf esz ((evC c.gl e) d) ((evC c.gl e) s) h) h
noncomputable def d_len (c : Ctx) (rec : Rec) (e : Env) (l : Loc) (k : LK) (x : Operand) (h : Heap) : ND ((AV × Option Loc) × Heap) := match lenOf k h ((evC c.gl e) x) with
  | some n => .ret ((.int .i64 n, none), h)
  | none => .fail
noncomputable def d_min (c : Ctx) (rec : Rec) (e : Env) (l : Loc) (x : Operand) (y : Operand) (h : Heap) : ND ((AV × Option Loc) × Heap) := match (evC c.gl e) x, (evC c.gl e) y with
  | .int k a, .int k' b => if k = k' then .ret ((.int k (if b < a then b else a), none), h) else .fail
  | _, _ => .fail
noncomputable def d_max (c : Ctx) (rec : Rec) (e : Env) (l : Loc) (x : Operand) (y : Operand) (h : Heap) : ND ((AV × Option Loc) × Heap) := match (evC c.gl e) x, (evC c.gl e) y with
  | .int k a, .int k' b => if k = k' then .ret ((.int k (if b > a then b else a), none), h) else .fail
  | _, _ => .fail
noncomputable def d_extract (c : Ctx) (rec : Rec) (e : Env) (l : Loc) (t : Operand) (i : Nat) (h : Heap) : ND ((AV × Option Loc) × Heap) := match (evC c.gl e) t with
  | .tuple vs => out vs[i]? h
  | _ => .fail
noncomputable def d_sliceData (c : Ctx) (rec : Rec) (e : Env) (l : Loc) (x : Operand) (h : Heap) : ND ((AV × Option Loc) × Heap) := out (sliceDataOf ((evC c.gl e) x)) h
noncomputable def d_unsafeStr (c : Ctx) (rec : Rec) (e : Env) (l : Loc) (ty : Nat) (x : Operand) (n : Operand) (h : Heap) : ND ((AV × Option Loc) × Heap) := outH (unsafeStrOf ty ((evC c.gl e) x) ((evC c.gl e) n) h) h

noncomputable def doOpF (c : Ctx) (rec : Rec) (e : Env) (l : Loc) (op : AOp) : Heap → ND ((AV × Option Loc) × Heap) :=
  AOp.rec (motive := fun _ => Heap → ND ((AV × Option Loc) × Heap))
    (fun x0 h => d_mov c rec e l x0 h)
    (fun x0 x1 x2 h => d_pick c rec e l x0 x1 x2 h)
    (fun x0 x1 h => d_allocL c rec e l x0 x1 h)
    (fun x0 x1 x2 h => d_boxL c rec e l x0 x1 x2 h)
    (fun x0 x1 h => d_allocH c rec e l x0 x1 h)
    (fun x0 x1 x2 h => d_boxH c rec e l x0 x1 x2 h)
    (fun x0 x1 x2 h => d_loadL c rec e l x0 x1 x2 h)
    (fun x0 x1 x2 h => d_storeL c rec e l x0 x1 x2 h)
    (fun x0 x1 h => d_fieldL c rec e l x0 x1 h)
    (fun x0 x1 x2 x3 h => d_idxL c rec e l x0 x1 x2 x3 h)
    (fun x0 x1 x2 x3 _ => .fail)
    (fun x0 x1 x2 h => d_load c rec e l x0 x1 x2 h)
    (fun x0 x1 x2 h => d_store c rec e l x0 x1 x2 h)
    (fun x0 h => d_nilCheck c rec e l x0 h)
    (fun x0 x1 h => d_fieldAddr c rec e l x0 x1 h)
    (fun x0 x1 x2 h => d_indexAddr c rec e l x0 x1 x2 h)
    (fun x0 x1 x2 x3 h => d_indexArr c rec e l x0 x1 x2 x3 h)
    (fun x0 x1 x2 x3 h => d_field c rec e l x0 x1 x2 x3 h)
    (fun x0 x1 x2 x3 x4 h => d_index c rec e l x0 x1 x2 x3 x4 h)
    (fun x0 x1 h => d_indexStr c rec e l x0 x1 h)
    (fun x0 x1 x2 h => d_sliceStr c rec e l x0 x1 x2 h)
    (fun x0 x1 x2 x3 h => d_slice c rec e l x0 x1 x2 x3 h)
    (fun x0 x1 x2 h => d_bin c rec e l x0 x1 x2 h)
    (fun x0 x1 x2 h => d_binB c rec e l x0 x1 x2 h)
    (fun x0 x1 x2 x3 h => d_eqAgg c rec e l x0 x1 x2 x3 h)
    (fun x0 x1 x2 x3 h => d_eqNil c rec e l x0 x1 x2 x3 h)
    (fun x0 x1 h => d_un c rec e l x0 x1 h)
    (fun x0 x1 h => d_convInt c rec e l x0 x1 h)
    (fun x0 h => d_bytesToStr c rec e l x0 h)
    (fun x0 x1 h => d_strToBytes c rec e l x0 x1 h)
    (fun x0 x1 x2 h => d_convPtr c rec e l x0 x1 x2 h)
    (fun x0 x1 x2 h => d_clos c rec e l x0 x1 x2 h)
    (fun h => d_makeMap c rec e l h)
    (fun x0 x1 x2 x3 x4 h => d_lookup c rec e l x0 x1 x2 x3 x4 h)
    (fun x0 x1 x2 x3 h => d_mapUpdate c rec e l x0 x1 x2 x3 h)
    (fun x0 x1 x2 x3 h => d_mapEntry c rec e l x0 x1 x2 x3 h)
    (fun x0 x1 x2 h => d_entryStore c rec e l x0 x1 x2 h)
    (fun x0 x1 x2 h => d_delete c rec e l x0 x1 x2 h)
    (fun x0 h => d_range c rec e l x0 h)
    (fun x0 h => d_next c rec e l x0 h)
    (fun x0 h => d_entry c rec e l x0 h)
    (fun x0 x1 x2 x3 x4 x5 h => d_makeSlice c rec e l x0 x1 x2 x3 x4 x5 h)
    (fun x0 x1 h => d_build c rec e l x0 x1 h)
    (fun x0 x1 x2 x3 x4 x5 h => d_buildSlice c rec e l x0 x1 x2 x3 x4 x5 h)
    (fun x0 x1 h => d_call c rec e l x0 x1 h)
    (fun x0 x1 h => d_callv c rec e l x0 x1 h)
    (fun x0 x1 h => d_ext c rec e l x0 x1 h)
    (fun x0 x1 _ => .fail)
    (fun x0 x1 x2 x3 x4 x5 h => d_append c rec e l x0 x1 x2 x3 x4 x5 h)
    (fun x0 x1 x2 h => d_copy c rec e l x0 x1 x2 h)
    (fun x0 x1 h => d_len c rec e l x0 x1 h)
    (fun x0 x1 h => d_min c rec e l x0 x1 h)
    (fun x0 x1 h => d_max c rec e l x0 x1 h)
    (fun x0 x1 h => d_extract c rec e l x0 x1 h)
    (fun x0 h => d_sliceData c rec e l x0 h)
    (fun x0 x1 x2 h => d_unsafeStr c rec e l x0 x1 x2 h) op

theorem doOpF_eq (c : Ctx) (rec : Rec) (e : Env) (l : Loc) (op : AOp) (h : Heap) : doOpF c rec e l op h = doOp c rec e l op h := by
  cases op <;> first | rfl | (simp only [doOpF, d_mov, d_pick, d_allocL, d_boxL, d_allocH, d_boxH, d_loadL, d_storeL, d_fieldL, d_idxL, d_load, d_store, d_nilCheck, d_fieldAddr, d_indexAddr, d_indexArr, d_field, d_index, d_indexStr, d_sliceStr, d_slice, d_bin, d_binB, d_eqAgg, d_eqNil, d_un, d_convInt, d_bytesToStr, d_strToBytes, d_convPtr, d_clos, d_makeMap, d_lookup, d_mapUpdate, d_mapEntry, d_entryStore, d_delete, d_range, d_next, d_entry, d_makeSlice, d_build, d_buildSlice, d_call, d_callv, d_ext, d_append, d_copy, d_len, d_min, d_max, d_extract, d_sliceData, d_unsafeStr, evC_eq, evR_eq, seenAll_eq]; rfl)

noncomputable def bindT {α β : Type} : ND α → (α → ND β) → ND β := ND.rec (motive := fun _ => (α → ND β) → ND β) (fun _ => .fail) (fun a f => f a) (fun n _ ih f => .pick n fun i => ih i f)
noncomputable def bindF {α β : Type} (x : ND α) (f : α → ND β) : ND β := bindT x f

theorem bindF_eq {α β : Type} (x : ND α) (f : α → ND β) : bindF x f = x.bind f := by
  induction x with
  | fail => rfl
  | ret a => rfl
  | pick n k ih => exact congrArg (ND.pick n) (funext ih)

def deferOf0 (op : AOp) : Option (Nat × List Operand) := match op with
  | .defer f args => some (f, args)
  | _ => none

def putLoc (l : Loc) : Option Loc → Loc
  | some l' => l'
  | none => l

noncomputable def putT : Option Nat → Env → AV → Env := Option.rec (motive := fun _ => Env → AV → Env) (fun e _ => e) (fun d e v => (d, v) :: e)
noncomputable def putLocT : Option Loc → Loc → Loc := Option.rec (motive := fun _ => Loc → Loc) (fun l => l) (fun l' _ => l')
noncomputable def afterK (e : Env) (l : Loc) (ds : List (Nat × List AV)) (lo : Option Loc) (h : Heap) (dst : Option Nat) (v : AV) : ND (St × Heap) := .ret (⟨putT dst e v, putLocT lo l, ds⟩, h)
noncomputable def afterZ (e : Env) (l : Loc) (ds : List (Nat × List AV)) (lo : Option Loc) (h : Heap) (dst : Option Nat) (v : AV) : ND (St × Heap) := match freeze v h with
  | some (v, h) => afterK e l ds lo h dst v
  | none => .fail
noncomputable def after3 : St → AV → Option Loc → Heap → Option Nat → Bool → ND (St × Heap) := St.rec (motive := fun _ => AV → Option Loc → Heap → Option Nat → Bool → ND (St × Heap))
  (fun e l ds v lo h dst frz => condF frz (seen (afterZ e l ds lo h dst) v) (seen (afterK e l ds lo h dst) v))
noncomputable def after2 : AV × Option Loc → Heap → St → Option Nat → Bool → ND (St × Heap) := Prod.rec (motive := fun _ => Heap → St → Option Nat → Bool → ND (St × Heap)) (fun v lo h st dst frz => after3 st v lo h dst frz)
noncomputable def after1 : (AV × Option Loc) × Heap → St → Option Nat → Bool → ND (St × Heap) := Prod.rec (motive := fun _ => St → Option Nat → Bool → ND (St × Heap)) (fun a h st dst frz => after2 a h st dst frz)
noncomputable def afterF (st : St) (dst : Option Nat) (frz : Bool) (r : (AV × Option Loc) × Heap) : ND (St × Heap) := after1 r st dst frz

theorem afterF_eq (st : St) (o : AOper) (r : (AV × Option Loc) × Heap) : afterF st o.dst o.frz r = afterOp st o r := by
  have e : ∀ (l : Loc) (lo : Option Loc), putLocT lo l = lo.getD l := by intro l lo; cases lo <;> rfl
  have ep : ∀ (e : Env) (d : Option Nat) (v : AV), putT d e v = e.put d v := by intro e d v; cases d <;> rfl
  obtain ⟨⟨v, lo⟩, h⟩ := r
  obtain ⟨en, l, ds⟩ := st
  show condF o.frz (seen (afterZ en l ds lo h o.dst) v) (seen (afterK en l ds lo h o.dst) v) = _
  rw [condF_eq, seen_eq, seen_eq]
  unfold afterOp afterZ afterK
  simp only [ep, e]
  rfl

noncomputable def finF (st : St) (dst : Option Nat) (frz : Bool) (x : ND ((AV × Option Loc) × Heap)) : ND (St × Heap) := bindF x (afterF st dst frz)

noncomputable def goT : AOp → Ctx → Rec → St → Option Nat → Bool → Heap → ND (St × Heap) :=
  AOp.rec (motive := fun _ => Ctx → Rec → St → Option Nat → Bool → Heap → ND (St × Heap))
    (fun x0 c rec st dst frz h => finF st dst frz (d_mov c rec st.env st.loc x0 h))
    (fun x0 x1 x2 c rec st dst frz h => finF st dst frz (d_pick c rec st.env st.loc x0 x1 x2 h))
    (fun x0 x1 c rec st dst frz h => finF st dst frz (d_allocL c rec st.env st.loc x0 x1 h))
    (fun x0 x1 x2 c rec st dst frz h => finF st dst frz (d_boxL c rec st.env st.loc x0 x1 x2 h))
    (fun x0 x1 c rec st dst frz h => finF st dst frz (d_allocH c rec st.env st.loc x0 x1 h))
    (fun x0 x1 x2 c rec st dst frz h => finF st dst frz (d_boxH c rec st.env st.loc x0 x1 x2 h))
    (fun x0 x1 x2 c rec st dst frz h => finF st dst frz (d_loadL c rec st.env st.loc x0 x1 x2 h))
    (fun x0 x1 x2 c rec st dst frz h => finF st dst frz (d_storeL c rec st.env st.loc x0 x1 x2 h))
    (fun x0 x1 c rec st dst frz h => finF st dst frz (d_fieldL c rec st.env st.loc x0 x1 h))
    (fun x0 x1 x2 x3 c rec st dst frz h => finF st dst frz (d_idxL c rec st.env st.loc x0 x1 x2 x3 h))
    (fun x0 x1 x2 x3 _ _ _ _ _ _ => .fail)
    (fun x0 x1 x2 c rec st dst frz h => finF st dst frz (d_load c rec st.env st.loc x0 x1 x2 h))
    (fun x0 x1 x2 c rec st dst frz h => finF st dst frz (d_store c rec st.env st.loc x0 x1 x2 h))
    (fun x0 c rec st dst frz h => finF st dst frz (d_nilCheck c rec st.env st.loc x0 h))
    (fun x0 x1 c rec st dst frz h => finF st dst frz (d_fieldAddr c rec st.env st.loc x0 x1 h))
    (fun x0 x1 x2 c rec st dst frz h => finF st dst frz (d_indexAddr c rec st.env st.loc x0 x1 x2 h))
    (fun x0 x1 x2 x3 c rec st dst frz h => finF st dst frz (d_indexArr c rec st.env st.loc x0 x1 x2 x3 h))
    (fun x0 x1 x2 x3 c rec st dst frz h => finF st dst frz (d_field c rec st.env st.loc x0 x1 x2 x3 h))
    (fun x0 x1 x2 x3 x4 c rec st dst frz h => finF st dst frz (d_index c rec st.env st.loc x0 x1 x2 x3 x4 h))
    (fun x0 x1 c rec st dst frz h => finF st dst frz (d_indexStr c rec st.env st.loc x0 x1 h))
    (fun x0 x1 x2 c rec st dst frz h => finF st dst frz (d_sliceStr c rec st.env st.loc x0 x1 x2 h))
    (fun x0 x1 x2 x3 c rec st dst frz h => finF st dst frz (d_slice c rec st.env st.loc x0 x1 x2 x3 h))
    (fun x0 x1 x2 c rec st dst frz h => finF st dst frz (d_bin c rec st.env st.loc x0 x1 x2 h))
    (fun x0 x1 x2 c rec st dst frz h => finF st dst frz (d_binB c rec st.env st.loc x0 x1 x2 h))
    (fun x0 x1 x2 x3 c rec st dst frz h => finF st dst frz (d_eqAgg c rec st.env st.loc x0 x1 x2 x3 h))
    (fun x0 x1 x2 x3 c rec st dst frz h => finF st dst frz (d_eqNil c rec st.env st.loc x0 x1 x2 x3 h))
    (fun x0 x1 c rec st dst frz h => finF st dst frz (d_un c rec st.env st.loc x0 x1 h))
    (fun x0 x1 c rec st dst frz h => finF st dst frz (d_convInt c rec st.env st.loc x0 x1 h))
    (fun x0 c rec st dst frz h => finF st dst frz (d_bytesToStr c rec st.env st.loc x0 h))
    (fun x0 x1 c rec st dst frz h => finF st dst frz (d_strToBytes c rec st.env st.loc x0 x1 h))
    (fun x0 x1 x2 c rec st dst frz h => finF st dst frz (d_convPtr c rec st.env st.loc x0 x1 x2 h))
    (fun x0 x1 x2 c rec st dst frz h => finF st dst frz (d_clos c rec st.env st.loc x0 x1 x2 h))
    (fun  c rec st dst frz h => finF st dst frz (d_makeMap c rec st.env st.loc  h))
    (fun x0 x1 x2 x3 x4 c rec st dst frz h => finF st dst frz (d_lookup c rec st.env st.loc x0 x1 x2 x3 x4 h))
    (fun x0 x1 x2 x3 c rec st dst frz h => finF st dst frz (d_mapUpdate c rec st.env st.loc x0 x1 x2 x3 h))
    (fun x0 x1 x2 x3 c rec st dst frz h => finF st dst frz (d_mapEntry c rec st.env st.loc x0 x1 x2 x3 h))
    (fun x0 x1 x2 c rec st dst frz h => finF st dst frz (d_entryStore c rec st.env st.loc x0 x1 x2 h))
    (fun x0 x1 x2 c rec st dst frz h => finF st dst frz (d_delete c rec st.env st.loc x0 x1 x2 h))
    (fun x0 c rec st dst frz h => finF st dst frz (d_range c rec st.env st.loc x0 h))
    (fun x0 c rec st dst frz h => finF st dst frz (d_next c rec st.env st.loc x0 h))
    (fun x0 c rec st dst frz h => finF st dst frz (d_entry c rec st.env st.loc x0 h))
    (fun x0 x1 x2 x3 x4 x5 c rec st dst frz h => finF st dst frz (d_makeSlice c rec st.env st.loc x0 x1 x2 x3 x4 x5 h))
    (fun x0 x1 c rec st dst frz h => finF st dst frz (d_build c rec st.env st.loc x0 x1 h))
    (fun x0 x1 x2 x3 x4 x5 c rec st dst frz h => finF st dst frz (d_buildSlice c rec st.env st.loc x0 x1 x2 x3 x4 x5 h))
    (fun x0 x1 c rec st dst frz h => finF st dst frz (d_call c rec st.env st.loc x0 x1 h))
    (fun x0 x1 c rec st dst frz h => finF st dst frz (d_callv c rec st.env st.loc x0 x1 h))
    (fun x0 x1 c rec st dst frz h => finF st dst frz (d_ext c rec st.env st.loc x0 x1 h))
    (fun x0 x1 c rec st dst frz h => .ret ({ env := st.env.put dst .undef, loc := st.loc, defers := (x0, evalAll c.gl st.env x1) :: st.defers }, h))
    (fun x0 x1 x2 x3 x4 x5 c rec st dst frz h => finF st dst frz (d_append c rec st.env st.loc x0 x1 x2 x3 x4 x5 h))
    (fun x0 x1 x2 c rec st dst frz h => finF st dst frz (d_copy c rec st.env st.loc x0 x1 x2 h))
    (fun x0 x1 c rec st dst frz h => finF st dst frz (d_len c rec st.env st.loc x0 x1 h))
    (fun x0 x1 c rec st dst frz h => finF st dst frz (d_min c rec st.env st.loc x0 x1 h))
    (fun x0 x1 c rec st dst frz h => finF st dst frz (d_max c rec st.env st.loc x0 x1 h))
    (fun x0 x1 c rec st dst frz h => finF st dst frz (d_extract c rec st.env st.loc x0 x1 h))
    (fun x0 c rec st dst frz h => finF st dst frz (d_sliceData c rec st.env st.loc x0 h))
    (fun x0 x1 x2 c rec st dst frz h => finF st dst frz (d_unsafeStr c rec st.env st.loc x0 x1 x2 h))
noncomputable def goF (c : Ctx) (rec : Rec) (st : St) (dst : Option Nat) (frz : Bool) (op : AOp) (h : Heap) : ND (St × Heap) := goT op c rec st dst frz h

theorem finF_eq (st : St) (o : AOper) (x : ND ((AV × Option Loc) × Heap)) : finF st o.dst o.frz x = x.bind (afterOp st o) := by
  unfold finF
  rw [bindF_eq]
  congr 1
  funext r
  exact afterF_eq st o r

theorem goF_eq (c : Ctx) (rec : Rec) (st : St) (o : AOper) (h : Heap) : goF c rec st o.dst o.frz o.op h = goOper c rec st o h := by
  by_cases hd : ∃ f args, o.op = .defer f args
  · obtain ⟨f, args, ho⟩ := hd
    unfold goOper
    rw [ho]
    rfl
  · have hn : ∀ f args, o.op = .defer f args → False := fun f args ho => hd ⟨f, args, ho⟩
    rw [goOper_ne hn, ← finF_eq, ← doOpF_eq]
    generalize o.op = op at *
    cases op <;> first | rfl | exact (hn _ _ rfl).elim

def sameB : Bool → Bool → Bool
  | true, b => b
  | false, true => false
  | false, false => true
def emptyO : List AV → Option Bool
  | [] => some false
  | _ => none
noncomputable def guardT : AV → Bool → Option Bool := AV.rec (motive_1 := fun _ => Bool → Option Bool) (motive_2 := fun _ => Unit) (motive_3 := fun _ => Unit) (fun _ => none) (fun b w => some (sameB b w)) (fun _ _ _ => none) (fun _ _ => none) (fun _ => none) (fun _ _ _ => none) (fun _ _ _ => none) (fun _ _ _ _ _ => none) (fun _ _ _ => none) (fun _ => none) (fun _ _ _ _ _ => none) (fun _ _ _ _ _ _ => none) (fun _ => none) (fun _ _ => none) (fun _ _ _ _ _ _ => none) (fun _ _ => none) (fun _ => none) (fun _ _ _ => none) (fun l _ w => emptyO l) (fun _ => none) (fun _ _ _ _ => none) () (fun _ _ _ _ => ()) () (fun _ _ _ _ => ())
noncomputable def guardF (v : AV) (want : Bool) : Option Bool := guardT v want

noncomputable def guardK : Option Bool → Option Nat → AOp → Bool → Ctx → Rec → St → Heap → ND (St × Heap) := Option.rec (motive := fun _ => Option Nat → AOp → Bool → Ctx → Rec → St → Heap → ND (St × Heap))
  (fun _ _ _ _ _ _ _ => .fail) (fun b dst op frz c rec st h => condF b (goT op c rec st dst frz h) (.ret (⟨putT dst st.env (.tuple []), st.loc, st.defers⟩, h)))
noncomputable def guard2 : Nat × Bool → Option Nat → AOp → Bool → Ctx → Rec → St → Heap → ND (St × Heap) := Prod.rec (motive := fun _ => Option Nat → AOp → Bool → Ctx → Rec → St → Heap → ND (St × Heap))
  (fun s want dst op frz c rec st h => guardK (guardF (getF st.env s) want) dst op frz c rec st h)
noncomputable def guard1 : Option (Nat × Bool) → Option Nat → AOp → Bool → Ctx → Rec → St → Heap → ND (St × Heap) := Option.rec (motive := fun _ => Option Nat → AOp → Bool → Ctx → Rec → St → Heap → ND (St × Heap))
  (fun dst op frz c rec st h => goT op c rec st dst frz h) (fun p dst op frz c rec st h => guard2 p dst op frz c rec st h)
noncomputable def doOperT : AOper → Ctx → Rec → St → Heap → ND (St × Heap) := AOper.rec (motive := fun _ => Ctx → Rec → St → Heap → ND (St × Heap)) (fun dst op g frz c rec st h => guard1 g dst op frz c rec st h)
noncomputable def doOperF (c : Ctx) (rec : Rec) (st : St) (o : AOper) (h : Heap) : ND (St × Heap) := doOperT o c rec st h

theorem doOperF_eq (c : Ctx) (rec : Rec) (st : St) (o : AOper) (h : Heap) : doOperF c rec st o h = doOper c rec st o h := by
  have hg := goF_eq c rec st o h
  have ep : ∀ (e : Env) (d : Option Nat) (v : AV), putT d e v = e.put d v := by intro e d v; cases d <;> rfl
  obtain ⟨dst, op, g, frz⟩ := o
  unfold doOper
  cases g with
  | none => exact hg
  | some x =>
    obtain ⟨s, want⟩ := x
    show guardK (guardF (getF st.env s) want) dst op frz c rec st h = _
    dsimp only
    rw [getF_eq]
    cases st.env.get s with
    | bool b => cases b <;> cases want <;> first | exact hg | (show (ND.ret (({ env := putT dst st.env (.tuple []), loc := st.loc, defers := st.defers } : St), h) : ND (St × Heap)) = _; rw [ep]; rfl)
    | tuple l => cases l <;> first | (show (ND.ret (({ env := putT dst st.env (.tuple []), loc := st.loc, defers := st.defers } : St), h) : ND (St × Heap)) = _; rw [ep]; rfl) | (show (ND.ret (({ env := putT dst st.env (.tuple []), loc := st.loc, defers := st.defers } : St), h) : ND (St × Heap)) = _; rw [ep]) | rfl
    | _ => rfl

noncomputable def thenF {α : Type} (f : St → Heap → ND α) (r : St × Heap) : ND α := Prod.rec (motive := fun _ => ND α) f r
noncomputable def doOpsT : List AOper → Ctx → Rec → St → Heap → ND (St × Heap) :=
  List.rec (motive := fun _ => Ctx → Rec → St → Heap → ND (St × Heap)) (fun _ _ st h => .ret (st, h)) (fun o _ ih c rec st h => bindF (doOperF c rec st o h) (thenF (ih c rec)))
noncomputable def doOpsF (c : Ctx) (rec : Rec) (l : List AOper) (st : St) (h : Heap) : ND (St × Heap) := doOpsT l c rec st h

theorem doOpsF_eq (c : Ctx) (rec : Rec) : ∀ (l : List AOper) (st : St) (h : Heap), doOpsF c rec l st h = doOps c rec l st h
  | [], st, h => rfl
  | o :: l, st, h => by
    show bindF (doOperF c rec st o h) (thenF (doOpsF c rec l)) = _
    rw [bindF_eq, doOperF_eq]
    simp only [doOps]
    congr 1
    funext r
    obtain ⟨st', h'⟩ := r
    exact doOpsF_eq c rec l st' h'

noncomputable def reK (re : List (Nat × AOp)) (c : Ctx) (r : St × Heap) : ND (St × Heap) := condF (reOK c r.1 r.2 re) (.ret r) .fail
noncomputable def doD2 : List (Nat × AOp) → AOper → Ctx → Rec → St → Heap → ND (St × Heap) := List.rec (motive := fun _ => AOper → Ctx → Rec → St → Heap → ND (St × Heap))
  (fun o c rec st h => doOperT o c rec st h) (fun r re _ o c rec st h => bindF (doOperT o c rec st h) (reK (r :: re) c))
noncomputable def doD1 : AOper × List (Nat × AOp) → Ctx → Rec → St → Heap → ND (St × Heap) := Prod.rec (motive := fun _ => Ctx → Rec → St → Heap → ND (St × Heap)) (fun o re c rec st h => doD2 re o c rec st h)
noncomputable def doDF (c : Ctx) (rec : Rec) (st : St) (d : AOper × List (Nat × AOp)) (h : Heap) : ND (St × Heap) := doD1 d c rec st h

theorem bind_ret {α : Type} (x : ND α) : (x.bind fun a => .ret a) = x := by
  induction x with
  | fail => rfl
  | ret a => rfl
  | pick n k ih => exact congrArg (ND.pick n) (funext ih)

theorem doDF_eq (c : Ctx) (rec : Rec) (st : St) (d : AOper × List (Nat × AOp)) (h : Heap) : doDF c rec st d h = doD c rec st d h := by
  obtain ⟨o, re⟩ := d
  cases re with
  | nil =>
    show doOperF c rec st o h = _
    rw [doOperF_eq]
    unfold doD
    simp only [reOK, if_true]
    exact (bind_ret _).symm
  | cons r re =>
    show bindF (doOperF c rec st o h) (reK (r :: re) c) = _
    rw [bindF_eq, doOperF_eq]
    unfold doD
    congr 1
    funext q
    unfold reK
    rw [condF_eq]
    dsimp only
    cases reOK c q.1 q.2 (r :: re) <;> rfl

noncomputable def doDsT : List (AOper × List (Nat × AOp)) → Ctx → Rec → St → Heap → ND (St × Heap) :=
  List.rec (motive := fun _ => Ctx → Rec → St → Heap → ND (St × Heap)) (fun _ _ st h => .ret (st, h)) (fun o _ ih c rec st h => bindF (doDF c rec st o h) (thenF (ih c rec)))
noncomputable def doDsF (c : Ctx) (rec : Rec) (l : List (AOper × List (Nat × AOp))) (st : St) (h : Heap) : ND (St × Heap) := doDsT l c rec st h

theorem doDsF_eq (c : Ctx) (rec : Rec) : ∀ (l : List (AOper × List (Nat × AOp))) (st : St) (h : Heap), doDsF c rec l st h = doDs c rec l st h
  | [], st, h => rfl
  | o :: l, st, h => by
    show bindF (doDF c rec st o h) (thenF (doDsF c rec l)) = _
    rw [bindF_eq, doDF_eq]
    simp only [doDs]
    congr 1
    funext r
    obtain ⟨st', h'⟩ := r
    exact doDsF_eq c rec l st' h'

/-! ### Code -/

abbrev ExecT := St → Heap → ND ((AExit × St) × Heap)

noncomputable def seq3 : AExit → St → Heap → ExecT → ND ((AExit × St) × Heap) := AExit.rec (motive := fun _ => St → Heap → ExecT → ND ((AExit × St) × Heap)) (fun st h f => f st h) (fun i st h _ => .ret ((.exit i, st), h)) (fun st h _ => .ret ((.ret, st), h))
noncomputable def seq2 : AExit × St → Heap → ExecT → ND ((AExit × St) × Heap) := Prod.rec (motive := fun _ => Heap → ExecT → ND ((AExit × St) × Heap)) (fun x st h f => seq3 x st h f)
noncomputable def seq1 : (AExit × St) × Heap → ExecT → ND ((AExit × St) × Heap) := Prod.rec (motive := fun _ => ExecT → ND ((AExit × St) × Heap)) (fun a h f => seq2 a h f)
noncomputable def seqK (f : ExecT) (r : (AExit × St) × Heap) : ND ((AExit × St) × Heap) := seq1 r f

noncomputable def condT : AV → ND ((AExit × St) × Heap) → ND ((AExit × St) × Heap) → ND ((AExit × St) × Heap) := AV.rec (motive_1 := fun _ => ND ((AExit × St) × Heap) → ND ((AExit × St) × Heap) → ND ((AExit × St) × Heap)) (motive_2 := fun _ => Unit) (motive_3 := fun _ => Unit) (fun _ _ => .fail) (fun b x y => condF b x y) (fun _ _ _ _ => .fail) (fun _ _ _ => .fail) (fun _ _ => .fail) (fun _ _ _ _ => .fail) (fun _ _ _ _ => .fail) (fun _ _ _ _ _ _ => .fail) (fun _ _ _ _ => .fail) (fun _ _ => .fail) (fun _ _ _ _ _ _ => .fail) (fun _ _ _ _ _ _ _ => .fail) (fun _ _ => .fail) (fun _ _ _ => .fail) (fun _ _ _ _ _ _ _ => .fail) (fun _ _ _ => .fail) (fun _ _ => .fail) (fun _ _ _ _ => .fail) (fun _ _ _ _ => .fail) (fun _ _ => .fail) (fun _ _ _ _ _ => .fail) () (fun _ _ _ _ => ()) () (fun _ _ _ _ => ())
noncomputable def condK (v : AV) (x y : ND ((AExit × St) × Heap)) : ND ((AExit × St) × Heap) := condT v x y

noncomputable def mergeF (id room : Nat) (live : List Nat) (nb : Nat) (v : AV) (x : ND ((AExit × St) × Heap)) : ND ((AExit × St) × Heap) := match v with
  | .ptr i 0 => match ND.one outSame (bindF x fun r => bindF (blockM id r) (behindRange i (nb + room) live)) with
    | some r => .ret r
    | none => .fail
  | _ => .fail

noncomputable def loopF (live : List Nat) (f : ExecT) (n : Nat) : ExecT :=
  Nat.rec (motive := fun _ => ExecT) (fun _ _ => .fail) (fun _ ih st h => keepF st live fun st => bindF (f st h) (seqK ih)) n

noncomputable def opsE (h : Heap) (st : St) : ND ((AExit × St) × Heap) := .ret ((.normal, st), h)
noncomputable def ops1 : St × Heap → List Nat → ND ((AExit × St) × Heap) := Prod.rec (motive := fun _ => List Nat → ND ((AExit × St) × Heap)) (fun st h live => keepT st live (opsE h))
noncomputable def opsK (live : List Nat) (r : St × Heap) : ND ((AExit × St) × Heap) := ops1 r live
theorem opsK_eq (live : List Nat) : opsK live = fun r => .ret ((.normal, r.1.keep live), r.2) := by
  funext r
  obtain ⟨st, h⟩ := r
  show keepF st live (opsE h) = _
  rw [keepF_eq]
  rfl

noncomputable def execT : ACode → Ctx → Rec → Nat → ExecT :=
  ACode.rec (motive := fun _ => Ctx → Rec → Nat → ExecT)
    (fun _ _ _ st h => .ret ((.normal, st), h))
    (fun _ _ _ _ _ => .fail)
    (fun l live c rec _ st h => bindF (doOpsF c rec l st h) (opsK live))
    (fun l live c rec _ st h => bindF (doDsF c rec l st h) (opsK live))
    (fun _ _ ia ib c rec n st h => bindF (ia c rec n st h) (seqK (ib c rec n)))
    (fun p _ _ ia ib c rec n st h => condK (evR c.gl st.env p) (ia c rec n st h) (ib c rec n st h))
    (fun id _ ib c rec n st h => bindF (ib c rec n st h) (blockM id))
    (fun id it room live _ ib c rec n st h => mergeF id room live st.loc.nb (st.env.get it) (ib c rec n st h))
    (fun live _ ib c rec n st h => loopF live (ib c rec n) n st h)
    (fun id _ _ _ st h => .ret ((.exit id, st), h))
    (fun _ _ _ st h => .ret ((.ret, st), h))
    (fun f ps assign body live _ _ c rec n st h => exec c rec n (.rangeFunc f ps assign body live) st h)
noncomputable def execF (c : Ctx) (rec : Rec) (n : Nat) (code : ACode) : ExecT := execT code c rec n

theorem loopF_eq {live : List Nat} {f : ExecT} {b : St → M (AExit × St)} (hf : ∀ st h, f st h = b st h) : ∀ (n : Nat) (st : St) (h : Heap), loopF live f n st h = loopM (fun st => b (st.keep live)) n st h
  | 0, st, h => rfl
  | n + 1, st, h => by
    show keepF st live (fun st => bindF (f st h) (seqK (loopF live f n))) = _
    rw [keepF_eq, bindF_eq, hf]
    simp only [loopM]
    congr 1
    funext r
    obtain ⟨⟨e, st'⟩, h'⟩ := r
    cases e with
    | normal => exact loopF_eq hf n st' h'
    | exit i => rfl
    | ret => rfl

theorem execF_eq (c : Ctx) (rec : Rec) (n : Nat) : ∀ (code : ACode) (st : St) (h : Heap), execF c rec n code st h = exec c rec n code st h := by
  intro code
  induction code with
  | skip => intro st h; rfl
  | fail => intro st h; rfl
  | ops l live =>
    intro st h
    show bindF (doOpsF c rec l st h) _ = _
    rw [bindF_eq, doOpsF_eq, opsK_eq]; rfl
  | opsD l live =>
    intro st h
    show bindF (doDsF c rec l st h) _ = _
    rw [bindF_eq, doDsF_eq, opsK_eq]; rfl
  | seq a b ia ib =>
    intro st h
    show bindF (execF c rec n a st h) (seqK (execF c rec n b)) = _
    rw [bindF_eq, ia]
    simp only [exec]
    congr 1
    funext r
    obtain ⟨⟨e, st'⟩, h'⟩ := r
    cases e with
    | normal => exact ib st' h'
    | exit i => rfl
    | ret => rfl
  | cond p a b ia ib =>
    intro st h
    show condK (evR c.gl st.env p) (execF c rec n a st h) (execF c rec n b st h) = _
    rw [ia, ib, evR_eq]
    simp only [exec]
    unfold condK
    cases Opd.eval c.gl st.env p with
    | bool b => cases b <;> rfl
    | _ => rfl
  | block id b ib =>
    intro st h
    show bindF (execF c rec n b st h) (blockM id) = _
    rw [bindF_eq, ib]
    rfl
  | mblock id it room live b ib =>
    intro st h
    show mergeF id room live st.loc.nb (st.env.get it) (execF c rec n b st h) = _
    rw [ib]
    simp only [exec]
    unfold mergeF
    simp only [bindF_eq]
    rfl
  | loop live b ib =>
    intro st h
    show loopF live (execF c rec n b) n st h = _
    simp only [exec]
    exact loopF_eq ib n st h
  | exit id => intro st h; rfl
  | ret => intro st h; rfl
  | rangeFunc f ps assign body live ia ib => intro st h; rfl

def endF (af : AFunc) (st : St) (d : Unit × Heap) : ND (AV × Heap) := match resultOf st d.2 af.results with
  | some v => .ret (v, d.2)
  | none => .fail

noncomputable def leaveF (rec : Rec) (af : AFunc) (r : (AExit × St) × Heap) : ND (AV × Heap) := match r.1.1 with
  | .exit _ => .fail
  | .normal => bindF (runDefers rec r.1.2.defers r.2) (endF af r.1.2)
  | .ret => bindF (runDefers rec r.1.2.defers r.2) (endF af r.1.2)

noncomputable def runF (c : Ctx) (rec : Rec) (n : Nat) (af : AFunc) (args : List AV) (h : Heap) : ND (AV × Heap) :=
  bif Nat.beq args.length af.params then bindF (execF c rec n af.body { env := argEnv 0 args, loc := ⟨[], 0⟩, defers := [] } h) (leaveF rec af) else .fail

theorem runF_eq (c : Ctx) (rec : Rec) (n : Nat) (af : AFunc) (args : List AV) (h : Heap) : runF c rec n af args h = runFunc c rec n af args h := by
  unfold runF runFunc
  by_cases hl : args.length = af.params
  · rw [if_pos hl, show Nat.beq args.length af.params = true by rw [hl]; exact Nat.beq_refl _, cond_true, bindF_eq, execF_eq]
    congr 1
    funext r
    obtain ⟨⟨e, st'⟩, h'⟩ := r
    cases e with
    | normal => simp only [leaveF, bindF_eq]; rfl
    | exit i => rfl
    | ret => simp only [leaveF, bindF_eq]; rfl
  · have : Nat.beq args.length af.params = false := by
      cases hb : Nat.beq args.length af.params with
      | false => rfl
      | true => exact absurd (Nat.eq_of_beq_eq_true hb) hl
    rw [if_neg hl, this, cond_false]

noncomputable def fnF (c : Ctx) (rec : Rec) (n : Nat) (o : Option AFunc) (args : List AV) (h : Heap) : ND (AV × Heap) := match o with
  | some af => runF c rec n af args h
  | none => .fail

noncomputable def callF (c : Ctx) (T : Table) (n : Nat) : Rec :=
  Nat.rec (motive := fun _ => Rec) (fun _ _ _ => .fail) (fun n ih f args h => match f with
    | .fn f => fnF c ih n (T f) args h
    | .yield l => runRound c ih n l args h) n

theorem callF_eq (c : Ctx) (T : Table) : ∀ n, callF c T n = call c T n
  | 0 => rfl
  | n + 1 => by
    have ih := callF_eq c T n
    funext f args h
    show (match f with
      | .fn f => fnF c (callF c T n) n (T f) args h
      | .yield l => runRound c (callF c T n) n l args h) = _
    rw [ih]
    cases f with
    | fn f =>
      simp only [call]
      cases T f with
      | none => rfl
      | some af => exact runF_eq c (call c T n) n af args h
    | yield l => rfl

theorem closed_trueF {c : Ctx} {T : Table} {n : Nat} {f : Callee} {args : List AV} {h : Heap} (hb : ND.ok trueR (callF c T n f args h) = true) : Run (call c T n f args h) fun r => r.1 = .bool true := by
  rw [← callF_eq]
  exact closed_true hb

def sameR (v : AV) (r : AV × Heap) : Bool := AV.same r.1 v
theorem closed_valF {c : Ctx} {T : Table} {n : Nat} {f : Callee} {args : List AV} {h : Heap} {v : AV} (hb : ND.ok (sameR v) (callF c T n f args h) = true) : Run (call c T n f args h) fun r => r.1 = v := by
  rw [← callF_eq]
  exact ⟨ND.Sat.mono (fun _ h => AV.same_eq h) (ND.ok_sat hb)⟩

end Go.Proofs.YtjbkcboklccmeaaGreatDoor.Abs
