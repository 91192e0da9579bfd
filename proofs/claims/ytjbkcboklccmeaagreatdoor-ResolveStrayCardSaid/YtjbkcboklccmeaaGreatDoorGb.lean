/-
  What an abstract value, an abstract memory say of the model's values and of its memory.
-/
import Derived.Test.YtjbkcboklccmeaaGreatDoorGa
import Derived.Laws.Sem
import Derived.Laws.Cells
import Derived.Laws.World
set_option linter.unusedVariables false
set_option linter.unusedSimpArgs false
namespace Go.Proofs.YtjbkcboklccmeaaGreatDoor.Abs

structure Ghost where
  σ : Nat → Option Nat
  τ : Nat → Nat → Option (Nat × Nat × Nat)
  imm : Nat → Option (List Value)
  sz : Nat → Option Nat

structure Ghost.le (G G' : Ghost) : Prop where
  σ : ∀ i b, G.σ i = some b → G'.σ i = some b
  τ : ∀ i s b, G.τ i s = some b → G'.τ i s = some b
  imm : ∀ b l, G.imm b = some l → G'.imm b = some l
  sz : ∀ b n, G.sz b = some n → G'.sz b = some n

theorem Ghost.le.refl (G : Ghost) : G.le G := ⟨fun _ _ h => h, fun _ _ _ h => h, fun _ _ h => h, fun _ _ h => h⟩
theorem Ghost.le.trans {A B C : Ghost} (h : A.le B) (h' : B.le C) : A.le C :=
  ⟨fun _ _ e => h'.σ _ _ (h.σ _ _ e), fun _ _ _ e => h'.τ _ _ _ (h.τ _ _ _ e), fun _ _ e => h'.imm _ _ (h.imm _ _ e), fun _ _ e => h'.sz _ _ (h.sz _ _ e)⟩

inductive VRel (G : Ghost) : AV → Value → Prop
  | undef (v : Value) : VRel G .undef v
  | bool (b : Bool) : VRel G (.bool b) (.bool b)
  | int (k : IntKind) (n : Int) : VRel G (.int k n) (.int k n)
  | str (s : ByteArray) : VRel G (.str s.data.toList) (.string s)
  | nil : VRel G .nil (.pointer none)
  | ptr {id off cb : Nat} (h : G.σ id = some cb) : VRel G (.ptr id off) (.pointer (some ⟨cb, off, none⟩))
  | eptr {id sz i off cb base esz o : Nat} (h : G.τ id sz = some (cb, base, esz)) (ho : o = base + i * esz + off) : VRel G (.eptr id sz i off) (.pointer (some ⟨cb, o, none⟩))
  | cref {cs : List AV} {cb off : Nat} {l : List Value} (h : G.imm cb = some l) (hl : off + cs.length ≤ l.length)
      (hv : ∀ (i : Nat) (a : AV) (v : Value), cs[i]? = some a → l[off + i]? = some v → VRel G a v) (ho : ∀ (i : Nat) (v : Value), i < cs.length → l[off + i]? = some v → v.oneCell' = true) :
      VRel G (.cref cs) (.pointer (some ⟨cb, off, none⟩))
  | nilSlice : VRel G .nilSlice (.slice none 0 0)
  | list {esz : Nat} {ex : Bool} {es : List (List AV)} {cb off len cap : Nat} {l : List Value} (h : G.imm cb = some l) (he : ∀ e ∈ es, e.length = esz)
      (hl : off + es.length * esz ≤ l.length) (hv : ∀ (i : Nat) (a : AV) (v : Value), es.flatten[i]? = some a → l[off + i]? = some v → VRel G a v)
      (ho : ∀ (i : Nat) (v : Value), i < es.length * esz → l[off + i]? = some v → v.oneCell' = true)
      (hn : len = es.length) (hc : len ≤ cap) (hx : ex = true → cap = len) : VRel G (.list esz ex es) (.slice (some ⟨cb, off, none⟩) len cap)
  | empty (esz : Nat) (a : Addr) (cap : Nat) (ha : a.spot = none) : VRel G (.list esz false []) (.slice (some a) 0 cap)
  | slice {id esz off len cap cb base cap' n o : Nat} (h : G.τ id (off + cap) = some (cb, base, esz)) (hs : G.sz cb = some n) (hc : cap ≤ cap')
      (hn : base + (off + cap') * esz ≤ n) (ho : o = base + off * esz) (hl : len ≤ cap) : VRel G (.slice id esz off len cap) (.slice (some ⟨cb, o, none⟩) len cap')
  | nilMap : VRel G .nilMap (.map none)
  | map {id cb : Nat} (h : G.σ id = some cb) : VRel G (.map id) (.map (some cb))
  | clos {f : Nat} {first caps : List AV} {first' caps' : Array Value} (h1 : first.length = first'.size) (h2 : caps.length = caps'.size)
      (v1 : ∀ (i : Nat) (a : AV) (v : Value), first[i]? = some a → first'[i]? = some v → VRel G a v) (v2 : ∀ (i : Nat) (a : AV) (v : Value), caps[i]? = some a → caps'[i]? = some v → VRel G a v) :
      VRel G (.clos f first caps) (.func (.func f) first' caps')
  | yield {l cb : Nat} (h : G.σ l = some cb) : VRel G (.yield l) (.func (.yield cb) #[] #[])
  | nilFunc : VRel G .nilFunc .nilFunc
  | agg {cs : List AV} {vs : Array Value} (h : cs.length = vs.size) (hv : ∀ (i : Nat) (a : AV) (v : Value), cs[i]? = some a → vs[i]? = some v → VRel G a v)
      (ho : ∀ (i : Nat) (v : Value), vs[i]? = some v → v.oneCell' = true) : VRel G (.agg cs) (.agg vs)
  | tuple {aS : List AV} {vs : Array Value} (h : aS.length = vs.size) (hv : ∀ (i : Nat) (a : AV) (v : Value), aS[i]? = some a → vs[i]? = some v → VRel G a v) : VRel G (.tuple aS) (.tuple vs)
  | nilIface : VRel G .nilIface .nilIface
  | iface {t : Nat} {a : AV} {v : Value} (h : VRel G a v) : VRel G (.iface t a) (.iface t v)

theorem VRel.mono {G G' : Ghost} (hG : G.le G') {a : AV} {v : Value} (h : VRel G a v) : VRel G' a v := by
  induction h with
  | undef v => exact .undef v
  | bool b => exact .bool b
  | int k n => exact .int k n
  | str s => exact .str s
  | nil => exact .nil
  | ptr h => exact .ptr (hG.σ _ _ h)
  | eptr h ho => exact .eptr (hG.τ _ _ _ h) ho
  | cref h hl hv ho ih => exact .cref (hG.imm _ _ h) hl ih ho
  | nilSlice => exact .nilSlice
  | list h he hl hv ho hn hc hx ih => exact .list (hG.imm _ _ h) he hl ih ho hn hc hx
  | empty z a cap ha => exact .empty z a cap ha
  | slice h hs hc hn ho hl => exact .slice (hG.τ _ _ _ h) (hG.sz _ _ hs) hc hn ho hl
  | nilMap => exact .nilMap
  | map h => exact .map (hG.σ _ _ h)
  | clos h1 h2 v1 v2 i1 i2 => exact .clos h1 h2 i1 i2
  | yield h => exact .yield (hG.σ _ _ h)
  | nilFunc => exact .nilFunc
  | agg h hv ho ih => exact .agg h ih ho
  | tuple h hv ih => exact .tuple h ih
  | nilIface => exact .nilIface
  | iface h ih => exact .iface ih

/-- Cells, one by one; each is the value of one cell. -/
structure CsRel (G : Ghost) (aS : List AV) (vs : List Value) : Prop where
  len : aS.length = vs.length
  val : ∀ (i : Nat) (a : AV) (v : Value), aS[i]? = some a → vs[i]? = some v → VRel G a v
  one : ∀ v ∈ vs, v.oneCell' = true

/-- Values, one by one. -/
structure VsRel (G : Ghost) (aS : List AV) (vs : List Value) : Prop where
  len : aS.length = vs.length
  val : ∀ (i : Nat) (a : AV) (v : Value), aS[i]? = some a → vs[i]? = some v → VRel G a v

theorem CsRel.mono {G G' : Ghost} (hG : G.le G') {aS : List AV} {vs : List Value} (h : CsRel G aS vs) : CsRel G' aS vs :=
  ⟨h.len, fun i a v ha hv => (h.val i a v ha hv).mono hG, h.one⟩
theorem VsRel.mono {G G' : Ghost} (hG : G.le G') {aS : List AV} {vs : List Value} (h : VsRel G aS vs) : VsRel G' aS vs :=
  ⟨h.len, fun i a v ha hv => (h.val i a v ha hv).mono hG⟩
theorem CsRel.vs {G : Ghost} {aS : List AV} {vs : List Value} (h : CsRel G aS vs) : VsRel G aS vs := ⟨h.len, h.val⟩

theorem VsRel.nil (G : Ghost) : VsRel G [] [] := ⟨rfl, fun i a v h => by simp at h⟩
theorem VsRel.cons {G : Ghost} {a : AV} {v : Value} {aS : List AV} {vs : List Value} (h : VRel G a v) (hs : VsRel G aS vs) : VsRel G (a :: aS) (v :: vs) := by
  refine ⟨by simp [hs.len], fun i b u hb hu => ?_⟩
  cases i with
  | zero => simp at hb hu; subst hb hu; exact h
  | succ i => simp at hb hu; exact hs.val i b u hb hu
theorem VsRel.head {G : Ghost} {a : AV} {v : Value} {aS : List AV} {vs : List Value} (h : VsRel G (a :: aS) (v :: vs)) : VRel G a v := h.val 0 a v rfl rfl
theorem VsRel.tail {G : Ghost} {a : AV} {v : Value} {aS : List AV} {vs : List Value} (h : VsRel G (a :: aS) (v :: vs)) : VsRel G aS vs :=
  ⟨by have := h.len; simpa using this, fun i b u hb hu => h.val (i + 1) b u (by simpa using hb) (by simpa using hu)⟩
theorem VsRel.append {G : Ghost} {aS bs : List AV} {vs us : List Value} (h : VsRel G aS vs) (h' : VsRel G bs us) : VsRel G (aS ++ bs) (vs ++ us) := by
  refine ⟨by simp [h.len, h'.len], fun i a v ha hv => ?_⟩
  by_cases hi : i < aS.length
  · rw [List.getElem?_append_left hi] at ha
    rw [List.getElem?_append_left (h.len ▸ hi)] at hv
    exact h.val i a v ha hv
  · rw [List.getElem?_append_right (by omega)] at ha
    rw [List.getElem?_append_right (by rw [← h.len]; omega), ← h.len] at hv
    exact h'.val _ a v ha hv
theorem VsRel.map {G : Ghost} {α : Type} (l : List α) (f : α → AV) (g : α → Value) (h : ∀ x ∈ l, VRel G (f x) (g x)) : VsRel G (l.map f) (l.map g) := by
  refine ⟨by simp, fun i a v ha hv => ?_⟩
  simp only [List.getElem?_map, Option.map_eq_some_iff] at ha hv
  obtain ⟨x, hx, rfl⟩ := ha
  obtain ⟨y, hy, rfl⟩ := hv
  rw [hx] at hy; cases hy
  exact h x (List.mem_of_getElem? hx)

theorem CsRel.take {G : Ghost} {aS : List AV} {vs : List Value} (h : CsRel G aS vs) (n : Nat) : CsRel G (aS.take n) (vs.take n) := by
  refine ⟨by simp [h.len], fun i a v ha hv => ?_, fun v hv => h.one v (List.mem_of_mem_take hv)⟩
  rw [List.getElem?_take] at ha hv
  split at ha <;> simp_all
  exact h.val i a v ha hv
theorem CsRel.drop {G : Ghost} {aS : List AV} {vs : List Value} (h : CsRel G aS vs) (n : Nat) : CsRel G (aS.drop n) (vs.drop n) := by
  refine ⟨by simp [h.len], fun i a v ha hv => ?_, fun v hv => h.one v (List.mem_of_mem_drop hv)⟩
  rw [List.getElem?_drop] at ha hv
  exact h.val _ a v ha hv
theorem CsRel.append {G : Ghost} {aS bs : List AV} {vs us : List Value} (h : CsRel G aS vs) (h' : CsRel G bs us) : CsRel G (aS ++ bs) (vs ++ us) :=
  ⟨(h.vs.append h'.vs).len, (h.vs.append h'.vs).val, fun v hv => (List.mem_append.1 hv).elim (h.one v) (h'.one v)⟩
theorem CsRel.nil (G : Ghost) : CsRel G [] [] := ⟨rfl, fun i a v h => by simp at h, fun v h => by simp at h⟩
theorem CsRel.splice {G : Ghost} {aS xs : List AV} {vs us : List Value} (h : CsRel G aS vs) (h' : CsRel G xs us) (off : Nat) :
    CsRel G (splice aS off xs) (splice vs off us) := by
  unfold Abs.splice
  rw [h'.len]
  exact ((h.take off).append h').append (h.drop _)

/-- Is a value (not of an aggregate, not a tuple) the value of one cell? -/
theorem VRel.cells {G : Ghost} {a : AV} {v : Value} (h : VRel G a v) {cs : List AV} (hc : a.cells = some cs) : CsRel G cs v.cells.toList := by
  have one {a : AV} {v : Value} (h : VRel G a v) (hv : v.oneCell' = true) : CsRel G [a] [v] := by
    refine ⟨rfl, fun i b u hb hu => ?_, fun u hu => by simp at hu; subst hu; exact hv⟩
    cases i with
    | zero => simp at hb hu; subst hb hu; exact h
    | succ i => simp at hb
  cases h with
  | undef v => simp [AV.cells] at hc
  | agg h hv ho =>
    simp [AV.cells] at hc; subst hc
    refine ⟨by simpa [Value.cells] using h, fun i a v ha hv' => hv i a v ha (by simpa [Value.cells] using hv'), fun v hv' => ?_⟩
    simp only [Value.cells] at hv'
    obtain ⟨i, hi⟩ := List.getElem?_of_mem hv'
    exact ho i v (by simpa using hi)
  | tuple h hv => simp [AV.cells] at hc
  | _ => simp [AV.cells] at hc; subst hc; refine one ?_ rfl; constructor <;> assumption

end Go.Proofs.YtjbkcboklccmeaaGreatDoor.Abs
/-
  When two abstract values are one.
-/
namespace Go.Proofs.YtjbkcboklccmeaaGreatDoor.Abs

mutual
theorem AV.same_eq : ∀ {a b : AV}, AV.same a b = true → a = b
  | .undef, b, h => by cases b <;> first | rfl | (simp [AV.same] at h)
  | .bool x, b, h => by cases b <;> first | (simp [AV.same] at h; rw [h]) | (simp [AV.same] at h)
  | .int k x, b, h => by cases b <;> first | (simp [AV.same] at h; rw [h.1, h.2]) | (simp [AV.same] at h)
  | .str x, b, h => by cases b <;> first | (simp [AV.same] at h; rw [h]) | (simp [AV.same] at h)
  | .nil, b, h => by cases b <;> first | rfl | (simp [AV.same] at h)
  | .ptr x y, b, h => by cases b <;> first | (simp [AV.same] at h; rw [h.1, h.2]) | (simp [AV.same] at h)
  | .lptr x y, b, h => by cases b <;> first | (simp [AV.same] at h; rw [h.1, h.2]) | (simp [AV.same] at h)
  | .eptr x y z u, b, h => by cases b <;> first | (simp [AV.same] at h; rw [h.1.1.1, h.1.1.2, h.1.2, h.2]) | (simp [AV.same] at h)
  | .cref cs, b, h => by
    cases b <;> first | (simp [AV.same] at h; done) | skip
    rename_i cs'
    simp only [AV.same] at h
    rw [AV.sames_eq h]
  | .nilSlice, b, h => by cases b <;> first | rfl | (simp [AV.same] at h)
  | .list z e es, b, h => by
    cases b <;> first | (simp [AV.same] at h; done) | skip
    rename_i z' e' es'
    simp only [AV.same, Bool.and_eq_true] at h
    rw [AV.samess_eq h.2, eq_of_beq h.1.2, Nat.eq_of_beq_eq_true h.1.1]
  | .slice x y z u v, b, h => by cases b <;> first | (simp [AV.same] at h; rw [h.1.1.1.1, h.1.1.1.2, h.1.1.2, h.1.2, h.2]) | (simp [AV.same] at h)
  | .nilMap, b, h => by cases b <;> first | rfl | (simp [AV.same] at h)
  | .map x, b, h => by cases b <;> first | (simp [AV.same] at h; rw [h]) | (simp [AV.same] at h)
  | .clos f x y, b, h => by
    cases b <;> first | (simp [AV.same] at h; done) | skip
    rename_i f' x' y'
    simp only [AV.same, Bool.and_eq_true] at h
    rw [Nat.eq_of_beq_eq_true h.1.1, AV.sames_eq h.1.2, AV.sames_eq h.2]
  | .yield x, b, h => by cases b <;> first | (simp [AV.same] at h; rw [h]) | (simp [AV.same] at h)
  | .nilFunc, b, h => by cases b <;> first | rfl | (simp [AV.same] at h)
  | .agg cs, b, h => by
    cases b <;> first | (simp [AV.same] at h; done) | skip
    rename_i cs'
    simp only [AV.same] at h
    rw [AV.sames_eq h]
  | .tuple cs, b, h => by
    cases b <;> first | (simp [AV.same] at h; done) | skip
    rename_i cs'
    simp only [AV.same] at h
    rw [AV.sames_eq h]
  | .nilIface, b, h => by cases b <;> first | rfl | (simp [AV.same] at h)
  | .iface t v, b, h => by
    cases b <;> first | (simp [AV.same] at h; done) | skip
    rename_i t' v'
    simp only [AV.same, Bool.and_eq_true] at h
    rw [Nat.eq_of_beq_eq_true h.1, AV.same_eq h.2]
theorem AV.sames_eq : ∀ {a b : List AV}, AV.sames a b = true → a = b
  | [], [], _ => rfl
  | [], _ :: _, h => by simp [AV.sames] at h
  | _ :: _, [], h => by simp [AV.sames] at h
  | a :: aS, b :: bs, h => by
    simp only [AV.sames, Bool.and_eq_true] at h
    rw [AV.same_eq h.1, AV.sames_eq h.2]
theorem AV.samess_eq : ∀ {a b : List (List AV)}, AV.samess a b = true → a = b
  | [], [], _ => rfl
  | [], _ :: _, h => by simp [AV.samess] at h
  | _ :: _, [], h => by simp [AV.samess] at h
  | a :: aS, b :: bs, h => by
    simp only [AV.samess, Bool.and_eq_true] at h
    rw [AV.sames_eq h.1, AV.samess_eq h.2]
end


theorem exitSame_eq {a b : AExit} (h : exitSame a b = true) : a = b := by
  cases a <;> cases b <;> first | rfl | (simp only [exitSame] at h; first | cases h | exact congrArg _ (Nat.eq_of_beq_eq_true h))

theorem pairsSame_eq : ∀ {a b : List (Nat × AV)}, pairsSame a b = true → a = b
  | [], [], _ => rfl
  | [], _ :: _, h => by simp [pairsSame] at h
  | _ :: _, [], h => by simp [pairsSame] at h
  | (k, v) :: aS, (k', v') :: bs, h => by
    simp only [pairsSame, Bool.and_eq_true] at h
    rw [Nat.eq_of_beq_eq_true h.1.1, AV.same_eq h.1.2, pairsSame_eq h.2]

theorem listsSame_eq : ∀ {a b : List (Nat × List AV)}, listsSame a b = true → a = b
  | [], [], _ => rfl
  | [], _ :: _, h => by simp [listsSame] at h
  | _ :: _, [], h => by simp [listsSame] at h
  | (k, v) :: aS, (k', v') :: bs, h => by
    simp only [listsSame, Bool.and_eq_true] at h
    rw [Nat.eq_of_beq_eq_true h.1.1, AV.sames_eq h.1.2, listsSame_eq h.2]

theorem entriesSame_eq : ∀ {a b : List (AV × AV × Nat)}, entriesSame a b = true → a = b
  | [], [], _ => rfl
  | [], _ :: _, h => by simp [entriesSame] at h
  | _ :: _, [], h => by simp [entriesSame] at h
  | (k, v, n) :: aS, (k', v', n') :: bs, h => by
    simp only [entriesSame, Bool.and_eq_true] at h
    rw [AV.same_eq h.1.1.1, AV.same_eq h.1.1.2, Nat.eq_of_beq_eq_true h.1.2, entriesSame_eq h.2]

theorem objSame_eq {a b : Option AObj} (h : objSame a b = true) : a = b := by
  unfold objSame at h
  split at h
  · rfl
  · simp only [Bool.and_eq_true] at h
    rw [Nat.eq_of_beq_eq_true h.1, AV.sames_eq h.2]
  · simp only [Bool.and_eq_true] at h
    obtain ⟨⟨⟨⟨h1, h2⟩, h3⟩, h4⟩, h5⟩ := h
    rw [Nat.eq_of_beq_eq_true h1, Nat.eq_of_beq_eq_true h2, Nat.eq_of_beq_eq_true h3, eq_of_beq h4, AV.samess_eq h5]
  · simp only [Bool.and_eq_true] at h
    rw [entriesSame_eq h.1, Nat.eq_of_beq_eq_true h.2]
  · simp only [Bool.and_eq_true] at h
    rw [Nat.eq_of_beq_eq_true h.1.1, of_decide_eq_true h.1.2, Nat.eq_of_beq_eq_true h.2]
  · simp only [Bool.and_eq_true] at h
    obtain ⟨⟨⟨h1, h2⟩, h3⟩, h4⟩ := h
    rw [Nat.eq_of_beq_eq_true h1, Nat.eq_of_beq_eq_true h2, of_decide_eq_true h3, Nat.eq_of_beq_eq_true h4]
  · cases h

theorem heapSame_eq : ∀ {a b : Heap}, heapSame a b = true → a = b
  | [], [], _ => rfl
  | [], _ :: _, h => by simp [heapSame] at h
  | _ :: _, [], h => by simp [heapSame] at h
  | o :: aS, o' :: bs, h => by
    simp only [heapSame, Bool.and_eq_true] at h
    rw [objSame_eq h.1, heapSame_eq h.2]

theorem outSame_eq {a b : (AExit × St) × Heap} (h : outSame a b = true) : a = b := by
  obtain ⟨⟨e, ⟨env, ⟨boxes, nb⟩, ds⟩⟩, hp⟩ := a
  obtain ⟨⟨e', ⟨env', ⟨boxes', nb'⟩, ds'⟩⟩, hp'⟩ := b
  simp only [outSame, Bool.and_eq_true] at h
  obtain ⟨⟨⟨⟨⟨h1, h2⟩, h3⟩, h4⟩, h5⟩, h6⟩ := h
  have := exitSame_eq h1; have := pairsSame_eq h2; have := listsSame_eq h3; have := Nat.eq_of_beq_eq_true h4; have := listsSame_eq h5; have := heapSame_eq h6
  subst_vars
  rfl

theorem restSame_spec {α : Type} {eq : α → α → Bool} {a : α} {f : Nat → Option α} : ∀ {n : Nat}, restSame eq a f n = true → ∀ i, i < n → ∃ b, f i = some b ∧ eq a b = true
  | 0, _, i, hi => absurd hi (Nat.not_lt_zero i)
  | n + 1, h, i, hi => by
    simp only [restSame, Bool.and_eq_true] at h
    by_cases hin : i = n
    · subst hin
      cases hf : f i with
      | none => rw [hf] at h; exact absurd h.1 (by simp)
      | some b => rw [hf] at h; exact ⟨b, rfl, h.1⟩
    · exact restSame_spec h.2 i (by omega)

theorem ND.one_sat {α : Type} {eq : α → α → Bool} (he : ∀ a b, eq a b = true → a = b) : ∀ {x : ND α} {a : α}, ND.one eq x = some a → x.Sat fun b => b = a
  | .fail, a, h => by simp [ND.one] at h
  | .ret b, a, h => by simp only [ND.one, Option.some.injEq] at h; exact h
  | .pick n k, a, h => by
    unfold ND.one at h
    cases n with
    | zero => cases h
    | succ n =>
      dsimp only at h
      cases hk : ND.one eq (k n) with
      | none => rw [hk] at h; cases h
      | some b =>
        rw [hk] at h
        dsimp only at h
        split at h
        · next hr =>
          cases h
          refine ⟨Nat.succ_pos n, fun i hi => ?_⟩
          by_cases hin : i = n
          · subst hin; exact ND.one_sat he hk
          · obtain ⟨b', h1, h2⟩ := restSame_spec hr i (by omega)
            have := he _ _ h2; subst this
            exact ND.one_sat he h1
        · cases h

end Go.Proofs.YtjbkcboklccmeaaGreatDoor.Abs
/-
  How the model's small programs on memory run: reading and writing cells of one block.
-/
namespace Go.Proofs.YtjbkcboklccmeaaGreatDoor.Abs

def _root_.Go.World.upd (w : World) (cb : Nat) (o : Obj) : World := { w with heap := w.heap.setIfInBounds cb o }

section
variable {P : Program} {w : World}

theorem addr_add (cb off j : Nat) : (⟨cb, off, none⟩ : Addr).add j = ⟨cb, off + j, none⟩ := by
  unfold Addr.add; split
  · next h => subst h; rfl
  · rfl

theorem heap_upd {cb b : Nat} {o : Obj} : (w.upd cb o).heap[b]? = if cb = b then (if cb < w.heap.size then some o else none) else w.heap[b]? := by
  simp only [World.upd, Array.getElem?_setIfInBounds]
theorem heap_upd_same {cb : Nat} {o o' : Obj} (h : w.heap[cb]? = some o') : (w.upd cb o).heap[cb]? = some o := by
  have hlt : cb < w.heap.size := (Array.getElem?_eq_some_iff.1 h).1
  rw [heap_upd]; simp [hlt]
theorem heap_upd_other {cb b : Nat} {o : Obj} (h : b ≠ cb) : (w.upd cb o).heap[b]? = w.heap[b]? := by
  rw [heap_upd, if_neg (Ne.symm h)]
@[simp] theorem size_upd {cb : Nat} {o : Obj} : (w.upd cb o).heap.size = w.heap.size := by simp [World.upd]
theorem world_ext {w w' : World} (h : w.heap = w'.heap) (h1 : w.tape = w'.tape) (h2 : w.drawn = w'.drawn) (h3 : w.os = w'.os) (h4 : w.output = w'.output) : w = w' := by
  cases w; cases w'; simp_all
theorem upd_upd {cb : Nat} {o o' : Obj} : (w.upd cb o).upd cb o' = w.upd cb o' := by
  refine world_ext (Array.ext_getElem? fun i => ?_) rfl rfl rfl rfl
  rw [heap_upd, heap_upd, heap_upd, size_upd]
  split <;> rfl
theorem upd_self {cb : Nat} {o : Obj} (h : w.heap[cb]? = some o) : w.upd cb o = w := by
  refine world_ext (Array.ext_getElem? fun i => ?_) rfl rfl rfl rfl
  have hlt : cb < w.heap.size := (Array.getElem?_eq_some_iff.1 h).1
  rw [heap_upd]
  split
  · next e => subst e; rw [h]
  · rfl

theorem heap_alloc_old {o : Obj} {b : Nat} (h : b < w.heap.size) : (w.alloc o).heap[b]? = w.heap[b]? := by
  show (w.heap.push o)[b]? = _
  rw [Array.getElem?_push, if_neg (Nat.ne_of_lt h)]
theorem heap_alloc_new {o : Obj} : (w.alloc o).heap[w.heap.size]? = some o := by
  show (w.heap.push o)[w.heap.size]? = _
  rw [Array.getElem?_push, if_pos rfl]

theorem cell_at {cb off : Nat} {c : Array Value} {t : TypeId} {fz : Nat × Nat} (h : w.heap[cb]? = some (.cells c t fz)) :
    w.cell? ⟨cb, off, none⟩ = c[off]? := by simp [World.cell?, h]
theorem frozen_at {cb off : Nat} {c : Array Value} {t : TypeId} {fz : Nat × Nat} (h : w.heap[cb]? = some (.cells c t fz)) :
    w.frozen? ⟨cb, off, none⟩ = (decide (fz.1 ≤ off) && decide (off < fz.2)) := by simp [World.frozen?, h]
theorem setCell_at {cb off : Nat} {c : Array Value} {t : TypeId} {fz : Nat × Nat} (h : w.heap[cb]? = some (.cells c t fz)) (v : Value) :
    w.setCell ⟨cb, off, none⟩ v = w.upd cb (.cells (c.setIfInBounds off v) t fz) := by
  refine world_ext (Array.ext_getElem? fun i => ?_) rfl rfl rfl rfl
  have hlt : cb < w.heap.size := (Array.getElem?_eq_some_iff.1 h).1
  rw [heap_upd]
  simp only [World.setCell, Array.getElem?_modify]
  split
  · next e => subst e; rw [h]; rfl
  · rfl

theorem run_load_at {cb off : Nat} {c : Array Value} {t : TypeId} {fz : Nat × Nat} {v : Value} (h : w.heap[cb]? = some (.cells c t fz)) (hv : c[off]? = some v) (m : Mode := .plain) :
    (load ⟨cb, off, none⟩ m).run P w = .ok v w := by
  rw [run_load, cell_at h, hv]

theorem run_loadCells_at {cb off n : Nat} {c : Array Value} {t : TypeId} {fz : Nat × Nat} (h : w.heap[cb]? = some (.cells c t fz)) (hn : off + n ≤ c.size) :
    (loadCells ⟨cb, off, none⟩ n).run P w = .ok ((c.toList.drop off).take n).toArray w := by
  have hl : ((c.toList.drop off).take n).length = n := by simp; omega
  have := run_loadCells_list (P := P) w ⟨cb, off, none⟩ ((c.toList.drop off).take n) (fun j v hv => by
    rw [addr_add, cell_at h]
    rw [List.getElem?_take] at hv
    split at hv
    · rw [List.getElem?_drop] at hv; simpa using hv
    · cases hv)
  rwa [hl] at this

theorem splice_step {α : Type} (l : List α) (k : Nat) (v : α) (rest : List α) (hk : k < l.length) :
    splice (l.set k v) (k + 1) rest = splice l k (v :: rest) := by
  unfold splice
  have h1 : (l.set k v).take (k + 1) = l.take k ++ [v] := by
    apply List.ext_getElem?
    intro j
    simp only [List.getElem?_take, List.getElem?_set, List.getElem?_append, List.length_take]
    have : min k l.length = k := by omega
    rcases Nat.lt_trichotomy j k with hj | hj | hj
    · simp [hj, this, show j < k + 1 by omega, Nat.ne_of_gt hj]
    · subst hj; simp [this, hk]
    · simp [this, show ¬ j < k + 1 by omega, show ¬ j < k by omega, show j - k ≠ 0 by omega]
  have h2 : (l.set k v).drop (k + 1 + rest.length) = l.drop (k + (v :: rest).length) := by
    rw [List.drop_set_of_lt (by omega)]
    congr 1; simp; omega
  rw [h1, h2]; simp

theorem run_storeCells_at {cb off : Nat} {t : TypeId} {fz : Nat × Nat} : ∀ (vs : List Value) (i : Nat) (c : Array Value) (w : World), w.heap[cb]? = some (.cells c t fz) →
    off + i + vs.length ≤ c.size → (fz.2 ≤ fz.1 ∨ fz.2 ≤ off + i ∨ c.size ≤ fz.1) → (∀ v ∈ vs, v.oneCell' = true) →
    (storeCells ⟨cb, off, none⟩ vs i).run P w = .ok () (w.upd cb (.cells (splice c.toList (off + i) vs).toArray t fz))
  | [], i, c, w, h, hl, hf, h1 => by
    simp only [storeCells, Sem.run_pure, splice, List.append_nil, List.length_nil, Nat.add_zero, List.take_append_drop, Array.toArray_toList]
    rw [upd_self h]
  | v :: vs, i, c, w, h, hl, hf, h1 => by
    have hlen : off + i < c.size := by simp at hl; omega
    have hcell : w.cell? ⟨cb, off + i, none⟩ = some c[off + i] := by rw [cell_at h]; simp [hlen]
    have hfro : w.frozen? ⟨cb, off + i, none⟩ = false := by
      rw [frozen_at h]; simp only [Bool.and_eq_false_iff, decide_eq_false_iff_not]; omega
    have hst : (store ((⟨cb, off, none⟩ : Addr).add i) v).run P w = .ok () (w.upd cb (.cells (c.setIfInBounds (off + i) v) t fz)) := by
      rw [addr_add, run_store P w _ v _ (h1 v (by simp)), hcell]
      simp only [hfro, setCell_at h]; rfl
    have ih := run_storeCells_at (off := off) vs (i + 1) (c.setIfInBounds (off + i) v) (w.upd cb (.cells (c.setIfInBounds (off + i) v) t fz)) (heap_upd_same h)
      (by simp at hl ⊢; omega) (by simp; omega) (fun u hu => h1 u (by simp [hu]))
    simp only [storeCells, Sem.run_bind, hst, Result.andThen_ok, ih, upd_upd]
    rw [Array.toList_setIfInBounds, show off + (i + 1) = off + i + 1 by omega, splice_step _ _ _ _ (by simpa using hlen)]

def aggD : TypeDesc → Bool
  | .struct _ | .array .. => true
  | _ => false

theorem run_underlying' {t : TypeId} {d : TypeDesc} (h : P.underlying t = some d) : (underlying t).run P w = .ok d w := by
  simp [underlying, h]
theorem run_typeInfo' {t : TypeId} {i : TypeInfo} (h : P.info? t = some i) : (typeInfo t).run P w = .ok i w := by
  simp [typeInfo, h]
theorem run_sizeOf' {t : TypeId} {i : TypeInfo} (h : P.info? t = some i) : (sizeOf t).run P w = .ok i.size w := by
  simp [sizeOf, run_typeInfo' h]
theorem run_isAgg' {t : TypeId} {d : TypeDesc} (h : P.underlying t = some d) : (isAgg t).run P w = .ok (aggD d) w := by
  simp only [isAgg, Sem.run_bind, run_underlying' h, Result.andThen_ok]
  cases d <;> rfl
theorem run_zeroValue' {t : TypeId} {i : TypeInfo} {z : Value} (h : P.info? t = some i) (hz : i.zero = some z) : (zeroValue t).run P w = .ok z w := by
  simp [zeroValue, run_typeInfo' h, hz]

/-- A variable's value out of its cells. -/
def mkValue (agg : Bool) (n : Nat) (vs : List Value) : Option Value := bif agg then (if n ≤ vs.length then some (.agg (vs.take n).toArray) else none) else vs.head?

theorem run_loadVar_at {t : TypeId} {d : TypeDesc} {i : TypeInfo} {cb off : Nat} {c : Array Value} {t' : TypeId} {fz : Nat × Nat} {v : Value} (hd : P.underlying t = some d) (hi : P.info? t = some i)
    (h : w.heap[cb]? = some (.cells c t' fz)) (hv : mkValue (aggD d) i.size (c.toList.drop off) = some v) : (loadVar t ⟨cb, off, none⟩).run P w = .ok v w := by
  simp only [loadVar, Sem.run_bind, run_isAgg' hd, Result.andThen_ok]
  cases ha : aggD d with
  | true =>
    simp only [ha, mkValue, cond_true] at hv
    split at hv
    · next hle =>
      cases hv
      simp only [List.length_drop, Array.length_toList] at hle
      by_cases hz : i.size = 0
      · simp [run_sizeOf' hi, hz, loadCells, loadCellsFrom]
      · simp [run_sizeOf' hi, run_loadCells_at (P := P) h (show off + i.size ≤ c.size by omega)]
    · cases hv
  | false =>
    simp only [ha, mkValue, cond_false, List.head?_drop] at hv
    simp only [Bool.false_eq_true, if_false]
    exact run_load_at h (by simpa using hv)

theorem run_storeVar_at {t : TypeId} {i : TypeInfo} {cb off : Nat} {c : Array Value} {t' : TypeId} {fz : Nat × Nat} {v : Value} (hi : P.info? t = some i) (hs : v.cells.size = i.size)
    (h : w.heap[cb]? = some (.cells c t' fz)) (hl : off + i.size ≤ c.size) (hf : fz.2 ≤ fz.1 ∨ fz.2 ≤ off ∨ c.size ≤ fz.1) (h1 : ∀ u ∈ v.cells.toList, u.oneCell' = true) :
    (storeVar t ⟨cb, off, none⟩ v).run P w = .ok () (w.upd cb (.cells (splice c.toList off v.cells.toList).toArray t' fz)) := by
  have := run_storeCells_at (P := P) (cb := cb) (off := off) v.cells.toList 0 c w h (by simp; omega) (by simpa using hf) h1
  simp only [Nat.add_zero] at this
  simp [storeVar, run_sizeOf' hi, hs, this]

end
end Go.Proofs.YtjbkcboklccmeaaGreatDoor.Abs
/-
  An abstract memory and the model's: which blocks stand for which; what a change of both keeps.
-/
namespace Go.Proofs.YtjbkcboklccmeaaGreatDoor.Abs

/-- How a piece of code is read (given how many slots, which of them lie in the frame). -/
abbrev Reads := Nat → Code → ACode → Prop

def blk (G : Ghost) (id : Nat) : AObj → Option Nat
  | .arr _ _ _ _ es => (G.τ id es.length).map (·.1)
  | _ => G.σ id

def Live (G : Ghost) (h : Heap) (cb : Nat) : Prop := ∃ id o, hget h id = some o ∧ blk G id o = some cb

def pendRel : Option AExit → Option Code → Prop
  | none, none => True
  | some .ret, some .ret => True
  | some (.exit i), some (.exit j) => i = j
  | _, _ => False

structure LoopRel (K : Reads) (G : Ghost) (lp : ALoop) (L : Loop) : Prop where
  state : L.state = lp.state
  pending : pendRel lp.pending L.pending
  params : L.params = lp.params.toArray
  code : K L.tmps.size L.assign lp.assign ∧ K L.tmps.size L.body lp.body ∧ ∀ s ∈ lp.params, s < L.tmps.size
  env : ∀ s, VRel G (lp.env.get s) (L.tmps.getD s Go.undef)

structure MapRel (G : Ghost) (es : List (AV × AV × Nat)) (es' : List MapEntry) : Prop where
  len : es.length = es'.length
  val : ∀ (i : Nat) (k v : AV) (b : Nat) (e : MapEntry), es[i]? = some (k, v, b) → es'[i]? = some e → VRel G k e.key ∧ VRel G v e.val ∧ b = e.born

structure ArrRel (G : Ghost) (id esz froz : Nat) (mk : Bool) (es : List (List AV)) (c : Array Value) (fz : Nat × Nat) : Prop where
  ex : ∃ cb base, G.τ id es.length = some (cb, base, esz) ∧ G.sz cb = some c.size ∧ base + es.length * esz ≤ c.size ∧
    CsRel G es.flatten ((c.toList.drop base).take (es.length * esz)) ∧ (fz.1 = fz.2 ∨ fz.2 ≤ base + froz * esz ∨ mk = true ∧ c.size ≤ fz.1)
  esz : ∀ e ∈ es, e.length = esz

def OC (K : Reads) (G : Ghost) (id : Nat) : AObj → Obj → Prop
  | .cells ty cs, .cells c t fz => fz.2 ≤ fz.1 ∧ CsRel G cs c.toList ∧ t = ty
  | .arr ty esz froz mk es, .cells c t fz => ArrRel G id esz froz mk es c fz ∧ t = ty
  | .map es clock, .map es' clock' => clock = clock' ∧ MapRel G es es'.toList
  | .iter m since seen stepped, .mapIter m' since' seen' stepped' => since = since' ∧ seen = seen'.toList ∧ stepped = stepped' ∧
    (match m, m' with | none, none => True | some i, some r => G.σ i = some r | _, _ => False)
  | .loop lp, .loop L => LoopRel K G lp L
  | _, _ => False

def ORel (K : Reads) (G : Ghost) (id : Nat) (o : AObj) (w : World) : Prop := ∃ cb obj, blk G id o = some cb ∧ w.heap[cb]? = some obj ∧ OC K G id o obj

structure Mem (K : Reads) (G : Ghost) (h : Heap) (w : World) : Prop where
  obj : ∀ id o, hget h id = some o → ORel K G id o w
  inj : ∀ i j oi oj cb, hget h i = some oi → hget h j = some oj → blk G i oi = some cb → blk G j oj = some cb → i = j
  imm : ∀ cb l, G.imm cb = some l → (∃ c t fz, w.heap[cb]? = some (.cells c t fz) ∧ c.toList = l) ∧ ¬ Live G h cb
  sz : ∀ cb n, G.sz cb = some n → ∃ c t fz, w.heap[cb]? = some (.cells c t fz) ∧ c.size = n
  fresh : ∀ id, h.length ≤ id → G.σ id = none ∧ ∀ s, G.τ id s = none
  top : ∀ id ty esz froz mk es, hget h id = some (.arr ty esz froz mk es) → ∀ s x, G.τ id s = some x → s ≤ es.length

structure Evolve (K : Reads) (G : Ghost) (h : Heap) (w : World) (G' : Ghost) (h' : Heap) (w' : World) : Prop where
  le : G.le G'
  mem : Mem K G' h' w'
  size : w.heap.size ≤ w'.heap.size
  same : ∀ cb, cb < w.heap.size → ¬ Live G h cb → w'.heap[cb]? = w.heap[cb]?
  live : ∀ cb, Live G' h' cb → Live G h cb ∨ w.heap.size ≤ cb
  imm : ∀ cb l, G'.imm cb = some l → G.imm cb = some l ∨ Live G h cb ∨ w.heap.size ≤ cb
  out : w'.os = w.os ∧ w'.output = w.output

theorem Evolve.refl {K : Reads} {G : Ghost} {h : Heap} {w : World} (m : Mem K G h w) : Evolve K G h w G h w :=
  ⟨.refl G, m, Nat.le_refl _, fun _ _ _ => rfl, fun _ h => .inl h, fun _ _ h => .inl h, rfl, rfl⟩

theorem Evolve.trans {K : Reads} {G G₁ G₂ : Ghost} {h h₁ h₂ : Heap} {w w₁ w₂ : World} (a : Evolve K G h w G₁ h₁ w₁) (b : Evolve K G₁ h₁ w₁ G₂ h₂ w₂) : Evolve K G h w G₂ h₂ w₂ where
  le := a.le.trans b.le
  mem := b.mem
  size := Nat.le_trans a.size b.size
  same cb hb hl := by
    rw [b.same cb (Nat.lt_of_lt_of_le hb a.size) (fun h => (a.live cb h).elim hl (fun h => by omega)), a.same cb hb hl]
  live cb hl := by
    rcases b.live cb hl with h | h
    · exact a.live cb h
    · exact .inr (Nat.le_trans a.size h)
  imm cb l hl := by
    rcases b.imm cb l hl with h | h | h
    · exact a.imm cb l h
    · exact .inr (a.live cb h)
    · exact .inr (.inr (Nat.le_trans a.size h))
  out := ⟨b.out.1.trans a.out.1, b.out.2.trans a.out.2⟩

section hget
theorem hget_lt {h : Heap} {i : Nat} {o : AObj} (e : hget h i = some o) : i < h.length := by
  induction h generalizing i with
  | nil => simp [hget] at e
  | cons x h ih => cases i with
    | zero => simp
    | succ i => simp only [hget] at e; have := ih e; simp; omega
theorem hget_append_lt {h h' : Heap} {i : Nat} (hi : i < h.length) : hget (h ++ h') i = hget h i := by
  induction h generalizing i with
  | nil => simp at hi
  | cons x h ih => cases i with
    | zero => rfl
    | succ i => simp only [List.cons_append, hget]; exact ih (by simpa using hi)
theorem hget_append_ge {h h' : Heap} {i : Nat} (hi : h.length ≤ i) : hget (h ++ h') i = hget h' (i - h.length) := by
  induction h generalizing i with
  | nil => simp
  | cons x h ih => cases i with
    | zero => simp at hi
    | succ i => simp only [List.cons_append, hget, List.length_cons, Nat.add_sub_add_right]; exact ih (by simpa using hi)
theorem hget_new {h : Heap} {o : Option AObj} : hget (h ++ [o]) h.length = o := by
  rw [hget_append_ge (Nat.le_refl _)]; simp [hget]
theorem hget_push {h : Heap} {o : Option AObj} {i : Nat} : hget (h ++ [o]) i = if i = h.length then o else hget h i := by
  split
  · next e => subst e; exact hget_new
  · next e =>
    by_cases hi : i < h.length
    · exact hget_append_lt hi
    · rw [hget_append_ge (by omega)]
      have : i - h.length = (i - h.length - 1) + 1 := by omega
      rw [this]; simp only [hget]
      cases hh : hget h i with
      | none => rfl
      | some o => exact absurd (hget_lt hh) hi
@[simp] theorem hset_length {h : Heap} {i : Nat} {x : Option AObj} : (hset h i x).length = h.length := by
  induction h generalizing i with
  | nil => rfl
  | cons o h ih => cases i with
    | zero => rfl
    | succ i => simp only [hset, List.length_cons, ih]
theorem hget_hset_same {h : Heap} {i : Nat} {x : Option AObj} (hi : i < h.length) : hget (hset h i x) i = x := by
  induction h generalizing i with
  | nil => simp at hi
  | cons o h ih => cases i with
    | zero => rfl
    | succ i => simp only [hset, hget]; exact ih (by simpa using hi)
theorem hget_hset_ne {h : Heap} {i j : Nat} {x : Option AObj} (hij : i ≠ j) : hget (hset h i x) j = hget h j := by
  induction h generalizing i j with
  | nil => rfl
  | cons o h ih => cases i with
    | zero => cases j with
      | zero => exact absurd rfl hij
      | succ j => rfl
    | succ i => cases j with
      | zero => rfl
      | succ j => simp only [hset, hget]; exact ih (by omega)
theorem hget_hset {h : Heap} {i j : Nat} {x : Option AObj} : hget (hset h i x) j = if i = j ∧ i < h.length then x else hget h j := by
  split
  · next e => obtain ⟨rfl, hi⟩ := e; exact hget_hset_same hi
  · next e =>
    by_cases hij : i = j
    · subst hij
      have hi : ¬ i < h.length := fun hi => e ⟨rfl, hi⟩
      have e1 : hget (hset h i x) i = none := by
        cases hh : hget (hset h i x) i with
        | none => rfl
        | some o => exact absurd (by simpa using hget_lt hh) hi
      have e2 : hget h i = none := by
        cases hh : hget h i with
        | none => rfl
        | some o => exact absurd (hget_lt hh) hi
      rw [e1, e2]
    · exact hget_hset_ne hij
end hget

section
variable {K : Reads} {G G' : Ghost} {h : Heap} {w : World}

theorem blk_mono (hG : G.le G') {id : Nat} {o : AObj} {cb : Nat} (e : blk G id o = some cb) : blk G' id o = some cb := by
  cases o with
  | arr ty esz froz mk es =>
    simp only [blk, Option.map_eq_some_iff] at e ⊢
    obtain ⟨x, hx, rfl⟩ := e
    exact ⟨x, hG.τ _ _ _ hx, rfl⟩
  | _ => exact hG.σ _ _ e

theorem MapRel.mono (hG : G.le G') {es : List (AV × AV × Nat)} {es' : List MapEntry} (m : MapRel G es es') : MapRel G' es es' :=
  ⟨m.len, fun i k v b e h1 h2 => let ⟨a, b, c⟩ := m.val i k v b e h1 h2; ⟨a.mono hG, b.mono hG, c⟩⟩

theorem OC.mono (hG : G.le G') {id : Nat} {o : AObj} {obj : Obj} (e : OC K G id o obj) : OC K G' id o obj := by
  cases o with
  | cells ty cs => cases obj <;> simp only [OC] at e ⊢; exact ⟨e.1, e.2.1.mono hG, e.2.2⟩
  | arr ty esz froz mk es =>
    cases obj <;> simp only [OC] at e ⊢
    obtain ⟨⟨⟨cb, base, h1, h2, h3, h4, h5⟩, h6⟩, h7⟩ := e
    exact ⟨⟨⟨cb, base, hG.τ _ _ _ h1, hG.sz _ _ h2, h3, h4.mono hG, h5⟩, h6⟩, h7⟩
  | map es clock => cases obj <;> simp only [OC] at e ⊢; exact ⟨e.1, e.2.mono hG⟩
  | iter m since seen stepped =>
    cases obj <;> simp only [OC] at e ⊢
    obtain ⟨h1, h2, h3, h4⟩ := e
    refine ⟨h1, h2, h3, ?_⟩
    split at h4
    · trivial
    · exact hG.σ _ _ h4
    · exact h4.elim
  | loop lp =>
    cases obj <;> simp only [OC] at e ⊢
    exact ⟨e.state, e.pending, e.params, e.code, fun s => (e.env s).mono hG⟩

theorem ORel.congr (hG : G.le G') {id : Nat} {o : AObj} {w w' : World} (e : ORel K G id o w) (hw : ∀ cb, blk G id o = some cb → w'.heap[cb]? = w.heap[cb]?) : ORel K G' id o w' := by
  obtain ⟨cb, obj, h1, h2, h3⟩ := e
  exact ⟨cb, obj, blk_mono hG h1, (hw cb h1).trans h2, h3.mono hG⟩

theorem Mem.live_lt (m : Mem K G h w) {cb : Nat} (hl : Live G h cb) : cb < w.heap.size := by
  obtain ⟨id, o, h1, h2⟩ := hl
  obtain ⟨cb', obj, h3, h4, _⟩ := m.obj id o h1
  rw [h2] at h3; cases h3
  exact (Array.getElem?_eq_some_iff.1 h4).1

theorem Mem.imm_lt (m : Mem K G h w) {cb : Nat} {l : List Value} (hl : G.imm cb = some l) : cb < w.heap.size := by
  obtain ⟨⟨c, t, fz, h1, _⟩, _⟩ := m.imm cb l hl
  exact (Array.getElem?_eq_some_iff.1 h1).1

/-- The world changes at blocks that stand for nothing. -/
theorem Mem.world (m : Mem K G h w) {w' : World} (h1 : ∀ cb, Live G h cb → w'.heap[cb]? = w.heap[cb]?) (h2 : ∀ cb l, G.imm cb = some l → w'.heap[cb]? = w.heap[cb]?)
    (h3 : ∀ cb n, G.sz cb = some n → ∀ c t fz, w.heap[cb]? = some (.cells c t fz) → ∃ c' t fz, w'.heap[cb]? = some (.cells c' t fz) ∧ c'.size = c.size) : Mem K G h w' where
  obj id o e := (m.obj id o e).congr (.refl G) fun cb hb => h1 cb ⟨id, o, e, hb⟩
  inj := m.inj
  imm cb l e := by
    obtain ⟨⟨c, t, fz, a, b⟩, hn⟩ := m.imm cb l e
    exact ⟨⟨c, t, fz, (h2 cb l e).trans a, b⟩, hn⟩
  sz cb n e := by
    obtain ⟨c, t, fz, a, b⟩ := m.sz cb n e
    obtain ⟨c', t', fz', a', b'⟩ := h3 cb n e c t fz a
    exact ⟨c', t', fz', a', b'.trans b⟩
  fresh := m.fresh
  top := m.top

/-- A new block that stands for nothing. -/
theorem Evolve.garbage (m : Mem K G h w) (o : Obj) : Evolve K G h w G h (w.alloc o) where
  le := .refl G
  mem := m.world (fun cb hl => heap_alloc_old (m.live_lt hl)) (fun cb l hl => heap_alloc_old (m.imm_lt hl)) (fun cb n hn c t fz hc =>
    ⟨c, t, fz, by rw [heap_alloc_old (Array.getElem?_eq_some_iff.1 hc).1, hc], rfl⟩)
  size := by simp
  same cb hb _ := heap_alloc_old hb
  live cb hl := .inl hl
  imm cb l hl := .inl hl
  out := ⟨rfl, rfl⟩

/-- A count of draws. -/
theorem Evolve.drew (m : Mem K G h w) : Evolve K G h w G h { w with drawn := w.drawn + 1 } where
  le := .refl G
  mem := m.world (fun _ _ => rfl) (fun _ _ _ => rfl) (fun cb n hn c t fz hc => ⟨c, t, fz, hc, rfl⟩)
  size := Nat.le_refl _
  same cb _ _ := rfl
  live cb hl := .inl hl
  imm cb l hl := .inl hl
  out := ⟨rfl, rfl⟩

def Ghost.addσ (G : Ghost) (id cb : Nat) : Ghost := { G with σ := fun i => if i = id then some cb else G.σ i }
theorem Ghost.le_addσ {id cb : Nat} (h : G.σ id = none) : G.le (G.addσ id cb) :=
  ⟨fun i b e => (by
      show (if i = id then some cb else G.σ i) = some b
      split
      · next e' => subst e'; rw [h] at e; cases e
      · exact e), fun _ _ _ e => e, fun _ _ e => e, fun _ _ e => e⟩

def AObj.isArr : AObj → Bool
  | .arr .. => true
  | _ => false

/-- A new block with a name of its own (no row of elements). -/
theorem Evolve.alloc (m : Mem K G h w) (o : AObj) (obj : Obj) (ho : o.isArr = false) (hc : OC K (G.addσ h.length w.heap.size) h.length o obj) :
    Evolve K G h w (G.addσ h.length w.heap.size) (h ++ [some o]) (w.alloc obj) ∧ (G.addσ h.length w.heap.size).σ h.length = some w.heap.size := by
  have hle : G.le (G.addσ h.length w.heap.size) := Ghost.le_addσ (m.fresh _ (Nat.le_refl _)).1
  have hσ : (G.addσ h.length w.heap.size).σ h.length = some w.heap.size := by simp [Ghost.addσ]
  have hblk : blk (G.addσ h.length w.heap.size) h.length o = some w.heap.size := by
    cases o <;> first | exact hσ | cases ho
  have hold : ∀ id o', hget h id = some o' → ∀ cb, blk (G.addσ h.length w.heap.size) id o' = some cb → blk G id o' = some cb := by
    intro id o' e cb hb
    obtain ⟨cb', obj', h1, _, _⟩ := m.obj id o' e
    have := blk_mono hle h1
    rw [hb] at this; cases this; exact h1
  have hlive : ∀ cb, Live (G.addσ h.length w.heap.size) (h ++ [some o]) cb → Live G h cb ∨ w.heap.size ≤ cb := by
    rintro cb ⟨id, o', e, hb⟩
    rw [hget_push] at e
    split at e
    · next e' => subst e'; cases e; rw [hblk] at hb; cases hb; exact .inr (Nat.le_refl _)
    · exact .inl ⟨id, o', e, hold id o' e cb hb⟩
  refine ⟨⟨hle, ⟨?_, ?_, ?_, ?_, ?_, ?_⟩, by simp, fun cb hb _ => heap_alloc_old hb, hlive, fun cb l e => .inl e, rfl, rfl⟩, hσ⟩
  · intro id o' e
    rw [hget_push] at e
    split at e
    · next e' => subst e'; cases e; exact ⟨_, obj, hblk, heap_alloc_new, hc⟩
    · refine (m.obj id o' e).congr hle fun cb hb => heap_alloc_old (m.live_lt ⟨id, o', e, hb⟩)
  · intro i j oi oj cb ei ej hi hj
    rw [hget_push] at ei ej
    split at ei
    · next e' =>
      subst e'; cases ei; rw [hblk] at hi; cases hi
      split at ej
      · next e'' => exact e''.symm
      · exact absurd (m.live_lt ⟨j, oj, ej, hold j oj ej _ hj⟩) (Nat.lt_irrefl _)
    · split at ej
      · next e'' =>
        subst e''; cases ej; rw [hblk] at hj; cases hj
        exact absurd (m.live_lt ⟨i, oi, ei, hold i oi ei _ hi⟩) (Nat.lt_irrefl _)
      · exact m.inj i j oi oj cb ei ej (hold i oi ei _ hi) (hold j oj ej _ hj)
  · intro cb l e
    obtain ⟨⟨c, t, fz, a, b⟩, hn⟩ := m.imm cb l e
    refine ⟨⟨c, t, fz, (heap_alloc_old (m.imm_lt e)).trans a, b⟩, fun hl => ?_⟩
    rcases hlive cb hl with hl | hl
    · exact hn hl
    · have := m.imm_lt e; omega
  · intro cb n e
    obtain ⟨c, t, fz, a, b⟩ := m.sz cb n e
    exact ⟨c, t, fz, (heap_alloc_old (Array.getElem?_eq_some_iff.1 a).1).trans a, b⟩
  · intro id hid
    simp only [List.length_append, List.length_cons, List.length_nil] at hid
    obtain ⟨a, b⟩ := m.fresh id (by omega)
    refine ⟨?_, b⟩
    simp only [Ghost.addσ]
    rw [if_neg (by omega)]; exact a
  · intro id ty esz froz mk es e
    rw [hget_push] at e
    split at e
    · next e' => subst e'; cases e; cases ho
    · exact m.top id ty esz froz mk es e

/-- A block that stands for a name is turned, with what stands under the name. -/
theorem Evolve.upd (m : Mem K G h w) {id cb : Nat} {o o' : AObj} {obj' : Obj} (e : hget h id = some o) (hb : blk G id o = some cb) (hb' : blk G id o' = some cb)
    (hc : OC K G id o' obj') (hs : ∀ n, G.sz cb = some n → ∃ c t fz, obj' = .cells c t fz ∧ c.size = n)
    (ht : ∀ ty esz froz mk es, o' = .arr ty esz froz mk es → ∀ s x, G.τ id s = some x → s ≤ es.length) : Evolve K G h w G (hset h id (some o')) (w.upd cb obj') := by
  have hlt := hget_lt e
  obtain ⟨cb', obj, h1, h2, _⟩ := m.obj id o e
  rw [hb] at h1; cases h1
  have hlive : ∀ b, Live G (hset h id (some o')) b → Live G h b := by
    rintro b ⟨j, oj, ej, hj⟩
    rw [hget_hset] at ej
    split at ej
    · next c => obtain ⟨rfl, _⟩ := c; cases ej; rw [hb'] at hj; cases hj; exact ⟨_, _, e, hb⟩
    · exact ⟨j, oj, ej, hj⟩
  refine ⟨.refl G, ⟨?_, ?_, ?_, ?_, ?_, ?_⟩, by simp, ?_, fun b hl => .inl (hlive b hl), fun b l e => .inl e, rfl, rfl⟩
  · intro j oj ej
    rw [hget_hset] at ej
    split at ej
    · next c => obtain ⟨rfl, _⟩ := c; cases ej; exact ⟨cb, obj', hb', heap_upd_same h2, hc⟩
    · next c =>
      refine (m.obj j oj ej).congr (.refl G) fun b hbj => heap_upd_other ?_
      rintro rfl
      exact c ⟨m.inj id j o oj b e ej hb hbj, hlt⟩
  · intro i j oi oj b ei ej hi hj
    have key : ∀ i oi, hget (hset h id (some o')) i = some oi → blk G i oi = some b → ∃ oi', hget h i = some oi' ∧ blk G i oi' = some b := by
      intro i oi ei hi
      rw [hget_hset] at ei
      split at ei
      · next c => obtain ⟨rfl, _⟩ := c; cases ei; rw [hb'] at hi; cases hi; exact ⟨_, e, hb⟩
      · exact ⟨oi, ei, hi⟩
    obtain ⟨oi', ei', hi'⟩ := key i oi ei hi
    obtain ⟨oj', ej', hj'⟩ := key j oj ej hj
    exact m.inj i j oi' oj' b ei' ej' hi' hj'
  · intro b l el
    obtain ⟨⟨c, t, fz, a, b'⟩, hn⟩ := m.imm b l el
    refine ⟨⟨c, t, fz, (heap_upd_other ?_).trans a, b'⟩, fun hl => hn (hlive b hl)⟩
    rintro rfl; exact hn ⟨id, o, e, hb⟩
  · intro b n en
    by_cases hbb : b = cb
    · subst hbb
      obtain ⟨c, t, fz, rfl, hn⟩ := hs n en
      exact ⟨c, t, fz, heap_upd_same h2, hn⟩
    · obtain ⟨c, t, fz, a, b'⟩ := m.sz b n en
      exact ⟨c, t, fz, (heap_upd_other hbb).trans a, b'⟩
  · intro j hj; exact m.fresh j (by simpa using hj)
  · intro j ty esz froz mk es ej
    rw [hget_hset] at ej
    split at ej
    · next c => obtain ⟨rfl, _⟩ := c; cases ej; exact ht _ _ _ _ _ rfl
    · exact m.top j ty esz froz mk es ej
  · intro b hb'' hl
    refine heap_upd_other ?_
    rintro rfl; exact hl ⟨id, o, e, hb⟩

end
end Go.Proofs.YtjbkcboklccmeaaGreatDoor.Abs
/-
  Rows of elements: made, grown, let go of; rows that are never written.
-/
namespace Go.Proofs.YtjbkcboklccmeaaGreatDoor.Abs

section
variable {K : Reads} {G : Ghost} {h : Heap} {w : World}

def Ghost.row (G : Ghost) (id len : Nat) (x : Nat × Nat × Nat) (n : Nat) : Ghost :=
  { G with τ := fun i s => if i = id ∧ s = len then some x else G.τ i s, sz := fun b => if b = x.1 then some n else G.sz b }

theorem Ghost.le_row {id len : Nat} {x : Nat × Nat × Nat} {n : Nat} (h : G.τ id len = none) (hs : ∀ m, G.sz x.1 = some m → m = n) : G.le (G.row id len x n) :=
  ⟨fun _ _ e => e, fun i s b e => (by
      show (if i = id ∧ s = len then some x else G.τ i s) = some b
      split
      · next e' => obtain ⟨rfl, rfl⟩ := e'; rw [h] at e; cases e
      · exact e), fun _ _ e => e, fun b m e => (by
      show (if b = x.1 then some n else G.sz b) = some m
      split
      · next e' => subst e'; rw [hs m e]
      · exact e)⟩

theorem Ghost.row_τ {id len : Nat} {x : Nat × Nat × Nat} {n : Nat} : (G.row id len x n).τ id len = some x := by simp [Ghost.row]
theorem Ghost.row_sz {id len : Nat} {x : Nat × Nat × Nat} {n : Nat} : (G.row id len x n).sz x.1 = some n := by simp [Ghost.row]

/-- A row under a name (a new one, or one that stands for an elder row): in a new block, or in the elder row's own. -/
theorem Evolve.rowAt (m : Mem K G h w) {id cb base ty esz froz n : Nat} {mk : Bool} {es : List (List AV)} {h' : Heap} {w' : World} {obj : Obj}
    (hh : ∀ j, j ≠ id → hget h' j = hget h j) (hi : hget h' id = some (.arr ty esz froz mk es)) (hlen : h.length ≤ h'.length) (hid : id < h'.length)
    (hnew : G.τ id es.length = none) (htop : ∀ s x, G.τ id s = some x → s ≤ es.length)
    (hsz : w.heap.size ≤ w'.heap.size) (hw : ∀ b, b < w.heap.size → b ≠ cb → w'.heap[b]? = w.heap[b]?)
    (hcb : w.heap.size ≤ cb ∨ ∃ o, hget h id = some o ∧ blk G id o = some cb)
    (hobj : w'.heap[cb]? = some obj) (hcells : ∃ c t fz, obj = .cells c t fz ∧ c.size = n) (hold : ∀ k, G.sz cb = some k → k = n)
    (hc : OC K (G.row id es.length (cb, base, esz) n) id (.arr ty esz froz mk es) obj) (ho : w'.os = w.os ∧ w'.output = w.output := by exact ⟨rfl, rfl⟩) :
    Evolve K G h w (G.row id es.length (cb, base, esz) n) h' w' := by
  have hle : G.le (G.row id es.length (cb, base, esz) n) := Ghost.le_row hnew hold
  have hblk : blk (G.row id es.length (cb, base, esz) n) id (.arr ty esz froz mk es) = some cb := by simp [blk, Ghost.row_τ]
  have hold' : ∀ j o', hget h j = some o' → ∀ b, blk (G.row id es.length (cb, base, esz) n) j o' = some b → blk G j o' = some b := by
    intro j o' e b hb
    obtain ⟨b', obj', h1, _, _⟩ := m.obj j o' e
    have := blk_mono hle h1
    rw [hb] at this; cases this; exact h1
  have hother : ∀ j o', hget h' j = some o' → j ≠ id → ∀ b, blk (G.row id es.length (cb, base, esz) n) j o' = some b → hget h j = some o' ∧ blk G j o' = some b ∧ b ≠ cb ∧ b < w.heap.size := by
    intro j o' e hj b hb
    have e' : hget h j = some o' := by rw [← hh j hj]; exact e
    have hb' := hold' j o' e' b hb
    have hlt := m.live_lt ⟨j, o', e', hb'⟩
    refine ⟨e', hb', ?_, hlt⟩
    rintro rfl
    rcases hcb with hcb | ⟨o, h1, h2⟩
    · omega
    · exact hj (m.inj j id o' o b e' h1 hb' h2)
  have hlive : ∀ b, Live (G.row id es.length (cb, base, esz) n) h' b → (Live G h b ∧ b ≠ cb) ∨ b = cb := by
    rintro b ⟨j, o', e, hb⟩
    by_cases hj : j = id
    · subst hj; rw [hi] at e; cases e; rw [hblk] at hb; cases hb; exact .inr rfl
    · obtain ⟨a, b', c, _⟩ := hother j o' e hj b hb
      exact .inl ⟨⟨j, o', a, b'⟩, c⟩
  have hcbl : w.heap.size ≤ cb ∨ Live G h cb := hcb.imp (fun x => x) fun ⟨o, a, b⟩ => ⟨id, o, a, b⟩
  refine ⟨hle, ⟨?_, ?_, ?_, ?_, ?_, ?_⟩, hsz, ?_, ?_, fun b l e => .inl e, ho⟩
  · intro j o' e
    by_cases hj : j = id
    · subst hj; rw [hi] at e; cases e; exact ⟨cb, obj, hblk, hobj, hc⟩
    · have e' : hget h j = some o' := by rw [← hh j hj]; exact e
      refine (m.obj j o' e').congr hle fun b hb => ?_
      obtain ⟨_, _, c, d⟩ := hother j o' e hj b (blk_mono hle hb)
      exact hw b d c
  · intro i j oi oj b ei ej hbi hbj
    by_cases hii : i = id
    · by_cases hjj : j = id
      · rw [hii, hjj]
      · subst hii; rw [hi] at ei; cases ei; rw [hblk] at hbi; cases hbi
        exact absurd rfl (hother j oj ej hjj _ hbj).2.2.1
    · by_cases hjj : j = id
      · subst hjj; rw [hi] at ej; cases ej; rw [hblk] at hbj; cases hbj
        exact absurd rfl (hother i oi ei hii _ hbi).2.2.1
      · obtain ⟨a, a', _, _⟩ := hother i oi ei hii b hbi
        obtain ⟨c, c', _, _⟩ := hother j oj ej hjj b hbj
        exact m.inj i j oi oj b a c a' c'
  · intro b l e
    obtain ⟨⟨c, t, fz, a, b'⟩, hn⟩ := m.imm b l e
    have hb := m.imm_lt e
    have hne : b ≠ cb := by
      rintro rfl
      rcases hcbl with hcbl | hcbl
      · omega
      · exact hn hcbl
    refine ⟨⟨c, t, fz, (hw b hb hne).trans a, b'⟩, fun hl => ?_⟩
    rcases hlive b hl with hl | hl
    · exact hn hl.1
    · exact hne hl
  · intro b k e
    by_cases hb : b = cb
    · subst hb
      obtain ⟨c, t, fz, h1, h2⟩ := hcells
      have : k = n := by simpa [Ghost.row] using e.symm
      exact ⟨c, t, fz, by rw [hobj, h1], by rw [h2, this]⟩
    · have e' : G.sz b = some k := by simpa [Ghost.row, hb] using e
      obtain ⟨c, t, fz, a, b'⟩ := m.sz b k e'
      exact ⟨c, t, fz, (hw b (Array.getElem?_eq_some_iff.1 a).1 hb).trans a, b'⟩
  · intro j hj
    obtain ⟨a, b⟩ := m.fresh j (by omega)
    refine ⟨a, fun s => ?_⟩
    show (if j = id ∧ s = es.length then some (cb, base, esz) else G.τ j s) = none
    rw [if_neg (by omega)]; exact b s
  · intro j ty' esz' froz' mk' es' e s x hx
    have hx' : (if j = id ∧ s = es.length then some (cb, base, esz) else G.τ j s) = some x := hx
    by_cases hj : j = id
    · subst hj; rw [hi] at e; cases e
      split at hx'
      · next c => omega
      · exact htop s x hx'
    · rw [if_neg (by simp [hj])] at hx'
      exact m.top j ty' esz' froz' mk' es' (by rw [← hh j hj]; exact e) s x hx'
  · intro b hb hl
    refine hw b hb ?_
    rintro rfl
    rcases hcbl with h1 | h1
    · omega
    · exact hl h1
  · intro b hl
    rcases hlive b hl with hl | rfl
    · exact .inl hl.1
    · exact hcbl.symm

def Ghost.addImm (G : Ghost) (cb : Nat) (l : List Value) : Ghost := { G with imm := fun b => if b = cb then some l else G.imm b }
theorem Ghost.le_addImm {cb : Nat} {l : List Value} (h : G.imm cb = none) : G.le (G.addImm cb l) :=
  ⟨fun _ _ e => e, fun _ _ _ e => e, fun b k e => (by
      show (if b = cb then some l else G.imm b) = some k
      split
      · next e' => subst e'; rw [h] at e; cases e
      · exact e), fun _ _ e => e⟩
theorem Ghost.addImm_imm {cb : Nat} {l : List Value} : (G.addImm cb l).imm cb = some l := by simp [Ghost.addImm]

/-- A new block of cells that is never written. -/
theorem Evolve.immAlloc (m : Mem K G h w) (c : Array Value) (t : TypeId) : Evolve K G h w (G.addImm w.heap.size c.toList) h (w.alloc (.cells c t)) := by
  have hnone : G.imm w.heap.size = none := by
    cases e : G.imm w.heap.size with
    | none => rfl
    | some l => exact absurd (m.imm_lt e) (Nat.lt_irrefl _)
  have hle : G.le (G.addImm w.heap.size c.toList) := Ghost.le_addImm hnone
  have hblk : ∀ id o, blk (G.addImm w.heap.size c.toList) id o = blk G id o := by intro id o; cases o <;> rfl
  have hlive : ∀ b, Live (G.addImm w.heap.size c.toList) h b → Live G h b := fun b ⟨id, o, a, b'⟩ => ⟨id, o, a, by rw [← hblk]; exact b'⟩
  refine ⟨hle, ⟨?_, ?_, ?_, ?_, m.fresh, m.top⟩, by simp, fun b hb _ => heap_alloc_old hb, fun b hl => .inl (hlive b hl), ?_, rfl, rfl⟩
  · intro id o e; exact (m.obj id o e).congr hle fun b hb => heap_alloc_old (m.live_lt ⟨id, o, e, hb⟩)
  · intro i j oi oj b ei ej hi hj
    rw [hblk] at hi hj
    exact m.inj i j oi oj b ei ej hi hj
  · intro b l e
    have e' : (if b = w.heap.size then some c.toList else G.imm b) = some l := e
    split at e'
    · next hb => subst hb; cases e'; exact ⟨⟨c, t, (0, 0), heap_alloc_new, rfl⟩, fun hl => absurd (m.live_lt (hlive _ hl)) (Nat.lt_irrefl _)⟩
    · obtain ⟨⟨c', t', fz, a, b'⟩, hn⟩ := m.imm b l e'
      exact ⟨⟨c', t', fz, (heap_alloc_old (m.imm_lt e')).trans a, b'⟩, fun hl => hn (hlive _ hl)⟩
  · intro b n e
    obtain ⟨c', t', fz, a, b'⟩ := m.sz b n e
    exact ⟨c', t', fz, (heap_alloc_old (Array.getElem?_eq_some_iff.1 a).1).trans a, b'⟩
  · intro b l e
    have e' : (if b = w.heap.size then some c.toList else G.imm b) = some l := e
    split at e'
    · next hb => exact .inr (.inr (by omega))
    · exact .inl e'

/-- A block under a name is let go of: nobody writes it from here on. -/
theorem Evolve.release (m : Mem K G h w) {id cb : Nat} {o : AObj} {c : Array Value} {t : TypeId} {fz : Nat × Nat} (e : hget h id = some o) (hb : blk G id o = some cb)
    (hw : w.heap[cb]? = some (.cells c t fz)) : Evolve K G h w (G.addImm cb c.toList) (hset h id none) w := by
  have hl : Live G h cb := ⟨id, o, e, hb⟩
  have hnone : G.imm cb = none := by
    cases e : G.imm cb with
    | none => rfl
    | some l => exact absurd hl (m.imm cb l e).2
  have hle : G.le (G.addImm cb c.toList) := Ghost.le_addImm hnone
  have hblk : ∀ id o, blk (G.addImm cb c.toList) id o = blk G id o := by intro id o; cases o <;> rfl
  have hget' : ∀ j oj, hget (hset h id none) j = some oj → hget h j = some oj ∧ j ≠ id := by
    intro j oj ej
    rw [hget_hset] at ej
    split at ej
    · cases ej
    · next c => exact ⟨ej, fun hj => c ⟨hj.symm, hget_lt e⟩⟩
  have hlive : ∀ b, Live (G.addImm cb c.toList) (hset h id none) b → Live G h b ∧ b ≠ cb := by
    rintro b ⟨j, oj, a, b'⟩
    rw [hblk] at b'
    obtain ⟨a1, a2⟩ := hget' j oj a
    exact ⟨⟨j, oj, a1, b'⟩, by rintro rfl; exact a2 (m.inj j id oj o b a1 e b' hb)⟩
  refine ⟨hle, ⟨?_, ?_, ?_, ?_, ?_, ?_⟩, Nat.le_refl _, fun b _ _ => rfl, fun b hl => .inl (hlive b hl).1, ?_, rfl, rfl⟩
  · intro j oj ej; exact (m.obj j oj (hget' j oj ej).1).congr hle fun b hb => rfl
  · intro i j oi oj b ei ej hi hj
    rw [hblk] at hi hj
    exact m.inj i j oi oj b (hget' i oi ei).1 (hget' j oj ej).1 hi hj
  · intro b l e
    have e' : (if b = cb then some c.toList else G.imm b) = some l := e
    split at e'
    · next hb => subst hb; cases e'; exact ⟨⟨c, t, fz, hw, rfl⟩, fun hl => (hlive _ hl).2 rfl⟩
    · obtain ⟨a, hn⟩ := m.imm b l e'
      exact ⟨a, fun hl => hn (hlive _ hl).1⟩
  · exact m.sz
  · intro j hj; exact m.fresh j (by simpa using hj)
  · intro j ty esz froz mk es ej; exact m.top j ty esz froz mk es (hget' _ _ ej).1
  · intro b l e
    have e' : (if b = cb then some c.toList else G.imm b) = some l := e
    split at e'
    · next hb => subst hb; exact .inr (.inl hl)
    · exact .inl e'

end
end Go.Proofs.YtjbkcboklccmeaaGreatDoor.Abs
