/-
  How a call is entered: what the laid variables give; functions of the library that are taken by what is said of them.
-/
import Derived.Test.YtjbkcboklccmeaaGreatDoorGg
import Derived.SliceStrings
import Derived.Lib.LaidU8
import Derived.Lib.IndexMore
import Derived.Laws.Externs
import Derived.RowKit3
set_option linter.unusedVariables false
set_option linter.unusedSimpArgs false
namespace Go.Proofs.YtjbkcboklccmeaaGreatDoor.Abs
open Go.ChangeShapes

/-- All that there is stays aS it is. -/
def ghost0 (W : World) : Ghost :=
  { σ := fun _ => none, τ := fun _ _ => none, imm := fun b => match W.heap[b]? with | some (.cells c _ _) => some c.toList | _ => none, sz := fun _ => none }

theorem mem0 (K : Reads) (W : World) : Mem K (ghost0 W) [] W where
  obj id o e := by simp [hget] at e
  inj i j oi oj cb e := by simp [hget] at e
  imm cb l e := by
    refine ⟨?_, fun ⟨id, o, e', _⟩ => by simp [hget] at e'⟩
    simp only [ghost0] at e
    split at e
    · next c t fz hc => cases e; exact ⟨c, t, fz, hc, rfl⟩
    · cases e
  sz cb n e := by simp [ghost0] at e
  fresh id _ := ⟨rfl, fun _ => rfl⟩
  top id ty esz froz mk es e := by simp [hget] at e

def strTab (ss : List (List UInt8)) : List AV := [.list 1 true (ss.map fun s => [.str s])]
def strData (ss : List (List UInt8)) : DataW Unit := .slice (ss.map fun s => .lit (.string s)) []

theorem imm0 {W : World} {b : Nat} {c : Array Value} {t : TypeId} {fz : Nat × Nat} (h : W.heap[b]? = some (.cells c t fz)) : (ghost0 W).imm b = some c.toList := by
  simp only [ghost0, h]

theorem tab_rel {P : Program} {W : World} {name : String} {g : Nat} {t e : TypeId} {ss : List (List UInt8)} (hn : P.globalNamed name = some g) (hy : (P.globals[g]?).map (·.type) = some t)
    (ht : P.underlying t = some (.slice e)) (he : P.underlying e = some .string) (hc : P.cellsOf e = 1) (hl : 0 < ss.length) (h : Lib.VarReads P W name (strData ss)) :
    VRel (ghost0 W) (.cref (strTab ss)) (.pointer (some ⟨g, 0, none⟩)) := by
  obtain ⟨g', t', cs, fuel, p, hg, hty, hvar, hd⟩ := h
  obtain rfl := Option.some.inj (hn.symm.trans hg)
  obtain rfl := Option.some.inj (hy.symm.trans hty)
  rcases open_strings ht he hc hd with ⟨_, hx⟩ | ⟨a, len, cap, bs, hcs, _, hlc, _, hbl, hx, hcell, _⟩
  · cases hx
  have e0 := congrArg Prod.fst hx
  simp only [strData, DataW.slice.injEq, strs] at e0
  obtain ⟨eE, eR⟩ := e0
  simp only [if_true] at hbl
  have hdl : (bs.drop len) = [] := by
    have := congrArg List.length eR
    simp only [List.length_nil, List.length_map] at this
    exact List.length_eq_zero_iff.1 this.symm
  have hcl : cap = len := by
    have := congrArg List.length hdl
    simp only [List.length_drop, List.length_nil] at this
    omega
  subst hcl
  have htake : bs.take cap = bs := by rw [← hbl]; exact List.take_length
  rw [htake] at eE
  have hlen : ss.length = cap := by
    have := congrArg List.length eE
    simp only [List.length_map] at this
    omega
  -- the variable's cell
  simp only [World.var?, hn, Option.bind_some] at hvar
  split at hvar
  · next c t0 fz hcg =>
    cases hvar
    have hcell0 := hcell 0 (by omega)
    rw [Addr.add, if_pos rfl] at hcell0
    -- the row's block
    obtain ⟨blk, off, spot⟩ := a
    simp only [World.cell?] at hcell0
    split at hcell0
    · next c2 t2 fz2 hc2 =>
      have hspot : spot = none := by
        cases spot with
        | none => rfl
        | some x => simp at hcell0
      subst hspot
      have hcells : ∀ i, i < cap → c2.toList[off + i]? = some (.string (bs.getD i ByteArray.empty)) := by
        intro i hi
        have := hcell i (by omega)
        rw [show (Addr.add ⟨blk, off, none⟩ i) = ⟨blk, off + i, none⟩ by unfold Addr.add; split <;> simp_all] at this
        simp only [World.cell?, hc2, Option.isSome_none, Bool.false_eq_true, if_false] at this
        simpa using this
      have himm := imm0 hcg
      rw [hcs] at himm
      refine .cref himm (by simp [strTab]) (fun i a v ha hv => ?_) (fun i v hi hv => ?_)
      · cases i with
        | succ i => simp [strTab] at ha
        | zero =>
          simp only [strTab, List.getElem?_cons_zero, Option.some.injEq, Nat.zero_add] at ha hv
          subst ha hv
          have hfl : ∀ (l : List (List UInt8)), (l.map fun s => [AV.str s]).flatten = l.map AV.str := by
            intro l; induction l with
            | nil => rfl
            | cons x l ih => simp [ih]
          have hle : off + cap ≤ c2.toList.length := by
            have := hcells (cap - 1) (by omega)
            have h2 := (List.getElem?_eq_some_iff.1 this).1
            omega
          refine .list (imm0 hc2) (fun e he => ?_) (by simp [hlen]; simpa using hle) (fun i a v ha hv => ?_) (fun i v hi hv => ?_) (by simp [hlen]) (Nat.le_refl _) (fun _ => rfl)
          · obtain ⟨s, _, rfl⟩ := List.mem_map.1 he; rfl
          · rw [hfl] at ha
            simp only [List.getElem?_map, Option.map_eq_some_iff] at ha
            obtain ⟨s, hs, rfl⟩ := ha
            have hi : i < cap := by have := (List.getElem?_eq_some_iff.1 hs).1; omega
            rw [hcells i hi] at hv
            cases hv
            have : (bs.getD i ByteArray.empty).data.toList = s := by
              have := congrArg (·[i]?) eE
              simp only [List.getElem?_map, hs, Option.map_some] at this
              have hbi : bs[i]? = some (bs.getD i ByteArray.empty) := by simp [List.getD, show i < bs.length by omega]
              rw [hbi] at this
              simpa using this.symm
            rw [← this]
            exact .str _
          · have hi' : i < cap := by simpa [hlen] using hi
            rw [hcells i hi'] at hv
            cases hv; rfl
      · cases i with
        | succ i => simp [strTab] at hi
        | zero => simp only [List.getElem?_cons_zero, Option.some.injEq, Nat.zero_add] at hv; subst hv; rfl
    · cases hcell0
  · cases hvar

/-- Tables by number. -/
def glOf : List (Nat × List AV) → Globals
  | [], _ => none
  | (k, cs) :: r, g => bif Nat.beq k g then some cs else glOf r g

theorem glRel_of {G : Ghost} : ∀ {l : List (Nat × List AV)}, (∀ p ∈ l, VRel G (.cref p.2) (.pointer (some ⟨p.1, 0, none⟩))) → GlRel G (glOf l)
  | [], _, g, cs, h => by simp [glOf] at h
  | (k, cs') :: r, hl, g, cs, h => by
    simp only [glOf] at h
    cases hk : Nat.beq k g with
    | true =>
      rw [hk] at h
      cases h
      have := Nat.eq_of_beq_eq_true hk; subst this
      exact hl _ List.mem_cons_self
    | false =>
      rw [hk] at h
      exact glRel_of (fun p hp => hl p (List.mem_cons_of_mem _ hp)) g cs h

/-- A cell that holds some integer. -/
theorem int_rel {W : World} {g : Nat} {k : IntKind} {m : Int} (h : W.cell? ⟨g, 0, none⟩ = some (.int k m)) : VRel (ghost0 W) (.cref [.int k m]) (.pointer (some ⟨g, 0, none⟩)) := by
  simp only [World.cell?] at h
  split at h
  · next c t fz hc =>
    have hcl : c.toList[0]? = some (.int k m) := by simpa using h
    have hl := (List.getElem?_eq_some_iff.1 hcl).1
    refine .cref (imm0 hc) (by simp only [List.length_singleton, Nat.zero_add]; exact hl) (fun i a v ha hv => ?_) (fun i v hi hv => ?_)
    · cases i with
      | succ i => simp at ha
      | zero =>
        simp only [List.getElem?_cons_zero, Option.some.injEq, Nat.zero_add] at ha
        subst ha
        rw [Nat.zero_add, hcl] at hv; cases hv; exact .int k m
    · cases i with
      | succ i => simp at hi
      | zero => rw [Nat.zero_add, hcl] at hv; cases hv; rfl
  · cases h

theorem cell_of_int {K : Reads} {G : Ghost} {h : Heap} {w : World} {gl : Globals} {g : Nat} {k : IntKind} {m : Int} (hg : GlRel G gl) (mm : Mem K G h w) (hgl : gl g = some [.int k m]) : w.cell? ⟨g, 0, none⟩ = some (.int k m) := by
  have := hg g _ hgl
  cases this with
  | cref himm hl hv ho =>
    rename_i l
    obtain ⟨⟨c, t, fz, h1, h2⟩, _⟩ := mm.imm _ _ himm
    cases hl0 : l[0]? with
    | none => rw [List.getElem?_eq_none_iff] at hl0; simp at hl; omega
    | some v =>
      have hr := hv 0 _ v rfl (by simpa using hl0)
      cases hr
      simp only [World.cell?, h1, Option.isSome_none, Bool.false_eq_true, if_false]
      have : c.toList[0]? = some (.int k m) := by rw [h2]; exact hl0
      simpa using this

/-! ### The library -/

/-- Is the one the other's beginning? -/
def pre0 : List UInt8 → List UInt8 → Bool
  | [], _ => true
  | _ :: _, [] => false
  | a :: x, b :: y => a == b && pre0 x y

def within : List UInt8 → List UInt8 → Bool
  | [], sub => sub.isEmpty
  | a :: s, sub => pre0 sub (a :: s) || within s sub

def findB (b : UInt8) : List UInt8 → Int → Int
  | [], _ => -1
  | a :: s, i => if a == b then i else findB b s (i + 1)

theorem pre0_eq : ∀ (a b : List UInt8), pre0 a b = a.isPrefixOf b
  | [], b => by simp [pre0]
  | _ :: _, [] => rfl
  | a :: x, b :: y => by simp only [pre0, List.isPrefixOf, pre0_eq x y]

theorem index_cons (a : UInt8) (s sub : List UInt8) : Lib.index (a :: s) sub = if sub.isPrefixOf (a :: s) then 0 else if Lib.index s sub == -1 then -1 else Lib.index s sub + 1 := rfl
theorem indexByte_cons (a b : UInt8) (s : List UInt8) : Lib.indexByte (a :: s) b = if a == b then 0 else if Lib.indexByte s b == -1 then -1 else Lib.indexByte s b + 1 := rfl

theorem within_iff : ∀ (s sub : List UInt8), within s sub = true ↔ 0 ≤ Lib.index s sub
  | [], sub => by
    cases sub with
    | nil => simp [within, Lib.index]
    | cons a x => simp [within, Lib.index]
  | a :: s, sub => by
    have ih := within_iff s sub
    simp only [within, pre0_eq, Bool.or_eq_true, ih]
    rw [index_cons]
    have hge := Lib.index_ge s sub
    by_cases hp : sub.isPrefixOf (a :: s) = true
    · rw [if_pos hp]; exact ⟨fun _ => Int.le_refl _, fun _ => .inl hp⟩
    · rw [if_neg hp]
      by_cases h : Lib.index s sub = -1
      · rw [if_pos (by simp [h])]; simp [h, hp]
      · rw [if_neg (by simpa using h)]
        constructor
        · rintro (h' | h')
          · exact absurd h' hp
          · omega
        · intro h'; exact .inr (by omega)

theorem within_eq (s sub : List UInt8) : within s sub = Lib.contains s sub := by
  unfold Lib.contains
  rw [Bool.eq_iff_iff, within_iff, decide_eq_true_iff]

theorem findB_eq (b : UInt8) : ∀ (s : List UInt8) (i : Int), (Lib.indexByte s b = -1 → findB b s i = -1) ∧ (Lib.indexByte s b ≠ -1 → findB b s i = Lib.indexByte s b + i)
  | [], i => by simp [findB, Lib.indexByte]
  | a :: s, i => by
    obtain ⟨h1, h2⟩ := findB_eq b s (i + 1)
    have hge := Lib.indexByte_ge s b
    simp only [findB]
    rw [indexByte_cons]
    by_cases hab : (a == b) = true
    · rw [if_pos hab, if_pos hab]
      exact ⟨fun h => by omega, fun _ => by omega⟩
    · rw [if_neg hab, if_neg hab]
      by_cases h : Lib.indexByte s b = -1
      · rw [if_pos (by simp [h])]
        exact ⟨fun _ => h1 h, fun h' => absurd rfl h'⟩
      · rw [if_neg (by simpa using h)]
        refine ⟨fun h' => by omega, fun _ => ?_⟩
        rw [h2 h]; omega

theorem findB_zero (b : UInt8) (s : List UInt8) : findB b s 0 = Lib.indexByte s b := by
  obtain ⟨h1, h2⟩ := findB_eq b s 0
  by_cases h : Lib.indexByte s b = -1
  · rw [h1 h, h]
  · rw [h2 h, Int.add_zero]

/-- Functions of Go's library: strings.Contains, strings.IndexByte, abi.NoEscape, under their numbers. -/
def libExt (fc fi fn : Nat) : Exts := fun f args =>
  bif Nat.beq f fc then (match args with
    | [.str s, .str t] => if s.length < 4294967281 then some (.bool (within s t)) else none
    | _ => none)
  else bif Nat.beq f fi then (match args with
    | [.str s, .int .u8 b] => some (.int .i64 (findB b.toNat.toUInt8 s 0))
    | _ => none)
  else bif Nat.beq f fn then (match args with
    | [x] => some x
    | _ => none)
  else none

section
variable {K : Reads} {P : Program} {c : Ctx} {fc fi fn gm : Nat} {m : Int}

theorem two_inv {G : Ghost} {a b : AV} {cargs : Array Value} (h : VsRel G [a, b] cargs.toList) : ∃ x y, cargs = #[x, y] ∧ VRel G a x ∧ VRel G b y := by
  obtain ⟨l⟩ := cargs
  have hl : l.length = 2 := by have := h.len; simpa using this.symm
  match l, hl, h with
  | [x, y], _, h => exact ⟨x, y, rfl, h.val 0 a x rfl rfl, h.val 1 b y rfl rfl⟩

theorem one_inv {G : Ghost} {a : AV} {cargs : Array Value} (h : VsRel G [a] cargs.toList) : ∃ x, cargs = #[x] ∧ VRel G a x := by
  obtain ⟨l⟩ := cargs
  have hl : l.length = 1 := by have := h.len; simpa using this.symm
  match l, hl, h with
  | [x], _, h => exact ⟨x, rfl, h.val 0 a x rfl rfl⟩

theorem ext_ok (hc : ∀ (s sub : ByteArray) (m : Int) (w : World), s.size < 4294967281 → w.cell? ⟨gm, 0, none⟩ = some (.int .i64 m) →
      Calls P fc #[.string s, .string sub] w fun e w' => e = .returned (.bool (Lib.contains s.data.toList sub.data.toList)) ∧ w' = w)
    (ec : ∀ args w, (callFunc fc args).run P w = .ok (.enter fc args) w)
    (hi : ∀ (s : ByteArray) (b : Int) (w : World), Calls P fi #[.string s, .int .u8 b] w fun e w' => e = .returned (.int .i64 (Lib.indexByte s.data.toList b.toNat.toUInt8)) ∧ w' = w)
    (ei : ∀ args w, (callFunc fi args).run P w = .ok (.enter fi args) w)
    (hn : ∀ x w, (callFunc fn #[x]).run P w = .ok (.value x) w)
    (hgl : c.gl gm = some [.int .i64 m]) (hext : c.ext = libExt fc fi fn) : ∀ f, ExtOK K P c f := by
  intro f args cargs G h w v hg mm hv he
  rw [hext] at he
  unfold libExt at he
  cases h1 : Nat.beq f fc with
  | true =>
    have := Nat.eq_of_beq_eq_true h1; subst this
    simp only [h1, cond_true] at he
    split at he
    · next s t =>
      split at he
      · next hs =>
        cases he
        obtain ⟨x, y, rfl, hx, hy⟩ := two_inv hv
        cases hx; cases hy
        rename_i s t
        refine .inr ⟨ec _ _, callsIn_wide.2 ((hc s t m w (by rw [Array.length_toList] at hs; exact hs) (cell_of_int hg mm hgl)).mono fun e w' hw => ?_)⟩
        obtain ⟨rfl, rfl⟩ := hw
        exact ⟨_, _, G, rfl, .refl mm, by rw [within_eq]; exact .bool _⟩
      · cases he
    · cases he
  | false =>
    simp only [h1, cond_false] at he
    cases h2 : Nat.beq f fi with
    | true =>
      have := Nat.eq_of_beq_eq_true h2; subst this
      simp only [h2, cond_true] at he
      split at he
      · next s b =>
        cases he
        obtain ⟨x, y, rfl, hx, hy⟩ := two_inv hv
        cases hx; cases hy
        rename_i s
        refine .inr ⟨ei _ _, callsIn_wide.2 ((hi s b w).mono fun e w' hw => ?_)⟩
        obtain ⟨rfl, rfl⟩ := hw
        exact ⟨_, _, G, rfl, .refl mm, by rw [findB_zero]; exact .int _ _⟩
      · cases he
    | false =>
      simp only [h2, cond_false] at he
      cases h3 : Nat.beq f fn with
      | true =>
        have := Nat.eq_of_beq_eq_true h3; subst this
        simp only [h3, cond_true] at he
        split at he
        · next x =>
          cases he
          obtain ⟨y, rfl, hy⟩ := one_inv hv
          exact .inl ⟨y, G, w, hn y w, .refl mm, hy⟩
        · cases he
      | false => simp only [h3, cond_false, reduceCtorEq] at he

/-- What a call leaves, seen from the world in which the program is entered: that world's blocks aS they were. -/
theorem kept_of_evolve {W W' : World} {G' : Ghost} {h' : Heap} (e : Evolve K (ghost0 W) [] W G' h' W') (may : MemPlace → Prop) : W.keptBut W' may := by
  refine ⟨e.out.1, e.out.2, fun i hi => ?_⟩
  have hs := e.same i hi (fun ⟨id, o, e', _⟩ => by simp [hget] at e')
  rw [hs]
  cases W.heap[i]? with
  | none => trivial
  | some o => cases o <;> first | exact ⟨rfl, rfl, rfl, fun _ _ => rfl⟩ | exact .inr ⟨rfl, rfl⟩ | rfl

end
end Go.Proofs.YtjbkcboklccmeaaGreatDoor.Abs
/-
  A program's functions under their numbers; a call of one of them, entered from a world in which nothing is written yet.
-/
namespace Go.Proofs.YtjbkcboklccmeaaGreatDoor.Abs

/-- Functions by number. -/
inductive FTree where
  | leaf (i : Nat) (f : AFunc)
  | node (k : Nat) (l r : FTree)

def FTree.get : FTree → Nat → Option AFunc
  | .leaf i f, j => bif Nat.beq i j then some f else none
  | .node k l r, j => bif Nat.blt j k then l.get j else r.get j

inductive TreeOK (E : CkEnv) (D : DrawCk) : FTree → Prop
  | leaf {i : Nat} {f : AFunc} (h : ckFunc E D i f = true) : TreeOK E D (.leaf i f)
  | node {k : Nat} {l r : FTree} (hl : TreeOK E D l) (hr : TreeOK E D r) : TreeOK E D (.node k l r)

theorem TreeOK.spec {E : CkEnv} {D : DrawCk} {t : FTree} (h : TreeOK E D t) : ∀ f af, t.get f = some af → ckFunc E D f af = true := by
  induction h with
  | leaf h =>
    rename_i i g
    intro f af e
    simp only [FTree.get] at e
    cases hb : Nat.beq i f with
    | true => rw [hb] at e; cases e; have := Nat.eq_of_beq_eq_true hb; subst this; exact h
    | false => rw [hb] at e; cases e
  | node _ _ il ir =>
    rename_i k l r _ _
    intro f af e
    simp only [FTree.get] at e
    cases hb : Nat.blt f k with
    | true => rw [hb] at e; exact il f af e
    | false => rw [hb] at e; exact ir f af e

/-- A run, aS wanted (closed to the elaborator). -/
structure Run {α : Type} (x : ND α) (Q : α → Prop) : Prop where
  sat : x.Sat Q

section
variable {E : CkEnv} {c : Ctx} {T : Table}

theorem enter (hT : ∀ f af, T f = some af → ckFunc E (drawCk E) f af = true) (hm : E.P.follows .mixedOrders = true) (hext : ∀ f, ExtOK (ckK E (drawCk E)) E.P c f) {W : World} {args : List AV} {cargs : Array Value}
    (hg : GlRel (ghost0 W) c.gl) (hv : VsRel (ghost0 W) args cargs.toList) {n f : Nat} {Q : AV × Heap → Prop} (hs : Run (call c T n (.fn f) args []) Q) :
    Calls E.P f cargs W fun e W' => ∃ v h' G' cv, e = .returned cv ∧ Q (v, h') ∧ Evolve (ckK E (drawCk E)) (ghost0 W) [] W G' h' W' ∧ VRel G' v cv := by
  have g := call_good (E := E) (D := drawCk E) (K := ckK E (drawCk E)) (c := c) hT rfl (fun f _ => hext f) (fun rec gd => draw_ok hm gd) n
  have := (g.fn f args cargs (ghost0 W) [] W Q hg (mem0 _ W) hv hs.sat).2.1
  refine (callsIn_wide.1 this).mono fun e w' hr => ?_
  cases e with
  | returned cv =>
    obtain ⟨v, h', G', q1, q2, q3⟩ := hr
    exact ⟨v, h', G', cv, rfl, q1, q2, q3⟩
  | panicked ch => exact hr.elim
  | outgrown => exact hr.elim

/-- A law: true, and all aS it was. -/
theorem law_calls (hT : ∀ f af, T f = some af → ckFunc E (drawCk E) f af = true) (hm : E.P.follows .mixedOrders = true) (hext : ∀ f, ExtOK (ckK E (drawCk E)) E.P c f) {W : World} {args : List AV} {cargs : Array Value}
    (hg : GlRel (ghost0 W) c.gl) (hv : VsRel (ghost0 W) args cargs.toList) {n f : Nat} (hs : Run (call c T n (.fn f) args []) fun r => r.1 = .bool true) :
    Calls E.P f cargs W fun e W' => e = .returned (.bool true) ∧ ∀ may, W.keptBut W' may := by
  refine (enter hT hm hext hg hv hs).mono fun e W' hr => ?_
  obtain ⟨v, h', G', cv, rfl, q1, q2, q3⟩ := hr
  dsimp only at q1
  subst q1
  exact ⟨by rw [q3.bool_inv], fun may => kept_of_evolve q2 may⟩

end

/-- A closed run, seen by the kernel. -/
def ND.ok {α : Type} (p : α → Bool) : ND α → Bool
  | .fail => false
  | .ret a => p a
  | .pick n k => match n with
    | 0 => false
    | n + 1 => allBelow (fun i => ND.ok p (k i)) (n + 1)
where
  allBelow (f : Nat → Bool) : Nat → Bool
  | 0 => true
  | n + 1 => f n && allBelow f n

theorem ND.ok_below {f : Nat → Bool} : ∀ {n : Nat}, ND.ok.allBelow f n = true → ∀ i, i < n → f i = true
  | 0, _, i, hi => absurd hi (Nat.not_lt_zero i)
  | n + 1, h, i, hi => by
    simp only [ND.ok.allBelow, Bool.and_eq_true] at h
    by_cases hin : i = n
    · subst hin; exact h.1
    · exact ND.ok_below h.2 i (by omega)

theorem ND.ok_sat {α : Type} {p : α → Bool} : ∀ {x : ND α}, ND.ok p x = true → x.Sat fun a => p a = true
  | .fail, h => by simp [ND.ok] at h
  | .ret a, h => by simp only [ND.ok] at h; exact h
  | .pick n k, h => by
    unfold ND.ok at h
    cases n with
    | zero => cases h
    | succ n => exact ⟨Nat.succ_pos n, fun i hi => ND.ok_sat (ND.ok_below h i hi)⟩

def isTrue : AV → Bool
  | .bool true => true
  | _ => false

theorem isTrue_eq {v : AV} (h : isTrue v = true) : v = .bool true := by
  cases v <;> first | (simp [isTrue] at h; done) | skip
  rename_i b
  cases b
  · simp [isTrue] at h
  · rfl

def trueR (r : AV × Heap) : Bool := isTrue r.1

theorem closed_true {x : ND (AV × Heap)} (h : ND.ok trueR x = true) : Run x fun r => r.1 = .bool true :=
  ⟨ND.Sat.mono (fun _ h => isTrue_eq h) (ND.ok_sat h)⟩

end Go.Proofs.YtjbkcboklccmeaaGreatDoor.Abs
/-
  A function whose arguments and result name no block: what it does from an empty memory, it does from any.
-/
namespace Go.Proofs.YtjbkcboklccmeaaGreatDoor.Abs

mutual
def AV.pure : AV → Bool
  | .undef => true
  | .bool _ => true
  | .int _ _ => true
  | .str _ => true
  | .nil => true
  | .cref cs => AV.pures cs
  | .nilSlice => true
  | .list _ _ es => AV.puress es
  | .nilMap => true
  | .clos _ a b => AV.pures a && AV.pures b
  | .nilFunc => true
  | .agg cs => AV.pures cs
  | .tuple cs => AV.pures cs
  | .nilIface => true
  | .iface _ v => AV.pure v
  | _ => false
def AV.pures : List AV → Bool
  | [] => true
  | a :: xs => AV.pure a && AV.pures xs
def AV.puress : List (List AV) → Bool
  | [] => true
  | a :: xs => AV.pures a && AV.puress xs
end

theorem pures_mem : ∀ {l : List AV}, AV.pures l = true → ∀ (i : Nat) (a : AV), l[i]? = some a → a.pure = true
  | [], _, i, a, h => by simp at h
  | b :: l, hp, i, a, h => by
    simp only [AV.pures, Bool.and_eq_true] at hp
    cases i with
    | zero => simp only [List.getElem?_cons_zero, Option.some.injEq] at h; subst h; exact hp.1
    | succ i => simp only [List.getElem?_cons_succ] at h; exact pures_mem hp.2 i a h

theorem pures_append : ∀ {l l' : List AV}, AV.pures l = true → AV.pures l' = true → AV.pures (l ++ l') = true
  | [], _, _, h' => h'
  | a :: l, l', h, h' => by
    simp only [AV.pures, Bool.and_eq_true, List.cons_append] at h ⊢
    exact ⟨h.1, pures_append h.2 h'⟩

theorem puress_flatten : ∀ {l : List (List AV)}, AV.puress l = true → AV.pures l.flatten = true
  | [], _ => rfl
  | a :: l, h => by
    simp only [AV.puress, Bool.and_eq_true] at h
    rw [List.flatten_cons]
    exact pures_append h.1 (puress_flatten h.2)

theorem VRel.pure_mono {G G2 : Ghost} (hi : ∀ b l, G.imm b = some l → G2.imm b = some l) {a : AV} {v : Value} (h : VRel G a v) : a.pure = true → VRel G2 a v := by
  induction h with
  | undef v => intro _; exact .undef v
  | bool b => intro _; exact .bool b
  | int k n => intro _; exact .int k n
  | str s => intro _; exact .str s
  | nil => intro _; exact .nil
  | ptr h => intro hp; simp [AV.pure] at hp
  | eptr h ho => intro hp; simp [AV.pure] at hp
  | cref h hl hv ho ih =>
    intro hp
    simp only [AV.pure] at hp
    exact .cref (hi _ _ h) hl (fun i a v ha hv' => ih i a v ha hv' (pures_mem hp i a ha)) ho
  | nilSlice => intro _; exact .nilSlice
  | list h he hl hv ho hn hc hx ih =>
    intro hp
    simp only [AV.pure] at hp
    exact .list (hi _ _ h) he hl (fun i a v ha hv' => ih i a v ha hv' (pures_mem (puress_flatten hp) i a ha)) ho hn hc hx
  | empty z a cap ha => intro _; exact .empty z a cap ha
  | slice h hs hc hn ho hl => intro hp; simp [AV.pure] at hp
  | nilMap => intro _; exact .nilMap
  | map h => intro hp; simp [AV.pure] at hp
  | clos h1 h2 v1 v2 i1 i2 =>
    intro hp
    simp only [AV.pure, Bool.and_eq_true] at hp
    exact .clos h1 h2 (fun i a v ha hv => i1 i a v ha hv (pures_mem hp.1 i a ha)) (fun i a v ha hv => i2 i a v ha hv (pures_mem hp.2 i a ha))
  | yield h => intro hp; simp [AV.pure] at hp
  | nilFunc => intro _; exact .nilFunc
  | agg h hv ho ih =>
    intro hp
    simp only [AV.pure] at hp
    exact .agg h (fun i a v ha hv' => ih i a v ha hv' (pures_mem hp i a ha)) ho
  | tuple h hv ih =>
    intro hp
    simp only [AV.pure] at hp
    exact .tuple h (fun i a v ha hv' => ih i a v ha hv' (pures_mem hp i a ha))
  | nilIface => intro _; exact .nilIface
  | iface h ih => intro hp; simp only [AV.pure] at hp; exact .iface (ih hp)

theorem VsRel.pure_mono {G G2 : Ghost} (hi : ∀ b l, G.imm b = some l → G2.imm b = some l) {xs : List AV} {vs : List Value} (h : VsRel G xs vs) (hp : AV.pures xs = true) : VsRel G2 xs vs :=
  ⟨h.len, fun i a v ha hv => (h.val i a v ha hv).pure_mono hi (pures_mem hp i a ha)⟩

/-- Nothing has a name. -/
def Ghost.bare (G : Ghost) : Ghost := { σ := fun _ => none, τ := fun _ _ => none, imm := G.imm, sz := fun _ => none }
/-- What was, and what is new in that never is written. -/
def Ghost.behind (G G' : Ghost) (n : Nat) : Ghost := { G with imm := fun b => if b < n then G.imm b else G'.imm b }

section
variable {K K' : Reads} {G G' : Ghost} {h h' : Heap} {w w' : World}

theorem Mem.bare (m : Mem K G h w) : Mem K' G.bare [] w where
  obj id o e := by simp [hget] at e
  inj i j oi oj cb e := by simp [hget] at e
  imm cb l e := ⟨(m.imm cb l e).1, fun ⟨id, o, e', _⟩ => by simp [hget] at e'⟩
  sz cb n e := by simp [Ghost.bare] at e
  fresh id _ := ⟨rfl, fun _ => rfl⟩
  top id ty esz froz mk es e := by simp [hget] at e

theorem imm_behind (m : Mem K G h w) (e : Evolve K' G.bare [] w G' h' w') {b : Nat} {l : List Value} (hb : G'.imm b = some l) : (G.behind G' w.heap.size).imm b = some l := by
  show (if b < w.heap.size then G.imm b else G'.imm b) = some l
  split
  · next hlt =>
    rcases e.imm b l hb with h1 | ⟨id, o, h1, _⟩ | h1
    · exact h1
    · simp [hget] at h1
    · omega
  · exact hb

theorem evolve_behind (m : Mem K G h w) (e : Evolve K' G.bare [] w G' h' w') : Evolve K G h w (G.behind G' w.heap.size) h w' := by
  have hsame : ∀ b, b < w.heap.size → w'.heap[b]? = w.heap[b]? := fun b hb => e.same b hb (fun ⟨id, o, h1, _⟩ => by simp [hget] at h1)
  have hle : G.le (G.behind G' w.heap.size) := by
    refine ⟨fun _ _ h => h, fun _ _ _ h => h, fun b l hb => ?_, fun _ _ h => h⟩
    show (if b < w.heap.size then G.imm b else G'.imm b) = some l
    rw [if_pos (m.imm_lt hb)]; exact hb
  have hblk : ∀ id o, blk (G.behind G' w.heap.size) id o = blk G id o := by intro id o; cases o <;> rfl
  have hlive : ∀ b, Live (G.behind G' w.heap.size) h b → Live G h b := fun b ⟨id, o, a, b'⟩ => ⟨id, o, a, by rw [← hblk]; exact b'⟩
  refine ⟨hle, ⟨?_, ?_, ?_, ?_, m.fresh, m.top⟩, e.size, fun b hb _ => hsame b hb, fun b hl => .inl (hlive b hl), ?_, e.out⟩
  · intro id o eo; exact (m.obj id o eo).congr hle fun b hb => hsame b (m.live_lt ⟨id, o, eo, hb⟩)
  · intro i j oi oj b ei ej hi hj
    rw [hblk] at hi hj
    exact m.inj i j oi oj b ei ej hi hj
  · intro b l hb
    have hb' : (if b < w.heap.size then G.imm b else G'.imm b) = some l := hb
    split at hb'
    · next hlt =>
      obtain ⟨⟨c, t, fz, a, b'⟩, hn⟩ := m.imm b l hb'
      exact ⟨⟨c, t, fz, (hsame b hlt).trans a, b'⟩, fun hl => hn (hlive b hl)⟩
    · next hge =>
      obtain ⟨hc, _⟩ := e.mem.imm b l hb'
      exact ⟨hc, fun hl => hge (m.live_lt (hlive b hl))⟩
  · intro b n hb
    obtain ⟨c, t, fz, a, b'⟩ := m.sz b n hb
    exact ⟨c, t, fz, (hsame b (Array.getElem?_eq_some_iff.1 a).1).trans a, b'⟩
  · intro b l hb
    have hb' : (if b < w.heap.size then G.imm b else G'.imm b) = some l := hb
    split at hb'
    · exact .inl hb'
    · next hge => exact .inr (.inr (by omega))

theorem closed_ext {E : CkEnv} {c c' : Ctx} {T : Table} (hT : ∀ f af, T f = some af → ckFunc E (drawCk E) f af = true) (hm : E.P.follows .mixedOrders = true) (hext : ∀ f, ExtOK (ckK E (drawCk E)) E.P c f)
    (hgl : c'.gl = c.gl) (hgp : ∀ g cs, c.gl g = some cs → AV.pures cs = true) {f : Nat}
    (hspec : ∀ args v, c'.ext f args = some v → AV.pures args = true ∧ AV.pure v = true ∧ ∃ n, Run (call c T n (.fn f) args []) fun r => r.1 = v) : ExtOK K E.P c' f := by
  intro args cargs G h w v hg mm hv he
  obtain ⟨hpa, hpv, n, hs⟩ := hspec args v he
  have g := call_good (E := E) (D := drawCk E) (K := ckK E (drawCk E)) (c := c) hT rfl (fun f _ => hext f) (fun rec gd => draw_ok hm gd) n
  have hg0 : GlRel G.bare c.gl := fun g cs hgc => VRel.pure_mono (G := G) (G2 := G.bare) (fun _ _ h => h) (hg g cs (by rw [hgl]; exact hgc)) (by simp only [AV.pure]; exact hgp g cs hgc)
  obtain ⟨h1, h2, _⟩ := g.fn f args cargs G.bare [] w _ hg0 mm.bare (VsRel.pure_mono (G := G) (G2 := G.bare) (fun _ _ h => h) hv hpa) hs.sat
  refine .inr ⟨h1, h2.mono fun e w' hr => ?_⟩
  cases e with
  | returned cv =>
    obtain ⟨v', h', G', q1, q2, q3⟩ := hr
    dsimp only at q1
    subst q1
    exact ⟨v', h, G.behind G' w.heap.size, rfl, evolve_behind mm q2, q3.pure_mono (fun b l hb => imm_behind mm q2 hb) hpv⟩
  | panicked ch => exact hr.elim
  | outgrown => exact hr.elim

end

/-- What is said of functions, with more said of some. -/
def extOr (spec base : Exts) : Exts := fun f args => match spec f args with
  | some v => some v
  | none => base f args

theorem ext_or {K : Reads} {P : Program} {gl : Globals} {spec base : Exts} {f : Nat} (h1 : ExtOK K P ⟨gl, spec⟩ f) (h2 : ExtOK K P ⟨gl, base⟩ f) : ExtOK K P ⟨gl, extOr spec base⟩ f := by
  intro args cargs G h w v hg mm hv he
  have he' : extOr spec base f args = some v := he
  unfold extOr at he'
  cases hs : spec f args with
  | some u => rw [hs] at he'; cases he'; exact h1 args cargs G h w v hg mm hv hs
  | none => rw [hs] at he'; exact h2 args cargs G h w v hg mm hv he'

theorem callFunc_enter {P : Program} {f : Nat} {fn : Func} (hf : P.funcs[f]? = some fn) (hname : (fn.name == "runtime.NumGoroutine") = false) (hb : fn.body.isSome = true) (args : Array Value) (w : World) :
    (callFunc f args).run P w = .ok (.enter f args) w := by
  have h4 : fn.name ≠ "runtime.NumGoroutine" := by simpa using hname
  obtain ⟨b, hb⟩ := Option.isSome_iff_exists.1 hb
  simp [callFunc, hf, h4, hb]

end Go.Proofs.YtjbkcboklccmeaaGreatDoor.Abs
