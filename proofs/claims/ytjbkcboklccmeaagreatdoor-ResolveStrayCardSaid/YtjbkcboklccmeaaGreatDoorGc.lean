/-
  The operations that only reckon: what the model's do, the abstract ones do.
-/
import Derived.Test.YtjbkcboklccmeaaGreatDoorGb
import Derived.Laws.Strings
import Derived.Laws.Concat
import Derived.Laws.Strings2
import Derived.Laws.Append
import Derived.Laws.BytesString
import Derived.Laws.MakeOwn
import Derived.Laws.Tables
set_option linter.unusedVariables false
set_option linter.unusedSimpArgs false
namespace Go.Proofs.YtjbkcboklccmeaaGreatDoor.Abs

/-- A program on memory ends with a value that is the abstract one, in a memory that is the abstract one. -/
def DoesV (K : Reads) (P : Program) (G : Ghost) (h : Heap) (w : World) (s : Sem Value) (v : AV) (h' : Heap) : Prop :=
  ∃ cv G' w', s.run P w = .ok cv w' ∧ Evolve K G h w G' h' w' ∧ VRel G' v cv

def DoesU (K : Reads) (P : Program) (G : Ghost) (h : Heap) (w : World) (s : Sem Unit) (h' : Heap) : Prop :=
  ∃ G' w', s.run P w = .ok () w' ∧ Evolve K G h w G' h' w'

section
variable {K : Reads} {P : Program} {G : Ghost} {h : Heap} {w : World}

theorem DoesV.same (m : Mem K G h w) {s : Sem Value} {v : AV} {cv : Value} (hs : s.run P w = .ok cv w) (hv : VRel G v cv) : DoesV K P G h w s v h :=
  ⟨cv, G, w, hs, .refl m, hv⟩

theorem bool_mk (b : Bool) : VRel G (.bool b) (.bool b) := .bool b

theorem run_bin_int {op : BinOp} {k k' : IntKind} {a b : Int} {v : AV} (hv : binOf op (.int k a) (.int k' b) = some v) (t : TypeId) (x y : Operand) :
    ∃ cv, (do eqGuard op t x y (.int k a) (.int k' b); binOp op t (.int k a) (.int k' b) : Sem Value).run P w = .ok cv w ∧ VRel G v cv := by
  have hg : (eqGuard op t x y (.int k a) (.int k' b)).run P w = .ok () w := by
    unfold eqGuard; cases op <;> simp
  simp only [Sem.run_bind, hg, Result.andThen_ok]
  cases op <;> simp only [binOf, intBin, shiftBin] at hv <;> split at hv <;> first
    | (cases hv; done)
    | skip
  all_goals first
    | (rename_i e; subst e; cases hv; first
        | exact ⟨_, by simp [binOp, Op.intArith, Op.intBits, Op.intCmp], VRel.int _ _⟩
        | exact ⟨_, by simp [binOp, Op.intArith, Op.intBits, Op.intCmp], VRel.bool _⟩)
    | (rename_i e; subst e; split at hv
       · cases hv
       · next e => cases hv; exact ⟨_, by simp [binOp, Op.intDiv, e], VRel.int _ _⟩)
    | (rename_i e; cases hv; exact ⟨_, by simp [binOp, Op.shift, e], VRel.int _ _⟩)

end
end Go.Proofs.YtjbkcboklccmeaaGreatDoor.Abs
/-
  Texts, truth values, aggregates, pieces of texts and of slices.
-/
namespace Go.Proofs.YtjbkcboklccmeaaGreatDoor.Abs

section
variable {K : Reads} {P : Program} {G : Ghost} {h : Heap} {w : World}

theorem VRel.str_inv {l : List UInt8} {v : Value} (hv : VRel G (.str l) v) : ∃ s : ByteArray, v = .string s ∧ l = s.data.toList := by
  cases hv with | str s => exact ⟨s, rfl, rfl⟩
theorem VRel.int_inv {k : IntKind} {n : Int} {v : Value} (hv : VRel G (.int k n) v) : v = .int k n := by cases hv; rfl
theorem VRel.bool_inv {b : Bool} {v : Value} (hv : VRel G (.bool b) v) : v = .bool b := by cases hv; rfl
theorem size_str (s : ByteArray) : s.data.toList.length = s.size := Array.length_toList

theorem idxOf_inv {a : AV} {v : Value} {n : Int} (ha : idxOf a = some n) (hv : VRel G a v) : ∃ k, a = .int k n ∧ v = .int k n := by
  cases a <;> simp only [idxOf, reduceCtorEq, Option.some.injEq] at ha
  subst ha
  exact ⟨_, rfl, hv.int_inv⟩

theorem run_eqGuard_plain {op : BinOp} {t : TypeId} {x y : Operand} {a b : Value} (ha : a ≠ .nilIface ∨ b ≠ .nilIface) (hb : ∀ cs, a ≠ .agg cs) : (eqGuard op t x y a b).run P w = .ok () w := by
  unfold eqGuard
  cases op <;> simp
  all_goals
    split
    · rcases ha with ha | ha <;> exact absurd rfl ha
    · exact absurd rfl (hb _)
    · rfl

theorem run_bin_str {op : BinOp} {a b : ByteArray} {v : AV} (hv : strBin op a.data.toList b.data.toList = some v) (t : TypeId) (x y : Operand) :
    ∃ cv, (do eqGuard op t x y (.string a) (.string b); binOp op t (.string a) (.string b) : Sem Value).run P w = .ok cv w ∧ VRel G v cv := by
  simp only [Sem.run_bind, run_eqGuard_plain (P := P) (w := w) (op := op) (t := t) (x := x) (y := y) (a := .string a) (b := .string b) (.inl (by simp)) (by simp), Result.andThen_ok]
  cases op <;> simp only [strBin] at hv
  case add =>
    split at hv
    · next hl =>
      cases hv
      rw [size_str, size_str] at hl
      refine ⟨.string (a ++ b), ?_, ?_⟩
      · rw [binOp_string_add]; exact run_string_add_sum _ a b (by omega)
      · have := VRel.str (G := G) (a ++ b); rwa [show (a ++ b).data.toList = a.data.toList ++ b.data.toList by simp] at this
    · cases hv
  all_goals first
    | (cases hv; done)
    | (cases hv; exact ⟨_, by simp [binOp, Op.stringOp, ByteArray.toList_eq], VRel.bool _⟩)

theorem run_bin_bool {op : BinOp} {a b : Bool} {v : AV} (hv : (match op with | .eql => some (.bool (a == b)) | .neq => some (.bool (!(a == b))) | _ => none : Option AV) = some v) (t : TypeId) (ht : P.underlying t = some .bool) (x y : Operand) :
    ∃ cv, (do eqGuard op t x y (.bool a) (.bool b); binOp op t (.bool a) (.bool b) : Sem Value).run P w = .ok cv w ∧ VRel G v cv := by
  simp only [Sem.run_bind, run_eqGuard_plain (P := P) (w := w) (op := op) (t := t) (x := x) (y := y) (a := .bool a) (b := .bool b) (.inl (by simp)) (by simp), Result.andThen_ok]
  have he : (Op.equal t (.bool a) (.bool b)).run P w = .ok (a == b) w := by
    unfold Op.equal Op.maxDepth Op.equalIn
    simp [run_underlying' ht]
  cases op <;> simp only at hv <;> first
    | (cases hv; done)
    | (cases hv; exact ⟨_, by simp [binOp, he], VRel.bool _⟩)

theorem run_binB {op : BinOp} {a b v : AV} {ca cb : Value} (hv : binBOf op a b = some v) (ha : VRel G a ca) (hb : VRel G b cb) (t : TypeId) (ht : P.underlying t = some .bool) (x y : Operand) :
    ∃ cv, (do eqGuard op t x y ca cb; binOp op t ca cb : Sem Value).run P w = .ok cv w ∧ VRel G v cv := by
  unfold binBOf at hv
  split at hv
  · rw [ha.bool_inv, hb.bool_inv]; exact run_bin_bool hv t ht x y
  · cases hv

theorem run_bin {op : BinOp} {a b v : AV} {ca cb : Value} (hv : binOf op a b = some v) (ha : VRel G a ca) (hb : VRel G b cb) (t : TypeId) (x y : Operand) :
    ∃ cv, (do eqGuard op t x y ca cb; binOp op t ca cb : Sem Value).run P w = .ok cv w ∧ VRel G v cv := by
  unfold binOf at hv
  split at hv
  · next k n k' n' =>
    rw [ha.int_inv, hb.int_inv]; exact run_bin_int (by simp only [binOf]; exact hv) t x y
  · obtain ⟨s, rfl, rfl⟩ := ha.str_inv
    obtain ⟨s', rfl, rfl⟩ := hb.str_inv
    exact run_bin_str hv t x y
  · cases hv

theorem run_un {op : UnOp} {a v : AV} {ca : Value} (hv : unOf op a = some v) (ha : VRel G a ca) : ∃ cv, (Op.unary op ca).run P w = .ok cv w ∧ VRel G v cv := by
  unfold unOf at hv
  split at hv
  · rw [ha.int_inv]; simp only [intBin] at hv; cases hv; exact ⟨_, by simp [Op.unary, Op.intArith], VRel.int _ _⟩
  · rw [ha.int_inv]; simp only [intBin] at hv; cases hv; exact ⟨_, by simp [Op.unary, Op.intBits], VRel.int _ _⟩
  · rw [ha.bool_inv]; cases hv; exact ⟨_, by simp [Op.unary], VRel.bool _⟩
  · cases hv

/-! ### Cells of a value -/

theorem mkVal_rel {agg : Bool} {n : Nat} {cs : List AV} {vs : List Value} (h : CsRel G cs (vs.take cs.length)) {v : AV} (hv : mkVal agg n cs = some v) :
    ∃ cv, mkValue agg n vs = some cv ∧ VRel G v cv := by
  have hlen : cs.length ≤ vs.length := by have := h.len; simp at this; omega
  cases agg with
  | true =>
    simp only [mkVal, cond_true] at hv
    split at hv
    · next hn =>
      cases hv
      refine ⟨.agg (vs.take n).toArray, by simp only [mkValue, cond_true]; rw [if_pos (by omega)], ?_⟩
      have := h.take n
      rw [List.take_take, Nat.min_eq_left hn] at this
      exact .agg (by simpa using this.len) (fun i a u ha hu => this.val i a u ha (by simpa using hu)) (fun i u hu => this.one u (List.mem_of_getElem? (by simpa using hu)))
    · cases hv
  | false =>
    simp only [mkVal, cond_false] at hv
    cases cs with
    | nil => cases hv
    | cons c cs =>
      cases vs with
      | nil => simp at hlen
      | cons u vs =>
        cases hv
        exact ⟨u, by simp [mkValue], h.val 0 _ u rfl (by simp)⟩

theorem mkVal_rel' {agg : Bool} {n : Nat} {cs : List AV} {vs : List Value} (h : CsRel G cs vs) {v : AV} (hv : mkVal agg n cs = some v) : ∃ cv, mkValue agg n vs = some cv ∧ VRel G v cv :=
  mkVal_rel (by rw [List.take_of_length_le (by rw [h.len]; exact Nat.le_refl _)]; exact h) hv

theorem run_part {t : TypeId} {d : TypeDesc} {i : TypeInfo} {cs : Array Value} {off : Nat} {v : Value} (hd : P.underlying t = some d) (hi : P.info? t = some i)
    (hv : mkValue (aggD d) i.size (cs.toList.drop off) = some v) : (part t cs off).run P w = .ok v w := by
  simp only [part, Sem.run_bind, run_isAgg' hd, Result.andThen_ok]
  cases ha : aggD d with
  | true =>
    simp only [ha, mkValue, cond_true] at hv
    split at hv
    · cases hv
      simp only [run_sizeOf' hi, if_true, Sem.run_bind, Result.andThen_ok, Sem.run_pure]
      congr 2
      apply Array.ext'
      simp [List.take_drop]
    · cases hv
  | false =>
    simp only [ha, mkValue, cond_false, List.head?_drop] at hv
    have : cs[off]? = some v := by simpa using hv
    simp [this]

theorem agg_inv {cs : List AV} {v : Value} (hv : VRel G (.agg cs) v) : ∃ vs, v = .agg vs ∧ CsRel G cs vs.toList := by
  cases hv with
  | agg h hv ho =>
    exact ⟨_, rfl, by simpa using h, fun i a v ha hu => hv i a v ha (by simpa using hu), fun v hu => by
      obtain ⟨i, hi⟩ := List.getElem?_of_mem hu
      exact ho i v (by simpa using hi)⟩

theorem run_field {t : TypeId} {fs : Array Field} {fi : Nat} {f : Field} {d : TypeDesc} {i : TypeInfo} {x v : AV} {cx : Value} (ht : P.underlying t = some (.struct fs)) (hf : fs[fi]? = some f)
    (hd : P.underlying f.type = some d) (hi : P.info? f.type = some i) (hv : fieldOf (aggD d) i.size f.offset x = some v) (hx : VRel G x cx) :
    ∃ cv, (Instr.field t cx fi).run P w = .ok cv w ∧ VRel G v cv := by
  cases x <;> simp only [fieldOf, reduceCtorEq] at hv
  next cs =>
  obtain ⟨vs, rfl, hc⟩ := agg_inv hx
  split at hv
  · obtain ⟨cv, h1, h2⟩ := mkVal_rel' (hc.drop f.offset) hv
    refine ⟨cv, ?_, h2⟩
    simp [Instr.field, run_underlying' ht, hf, asAgg, run_part (P := P) (w := w) hd hi h1]
  · cases hv

theorem run_index_arr {t e : TypeId} {len : Nat} {d : TypeDesc} {i : TypeInfo} {x ix v : AV} {cx ci : Value} (ht : P.underlying t = some (.array len e))
    (hd : P.underlying e = some d) (hi : P.info? e = some i) (hv : indexOf (aggD d) i.size len x ix = some v) (hx : VRel G x cx) (hix : VRel G ix ci) :
    ∃ cv, (Instr.index t cx ci).run P w = .ok cv w ∧ VRel G v cv := by
  unfold indexOf at hv
  split at hv
  · cases hv
  · next n hn =>
    obtain ⟨k, rfl, rfl⟩ := idxOf_inv hn hix
    split at hv
    · next hb =>
      cases x <;> simp only [fieldOf, reduceCtorEq] at hv
      next cs =>
      obtain ⟨vs, rfl, hc⟩ := agg_inv hx
      split at hv
      · obtain ⟨cv, h1, h2⟩ := mkVal_rel' (hc.drop (n.toNat * i.size)) hv
        refine ⟨cv, ?_, h2⟩
        simp [Instr.index, asIntOf, run_underlying' ht, hb, run_sizeOf' hi, run_part (P := P) (w := w) hd hi h1]
      · cases hv
    · cases hv

theorem run_index_str {t : TypeId} {x ix v : AV} {cx ci : Value} (ht : P.underlying t = some .string) (hv : indexStrOf x ix = some v) (hx : VRel G x cx) (hix : VRel G ix ci) :
    ∃ cv, (Instr.index t cx ci).run P w = .ok cv w ∧ VRel G v cv := by
  unfold indexStrOf at hv
  split at hv
  · next s n hn =>
    obtain ⟨k, rfl, rfl⟩ := idxOf_inv hn hix
    obtain ⟨s, rfl, rfl⟩ := hx.str_inv
    split at hv
    · next h0 =>
      split at hv
      · next b hb =>
        cases hv
        have hs : s[n.toNat]? = some b := by
          have hlt : n.toNat < s.size := by
            rw [← size_str]; exact (List.getElem?_eq_some_iff.1 hb).1
          rw [ByteArray.getElem?_lt' s n.toNat hlt]
          have := (List.getElem?_eq_some_iff.1 hb).2
          rw [← this]; rfl
        refine ⟨.int .u8 b.toNat, ?_, .int _ _⟩
        simp [Instr.index, asIntOf, run_underlying' ht, h0, hs]
      · cases hv
    · cases hv
  · cases hv

/-! ### Pieces -/

/-- An operand that need not be there. -/
def OptRel (G : Ghost) : Option AV → Option Value → Prop
  | none, none => True
  | some a, some v => VRel G a v
  | _, _ => False

theorem run_sliceBound {a : AV} {v : Value} {i : Int} {u : Nat} {code : BoundsCode} (ha : idxOf a = some i) (hv : VRel G a v) (h0 : 0 ≤ i) (hu : i ≤ (u : Int)) :
    (Instr.sliceBound v u code).run P w = .ok i.toNat w := by
  obtain ⟨k, rfl, rfl⟩ := idxOf_inv ha hv
  simp [Instr.sliceBound, asIntOf, h0, hu]

theorem bounds_rel {isSlice : Bool} {len cap cap' : Nat} {lo hi : Option AV} {clo chi : Option Value} {l u : Nat} (hb : bounds len cap lo hi = some (l, u)) (hc : cap ≤ cap')
    (hlo : OptRel G lo clo) (hhi : OptRel G hi chi) :
    (Instr.sliceBounds isSlice len cap' clo chi none).run P w = .ok (l, u, cap') w ∧ l ≤ u ∧ (u ≤ cap ∨ u = len) := by
  unfold bounds at hb
  split at hb
  · cases hb
  · next u' hu =>
    split at hb
    · cases hb
    · next l' hl =>
      cases hb
      have e1 : ∀ c, (match chi with | some v => Instr.sliceBound v cap' c | none => pure len : Sem Nat).run P w = .ok u w ∧ (u ≤ cap ∨ u = len) := by
        intro c
        cases hi with
        | none => cases chi with
          | none => simp only [hiOf, Option.some.injEq] at hu; subst hu; exact ⟨rfl, .inr rfl⟩
          | some v => exact hhi.elim
        | some a => cases chi with
          | none => exact hhi.elim
          | some v =>
            simp only [hiOf] at hu
            split at hu
            · next i hi' =>
              split at hu
              · next hb => cases hu; exact ⟨run_sliceBound hi' hhi hb.1 (by omega), .inl (by omega)⟩
              · cases hu
            · cases hu
      have e2 : ∀ c, (match clo with | some v => Instr.sliceBound v u c | none => pure 0 : Sem Nat).run P w = .ok l w ∧ l ≤ u := by
        intro c
        cases lo with
        | none => cases clo with
          | none => simp only [loOf, Option.some.injEq] at hl; subst hl; exact ⟨rfl, Nat.zero_le _⟩
          | some v => exact hlo.elim
        | some a => cases clo with
          | none => exact hlo.elim
          | some v =>
            simp only [loOf] at hl
            split at hl
            · next i hi' =>
              split at hl
              · next hb => cases hl; exact ⟨run_sliceBound hi' hlo hb.1 hb.2, by omega⟩
              · cases hl
            · cases hl
      refine ⟨?_, (e2 .sliceB).2, (e1 .sliceAcap).2⟩
      unfold Instr.sliceBounds
      cases chi with
      | none =>
        have := (e1 .sliceAcap).1
        have h2 := (e2 .sliceB).1
        cases clo <;> simp_all
      | some v =>
        have := (e1 (if isSlice then .sliceAcap else .sliceAlen)).1
        have h2 := (e2 .sliceB).1
        cases clo <;> simp_all

theorem sliceStr_rel {t : TypeId} {x v : AV} {cx : Value} {lo hi : Option AV} {clo chi : Option Value} (ht : P.underlying t = some .string) (hv : sliceStrOf x lo hi = some v) (hx : VRel G x cx)
    (hlo : OptRel G lo clo) (hhi : OptRel G hi chi) : ∃ cv, (Instr.slice t cx clo chi none).run P w = .ok cv w ∧ VRel G v cv := by
  unfold sliceStrOf at hv
  split at hv
  · next s =>
    obtain ⟨s, rfl, rfl⟩ := hx.str_inv
    split at hv
    · next l u hb =>
      cases hv
      rw [size_str] at hb
      obtain ⟨h1, h2, h3⟩ := bounds_rel (P := P) (w := w) (isSlice := false) hb (Nat.le_refl _) hlo hhi
      refine ⟨.string (s.extract l u), ?_, ?_⟩
      · simp [Instr.slice, run_underlying' ht, h1]
      · have := VRel.str (G := G) (s.extract l u)
        have e : (s.extract l u).data.toList = (s.data.toList.drop l).take (u - l) := by
          obtain ⟨⟨d⟩⟩ := s
          have := ByteArray.extract_mk d l u
          simp only [List.toArray] at this
          rw [this]
        rwa [e] at this
    · cases hv
  · cases hv

end
end Go.Proofs.YtjbkcboklccmeaaGreatDoor.Abs
/-
  Addresses; loads and stores; slices.
-/
namespace Go.Proofs.YtjbkcboklccmeaaGreatDoor.Abs

section
variable {K : Reads} {P : Program} {G : Ghost} {h : Heap} {w : World}

/-! ### Rows in cells -/

theorem flatten_length {α : Type} {es : List (List α)} {n : Nat} (h : ∀ e ∈ es, e.length = n) : es.flatten.length = es.length * n := by
  induction es with
  | nil => simp
  | cons e es ih =>
    have := ih fun x hx => h x (by simp [hx])
    simp only [List.flatten_cons, List.length_append, List.length_cons, this, h e (by simp)]
    rw [Nat.succ_mul]; omega

theorem flatten_drop {α : Type} {es : List (List α)} {n : Nat} (h : ∀ e ∈ es, e.length = n) (i : Nat) : (es.drop i).flatten = es.flatten.drop (i * n) := by
  induction es generalizing i with
  | nil => simp
  | cons e es ih =>
    cases i with
    | zero => simp
    | succ i =>
      have := ih (fun x hx => h x (by simp [hx])) i
      simp only [List.drop_succ_cons, List.flatten_cons, this]
      have he := h e (by simp)
      have h1 : e.drop ((i + 1) * n) = [] := List.drop_of_length_le (by rw [he, Nat.succ_mul]; omega)
      rw [List.drop_append, h1, List.nil_append]
      congr 1; rw [he, Nat.succ_mul]; omega

theorem flatten_take {α : Type} {es : List (List α)} {n : Nat} (h : ∀ e ∈ es, e.length = n) (i : Nat) : (es.take i).flatten = es.flatten.take (i * n) := by
  induction es generalizing i with
  | nil => simp
  | cons e es ih =>
    cases i with
    | zero => simp
    | succ i =>
      have := ih (fun x hx => h x (by simp [hx])) i
      simp only [List.take_succ_cons, List.flatten_cons, this]
      have he := h e (by simp)
      have h1 : e.take ((i + 1) * n) = e := List.take_of_length_le (by rw [he, Nat.succ_mul]; omega)
      rw [List.take_append, h1]
      congr 2; rw [he, Nat.succ_mul]; omega

theorem flatten_elem {α : Type} {es : List (List α)} {n : Nat} (h : ∀ e ∈ es, e.length = n) {i : Nat} {e : List α} (he : es[i]? = some e) : (es.flatten.drop (i * n)).take n = e := by
  rw [← flatten_drop h]
  have hi := (List.getElem?_eq_some_iff.1 he).1
  rw [List.drop_eq_getElem_cons hi]
  have : es[i] = e := (List.getElem?_eq_some_iff.1 he).2
  rw [this, List.flatten_cons, List.take_append_of_le_length (by rw [h e (List.mem_of_getElem? he)]; exact Nat.le_refl _), List.take_of_length_le (by rw [h e (List.mem_of_getElem? he)]; exact Nat.le_refl _)]

theorem splice_length {α : Type} {l : List α} {off : Nat} {xs : List α} (h : off + xs.length ≤ l.length) : (splice l off xs).length = l.length := by
  unfold splice; simp; omega

theorem splice_zero {α : Type} (l xs : List α) (h : xs.length = l.length) : splice l 0 xs = xs := by
  unfold splice; simp [h]

theorem splice_take {α : Type} {l : List α} {base n off : Nat} {xs : List α} (h : off + xs.length ≤ n) (hn : base + n ≤ l.length) :
    ((splice l (base + off) xs).drop base).take n = splice ((l.drop base).take n) off xs := by
  unfold splice
  apply List.ext_getElem?
  intro j
  simp only [List.getElem?_take, List.getElem?_drop, List.getElem?_append, List.length_take, List.length_append, List.length_drop]
  by_cases h1 : j < off
  · have a1 : base + j < min (base + off) l.length := by omega
    have a2 : j < min off (min n (l.length - base)) := by omega
    have a3 : base + j < min (base + off) l.length + xs.length := by omega
    have a4 : j < min off (min n (l.length - base)) + xs.length := by omega
    have a5 : base + j < base + off := by omega
    simp only [a1, a2, a3, a4, a5, h1, if_true]
  · by_cases h2 : j < off + xs.length
    · have a1 : ¬ base + j < min (base + off) l.length := by omega
      have a2 : ¬ j < min off (min n (l.length - base)) := by omega
      have a3 : base + j < min (base + off) l.length + xs.length := by omega
      have a4 : j < min off (min n (l.length - base)) + xs.length := by omega
      have a5 : j < n := by omega
      simp only [a1, a2, a3, a4, a5, if_true, if_false]
      congr 1; omega
    · have a3 : ¬ base + j < min (base + off) l.length + xs.length := by omega
      have a4 : ¬ j < min off (min n (l.length - base)) + xs.length := by omega
      simp only [a3, a4, if_false]
      by_cases a5 : j < n
      · have a6 : off + xs.length + (j - (min off (min n (l.length - base)) + xs.length)) < n := by omega
        simp only [a5, a6, if_true]
        congr 1; omega
      · have a6 : ¬ off + xs.length + (j - (min off (min n (l.length - base)) + xs.length)) < n := by omega
        simp only [a5, a6, if_false]

theorem splice_flatten {α : Type} {es xs : List (List α)} {n i : Nat} (h : ∀ e ∈ es, e.length = n) (hx : ∀ e ∈ xs, e.length = n) : (splice es i xs).flatten = splice es.flatten (i * n) xs.flatten := by
  unfold splice
  simp only [List.flatten_append, flatten_take h, flatten_drop h, flatten_length hx]
  congr 2
  rw [Nat.add_mul]

/-! ### Opening values -/

theorem ptr_inv {id off : Nat} {v : Value} (hv : VRel G (.ptr id off) v) : ∃ cb, G.σ id = some cb ∧ v = .pointer (some ⟨cb, off, none⟩) := by
  cases hv with | ptr h => exact ⟨_, h, rfl⟩
theorem eptr_inv {id sz i off : Nat} {v : Value} (hv : VRel G (.eptr id sz i off) v) : ∃ cb base esz, G.τ id sz = some (cb, base, esz) ∧ v = .pointer (some ⟨cb, base + i * esz + off, none⟩) := by
  cases hv with | eptr h ho => subst ho; exact ⟨_, _, _, h, rfl⟩
theorem cref_inv {cs : List AV} {v : Value} (hv : VRel G (.cref cs) v) : ∃ cb off l, G.imm cb = some l ∧ off + cs.length ≤ l.length ∧ CsRel G cs ((l.drop off).take cs.length) ∧ v = .pointer (some ⟨cb, off, none⟩) := by
  cases hv with
  | @cref _ cb off l h hl hv ho =>
    refine ⟨cb, off, l, h, hl, ⟨by simp; omega, fun i a v ha hu => ?_, fun v hu => ?_⟩, rfl⟩
    · rw [List.getElem?_take] at hu; split at hu
      · rw [List.getElem?_drop] at hu; exact hv i a v ha hu
      · cases hu
    · obtain ⟨i, hi⟩ := List.getElem?_of_mem hu
      rw [List.getElem?_take] at hi; split at hi
      · next hlt => rw [List.getElem?_drop] at hi; exact ho i v hlt hi
      · cases hi
theorem cref_mk {cs : List AV} {cb off : Nat} {l : List Value} (h : G.imm cb = some l) (hl : off + cs.length ≤ l.length) (hc : CsRel G cs ((l.drop off).take cs.length)) : VRel G (.cref cs) (.pointer (some ⟨cb, off, none⟩)) := by
  refine .cref h hl (fun i a v ha hu => hc.val i a v ha ?_) (fun i v hi hu => hc.one v ?_)
  · have := (List.getElem?_eq_some_iff.1 ha).1
    rw [List.getElem?_take, if_pos this, List.getElem?_drop]; exact hu
  · refine List.mem_of_getElem? (i := i) ?_
    rw [List.getElem?_take, if_pos hi, List.getElem?_drop]; exact hu
theorem list_mk {ex : Bool} {es : List (List AV)} {cb off esz cap : Nat} {l : List Value} (h : G.imm cb = some l) (he : ∀ e ∈ es, e.length = esz) (hl : off + es.length * esz ≤ l.length)
    (hc : CsRel G es.flatten ((l.drop off).take (es.length * esz))) (hcap : es.length ≤ cap) (hx : ex = true → cap = es.length) : VRel G (.list esz ex es) (.slice (some ⟨cb, off, none⟩) es.length cap) := by
  refine .list h he hl (fun i a v ha hu => hc.val i a v ha ?_) (fun i v hi hu => hc.one v ?_) rfl hcap hx
  · have := (List.getElem?_eq_some_iff.1 ha).1
    rw [flatten_length he] at this
    rw [List.getElem?_take, if_pos this, List.getElem?_drop]; exact hu
  · refine List.mem_of_getElem? (i := i) ?_
    rw [List.getElem?_take, if_pos hi, List.getElem?_drop]; exact hu
theorem list_inv {esz : Nat} {ex : Bool} {es : List (List AV)} {v : Value} (hv : VRel G (.list esz ex es) v) :
    (∃ cb off cap l, G.imm cb = some l ∧ (∀ e ∈ es, e.length = esz) ∧ off + es.length * esz ≤ l.length ∧ CsRel G es.flatten ((l.drop off).take (es.length * esz)) ∧ es.length ≤ cap ∧ (ex = true → cap = es.length) ∧
      v = .slice (some ⟨cb, off, none⟩) es.length cap) ∨ (ex = false ∧ es = [] ∧ ∃ a cap, a.spot = none ∧ v = .slice (some a) 0 cap) := by
  cases hv with
  | @list _ _ _ cb off len cap l h he hl hv ho hn hc hx =>
    subst hn
    refine .inl ⟨cb, off, cap, l, h, he, hl, ⟨?_, fun i a v ha hu => ?_, fun v hu => ?_⟩, hc, hx, rfl⟩
    · rw [flatten_length he]; simp; omega
    · rw [List.getElem?_take] at hu; split at hu
      · rw [List.getElem?_drop] at hu; exact hv i a v ha hu
      · cases hu
    · obtain ⟨i, hi⟩ := List.getElem?_of_mem hu
      rw [List.getElem?_take] at hi; split at hi
      · next hlt => rw [List.getElem?_drop] at hi; exact ho i v hlt hi
      · cases hi
  | empty z a cap ha => exact .inr ⟨rfl, rfl, a, cap, ha, rfl⟩
theorem slice_inv {id esz off len cap : Nat} {v : Value} (hv : VRel G (.slice id esz off len cap) v) :
    ∃ cb base cap' n, G.τ id (off + cap) = some (cb, base, esz) ∧ G.sz cb = some n ∧ cap ≤ cap' ∧ base + (off + cap') * esz ≤ n ∧ len ≤ cap ∧ v = .slice (some ⟨cb, base + off * esz, none⟩) len cap' := by
  cases hv with | slice h hs hc hn ho hl => subst ho; exact ⟨_, _, _, _, h, hs, hc, hn, hl, rfl⟩

/-! ### Cells behind an address -/

/-- What a name's row of elements says of the block. -/
theorem Mem.arr (m : Mem K G h w) {id ty esz froz : Nat} {mk : Bool} {es : List (List AV)} (e : hget h id = some (.arr ty esz froz mk es)) :
    ∃ cb base c fz, G.τ id es.length = some (cb, base, esz) ∧ G.sz cb = some c.size ∧ w.heap[cb]? = some (.cells c ty fz) ∧ base + es.length * esz ≤ c.size ∧
      CsRel G es.flatten ((c.toList.drop base).take (es.length * esz)) ∧ (fz.1 = fz.2 ∨ fz.2 ≤ base + froz * esz ∨ mk = true ∧ c.size ≤ fz.1) ∧ (∀ x ∈ es, x.length = esz) := by
  obtain ⟨cb, obj, h1, h2, h3⟩ := m.obj id _ e
  cases obj <;> simp only [OC] at h3
  next c t fz =>
  obtain ⟨⟨⟨cb', base, a1, a2, a3, a4, a5⟩, a6⟩, rfl⟩ := h3
  simp only [blk, a1, Option.map_some, Option.some.injEq] at h1
  subst h1
  exact ⟨_, base, c, fz, a1, a2, h2, a3, a4, a5, a6⟩

theorem Mem.cells (m : Mem K G h w) {id ty : Nat} {cs : List AV} (e : hget h id = some (.cells ty cs)) :
    ∃ cb c fz, G.σ id = some cb ∧ w.heap[cb]? = some (.cells c ty fz) ∧ fz.2 ≤ fz.1 ∧ CsRel G cs c.toList := by
  obtain ⟨cb, obj, h1, h2, h3⟩ := m.obj id _ e
  cases obj <;> simp only [OC] at h3
  next c t fz =>
  obtain ⟨a1, a2, rfl⟩ := h3
  exact ⟨cb, c, fz, h1, h2, a1, a2⟩

theorem take_take_drop {α : Type} {l : List α} {a b n k : Nat} : (((l.drop a).take n).drop b).take k = (l.drop (a + b)).take (min k (n - b)) := by
  rw [List.drop_take, List.take_take, List.drop_drop]

theorem cellsAt_rel (m : Mem K G h w) {a : AV} {ca : Value} {cs : List AV} (hc : cellsAt h a = some cs) (ha : VRel G a ca) :
    ∃ cb off c t fz, ca = .pointer (some ⟨cb, off, none⟩) ∧ w.heap[cb]? = some (.cells c t fz) ∧ CsRel G cs ((c.toList.drop off).take cs.length) := by
  unfold cellsAt at hc
  split at hc
  · next id off =>
    split at hc
    · next ty xs e =>
      split at hc
      · next hle =>
        cases hc
        obtain ⟨cb, h1, rfl⟩ := ptr_inv ha
        obtain ⟨cb', c, fz, h2, h3, _, h4⟩ := m.cells e
        rw [h1] at h2; cases h2
        refine ⟨cb, off, c, ty, fz, rfl, h3, ?_⟩
        have := h4.drop off
        rwa [List.take_of_length_le (by rw [this.len]; exact Nat.le_refl _)]
      · cases hc
    · cases hc
  · next id sz i off =>
    split at hc
    · next ty esz froz mk es e =>
      split at hc
      · next hsz =>
        split at hc
        · next x hx =>
          split at hc
          · next hle =>
            cases hc
            obtain ⟨cb, base, esz', h1, rfl⟩ := eptr_inv ha
            obtain ⟨cb', base', c, fz, h2, _, h3, h5, h6, _, h7⟩ := m.arr e
            rw [hsz] at h2 h6 h5; rw [h1] at h2; cases h2
            refine ⟨cb, base + i * esz + off, c, ty, fz, rfl, h3, ?_⟩
            have hxl := h7 x (List.mem_of_getElem? hx)
            have hi : i < sz := by rw [← hsz]; exact (List.getElem?_eq_some_iff.1 hx).1
            have hmul : i * esz + esz ≤ sz * esz := by
              have := Nat.mul_le_mul_right esz (show i + 1 ≤ sz by omega)
              rwa [Nat.succ_mul] at this
            have hf := flatten_elem h7 hx
            have hr := ((h6.drop (i * esz)).take esz).drop off
            rw [hf] at hr
            have e2 : ((((c.toList.drop base).take (sz * esz)).drop (i * esz)).take esz).drop off = (c.toList.drop (base + i * esz + off)).take (x.drop off).length := by
              rw [take_take_drop, List.drop_take, List.drop_drop]
              congr 1
              simp only [List.length_drop, hxl]; omega
            rw [e2] at hr
            exact hr
          · cases hc
        · cases hc
      · cases hc
    · cases hc
  · cases hc
    obtain ⟨cb, off, l, h1, h2, h3, rfl⟩ := cref_inv ha
    obtain ⟨⟨c, t, fz, h4, h5⟩, _⟩ := m.imm cb l h1
    exact ⟨cb, off, c, t, fz, rfl, h4, by rw [h5]; exact h3⟩
  · cases hc

theorem run_load {t : TypeId} {d : TypeDesc} {i : TypeInfo} {a v : AV} {ca : Value} (m : Mem K G h w) (hd : P.underlying t = some d) (hi : P.info? t = some i)
    (hv : Abs.loadAt (aggD d) i.size h a = some v) (ha : VRel G a ca) : ∃ cv, (Instr.loadAt t ca).run P w = .ok cv w ∧ VRel G v cv := by
  unfold Abs.loadAt at hv
  split at hv
  · next cs hcs =>
    obtain ⟨cb, off, c, t', fz, rfl, h1, h2⟩ := cellsAt_rel m hcs ha
    obtain ⟨cv, h3, h4⟩ := mkVal_rel h2 hv
    refine ⟨cv, ?_, h4⟩
    simp [Instr.loadAt, Instr.sureAddr, run_loadVar_at hd hi h1 h3]
  · cases hv

end
end Go.Proofs.YtjbkcboklccmeaaGreatDoor.Abs
/-
  Stores; addresses of parts; pieces of slices; lengths.
-/
namespace Go.Proofs.YtjbkcboklccmeaaGreatDoor.Abs

section
variable {K : Reads} {P : Program} {G : Ghost} {h : Heap} {w : World}

theorem splice_splice {α : Type} {l : List α} {b n off : Nat} {xs : List α} (h : off + xs.length ≤ n) (hn : b + n ≤ l.length) :
    splice l b (splice ((l.drop b).take n) off xs) = splice l (b + off) xs := by
  have hs : (splice ((l.drop b).take n) off xs).length = n := by
    rw [splice_length] <;> simp <;> omega
  apply List.ext_getElem?
  intro j
  have e1 : (splice l b (splice ((l.drop b).take n) off xs))[j]? = if j < b then l[j]? else if j < b + n then (splice ((l.drop b).take n) off xs)[j - b]? else l[j]? := by
    generalize splice ((l.drop b).take n) off xs = y at hs
    unfold splice
    simp only [List.getElem?_append, List.getElem?_take, List.getElem?_drop, List.length_take, List.length_append, hs]
    by_cases h1 : j < b
    · simp [h1, show j < min b l.length + n by omega, show j < min b l.length by omega]
    · by_cases h2 : j < b + n
      · have h3 : j < min b l.length + n := by omega
        have h4 : ¬ j < min b l.length := by omega
        simp only [h1, h2, h3, h4, if_true, if_false]
        rw [show min b l.length = b by omega]
      · have h3 : ¬ j < min b l.length + n := by omega
        simp only [h1, h2, h3, if_false]
        congr 1; omega
  rw [e1]
  unfold splice
  simp only [List.getElem?_append, List.getElem?_take, List.getElem?_drop, List.length_take, List.length_append, List.length_drop]
  by_cases h1 : j < b
  · simp only [h1, if_true, show j < min (b + off) l.length + xs.length by omega, show j < min (b + off) l.length by omega, show j < b + off by omega]
  · by_cases h2 : j < b + n
    · simp only [h1, h2, if_true, if_false]
      by_cases h3 : j < b + off
      · simp only [show j - b < min off (min n (l.length - b)) + xs.length by omega, show j - b < min off (min n (l.length - b)) by omega, show j - b < off by omega, show j - b < n by omega,
          show j < min (b + off) l.length + xs.length by omega, show j < min (b + off) l.length by omega, h3, if_true]
        congr 1; omega
      · by_cases h4 : j < b + off + xs.length
        · simp only [show j - b < min off (min n (l.length - b)) + xs.length by omega, show ¬ j - b < min off (min n (l.length - b)) by omega,
            show j < min (b + off) l.length + xs.length by omega, show ¬ j < min (b + off) l.length by omega, if_true, if_false]
          congr 1; omega
        · simp only [show ¬ j - b < min off (min n (l.length - b)) + xs.length by omega, show ¬ j < min (b + off) l.length + xs.length by omega, if_false,
            show off + xs.length + (j - b - (min off (min n (l.length - b)) + xs.length)) < n by omega, if_true]
          congr 1; omega
    · simp only [h1, h2, if_false, show ¬ j < min (b + off) l.length + xs.length by omega]
      congr 1; omega

theorem set_splice {α : Type} {es : List α} {i : Nat} {e : α} (hi : i < es.length) : es.set i e = splice es i [e] := by
  unfold splice
  rw [List.set_eq_take_append_cons_drop]
  simp [hi]

theorem set_flatten {α : Type} {es : List (List α)} {n i off : Nat} {e xs : List α} (h : ∀ x ∈ es, x.length = n) (he : es[i]? = some e) (hx : off + xs.length ≤ n) :
    (es.set i (splice e off xs)).flatten = splice es.flatten (i * n + off) xs := by
  have hi := (List.getElem?_eq_some_iff.1 he).1
  have hel := h e (List.mem_of_getElem? he)
  rw [set_splice hi, splice_flatten h (by simp [splice_length (l := e) (by omega : off + xs.length ≤ e.length), hel])]
  have : [splice e off xs].flatten = splice ((es.flatten.drop (i * n)).take n) off xs := by rw [flatten_elem h he]; simp
  rw [this, splice_splice hx]
  rw [flatten_length h]
  have := Nat.mul_le_mul_right n (show i + 1 ≤ es.length by omega)
  rwa [Nat.succ_mul] at this

theorem Mem.sz_eq (m : Mem K G h w) {cb n : Nat} {c : Array Value} {t : TypeId} {fz : Nat × Nat} (hs : G.sz cb = some n) (hw : w.heap[cb]? = some (.cells c t fz)) : c.size = n := by
  obtain ⟨c', t', fz', a, b⟩ := m.sz cb n hs
  rw [hw] at a; cases a; exact b

theorem toArray_toList' {α : Type} (l : List α) : l.toArray.toList = l := rfl

/-- Elements of a row are turned in place. -/
theorem Evolve.arrSet (m : Mem K G h w) {id ty esz froz : Nat} {mk : Bool} {es es' : List (List AV)} (e : hget h id = some (.arr ty esz froz mk es)) {cb base : Nat} {c : Array Value} {fz : Nat × Nat}
    (h1 : G.τ id es.length = some (cb, base, esz)) (hw : w.heap[cb]? = some (.cells c ty fz)) {off : Nat} {xs : List AV} {us : List Value} (hx : CsRel G xs us) (hl : off + xs.length ≤ es.length * esz)
    (hes : es'.flatten = splice es.flatten off xs) (hlen : es'.length = es.length) (hel : ∀ x ∈ es', x.length = esz) :
    Evolve K G h w G (hset h id (some (.arr ty esz froz mk es'))) (w.upd cb (.cells (splice c.toList (base + off) us).toArray ty fz)) := by
  obtain ⟨cb', base', c', fz', a1, a2, a3, a4, a5, a6, a7⟩ := m.arr e
  rw [h1] at a1; cases a1
  rw [hw] at a3; cases a3
  have hus := hx.len
  have hsz : (splice c.toList (base + off) us).length = c.size := by rw [splice_length] <;> simp <;> omega
  refine Evolve.upd m e (by simp [blk, h1]) (by simp [blk, hlen, h1]) ?_ (fun n hn => ⟨_, _, _, rfl, by rw [← m.sz_eq hn hw]; simpa using hsz⟩)
    (fun ty' esz' froz' mk' es'' h2 s x hx' => by cases h2; rw [hlen]; exact m.top id _ _ _ _ _ e s x hx')
  refine ⟨⟨⟨cb, base, by rw [hlen]; exact h1, by simpa [hsz] using a2, by simpa [hlen, hsz] using a4, ?_, by simpa [hsz] using a6⟩, hel⟩, rfl⟩
  rw [hes, hlen]
  have := a5.splice hx off
  rwa [← splice_take (by rw [← hus]; exact hl) (by simpa using a4)] at this

theorem run_store {t : TypeId} {i : TypeInfo} {a x : AV} {ca cx : Value} {h' : Heap} (m : Mem K G h w) (hi : P.info? t = some i)
    (hv : Abs.storeAt i.size h a x = some h') (ha : VRel G a ca) (hx : VRel G x cx) : DoesU K P G h w (Instr.storeAt t ca cx) h' := by
  unfold Abs.storeAt at hv
  split at hv
  · cases hv
  · next xs hxs =>
    have hc := hx.cells hxs
    split at hv
    · next hn =>
      have hsize : cx.cells.size = i.size := by rw [← hn, hc.len]; rfl
      split at hv
      · next id off =>
        split at hv
        · next ty cs e =>
          split at hv
          · next hle =>
            cases hv
            obtain ⟨cb, h1, rfl⟩ := ptr_inv ha
            obtain ⟨cb', c, fz, h2, h3, h4, h5⟩ := m.cells e
            rw [h1] at h2; cases h2
            have hlen := h5.len
            refine ⟨G, w.upd cb (.cells (splice c.toList off cx.cells.toList).toArray ty fz), ?_, ?_⟩
            · simp only [Instr.storeAt, Instr.sureAddr, Sem.run_bind, Sem.run_pure, Result.andThen_ok]
              exact run_storeVar_at hi hsize h3 (by rw [hlen] at hle; simpa using hle) (.inl h4) hc.one
            · refine Evolve.upd m e h1 h1 ⟨h4, h5.splice hc off, rfl⟩ (fun n hn => ⟨_, _, _, rfl, ?_⟩) (fun _ _ _ _ _ h => by cases h)
              rw [← m.sz_eq hn h3]
              have := splice_length (l := c.toList) (off := off) (xs := cx.cells.toList) (by rw [← hc.len, ← hlen]; omega)
              simpa using this
          · cases hv
        · cases hv
      · next id sz k off =>
        split at hv
        · next ty esz froz mk es e =>
          split at hv
          · next hsz =>
            obtain ⟨hsz, hfr⟩ := hsz
            split at hv
            · next el hel =>
              split at hv
              · next hle =>
                cases hv
                obtain ⟨cb, base, esz', h1, rfl⟩ := eptr_inv ha
                obtain ⟨cb', base', c, fz, h2, _, h3, h5, h6, h7, h8⟩ := m.arr e
                rw [hsz, h1] at h2; cases h2
                have hell := h8 el (List.mem_of_getElem? hel)
                have hk : k < es.length := (List.getElem?_eq_some_iff.1 hel).1
                have hmul : k * esz + esz ≤ es.length * esz := by
                  have := Nat.mul_le_mul_right esz (show k + 1 ≤ es.length by omega)
                  rwa [Nat.succ_mul] at this
                have hfm : froz * esz ≤ k * esz := Nat.mul_le_mul_right _ hfr
                have hxl := hc.len
                refine ⟨G, w.upd cb (.cells (splice c.toList (base + (k * esz + off)) cx.cells.toList).toArray ty fz), ?_, ?_⟩
                · simp only [Instr.storeAt, Instr.sureAddr, Sem.run_bind, Sem.run_pure, Result.andThen_ok, ← Nat.add_assoc]
                  exact run_storeVar_at hi hsize h3 (by omega) (by rcases h7 with h7 | h7 | h7 <;> omega) hc.one
                · exact Evolve.arrSet m e (by rw [hsz]; exact h1) h3 hc (by omega) (set_flatten h8 hel (by omega)) (by simp) (fun x hx => by
                    rcases List.mem_or_eq_of_mem_set hx with hx | rfl
                    · exact h8 x hx
                    · rw [splice_length (by omega)]; exact hell)
              · cases hv
            · cases hv
          · cases hv
        · cases hv
      · cases hv
    · cases hv

/-! ### Addresses -/

theorem fieldAt_rel {off : Nat} {x v : AV} {cx : Value} (hv : Abs.fieldAt off x = some v) (hx : VRel G x cx) : ∃ cb o, cx = .pointer (some ⟨cb, o, none⟩) ∧ VRel G v (.pointer (some ⟨cb, o + off, none⟩)) := by
  cases x <;> simp only [Abs.fieldAt, reduceCtorEq, Option.some.injEq] at hv
  · subst hv; obtain ⟨cb, h1, rfl⟩ := ptr_inv hx; exact ⟨cb, _, rfl, .ptr h1⟩
  · subst hv; obtain ⟨cb, base, esz, h1, rfl⟩ := eptr_inv hx; exact ⟨cb, _, rfl, .eptr h1 (by omega)⟩
  · next cs =>
    split at hv
    · next hle =>
      cases hv
      obtain ⟨cb, o, l, h1, h2, h3, rfl⟩ := cref_inv hx
      refine ⟨cb, o, rfl, cref_mk h1 (by simp; omega) ?_⟩
      have := h3.drop off
      rwa [List.drop_take, List.drop_drop, ← List.length_drop] at this
    · cases hv

theorem run_fieldAddr {t : TypeId} {fs : Array Field} {fi : Nat} {f : Field} {i : TypeInfo} {x v : AV} {cx : Value} (ht : P.underlying t = some (.struct fs)) (hf : fs[fi]? = some f)
    (hi : P.info? f.type = some i) (hz : i.size ≠ 0) (hv : Abs.fieldAt f.offset x = some v) (hx : VRel G x cx) : ∃ cv, (Instr.fieldAt t cx fi).run P w = .ok cv w ∧ VRel G v cv := by
  obtain ⟨cb, o, rfl, h2⟩ := fieldAt_rel hv hx
  refine ⟨_, ?_, h2⟩
  simp [Instr.fieldAt, run_underlying' ht, hf, Instr.sureAddr, fieldPlace, run_sizeOf' hi, hz, addr_add]

theorem run_indexArr {t e : TypeId} {len : Nat} {i : TypeInfo} {x ix v : AV} {cx ci : Value} (ht : P.underlying t = some (.array len e)) (hi : P.info? e = some i)
    (hv : indexArrAt i.size len x ix = some v) (hx : VRel G x cx) (hix : VRel G ix ci) : ∃ cv, (Instr.indexAt t cx ci).run P w = .ok cv w ∧ VRel G v cv := by
  unfold indexArrAt at hv
  split at hv
  · cases hv
  · next n hn =>
    obtain ⟨k, rfl, rfl⟩ := idxOf_inv hn hix
    split at hv
    · next hb =>
      obtain ⟨cb, o, rfl, h2⟩ := fieldAt_rel hv hx
      refine ⟨_, ?_, h2⟩
      simp [Instr.indexAt, asIntOf, run_underlying' ht, Instr.sureAddr, hb, run_sizeOf' hi, addr_add]
    · cases hv

theorem run_indexAddr {t e : TypeId} {i : TypeInfo} {x ix v : AV} {cx ci : Value} (ht : P.underlying t = some (.slice e)) (hi : P.info? e = some i)
    (hv : Abs.indexAt i.size x ix = some v) (hx : VRel G x cx) (hix : VRel G ix ci) : ∃ cv, (Instr.indexAt t cx ci).run P w = .ok cv w ∧ VRel G v cv := by
  unfold Abs.indexAt at hv
  split at hv
  · cases hv
  · next n hn =>
    obtain ⟨k, rfl, rfl⟩ := idxOf_inv hn hix
    split at hv
    · next id z off len cap =>
      split at hv
      · next hb =>
        cases hv
        obtain ⟨hb1, hb2, rfl⟩ := hb
        obtain ⟨cb, base, cap', sz, h1, h2, h3, h4, h5, rfl⟩ := slice_inv hx
        refine ⟨_, ?_, .eptr h1 rfl⟩
        have hb : 0 ≤ n ∧ n < (len : Int) := ⟨hb1, hb2⟩
        simp only [Instr.indexAt, asIntOf, Sem.run_bind, Sem.run_pure, Result.andThen_ok, run_underlying' ht, hb, and_self, if_true, run_sizeOf' hi, addr_add]
        have e : base + off * i.size + n.toNat * i.size = base + (off + n.toNat) * i.size + 0 := by rw [Nat.add_mul]; omega
        rw [e]
      · cases hv
    · next z ex es =>
      split at hv
      · next h0 =>
        obtain ⟨h0, rfl⟩ := h0
        split at hv
        · next el hel =>
          cases hv
          have hlt := (List.getElem?_eq_some_iff.1 hel).1
          rcases list_inv hx with ⟨cb, off, cap, l, h1, h2, h3, h4, h5, _, rfl⟩ | ⟨_, rfl, _⟩
          · have he := h2 el (List.mem_of_getElem? hel)
            have hmul : n.toNat * i.size + i.size ≤ es.length * i.size := by
              have := Nat.mul_le_mul_right i.size (show n.toNat + 1 ≤ es.length by omega)
              rwa [Nat.succ_mul] at this
            refine ⟨.pointer (some ⟨cb, off + n.toNat * i.size, none⟩), ?_, cref_mk h1 (by omega) ?_⟩
            · have hb : 0 ≤ n ∧ n < (es.length : Int) := ⟨h0, by omega⟩
              simp only [Instr.indexAt, asIntOf, Sem.run_bind, Sem.run_pure, Result.andThen_ok, run_underlying' ht, hb, and_self, if_true, run_sizeOf' hi, addr_add]
            · have hf := flatten_elem h2 hel
              have hr := (h4.drop (n.toNat * i.size)).take i.size
              rw [hf, take_take_drop] at hr
              rw [he]
              rwa [show min i.size (es.length * i.size - n.toNat * i.size) = i.size by omega] at hr
          · simp at hlt
        · cases hv
      · cases hv
    · cases hv

/-! ### Pieces of slices -/

theorem run_slice {t e : TypeId} {i : TypeInfo} {x v : AV} {cx : Value} {lo hi : Option AV} {clo chi : Option Value} (ht : P.underlying t = some (.slice e)) (hie : P.info? e = some i)
    (hv : sliceOf i.size x lo hi = some v) (hx : VRel G x cx) (hlo : OptRel G lo clo) (hhi : OptRel G hi chi) : ∃ cv, (Instr.slice t cx clo chi none).run P w = .ok cv w ∧ VRel G v cv := by
  have run {a : Option Addr} {len cap l u : Nat} (b1 : (Instr.sliceBounds true len cap clo chi none).run P w = .ok (l, u, cap) w) :
      (Instr.slice t (.slice a len cap) clo chi none).run P w = .ok (.slice (if cap = l then a else a.map (·.add (l * i.size))) (u - l) (cap - l)) w := by
    simp only [Instr.slice, Sem.run_bind, run_underlying' ht, Result.andThen_ok, b1, run_sizeOf' hie, Sem.run_pure]
  have empty {a : Addr} {l u cap : Nat} (ha : a.spot = none) (hu : u - l = 0) : VRel G (.list i.size false []) (.slice (if cap = l then some a else (some a).map (·.add (l * i.size))) (u - l) (cap - l)) := by
    rw [hu]
    obtain ⟨blk, o, sp⟩ := a
    simp only at ha; subst ha
    split
    · exact .empty _ _ _ rfl
    · simp only [Option.map_some, addr_add]; exact .empty _ _ _ rfl
  unfold sliceOf at hv
  split at hv
  · split at hv
    · next y hb =>
      cases hv
      obtain ⟨l, u⟩ := y
      cases hx
      obtain ⟨h1, h2, h3⟩ := bounds_rel (P := P) (w := w) (isSlice := true) hb (Nat.le_refl 0) hlo hhi
      have hu : u = 0 := by omega
      have hl : l = 0 := by omega
      subst hu hl
      exact ⟨_, run h1, .nilSlice⟩
    · cases hv
  · next z ex es =>
    split at hv
    · next hz =>
      subst hz
      split at hv
      · next l u hb =>
        rcases list_inv hx with ⟨cb, off, cap, ls, h1, h2, h3, h4, h5, h6, rfl⟩ | ⟨rfl, rfl, a, cap, ha, rfl⟩
        · obtain ⟨b1, b2, b3⟩ := bounds_rel (P := P) (w := w) (isSlice := true) hb h5 hlo hhi
          have hu : u ≤ es.length := by omega
          refine ⟨_, run b1, ?_⟩
          split at hv
          · next hcase =>
            cases hv
            have hsub : ∀ x ∈ (es.drop l).take (u - l), x.length = i.size := fun x hx => h2 x (List.mem_of_mem_drop (List.mem_of_mem_take hx))
            have hlen : ((es.drop l).take (u - l)).length = u - l := by simp; omega
            have hfl : ((es.drop l).take (u - l)).flatten = (es.flatten.drop (l * i.size)).take ((u - l) * i.size) := by
              rw [flatten_take (fun x hx => h2 x (List.mem_of_mem_drop hx)), flatten_drop h2]
            have hmul : u * i.size ≤ es.length * i.size := Nat.mul_le_mul_right _ hu
            have hmul' : (u - l) * i.size = u * i.size - l * i.size := Nat.sub_mul u l i.size
            have hmul2 : l * i.size ≤ u * i.size := Nat.mul_le_mul_right _ b2
            have hmain : ∀ ex', (ex' = true → cap - l = u - l) → VRel G (.list i.size ex' ((es.drop l).take (u - l))) (.slice (some ⟨cb, off + l * i.size, none⟩) (u - l) (cap - l)) := by
              intro ex' hex'
              have := list_mk (G := G) (ex := ex') (es := (es.drop l).take (u - l)) (cb := cb) (off := off + l * i.size) (esz := i.size) (cap := cap - l) h1 hsub (by rw [hlen]; omega) (by
                rw [hfl, hlen]
                have := (h4.drop (l * i.size)).take ((u - l) * i.size)
                rw [take_take_drop] at this
                rwa [show min ((u - l) * i.size) (es.length * i.size - l * i.size) = (u - l) * i.size by omega] at this) (by rw [hlen]; omega) (by rw [hlen]; exact hex')
              rwa [hlen] at this
            have hex : (ex && u == es.length) = true → cap - l = u - l := by
              intro hh; simp only [Bool.and_eq_true, beq_iff_eq] at hh
              rw [h6 hh.1, hh.2]
            by_cases hl0 : l = 0
            · subst hl0
              have := hmain _ hex
              simp only [Nat.zero_mul, Nat.add_zero] at this ⊢
              split
              · exact this
              · simp only [Option.map_some, addr_add, Nat.add_zero]; exact this
            · have hlt : l < es.length := by
                rcases hcase with hcase | hcase
                · exact hcase
                · exact absurd hcase.2 hl0
              rw [if_neg (by omega)]
              simp only [Option.map_some, addr_add]
              exact hmain _ hex
          · next hcase =>
            cases hv
            exact empty rfl (by omega)
        · obtain ⟨b1, b2, b3⟩ := bounds_rel (P := P) (w := w) (isSlice := true) hb (Nat.zero_le cap) hlo hhi
          have hu : u = 0 := by simp at b3; omega
          have hl : l = 0 := by omega
          have hv' : v = .list i.size false [] := by
            subst hu hl
            split at hv
            · simp at hv; exact hv.symm
            · cases hv; rfl
          subst hv'
          exact ⟨_, run b1, empty ha (by omega)⟩
      · cases hv
    · cases hv
  · next id z off len cap =>
    split at hv
    · next hz =>
      subst hz
      split at hv
      · next l u hb =>
        obtain ⟨cb, base, cap', n, h1, h2, h3, h4, h5, rfl⟩ := slice_inv hx
        obtain ⟨b1, b2, b3⟩ := bounds_rel (P := P) (w := w) (isSlice := true) hb h3 hlo hhi
        refine ⟨_, run b1, ?_⟩
        split at hv
        · next hl =>
          cases hv
          rw [if_neg (by omega)]
          simp only [Option.map_some, addr_add]
          have hm : base + off * i.size + l * i.size = base + (off + l) * i.size := by rw [Nat.add_mul]; omega
          exact .slice (by rw [show off + l + (cap - l) = off + cap by omega]; exact h1) h2 (by omega) (by rw [show off + l + (cap' - l) = off + cap' by omega]; exact h4) hm (by omega)
        · next hl =>
          cases hv
          exact empty rfl (by omega)
      · cases hv
    · cases hv
  · cases hv

end
end Go.Proofs.YtjbkcboklccmeaaGreatDoor.Abs
/-
  Slices: their elements; append; what is let go of; new rows.
-/
namespace Go.Proofs.YtjbkcboklccmeaaGreatDoor.Abs

section
variable {K : Reads} {P : Program} {G : Ghost} {h : Heap} {w : World}

/-- The elements of a slice (or the bytes of a text), aS the model reads them. -/
theorem elems_rel (m : Mem K G h w) {esz : Nat} {x : AV} {cx : Value} {xs : List (List AV)} (hv : elemsOf esz h x = some xs) (hx : VRel G x cx) :
    ∃ us, CsRel G xs.flatten us ∧ (∀ e ∈ xs, e.length = esz) ∧ (Builtin.lenOf cx).run P w = .ok xs.length w ∧
      ∀ w2 : World, w2.heap = w.heap → ∀ n, n ≤ xs.length → (Builtin.firstCells esz n cx).run P w2 = .ok (us.take (n * esz)).toArray w2 := by
  unfold elemsOf at hv
  split at hv
  · next s =>
    split at hv
    · next h1 =>
      subst h1
      cases hv
      obtain ⟨s, rfl, rfl⟩ := hx.str_inv
      have hfl : (s.data.toList.map fun b => [AV.int .u8 (b.toNat : Int)]).flatten = s.data.toList.map fun b => AV.int .u8 (b.toNat : Int) := by
        induction s.data.toList with
        | nil => rfl
        | cons b l ih => simp only [List.map_cons, List.flatten_cons, ih]; rfl
      refine ⟨s.data.toList.map fun b => Value.int .u8 (b.toNat : Int), ?_, by simp, ?_, ?_⟩
      · rw [hfl]
        have := VsRel.map (G := G) s.data.toList (fun b => AV.int .u8 (b.toNat : Int)) (fun b => Value.int .u8 (b.toNat : Int)) (fun _ _ => .int _ _)
        exact ⟨this.len, this.val, fun v hv => by obtain ⟨b, _, rfl⟩ := List.mem_map.1 hv; rfl⟩
      · rw [List.length_map, size_str]; rfl
      · intro w2 hw2 n hn
        simp only [Builtin.firstCells, Sem.run_pure, Nat.mul_one]
        congr 1
        apply Array.ext'
        obtain ⟨⟨d⟩⟩ := s
        have := ByteArray.extract_mk d 0 n
        simp only [List.toArray] at this
        rw [this]
        simp [List.map_take]
    · cases hv
  · cases hv
    cases hx
    exact ⟨[], CsRel.nil G, by simp, by simp [Builtin.lenOf], fun w2 hw2 n hn => by
      have : n = 0 := by simpa using hn
      subst this; simp [Builtin.firstCells]⟩
  · next z ex es =>
    split at hv
    · next hz =>
      subst hz
      cases hv
      rcases list_inv hx with ⟨cb, off, cap, l, h1, h2, h3, h4, h5, _, rfl⟩ | ⟨_, rfl, a, cap, ha, rfl⟩
      · refine ⟨_, h4, h2, by simp [Builtin.lenOf], fun w2 hw2 n hn => ?_⟩
        obtain ⟨⟨c, t, fz, h6, h7⟩, _⟩ := m.imm cb l h1
        have hmul := Nat.mul_le_mul_right z hn
        simp only [Builtin.firstCells]
        rw [run_loadCells_at (w := w2) (by rw [hw2]; exact h6) (by rw [← h7] at h3; simp at h3; omega), h7, List.take_take, Nat.min_eq_left hmul]
      · exact ⟨[], CsRel.nil G, by simp, by simp [Builtin.lenOf], fun w2 hw2 n hn => by
          have : n = 0 := by simpa using hn
          subst this; simp [Builtin.firstCells, loadCells, loadCellsFrom]⟩
    · cases hv
  · next id z off len cap =>
    split at hv
    · next ty esz' froz mk es e =>
      split at hv
      · next hc =>
        obtain ⟨hc1, hc2, rfl⟩ := hc
        cases hv
        obtain ⟨cb, base, cap', n, h1, h2, h3, h4, h5, rfl⟩ := slice_inv hx
        obtain ⟨cb', base', c, fz, a1, _, a3, a4, a5, _, a7⟩ := m.arr e
        rw [hc1, h1] at a1; cases a1
        have hsub : ∀ x ∈ (es.drop off).take len, x.length = z := fun x hx => a7 x (List.mem_of_mem_drop (List.mem_of_mem_take hx))
        have hlen : ((es.drop off).take len).length = len := by simp; omega
        have hfl : ((es.drop off).take len).flatten = (es.flatten.drop (off * z)).take (len * z) := by
          rw [flatten_take (fun x hx => a7 x (List.mem_of_mem_drop hx)), flatten_drop a7]
        have hmul : (off + len) * z ≤ es.length * z := Nat.mul_le_mul_right _ (by omega)
        rw [Nat.add_mul] at hmul
        have hr := (a5.drop (off * z)).take (len * z)
        rw [take_take_drop, show min (len * z) (es.length * z - off * z) = len * z by omega] at hr
        refine ⟨_, by rw [hfl]; exact hr, hsub, by simp [Builtin.lenOf, hlen], fun w2 hw2 n hn => ?_⟩
        rw [hlen] at hn
        have hmul2 := Nat.mul_le_mul_right z hn
        simp only [Builtin.firstCells]
        rw [run_loadCells_at (w := w2) (by rw [hw2]; exact a3) (by omega), List.take_take, Nat.min_eq_left hmul2]
      · cases hv
    · cases hv
  · cases hv

/-- A new row, under a name or never written. -/
theorem newArr_rel (m : Mem K G h w) {imm ex : Bool} {ty esz cap : Nat} {es : List (List AV)} {c : Array Value} (hel : ∀ x ∈ es, x.length = esz) (hc : c.size = cap * esz) (hcap : es.length ≤ cap)
    (hx : ex = true → cap = es.length) (hr : CsRel G es.flatten (c.toList.take (es.length * esz))) :
    ∃ G', Evolve K G h w G' (newArr imm ty esz ex es h).2 (w.alloc (.cells c ty)) ∧ VRel G' (newArr imm ty esz ex es h).1 (.slice (some ⟨w.heap.size, 0, none⟩) es.length cap) := by
  have hle : es.length * esz ≤ c.size := by rw [hc]; exact Nat.mul_le_mul_right _ hcap
  cases imm with
  | true =>
    have hev := Evolve.immAlloc m c ty
    refine ⟨_, hev, ?_⟩
    refine list_mk (l := c.toList) Ghost.addImm_imm hel (by simpa using hle) ?_ hcap hx
    simpa using hr.mono hev.le
  | false =>
    obtain ⟨f1, f2⟩ := m.fresh h.length (Nat.le_refl _)
    have hsn : G.sz w.heap.size = none := by
      cases e : G.sz w.heap.size with
      | none => rfl
      | some n =>
        obtain ⟨c', t, fz, a, _⟩ := m.sz _ _ e
        exact absurd (Array.getElem?_eq_some_iff.1 a).1 (Nat.lt_irrefl _)
    have hle' : G.le (G.row h.length es.length (w.heap.size, 0, esz) c.size) := Ghost.le_row (f2 _) (fun k hk => by rw [hsn] at hk; cases hk)
    have hev : Evolve K G h w (G.row h.length es.length (w.heap.size, 0, esz) c.size) (h ++ [some (.arr ty esz 0 false es)]) (w.alloc (.cells c ty)) := by
      refine Evolve.rowAt m (obj := .cells c ty (0, 0)) (fun j hj => by rw [hget_push, if_neg hj]) hget_new (by simp) (by simp) (f2 _) (fun s x hx => by rw [f2] at hx; cases hx) (by simp)
        (fun b hb _ => heap_alloc_old hb) (.inl (Nat.le_refl _)) heap_alloc_new ⟨c, ty, _, rfl, rfl⟩ (fun k hk => by rw [hsn] at hk; cases hk) ?_
      refine ⟨⟨⟨w.heap.size, 0, Ghost.row_τ, Ghost.row_sz, by simpa using hle, ?_, .inl rfl⟩, hel⟩, rfl⟩
      simpa using hr.mono hle'
    refine ⟨_, hev, ?_⟩
    refine .slice (base := 0) (by simpa using Ghost.row_τ) Ghost.row_sz hcap (by simp [hc]) (by simp) (Nat.le_refl _)

theorem freeze1_rel (m : Mem K G h w) {v v' : AV} {cv : Value} {h' : Heap} (hf : freeze1 v h = some (v', h')) (hv : VRel G v cv) :
    ∃ G', Evolve K G h w G' h' w ∧ VRel G' v' cv := by
  have other : ∀ {v : AV}, some (v, h) = some (v', h') → VRel G v cv → ∃ G', Evolve K G h w G' h' w ∧ VRel G' v' cv := by
    intro v e hv; cases e; exact ⟨G, .refl m, hv⟩
  unfold freeze1 at hf
  split at hf
  · next id z off len cap =>
    split at hf
    · next ty esz froz mk es e =>
      split at hf
      · next hc =>
        cases hf
        obtain ⟨hc1, hc2⟩ := hc
        obtain ⟨cb, base, cap', n, h1, h2, h3, h4, h5, rfl⟩ := slice_inv hv
        obtain ⟨cb', base', c, fz, a1, a2, a3, a4, a5, _, a7⟩ := m.arr e
        rw [hc1, h1] at a1; cases a1
        have hev := Evolve.release m e (by simp [blk, hc1, h1]) a3
        refine ⟨_, hev, ?_⟩
        have hsub : ∀ x ∈ (es.drop off).take len, x.length = z := fun x hx => a7 x (List.mem_of_mem_drop (List.mem_of_mem_take hx))
        have hlen : ((es.drop off).take len).length = len := by simp; omega
        have hfl : ((es.drop off).take len).flatten = (es.flatten.drop (off * z)).take (len * z) := by
          rw [flatten_take (fun x hx => a7 x (List.mem_of_mem_drop hx)), flatten_drop a7]
        have hmul : (off + len) * z ≤ es.length * z := Nat.mul_le_mul_right _ (by omega)
        rw [Nat.add_mul] at hmul
        have hr := (a5.drop (off * z)).take (len * z)
        rw [take_take_drop, show min (len * z) (es.length * z - off * z) = len * z by omega] at hr
        have := list_mk (ex := false) (es := (es.drop off).take len) (esz := z) (cap := cap') (off := base + off * z) (Ghost.addImm_imm (G := G) (cb := cb) (l := c.toList)) hsub (by rw [hlen]; simp; omega)
          (by rw [hfl, hlen]; exact hr.mono hev.le) (by rw [hlen]; omega) (by simp)
        rwa [hlen] at this
      · cases hf
    · cases hf
  · exact other hf hv

theorem freezeL_rel : ∀ {cs cs' : List AV} {vs : List Value} {G : Ghost} {h h' : Heap}, Mem K G h w → freezeL cs h = some (cs', h') → CsRel G cs vs → ∃ G', Evolve K G h w G' h' w ∧ CsRel G' cs' vs
  | [], cs', vs, G, h, h', m, hf, hv => by cases hf; exact ⟨G, .refl m, hv⟩
  | c :: cs, cs', vs, G, h, h', m, hf, hv => by
    simp only [freezeL] at hf
    split at hf
    · cases hf
    · next c' h1 e1 =>
      split at hf
      · cases hf
      · next cs'' h2 e2 =>
        cases hf
        cases vs with
        | nil => have := hv.len; simp at this
        | cons v vs =>
          obtain ⟨G1, ev1, r1⟩ := freeze1_rel m e1 (hv.val 0 c v rfl rfl)
          obtain ⟨G2, ev2, r2⟩ := freezeL_rel ev1.mem e2 (⟨by have := hv.len; simpa using this, fun i a u ha hu => (hv.val (i + 1) a u (by simpa using ha) (by simpa using hu)).mono ev1.le, fun u hu => hv.one u (by simp [hu])⟩ : CsRel G1 cs vs)
          refine ⟨G2, ev1.trans ev2, by simp [r2.len], fun i a u ha hu => ?_, hv.one⟩
          cases i with
          | zero => simp at ha hu; subst ha hu; exact r1.mono ev2.le
          | succ i => simp at ha hu; exact r2.val i a u ha hu

theorem freeze_rel (m : Mem K G h w) {v v' : AV} {cv : Value} {h' : Heap} (hf : freeze v h = some (v', h')) (hv : VRel G v cv) :
    ∃ G', Evolve K G h w G' h' w ∧ VRel G' v' cv := by
  unfold freeze at hf
  split at hf
  · next cs =>
    split at hf
    · next cs' h1 e1 =>
      cases hf
      obtain ⟨vs, rfl, hc⟩ := agg_inv hv
      obtain ⟨G', ev, r⟩ := freezeL_rel m e1 hc
      exact ⟨G', ev, .agg (by simpa using r.len) (fun i a u ha hu => r.val i a u ha (by simpa using hu)) (fun i u hu => r.one u (List.mem_of_getElem? (by simpa using hu)))⟩
    · cases hf
  · exact freeze1_rel m hf hv

/-! ### append -/

theorem run_append_here {t t' ty e : TypeId} {i : TypeInfo} {s x : Value} {base : Option Addr} {n sLen sCap : Nat} {new : Array Value} (ht : P.underlying t = some (.slice e)) {d' : TypeDesc} (ht' : P.underlying t' = some d')
    (hd' : ∀ k, d' ≠ .int k) (hi : P.info? e = some i) (hs : s = .slice base sLen sCap) (hl : (Builtin.lenOf x).run P w = .ok n w) (hf : (Builtin.firstCells i.size n x).run P w = .ok new w) (hroom : sLen + n ≤ sCap)
    {w' : World} (hst : (match base with | some a => storeCells (a.add (sLen * i.size)) new.toList | none => pure () : Sem Unit).run P w = .ok () w') :
    (Builtin.append_ #[t, t'] ty #[s, x]).run P w = .ok (.slice base (sLen + n) sCap) w' := by
  subst hs
  unfold Builtin.append_
  cases d' <;> first | exact absurd rfl (hd' _) | skip
  all_goals
    cases base with
    | none =>
      cases hst
      simp only [List.getElem?_toArray, List.getElem?_cons_zero, List.getElem?_cons_succ, Sem.run_bind, run_underlying' ht, Result.andThen_ok, run_sizeOf' hi, run_underlying' ht', Sem.run_pure, Bool.false_eq_true, if_false, hl, hroom, if_true,
        Bool.not_false, hf]
    | some a =>
      simp only at hst
      simp only [List.getElem?_toArray, List.getElem?_cons_zero, List.getElem?_cons_succ, Sem.run_bind, run_underlying' ht, Result.andThen_ok, run_sizeOf' hi, run_underlying' ht', Sem.run_pure, Bool.false_eq_true, if_false, hl, hroom, if_true,
        Bool.not_false, hf, hst]

theorem run_append_away {t t' ty e : TypeId} {i : TypeInfo} {z : Value} {s x : Value} {base : Option Addr} {n sLen sCap : Nat} {old new : Array Value} (ht : P.underlying t = some (.slice e)) {d' : TypeDesc} (ht' : P.underlying t' = some d')
    (hd' : ∀ k, d' ≠ .int k) (hi : P.info? e = some i) (hz : i.zero = some z) (hb : i.bytes ≠ 0) (hs : s = .slice base sLen sCap) (hl : (Builtin.lenOf x).run P w = .ok n w)
    (hf : (Builtin.firstCells i.size n x).run P w.drew = .ok new w.drew) (ho : (Builtin.firstCells i.size sLen s).run P w.drew = .ok old w.drew) (hroom : sCap < sLen + n)
    (hbytes : (sLen + n) * i.bytes ≤ maxBytes) :
    ∃ cap, sLen + n ≤ cap ∧ (Builtin.append_ #[t, t'] ty #[s, x]).run P w = .ok (.slice (some ⟨w.heap.size, 0, none⟩) (sLen + n) cap) (w.drew.alloc (.cells (old ++ new ++ Builtin.zeroCells z.cells (cap - (sLen + n))) e)) := by
  subst hs
  have hfits := growslice_fits (old := sCap) (need := sLen + n) (bytes := i.bytes) hroom hbytes
  refine ⟨(Question.appendCap (sLen + n) sCap e).cut (w.tape w.drawn (.appendCap (sLen + n) sCap e)), by simp [Question.cut], ?_⟩
  have hch : (choose (.appendCap (sLen + n) sCap e)).run P w = .ok ((Question.appendCap (sLen + n) sCap e).cut (w.tape w.drawn (.appendCap (sLen + n) sCap e))) w.drew := by
    simp [run_choose, Question.forced]
  have h1 : ¬ sLen + n ≤ sCap := by omega
  have h2 : ¬ Builtin.nextslicecap (sLen + n) sCap * i.bytes > 2 ^ 48 := by have : (2 : Nat) ^ 48 = 281474976710656 := by decide
                                                                            omega
  unfold Builtin.append_
  cases d' <;> first | exact absurd rfl (hd' _) | skip
  all_goals
    simp only [List.getElem?_toArray, List.getElem?_cons_zero, List.getElem?_cons_succ, Sem.run_bind, run_underlying' ht, Result.andThen_ok, run_sizeOf' hi, run_underlying' ht', Sem.run_pure, Bool.false_eq_true, if_false, hl, h1, h2,
      run_typeInfo' hi, hb, or_self, and_false, hch, run_askRoom, ho, hf, Bool.not_false, if_true, run_zeroValue' hi hz, newRow, run_newObj]
    rfl

end
end Go.Proofs.YtjbkcboklccmeaaGreatDoor.Abs
/-
  append, copy, make; texts and bytes.
-/
namespace Go.Proofs.YtjbkcboklccmeaaGreatDoor.Abs

section
variable {K : Reads} {P : Program} {G : Ghost} {h : Heap} {w : World}

theorem zeroCells_size (z : Array Value) (n : Nat) : (Builtin.zeroCells z n).size = n * z.size := by simp [Builtin.zeroCells]

theorem Evolve.drew' (m : Mem K G h w) : Evolve K G h w G h w.drew := Evolve.drew m

/-- A row grown into a new block, under the elder name. -/
theorem Evolve.grow (m : Mem K G h w) {id ty esz froz n : Nat} {mk : Bool} {es : List (List AV)} {o : AObj} (e : hget h id = some o) (htop : ∀ s x, G.τ id s = some x → s < es.length) {c : Array Value} (froz' : Nat) {mk' : Bool}
    (hel : ∀ x ∈ es, x.length = esz) (hle : es.length * esz ≤ c.size) (hr : CsRel G es.flatten (c.toList.take (es.length * esz))) :
    Evolve K G h w (G.row id es.length (w.heap.size, 0, esz) c.size) (hset h id (some (.arr ty esz froz' mk' es))) (w.alloc (.cells c ty)) := by
  have hlt := hget_lt e
  have hsn : G.sz w.heap.size = none := by
    cases e : G.sz w.heap.size with
    | none => rfl
    | some n =>
      obtain ⟨c', t, fz, a, _⟩ := m.sz _ _ e
      exact absurd (Array.getElem?_eq_some_iff.1 a).1 (Nat.lt_irrefl _)
  have hnew : G.τ id es.length = none := by
    cases e : G.τ id es.length with
    | none => rfl
    | some x => exact absurd (htop _ _ e) (Nat.lt_irrefl _)
  have hle' : G.le (G.row id es.length (w.heap.size, 0, esz) c.size) := Ghost.le_row hnew (fun k hk => by rw [hsn] at hk; cases hk)
  refine Evolve.rowAt m (obj := .cells c ty (0, 0)) (fun j hj => hget_hset_ne (Ne.symm hj)) (hget_hset_same hlt) (by simp) (by simpa using hlt) hnew (fun s x hx => Nat.le_of_lt (htop s x hx)) (by simp)
    (fun b hb _ => heap_alloc_old hb) (.inl (Nat.le_refl _)) heap_alloc_new ⟨c, ty, _, rfl, rfl⟩ (fun k hk => by rw [hsn] at hk; cases hk) ?_
  refine ⟨⟨⟨w.heap.size, 0, Ghost.row_τ, Ghost.row_sz, by simpa using hle, ?_, .inl rfl⟩, hel⟩, rfl⟩
  simpa using hr.mono hle'

/-- A row grown in its own block, under the elder name. -/
theorem Evolve.growHere (m : Mem K G h w) {id ty esz froz : Nat} {mk : Bool} {es es' : List (List AV)} (e : hget h id = some (.arr ty esz froz mk es)) {cb base : Nat} {c : Array Value} {fz : Nat × Nat}
    (h1 : G.τ id es.length = some (cb, base, esz)) (hw : w.heap[cb]? = some (.cells c ty fz)) (hlen : es.length < es'.length) {off : Nat} {us : List Value} {xs : List AV} (hx : CsRel G xs us) (hoff : off ≤ es.length)
    (hel : ∀ x ∈ es', x.length = esz) {n : Nat} (hn : n * esz + xs.length = es'.length * esz) (hnoff : off + n ≤ es.length) (hes : es'.flatten = (es.flatten.drop (off * esz)).take (n * esz) ++ xs)
    (hfit : base + (off + n) * esz + xs.length ≤ c.size) :
    Evolve K G h w (G.row id es'.length (cb, base + off * esz, esz) c.size) (hset h id (some (.arr ty esz (froz - off) mk es'))) (w.upd cb (.cells (splice c.toList (base + (off + n) * esz) us).toArray ty fz)) := by
  obtain ⟨cb', base', c', fz', a1, a2, a3, a4, a5, a6, a7⟩ := m.arr e
  rw [h1] at a1; cases a1
  rw [hw] at a3; cases a3
  have hlt := hget_lt e
  have htop := m.top id _ _ _ _ _ e
  have hnew : G.τ id es'.length = none := by
    cases e : G.τ id es'.length with
    | none => rfl
    | some x => have := htop _ _ e; omega
  have hus := hx.len
  have hsz : (splice c.toList (base + (off + n) * esz) us).length = c.size := by rw [splice_length] <;> simp <;> omega
  have hle' : G.le (G.row id es'.length (cb, base + off * esz, esz) c.size) := Ghost.le_row hnew (fun k hk => by rw [a2] at hk; cases hk; rfl)
  have hblk : blk G id (.arr ty esz froz mk es) = some cb := by simp [blk, h1]
  refine Evolve.rowAt m (obj := .cells (splice c.toList (base + (off + n) * esz) us).toArray ty fz) (fun j hj => hget_hset_ne (Ne.symm hj)) (hget_hset_same hlt) (by simp) (by simpa using hlt) hnew
    (fun s x hx => Nat.le_trans (htop s x hx) (Nat.le_of_lt hlen)) (by simp) (fun b _ hb => heap_upd_other hb) (.inr ⟨_, e, hblk⟩) (heap_upd_same hw) ⟨_, _, _, rfl, by simpa using hsz⟩ (fun k hk => by rw [a2] at hk; cases hk; rfl) ?_
  have hmul : (off + n) * esz = off * esz + n * esz := Nat.add_mul ..
  have hmul1 : (off + n) * esz ≤ es.length * esz := Nat.mul_le_mul_right _ hnoff
  refine ⟨⟨⟨cb, base + off * esz, Ghost.row_τ, by simpa [hsz] using (Ghost.row_sz (G := G) (id := id) (len := es'.length) (x := (cb, base + off * esz, esz)) (n := c.size)), by simp [hsz]; omega, ?_, ?_⟩, hel⟩, rfl⟩
  · rw [hes]
    have hr := (a5.drop (off * esz)).take (n * esz)
    rw [take_take_drop, show min (n * esz) (es.length * esz - off * esz) = n * esz by omega] at hr
    have := (hr.append hx).mono hle'
    have e2 : ((splice c.toList (base + (off + n) * esz) us).toArray.toList.drop (base + off * esz)).take (es'.length * esz) = (c.toList.drop (base + off * esz)).take (n * esz) ++ us := by
      unfold splice
      apply List.ext_getElem?
      intro j
      simp only [List.getElem?_take, List.getElem?_drop, List.getElem?_append, List.length_take, List.length_append, List.length_drop, Array.length_toList]
      by_cases hj : j < n * esz
      · simp only [show j < es'.length * esz by omega, show base + off * esz + j < min (base + (off + n) * esz) c.size + us.length by omega, show base + off * esz + j < min (base + (off + n) * esz) c.size by omega,
          show base + off * esz + j < base + (off + n) * esz by omega, show j < min (n * esz) (c.size - (base + off * esz)) by omega, hj, if_true]
      · by_cases hj2 : j < es'.length * esz
        · simp only [hj2, show base + off * esz + j < min (base + (off + n) * esz) c.size + us.length by omega, show ¬ base + off * esz + j < min (base + (off + n) * esz) c.size by omega,
            show ¬ j < min (n * esz) (c.size - (base + off * esz)) by omega, if_true, if_false]
          congr 1; omega
        · simp only [hj2, show ¬ j < min (n * esz) (c.size - (base + off * esz)) by omega, if_false]
          rw [List.getElem?_eq_none (by omega)]
    rw [e2]; exact this
  · have h3 : (froz - off) * esz = froz * esz - off * esz := Nat.sub_mul ..
    rcases a6 with a6 | a6 | a6
    · exact .inl a6
    · exact .inr (.inl (by omega))
    · exact .inr (.inr ⟨a6.1, by simpa [hsz] using a6.2⟩)

theorem flatten_append_len {es xs : List (List AV)} {z : Nat} (h1 : ∀ e ∈ es, e.length = z) (h2 : ∀ e ∈ xs, e.length = z) : ∀ e ∈ es ++ xs, e.length = z := by
  intro e he
  rcases List.mem_append.1 he with he | he
  · exact h1 e he
  · exact h2 e he

theorem append_rel (m : Mem K G h w) {imm : Bool} {t t' ty e : TypeId} {i : TypeInfo} {z : Value} {s x v : AV} {cs cx : Value} {h' : Heap} (ht : P.underlying t = some (.slice e)) {d' : TypeDesc} (ht' : P.underlying t' = some d')
    (hd' : ∀ k, d' ≠ .int k) (hi : P.info? e = some i) (hz : i.zero = some z) (hzs : z.cells.size = i.size) (hb : i.bytes ≠ 0) (hv : appendOf imm e i.size i.bytes s x h = some (v, h')) (hs : VRel G s cs) (hx : VRel G x cx) :
    DoesV K P G h w (Builtin.append_ #[t, t'] ty #[cs, cx]) v h' := by
  unfold appendOf at hv
  split at hv
  · cases hv
  · next xs hxs =>
    obtain ⟨us, r1, r2, r3, r4⟩ := elems_rel (P := P) m hxs hx
    have hul : us.length = xs.length * i.size := by rw [← r1.len, flatten_length r2]
    have r5 : ∀ w2 : World, w2.heap = w.heap → (Builtin.firstCells i.size xs.length cx).run P w2 = .ok us.toArray w2 := by
      intro w2 hw2
      have := r4 w2 hw2 xs.length (Nat.le_refl _)
      rwa [← hul, List.take_length] at this
    have m' : Mem K G h w.drew := (Evolve.drew' m).mem
    -- a new row
    have fresh : ∀ {base : Option Addr} {sLen sCap : Nat} {es : List (List AV)} {ous : List Value}, cs = .slice base sLen sCap → es.length = sLen → (∀ x ∈ es, x.length = i.size) → CsRel G es.flatten ous →
        (Builtin.firstCells i.size sLen cs).run P w.drew = .ok ous.toArray w.drew → sCap < sLen + xs.length → (sLen + xs.length) * i.bytes ≤ maxBytes →
        ∃ cap, sLen + xs.length ≤ cap ∧ ∃ c, (Builtin.append_ #[t, t'] ty #[cs, cx]).run P w = .ok (.slice (some ⟨w.drew.heap.size, 0, none⟩) (sLen + xs.length) cap) (w.drew.alloc (.cells c e)) ∧
          c.size = cap * i.size ∧ CsRel G (es ++ xs).flatten (c.toList.take ((es ++ xs).length * i.size)) := by
      intro base sLen sCap es ous h1 h2 h3 h4 h5 h6 h7
      obtain ⟨cap, c1, c2⟩ := run_append_away (P := P) (w := w) (ty := ty) ht ht' hd' hi hz hb h1 r3 (r5 w.drew rfl) h5 h6 h7
      have hol : ous.length = sLen * i.size := by rw [← h4.len, flatten_length h3, h2]
      refine ⟨cap, c1, _, c2, ?_, ?_⟩
      · have : (cap - (sLen + xs.length)) * i.size = cap * i.size - (sLen + xs.length) * i.size := Nat.sub_mul ..
        have hm : (sLen + xs.length) * i.size ≤ cap * i.size := Nat.mul_le_mul_right _ c1
        rw [Nat.add_mul] at this hm
        simp only [Array.size_append, List.size_toArray, zeroCells_size, hzs, hol, hul, this]
        omega
      · have e1 : (ous.toArray ++ us.toArray ++ Builtin.zeroCells z.cells (cap - (sLen + xs.length))).toList.take ((es ++ xs).length * i.size) = ous ++ us := by
          simp only [Array.toList_append, List.length_append, h2, Nat.add_mul]
          exact List.take_left' (by simp [hol, hul])
        rw [e1, List.flatten_append]
        exact h4.append r1
    -- nothing to append
    have none' : ∀ {base : Option Addr} {sLen sCap : Nat}, cs = .slice base sLen sCap → sLen ≤ sCap → xs.length = 0 → (Builtin.append_ #[t, t'] ty #[cs, cx]).run P w = .ok cs w := by
      intro base sLen sCap h1 h2 h3
      have hus : us = [] := List.eq_nil_of_length_eq_zero (by rw [hul, h3]; simp)
      have := run_append_here (P := P) (w := w) (ty := ty) (w' := w) ht ht' hd' hi h1 r3 (r5 w rfl) (by omega) (by subst hus; cases base <;> rfl)
      rw [this, h1, h3]; rfl
    split at hv
    · -- a nil slice
      cases hs
      split at hv
      · next h0 => cases hv; exact .same m (none' rfl (Nat.le_refl 0) h0) .nilSlice
      · next h0 =>
        split at hv
        · next hb' =>
          obtain ⟨rfl, rfl⟩ : v = (newArr imm e i.size false xs h).1 ∧ h' = (newArr imm e i.size false xs h).2 := by rw [Option.some.inj hv]; exact ⟨rfl, rfl⟩
          obtain ⟨cap, c1, c, c2, c3, c4⟩ := fresh (es := []) (ous := []) rfl rfl (by simp) (CsRel.nil G) (by simp [Builtin.firstCells]) (by omega) (by simpa using hb')
          simp only [Nat.zero_add, List.nil_append] at c1 c2 c4
          obtain ⟨G', ev, r⟩ := newArr_rel m' (imm := imm) (ex := false) (ty := e) r2 c3 c1 (by simp) c4
          exact ⟨_, G', _, c2, (Evolve.drew' m).trans ev, r⟩
        · cases hv
    · -- a list
      next z' ex es =>
      split at hv
      · next h0 =>
        cases hv
        rcases list_inv hs with ⟨cb, off, cap, l, h1, h2, h3, h4, h5, h6, rfl⟩ | ⟨_, rfl, a, cap, ha, rfl⟩
        · exact .same m (none' rfl h5 h0) hs
        · exact .same m (none' rfl (Nat.zero_le _) h0) hs
      · next h0 =>
        split at hv
        · next hc =>
          obtain ⟨rfl, hc2, rfl⟩ := hc
          obtain ⟨rfl, rfl⟩ : v = (newArr imm e i.size false (es ++ xs) h).1 ∧ h' = (newArr imm e i.size false (es ++ xs) h).2 := by rw [Option.some.inj hv]; exact ⟨rfl, rfl⟩
          rcases list_inv hs with ⟨cb, off, cap, l, h1, h2, h3, h4, h5, h6, rfl⟩ | ⟨hf, _⟩
          · have hcap := h6 rfl
            obtain ⟨⟨c, tt, fz, h7, h8⟩, _⟩ := m.imm cb l h1
            obtain ⟨cap', c1, c', c2, c3, c4⟩ := fresh (es := es) rfl rfl h2 h4 (by
              simp only [Builtin.firstCells]
              rw [run_loadCells_at (w := w.drew) h7 (by rw [← h8] at h3; simpa using h3), h8]) (by omega) hc2
            obtain ⟨G', ev, r⟩ := newArr_rel m' (imm := imm) (ex := false) (ty := e) (flatten_append_len h2 r2) c3 (by rw [List.length_append]; exact c1) (by simp) c4
            rw [List.length_append] at r
            exact ⟨_, G', _, c2, (Evolve.drew' m).trans ev, r⟩
          · cases hf
        · cases hv
    · -- a slice
      next id z' off len cap =>
      split at hv
      · next ty' esz' froz mk es he =>
        split at hv
        · next hc =>
          obtain ⟨hc1, hc2, hc3, hc4, hc5, hc6⟩ := hc
          have hc6 := hc6.symm
          subst hc3 hc4 hc6
          obtain ⟨cb, base, cap', n, h1, h2, h3, h4, h5, rfl⟩ := slice_inv hs
          obtain ⟨cb', base', c, fz, a1, a2, a3, a4, a5, a6, a7⟩ := m.arr he
          rw [hc1, h1] at a1; cases a1
          rw [h2] at a2; cases a2
          have hmul0 : (off + len) * i.size ≤ es.length * i.size := Nat.mul_le_mul_right _ (by omega)
          have hmulf : froz * i.size ≤ (off + len) * i.size := Nat.mul_le_mul_right _ hc5
          have hmul : (off + len) * i.size = off * i.size + len * i.size := Nat.add_mul ..
          have hmulx : (off + (len + xs.length)) * i.size = off * i.size + len * i.size + xs.length * i.size := by rw [← Nat.add_assoc, Nat.add_mul, Nat.add_mul]
          have hsub : ∀ x ∈ (es.drop off).take len, x.length = i.size := fun x hx => a7 x (List.mem_of_mem_drop (List.mem_of_mem_take hx))
          have hlen : ((es.drop off).take len).length = len := by simp; omega
          have hfl : ((es.drop off).take len).flatten = (es.flatten.drop (off * i.size)).take (len * i.size) := by
            rw [flatten_take (fun x hx => a7 x (List.mem_of_mem_drop hx)), flatten_drop a7]
          have hxfl := flatten_length r2
          -- in the row's own block
          have here : len + xs.length ≤ cap' → (Builtin.append_ #[t, t'] ty #[.slice (some ⟨cb, base + off * i.size, none⟩) len cap', cx]).run P w =
              .ok (.slice (some ⟨cb, base + off * i.size, none⟩) (len + xs.length) cap') (w.upd cb (.cells (splice c.toList (base + (off + len) * i.size) us).toArray e fz)) := by
            intro hroom
            refine run_append_here (P := P) (w := w) (ty := ty) ht ht' hd' hi rfl r3 (r5 w rfl) hroom ?_
            simp only [addr_add]
            have hm2 : (off + (len + xs.length)) * i.size ≤ (off + cap') * i.size := Nat.mul_le_mul_right _ (by omega)
            have := run_storeCells_at (P := P) (cb := cb) (off := base + off * i.size + len * i.size) us 0 c w a3 (by rw [hul]; omega) (by rcases a6 with a6 | a6 | a6 <;> omega) r1.one
            rw [show base + (off + len) * i.size = base + off * i.size + len * i.size by omega]
            simpa using this
          split at hv
          · -- over cells that there are
            next hroom =>
            have hx2 : off + len + xs.length ≤ es.length := by omega
            have hm3 : (off + len) * i.size + xs.flatten.length ≤ es.length * i.size := by
              rw [hxfl, ← Nat.add_mul]; exact Nat.mul_le_mul_right _ hx2
            have hell : ∀ x ∈ splice es (off + len) xs, x.length = i.size := by
              intro y hy
              unfold splice at hy
              rcases List.mem_append.1 hy with hy | hy
              · rcases List.mem_append.1 hy with hy | hy
                · exact a7 y (List.mem_of_mem_take hy)
                · exact r2 y hy
              · exact a7 y (List.mem_of_mem_drop hy)
            have ev := Evolve.arrSet (es' := splice es (off + len) xs) m he (by rw [hc1]; exact h1) a3 r1 hm3 (splice_flatten a7 r2) (splice_length hx2) hell
            have hvr : VRel G (.slice id i.size off (len + xs.length) cap) (.slice (some ⟨cb, base + off * i.size, none⟩) (len + xs.length) cap') := .slice h1 h2 h3 h4 rfl hroom
            cases imm with
            | false => cases hv; exact ⟨_, G, _, here (by omega), ev, hvr⟩
            | true =>
              simp only [cond_true] at hv
              obtain ⟨G', ev', r'⟩ := freeze1_rel ev.mem hv hvr
              exact ⟨_, G', _, here (by omega), ev.trans ev', r'⟩
          · next hroom =>
            split at hv
            · next hbytes =>
              obtain ⟨hbytes, rfl⟩ := hbytes
              have hesl : (es.take len ++ xs).length = len + xs.length := by simp; omega
              have hell : ∀ x ∈ es.take len ++ xs, x.length = i.size := flatten_append_len (fun x hx => a7 x (List.mem_of_mem_take hx)) r2
              simp only [Nat.zero_add, Nat.zero_mul, List.drop_zero, Nat.add_zero] at *
              have main : ∃ G' w' cap2, (Builtin.append_ #[t, t'] ty #[.slice (some ⟨cb, base, none⟩) len cap', cx]).run P w = .ok (.slice (some ⟨if len + xs.length ≤ cap' then cb else w.heap.size, if len + xs.length ≤ cap' then base else 0, none⟩) (len + xs.length) cap2) w' ∧
                  Evolve K G h w G' (hset h id (some (.arr e i.size froz mk (es.take len ++ xs)))) w' ∧
                  VRel G' (.slice id i.size 0 (len + xs.length) (len + xs.length)) (.slice (some ⟨if len + xs.length ≤ cap' then cb else w.heap.size, if len + xs.length ≤ cap' then base else 0, none⟩) (len + xs.length) cap2) := by
                by_cases hr : len + xs.length ≤ cap'
                · have ev := Evolve.growHere (es' := es.take len ++ xs) (off := 0) (n := len) (us := us) (xs := xs.flatten) m he (by rw [hc1]; exact h1) a3 (by omega) r1 (Nat.zero_le _) hell (by rw [hxfl, hesl, Nat.add_mul]) (by omega)
                    (by simp only [Nat.zero_mul, List.drop_zero]; rw [List.flatten_append, flatten_take a7]) (by
                      have hm2 : (len + xs.length) * i.size ≤ cap' * i.size := Nat.mul_le_mul_right _ hr
                      rw [Nat.add_mul] at hm2
                      simp only [Nat.zero_add]; omega)
                  simp only [Nat.zero_add, Nat.zero_mul, Nat.add_zero, Nat.sub_zero] at ev
                  refine ⟨_, _, cap', by simp only [hr, if_true]; exact here hr, ev, ?_⟩
                  simp only [hr, if_true]
                  exact .slice (by rw [Nat.zero_add, ← hesl]; exact Ghost.row_τ) (Ghost.row_sz (x := (cb, base, i.size))) hr (by simpa using h4) (by simp) (Nat.le_refl _)
                · have hold : CsRel G (es.take len).flatten ((c.toList.drop base).take (len * i.size)) := by
                    have := a5.take (len * i.size)
                    rw [List.take_take, Nat.min_eq_left (by omega)] at this
                    rwa [flatten_take a7]
                  obtain ⟨cap2, c1, c', c2, c3, c4⟩ := fresh (es := es.take len) rfl (by simp; omega) (fun x hx => a7 x (List.mem_of_mem_take hx)) hold (by
                    simp only [Builtin.firstCells]
                    rw [run_loadCells_at (w := w.drew) a3 (by omega)]) (by omega) hbytes
                  have ev := Evolve.grow (es := es.take len ++ xs) (ty := e) (esz := i.size) (c := c') (froz := froz) (n := 0) (mk := mk) m' he (fun s x hx => by
                    have := m.top id _ _ _ _ _ he s x hx; omega) froz (mk' := mk) hell (by rw [c3, hesl]; exact Nat.mul_le_mul_right _ c1) c4
                  refine ⟨_, _, cap2, by simp only [hr, if_false]; exact c2, (Evolve.drew' m).trans ev, ?_⟩
                  simp only [hr, if_false]
                  exact .slice (by rw [Nat.zero_add, ← hesl]; exact Ghost.row_τ) (Ghost.row_sz (x := (w.drew.heap.size, 0, i.size))) c1 (by simp [c3]) (by simp) (Nat.le_refl _)
              obtain ⟨G', w', cap2, q1, q2, q3⟩ := main
              cases imm with
              | false => cases hv; exact ⟨_, G', _, q1, q2, q3⟩
              | true =>
                simp only [cond_true] at hv
                obtain ⟨G'', ev', r'⟩ := freeze1_rel q2.mem hv q3
                exact ⟨_, G'', _, q1, q2.trans ev', r'⟩
            · cases hv
        · cases hv
      · cases hv
    · cases hv

end
end Go.Proofs.YtjbkcboklccmeaaGreatDoor.Abs
/-
  Values out of parts; new rows of zeros; copy.
-/
namespace Go.Proofs.YtjbkcboklccmeaaGreatDoor.Abs

section
variable {K : Reads} {P : Program} {G : Ghost} {h : Heap} {w : World}

theorem foldl_splice : ∀ (us : List Value) (k off : Nat) (c : Array Value), off + k + us.length ≤ c.size →
    ((us.zipIdx k).foldl (fun (cs : Array Value) (x : Value × Nat) => cs.setIfInBounds (off + x.2) x.1) c).toList = splice c.toList (off + k) us
  | [], k, off, c, h => by simp [splice]
  | u :: us, k, off, c, h => by
    simp only [List.length_cons] at h
    simp only [List.zipIdx_cons, List.foldl_cons]
    rw [foldl_splice us (k + 1) off _ (by simp; omega), Array.toList_setIfInBounds, ← Nat.add_assoc, splice_step _ _ _ _ (by simp; omega)]

theorem fill_step {place : Nat → Option (Nat × Nat)} {c : Array Value} {i off n : Nat} {v : Value} {rest : List (Nat × Value)} (hp : place i = some (off, n)) (hn : v.cells.size = n) (hl : off + n ≤ c.size) :
    Instr.fill place c ((i, v) :: rest) = Instr.fill place (splice c.toList off v.cells.toList).toArray rest := by
  have hfold := foldl_splice v.cells.toList 0 off c (by simp; omega)
  simp only [Instr.fill, hp]
  rw [if_neg (by simp; omega)]
  congr 1
  apply Array.ext'
  rw [← Array.foldl_toList, Array.toList_zipIdx]
  exact hfold

/-- Parts and what they are read aS. -/
inductive PartsRel (G : Ghost) (place : Nat → Option (Nat × Nat)) : List (Nat × Value) → List (Nat × Nat × AV) → Prop
  | nil : PartsRel G place [] []
  | cons {i off n : Nat} {v : Value} {a : AV} {ps : List (Nat × Value)} {aS : List (Nat × Nat × AV)} (h : place i = some (off, n)) (hv : VRel G a v) (hs : PartsRel G place ps aS) : PartsRel G place ((i, v) :: ps) ((off, n, a) :: aS)

theorem fill_rel {place : Nat → Option (Nat × Nat)} {ps : List (Nat × Value)} {aS : List (Nat × Nat × AV)} (hp : PartsRel G place ps aS) : ∀ {cs cs' : List AV} {c : Array Value}, CsRel G cs c.toList → fillParts cs aS = some cs' →
    ∃ c', Instr.fill place c ps = some c' ∧ CsRel G cs' c'.toList := by
  induction hp with
  | nil => intro cs cs' c hc hf; cases hf; exact ⟨c, rfl, hc⟩
  | @cons i off n v a ps aS h hv hs ih =>
    intro cs cs' c hc hf
    simp only [fillParts] at hf
    split at hf
    · next xs hxs =>
      split at hf
      · next hn =>
        have hx := hv.cells hxs
        have hlen := hc.len
        have hxl := hx.len
        have hs' : v.cells.size = n := by rw [← hn.1, hxl]; rfl
        obtain ⟨c', h1, h2⟩ := ih (c := (splice c.toList off v.cells.toList).toArray) (hc.splice hx off) hf
        exact ⟨c', by rw [fill_step h hs' (by rw [hlen] at hn; simpa using hn.2)]; exact h1, h2⟩
      · cases hf
    · cases hf

inductive ElemsRel (G : Ghost) : List (Nat × Value) → List (Nat × AV) → Prop
  | nil : ElemsRel G [] []
  | cons {i : Nat} {v : Value} {a : AV} {ps : List (Nat × Value)} {aS : List (Nat × AV)} (hv : VRel G a v) (hs : ElemsRel G ps aS) : ElemsRel G ((i, v) :: ps) ((i, a) :: aS)

theorem fillElems_rel {esz : Nat} {ps : List (Nat × Value)} {aS : List (Nat × AV)} (hp : ElemsRel G ps aS) : ∀ {es es' : List (List AV)} {c : Array Value}, CsRel G es.flatten c.toList → (∀ e ∈ es, e.length = esz) → fillElems esz es aS = some es' →
    ∃ c', Instr.fill (fun i => some (i * esz, esz)) c ps = some c' ∧ CsRel G es'.flatten c'.toList ∧ (∀ e ∈ es', e.length = esz) ∧ es'.length = es.length := by
  induction hp with
  | nil => intro es es' c hc he hf; cases hf; exact ⟨c, rfl, hc, he, rfl⟩
  | @cons i v a ps aS hv hs ih =>
    intro es es' c hc he hf
    simp only [fillElems] at hf
    split at hf
    · next xs hxs =>
      split at hf
      · next hn =>
        obtain ⟨hn1, hn2⟩ := hn
        have hx := hv.cells hxs
        have hlen := hc.len
        have hxl := hx.len
        have hs' : v.cells.size = esz := by rw [← hn1, hxl]; rfl
        have hei : es[i]? = some es[i] := List.getElem?_eq_getElem hn2
        have heil := he es[i] (List.getElem_mem hn2)
        have hset := set_flatten (off := 0) (xs := xs) he hei (by omega)
        rw [splice_zero _ _ (by omega), Nat.add_zero] at hset
        have hmul : i * esz + esz ≤ es.length * esz := by
          have := Nat.mul_le_mul_right esz (show i + 1 ≤ es.length by omega)
          rwa [Nat.succ_mul] at this
        rw [flatten_length he] at hlen
        obtain ⟨c', h1, h2, h3, h4⟩ := ih (es := es.set i xs) (c := (splice c.toList (i * esz) v.cells.toList).toArray) (by rw [hset]; exact hc.splice hx _) (by
          intro e hee
          rcases List.mem_or_eq_of_mem_set hee with hee | rfl
          · exact he e hee
          · exact hn1) hf
        refine ⟨c', ?_, h2, h3, by simpa using h4⟩
        rw [fill_step rfl hs' (by simp at hlen; omega)]; exact h1
      · cases hf
    · cases hf

theorem madeCells_flatten (z : Array Value) (n : Nat) : (madeCells z (n * z.size)).toList = (List.replicate n z.toList).flatten := by
  induction n with
  | zero => simp [madeCells]
  | succ n ih =>
    have h1 : (madeCells z ((n + 1) * z.size)).toList = (madeCells z (n * z.size)).toList ++ z.toList := by
      simp only [madeCells, Array.toList_map, Array.toList_range, Nat.succ_mul, List.range_add, List.map_append, List.map_map]
      congr 1
      apply List.ext_getElem?
      intro j
      simp only [List.getElem?_map, List.getElem?_range]
      by_cases hj : j < z.size
      · have hm : (n * z.size + j) % z.size = j := by rw [Nat.mul_comm, Nat.mul_add_mod, Nat.mod_eq_of_lt hj]
        simp [hj, hm]
      · simp [hj]
    rw [h1, ih, List.replicate_succ', List.flatten_append]
    simp

theorem CsRel.replicate {cs : List AV} {vs : List Value} (hc : CsRel G cs vs) (n : Nat) : CsRel G (List.replicate n cs).flatten (List.replicate n vs).flatten := by
  induction n with
  | zero => exact CsRel.nil G
  | succ n ih =>
    simp only [List.replicate_succ, List.flatten_cons]
    exact hc.append ih

theorem makeSlice_rel (m : Mem K G h w) {t e : TypeId} {i : TypeInfo} {z : Value} {zero : List AV} {l n : Int} {kl kc : IntKind} (ht : P.underlying t = some (.slice e)) (hi : P.info? e = some i) (hz : i.zero = some z) (hzs : z.cells.size = i.size)
    (hzr : CsRel G zero z.cells.toList) (h0 : 0 ≤ l) (hln : l ≤ n) (hb : n * i.bytes ≤ maxBytes) (hn63 : n ≤ 9223372036854775807) :
    DoesV K P G h w (Instr.makeSlice t (.int kl l) (.int kc n)) (.slice h.length i.size 0 l.toNat n.toNat) (h ++ [some (.arr e i.size 0 false (List.replicate n.toNat zero))]) := by
  have hmb : (i.bytes : Int) * n = n * i.bytes := Int.mul_comm _ _
  have hmb2 : (maxBytes : Int) = 140737488355328 := rfl
  have hrun := run_make (P := P) w t e i z ht hi hz kl kc l n h0 hln (by omega) hn63
  have hzl : zero.length = i.size := by rw [hzr.len, ← hzs]; rfl
  have hel : ∀ x ∈ List.replicate n.toNat zero, x.length = i.size := fun x hx => by rw [List.eq_of_mem_replicate hx, hzl]
  have hmade : (madeCells z.cells (n.toNat * i.size)).toList = (List.replicate n.toNat z.cells.toList).flatten := by rw [← hzs]; exact madeCells_flatten _ _
  have hsz : (madeCells z.cells (n.toNat * i.size)).size = n.toNat * i.size := size_madeCells _ _
  obtain ⟨G', ev, r⟩ := newArr_rel m (imm := false) (ex := false) (ty := e) (cap := n.toNat) (es := List.replicate n.toNat zero) (c := madeCells z.cells (n.toNat * i.size)) hel hsz (by simp) (by simp) (by
    rw [hmade, List.take_of_length_le (by
      rw [flatten_length (n := i.size) (fun x hx => by rw [List.eq_of_mem_replicate hx, ← hzs]; rfl)]; simp)]
    exact hzr.replicate _)
  simp only [newArr, cond_false, List.length_replicate] at ev r
  refine ⟨_, G', _, hrun, ev, ?_⟩
  obtain ⟨cb, base, cap', k, q1, q2, q3, q4, q5, q6⟩ := slice_inv r
  simp only [Value.slice.injEq, Option.some.injEq, Addr.mk.injEq, and_true] at q6
  obtain ⟨⟨rfl, q7⟩, _, q8⟩ := q6
  exact .slice q1 q2 (Nat.le_refl _) (by rw [q8]; exact q4) q7 (by omega)

theorem buildSlice_rel (m : Mem K G h w) {imm : Bool} {t e : TypeId} {i : TypeInfo} {z : Value} {zero : List AV} {len : Nat} {ps : List (Nat × Value)} {aS : List (Nat × AV)} {es : List (List AV)} (ht : P.underlying t = some (.slice e)) (hi : P.info? e = some i)
    (hz : i.zero = some z) (hzs : z.cells.size = i.size) (hzr : CsRel G zero z.cells.toList) (hs0 : i.size ≠ 0) (hbig : len * i.size ≤ 2 ^ 24) (hp : ElemsRel G ps aS) (hf : fillElems i.size (List.replicate len zero) aS = some es) :
    DoesV K P G h w (Instr.buildSlice t len ps.toArray) (newArr imm e i.size true es h).1 (newArr imm e i.size true es h).2 := by
  have hzl : zero.length = i.size := by rw [hzr.len, ← hzs]; rfl
  have hel : ∀ x ∈ List.replicate len zero, x.length = i.size := fun x hx => by rw [List.eq_of_mem_replicate hx, hzl]
  have hmade : (madeCells z.cells (len * i.size)).toList = (List.replicate len z.cells.toList).flatten := by rw [← hzs]; exact madeCells_flatten _ _
  have hsz : (madeCells z.cells (len * i.size)).size = len * i.size := size_madeCells _ _
  obtain ⟨c', h1, h2, h3, h4⟩ := fillElems_rel (c := madeCells z.cells (len * i.size)) hp (by rw [hmade]; exact hzr.replicate _) hel hf
  have h4' : es.length = len := by simpa using h4
  have hcs : c'.size = len * i.size := by
    have := h2.len
    rw [flatten_length h3, h4'] at this
    simpa using this.symm
  obtain ⟨G', ev, r⟩ := newArr_rel m (imm := imm) (ex := true) (ty := e) (cap := len) h3 hcs (by omega) (by intro _; omega) (by
    rw [h4', List.take_of_length_le (by simp [hcs])]; exact h2)
  rw [h4'] at r
  refine ⟨_, G', _, ?_, ev, r⟩
  have hbig' : ¬ len * i.size > 2 ^ 24 := by omega
  by_cases hl0 : len * i.size = 0
  · have hl : len = 0 := by
      rcases Nat.mul_eq_zero.1 hl0 with hl | hl
      · exact hl
      · exact absurd hl hs0
    subst hl
    have hmz : madeCells z.cells (0 * i.size) = #[] := by simp [madeCells]
    rw [hmz] at h1
    have e0 : (Array.map (fun _ => (default : Value)) (Array.range 0)) = #[] := by simp
    simp [Instr.buildSlice, run_underlying' ht, run_sizeOf' hi, newRow, e0]
    rw [h1]
    simp
  · have h1' : Instr.fill (fun i_1 => some (i_1 * i.size, i.size)) (Array.map (fun x => z.cells[x % z.cells.size]!) (Array.range (len * i.size))) ps = some c' := h1
    simp only [Instr.buildSlice, Sem.run_bind, run_underlying' ht, Result.andThen_ok, run_sizeOf' hi, hbig', if_false, hl0, run_zeroValue' hi hz, Sem.run_pure, h1', newRow, run_newObj]
    rfl

theorem copy_rel (m : Mem K G h w) {t t' ty e : TypeId} {i : TypeInfo} {dst src v : AV} {cd cs : Value} {h' : Heap} (ht : P.underlying t = some (.slice e)) (hi : P.info? e = some i)
    (hv : copyOf i.size dst src h = some (v, h')) (hd : VRel G dst cd) (hs : VRel G src cs) : DoesV K P G h w (Builtin.copy_ #[t, t'] ty #[cd, cs]) v h' := by
  unfold copyOf at hv
  split at hv
  · cases hv
  · next xs hxs =>
    obtain ⟨us, r1, r2, r3, r4⟩ := elems_rel (P := P) m hxs hs
    have hul : us.length = xs.length * i.size := by rw [← r1.len, flatten_length r2]
    have hrun : ∀ {base : Option Addr} {dLen cap : Nat} {w' : World}, cd = .slice base dLen cap →
        (match base with | some a => storeCells a (us.take (Nat.min xs.length dLen * i.size)) | none => pure () : Sem Unit).run P w = .ok () w' →
        (Builtin.copy_ #[t, t'] ty #[cd, cs]).run P w = .ok (.int .i64 (Nat.min xs.length dLen : Nat)) w' := by
      intro base dLen cap w' h1 h2
      subst h1
      have h3 := r4 w rfl (Nat.min xs.length dLen) (Nat.min_le_left _ _)
      unfold Builtin.copy_
      cases base with
      | none =>
        cases h2
        simp only [List.getElem?_toArray, List.getElem?_cons_zero, List.getElem?_cons_succ, Sem.run_bind, run_underlying' ht, Result.andThen_ok, r3, run_sizeOf' hi, h3, Sem.run_pure, goInt]
      | some a =>
        simp only at h2
        simp only [List.getElem?_toArray, List.getElem?_cons_zero, List.getElem?_cons_succ, Sem.run_bind, run_underlying' ht, Result.andThen_ok, r3, run_sizeOf' hi, h3, Sem.run_pure, goInt, h2]
    split at hv
    · cases hv; cases hd
      exact .same m (hrun rfl (by simp)) (by simpa using VRel.int .i64 0)
    · cases hv
      rcases list_inv hd with ⟨cb, off, cap, l, h1, h2, h3, h4, h5, h6, rfl⟩ | ⟨_, _, a, cap, ha, rfl⟩
      · have := hrun (w' := w) rfl (by simp [storeCells])
        simp only [List.length_nil, Nat.min_zero] at this
        exact .same m this (.int _ _)
      · have := hrun (w' := w) rfl (by simp [storeCells])
        simp only [Nat.min_zero] at this
        exact .same m this (.int _ _)
    · next id z' off len cap =>
      split at hv
      · next ty' esz' froz mk es he =>
        split at hv
        · next hc =>
          obtain ⟨hc1, hc2, hc3, hc4, hc5⟩ := hc
          subst hc4 hc5
          cases hv
          obtain ⟨cb, base, cap', n, h1, h2, h3, h4, h5, rfl⟩ := slice_inv hd
          obtain ⟨cb', base', c, fz, a1, a2, a3, a4, a5, a6, a7⟩ := m.arr he
          rw [hc1, h1] at a1; cases a1
          have hmin : Nat.min xs.length len = (xs.take len).length := by simp [Nat.min_comm]
          have htk : (xs.take len).flatten = xs.flatten.take (len * i.size) := flatten_take r2 _
          have hr : CsRel G (xs.take len).flatten (us.take (Nat.min xs.length len * i.size)) := by
            rw [hmin]
            have := r1.take ((xs.take len).length * i.size)
            have e1 : (xs.take len).flatten = xs.flatten.take ((xs.take len).length * i.size) := by
              rw [← flatten_take r2]; congr 1; simp [List.take_take]
            rwa [e1]
          have hel2 : ∀ x ∈ xs.take len, x.length = i.size := fun x hx => r2 x (List.mem_of_mem_take hx)
          have hlt : off + (xs.take len).length ≤ es.length := by simp; omega
          have hfit : off * i.size + (xs.take len).flatten.length ≤ es.length * i.size := by
            rw [flatten_length hel2, ← Nat.add_mul]; exact Nat.mul_le_mul_right _ hlt
          have hmulf : froz * i.size ≤ off * i.size := Nat.mul_le_mul_right _ hc3
          have hell : ∀ x ∈ splice es off (xs.take len), x.length = i.size := by
            intro y hy
            unfold splice at hy
            rcases List.mem_append.1 hy with hy | hy
            · rcases List.mem_append.1 hy with hy | hy
              · exact a7 y (List.mem_of_mem_take hy)
              · exact hel2 y hy
            · exact a7 y (List.mem_of_mem_drop hy)
          have ev := Evolve.arrSet (es' := splice es off (xs.take len)) m he (by rw [hc1]; exact h1) a3 hr hfit (splice_flatten a7 hel2) (splice_length hlt) hell
          have hul2 := hr.len
          have hst := run_storeCells_at (P := P) (cb := cb) (off := base + off * i.size) (us.take (Nat.min xs.length len * i.size)) 0 c w a3 (by rw [← hul2]; omega) (by rcases a6 with a6 | a6 | a6 <;> omega) hr.one
          simp only [Nat.add_zero] at hst
          refine ⟨_, G, _, hrun rfl hst, ?_, .int _ _⟩
          exact ev
        · cases hv
      · cases hv
    · cases hv

end
end Go.Proofs.YtjbkcboklccmeaaGreatDoor.Abs
