/-
  Boxes, conversions, lengths, comparisons with nil, of pointers and of aggregates.
-/
import Derived.Test.YtjbkcboklccmeaaGreatDoorGc
import Derived.Laws.Small
import Derived.Laws.StructEq
import Derived.Laws.BytesString
import Derived.Lib.ConvBytes
import Derived.Lib.Builder
import Derived.Lib.UnsafeStr
import Derived.Laws.IdiomRangeMap
set_option linter.unusedVariables false
set_option linter.unusedSimpArgs false
namespace Go.Proofs.YtjbkcboklccmeaaGreatDoor.Abs

section
variable {K : Reads} {P : Program} {G : Ghost} {h : Heap} {w : World}

theorem boxH_rel (m : Mem K G h w) {t : TypeId} {v : Value} {cs : List AV} (hc : CsRel G cs v.cells.toList) :
    DoesV K P G h w (Instr.box t v) (.ptr h.length 0) (h ++ [some (.cells t cs)]) := by
  have hle : G.le (G.addσ h.length w.heap.size) := Ghost.le_addσ (m.fresh _ (Nat.le_refl _)).1
  obtain ⟨ev, hs⟩ := Evolve.alloc m (.cells t cs) (.cells v.cells t (0, 0)) rfl ⟨Nat.le_refl _, hc.mono hle, rfl⟩
  exact ⟨.pointer (some ⟨w.heap.size, 0, none⟩), _, _, by simp [Instr.box, newVar, newRow], ev, .ptr hs⟩

theorem allocH_rel (m : Mem K G h w) {t : TypeId} {i : TypeInfo} {z : Value} {cs : List AV} (hi : P.info? t = some i) (hz : i.zero = some z) (hc : CsRel G cs z.cells.toList) (old : Value) :
    DoesV K P G h w (Instr.alloc t true old) (.ptr h.length 0) (h ++ [some (.cells t cs)]) := by
  have hle : G.le (G.addσ h.length w.heap.size) := Ghost.le_addσ (m.fresh _ (Nat.le_refl _)).1
  obtain ⟨ev, hs⟩ := Evolve.alloc m (.cells t cs) (.cells z.cells t (0, 0)) rfl ⟨Nat.le_refl _, hc.mono hle, rfl⟩
  exact ⟨.pointer (some ⟨w.heap.size, 0, none⟩), _, _, by simp [Instr.alloc, run_zeroValue' hi hz, newVar, newRow], ev, .ptr hs⟩

/-- Boxes of local variables: a block that stands for nothing. -/
theorem run_boxL {t : TypeId} {v : Value} : (Instr.box t v).run P w = .ok (.pointer (some ⟨w.heap.size, 0, none⟩)) (w.alloc (.cells v.cells t (0, 0))) := by
  simp [Instr.box, newVar, newRow]
theorem run_allocL {t : TypeId} {i : TypeInfo} {z : Value} (hi : P.info? t = some i) (hz : i.zero = some z) (old : Value) :
    (Instr.alloc t true old).run P w = .ok (.pointer (some ⟨w.heap.size, 0, none⟩)) (w.alloc (.cells z.cells t (0, 0))) := by
  simp [Instr.alloc, run_zeroValue' hi hz, newVar, newRow]

theorem build_rel {t : TypeId} {ps : List (Nat × Value)} {aS : List (Nat × Nat × AV)} {zero cs : List AV} {z : Value} {place : Nat → Option (Nat × Nat)} 
    (hb : ∀ q c, Instr.fill place z.cells q = some c → P.built t q = some c)
    (hzr : CsRel G zero z.cells.toList) (hp : PartsRel G place ps aS) (hf : fillParts zero aS = some cs) :
    ∃ cv, (Instr.build t ps.toArray).run P w = .ok cv w ∧ VRel G (.agg cs) cv := by
  obtain ⟨c', h1, h2⟩ := fill_rel hp hzr hf
  refine ⟨.agg c', run_build w t ps.toArray c' (by simpa using hb _ _ h1), ?_⟩
  exact .agg (by simpa using h2.len) (fun i a v ha hv => h2.val i a v ha (by simpa using hv)) (fun i v hv => h2.one v (List.mem_of_getElem? (by simpa using hv)))

/-! ### Texts and bytes -/

theorem bytes_flatten (s : List UInt8) : (s.map fun b => [AV.int .u8 b.toNat]).flatten = s.map fun b => .int .u8 b.toNat := by
  induction s with
  | nil => rfl
  | cons b s ih => simp [ih]

theorem bytes_cs (G : Ghost) (s : List UInt8) : CsRel G (s.map fun b => .int .u8 b.toNat) (s.map fun b => .int .u8 b.toNat) := by
  refine ⟨by simp, fun i a v ha hv => ?_, fun v hv => ?_⟩
  · simp only [List.getElem?_map, Option.map_eq_some_iff] at ha hv
    obtain ⟨b, hb, rfl⟩ := ha
    obtain ⟨b', hb', rfl⟩ := hv
    rw [hb] at hb'; cases hb'; exact .int _ _
  · simp only [List.mem_map] at hv; obtain ⟨b, _, rfl⟩ := hv; rfl

theorem strToBytes_rel (m : Mem K G h w) {src dst e : TypeId} {u : TypeDesc} {s : ByteArray} (hs : P.underlying src = some u) (hd : P.underlying dst = some (.slice e)) (he : P.underlying e = some (.int .u8)) :
    DoesV K P G h w (convert src dst (.string s)) (.slice h.length 1 0 s.data.toList.length s.data.toList.length) (h ++ [some (.arr e 1 0 true (s.data.toList.map fun b => [.int .u8 b.toNat]))]) := by
  have hrun := Lib.run_convert_string_bytes (P := P) w src dst e s hs hd he
  have hnew := Lib.bytesWorld_at_new w e s
  have hsz : (Lib.bytesCells w e s).size = grownCap w s.size 0 e := by
    have := grownCap_ge w s.size 0 e
    simp [Lib.bytesCells]; omega
  have hge : s.size ≤ grownCap w s.size 0 e := grownCap_ge w s.size 0 e
  have hll : s.data.toList.length = s.size := size_str s
  have hτ := (m.fresh h.length (Nat.le_refl _)).2
  have hrow := Evolve.rowAt (id := h.length) (cb := w.heap.size) (base := 0) (ty := e) (esz := 1) (froz := 0) (n := (Lib.bytesCells w e s).size) (mk := true) (es := s.data.toList.map fun b => [AV.int .u8 b.toNat])
    (h' := h ++ [some (.arr e 1 0 true (s.data.toList.map fun b => [AV.int .u8 b.toNat]))]) (w' := Lib.bytesWorld w e s) (obj := .cells (Lib.bytesCells w e s) e ((Lib.bytesCells w e s).size, (Lib.bytesCells w e s).size + 1)) m
    (fun j hj => by rw [hget_push, if_neg hj]) (by rw [hget_push, if_pos rfl]) (by simp) (by simp) (hτ _) (fun s x hx => by rw [hτ] at hx; cases hx) ?_ ?_ (.inl (Nat.le_refl _)) hnew ⟨_, _, _, rfl, rfl⟩
    (fun k hk => by
      obtain ⟨c, t, fz, h1, _⟩ := m.sz _ k hk
      exact absurd (Array.getElem?_eq_some_iff.1 h1).1 (Nat.lt_irrefl _)) ?_
  · refine ⟨_, _, _, hrun, hrow, ?_⟩
    have := Ghost.row_τ (G := G) (id := h.length) (len := (s.data.toList.map fun b => [AV.int .u8 b.toNat]).length) (x := (w.heap.size, 0, 1)) (n := (Lib.bytesCells w e s).size)
    rw [List.length_map] at this
    rw [List.length_map]
    have fin := VRel.slice (len := s.data.toList.length) (off := 0) (cap' := grownCap w s.size 0 e) (o := 0) (n := (Lib.bytesCells w e s).size) (base := 0) (cb := w.heap.size) (by rw [Nat.zero_add]; exact this) (Ghost.row_sz (x := (w.heap.size, 0, 1))) (by rw [hll]; exact hge) (by omega) (by simp) (Nat.le_refl _)
    rwa [show (Value.slice (some ⟨w.heap.size, 0, none⟩) s.data.toList.length (grownCap w s.size 0 e)) = .slice (some ⟨w.heap.size, 0, none⟩) s.size (grownCap w s.size 0 e) by rw [hll]] at fin
  · simp [Lib.bytesWorld, World.freeze, World.alloc, World.drew, -World.alloc_eq, -World.drew_eq]
  · intro b hb _; exact Lib.bytesWorld_at_old w e s b hb
  · refine ⟨⟨⟨w.heap.size, 0, Ghost.row_τ, Ghost.row_sz (x := (w.heap.size, 0, 1)), by simp; omega, ?_, .inr (.inr ⟨rfl, Nat.le_refl _⟩)⟩, by simp⟩, rfl⟩
    rw [bytes_flatten]
    have e1 : ((Lib.bytesCells w e s).toList.drop 0).take ((s.data.toList.map fun b => [AV.int .u8 b.toNat]).length * 1) = s.data.toList.map fun b => .int .u8 b.toNat := by
      simp [Lib.bytesCells, hll]
    rw [e1]
    exact bytes_cs _ _

theorem bytesOf_rel : ∀ {es : List (List AV)} {bs : List UInt8}, bytesOf es = some bs → es = bs.map fun b => [AV.int .u8 b.toNat]
  | [], bs, hb => by simp [bytesOf] at hb; subst hb; rfl
  | e :: es, bs, hb => by
    unfold bytesOf at hb
    split at hb
    · next he => cases he
    · next n es' he =>
      cases he
      split at hb
      · next hn =>
        split at hb
        · next bs' hbs =>
          cases hb
          rw [bytesOf_rel hbs]
          have : ((UInt8.ofNat n.toNat).toNat : Int) = n := by simp; omega
          rw [List.map_cons, this]
        · cases hb
      · cases hb
    · cases hb

theorem bytesToStr_rel (m : Mem K G h w) {src dst e : TypeId} {x v : AV} {cx : Value} (hs : P.underlying src = some (.slice e)) (he : P.underlying e = some (.int .u8)) (hd : P.underlying dst = some .string)
    (hv : strOf h x = some v) (hx : VRel G x cx) : ∃ cv, (convert src dst cx).run P w = .ok cv w ∧ VRel G v cv := by
  unfold strOf at hv
  split at hv
  · cases hv
  · next hns =>
    split at hv
    · next es hes =>
      split at hv
      · next bs hbs =>
        cases hv
        have hes' := bytesOf_rel hbs
        obtain ⟨us, r1, r2, r3, r4⟩ := elems_rel (P := P) m hes hx
        rw [hes', bytes_flatten] at r1
        have hus : us = bs.map fun b => Value.int .u8 b.toNat := by
          apply List.ext_getElem?
          intro i
          have hl : bs.length = us.length := by simpa using r1.len
          by_cases hi : i < bs.length
          · have h1 : (bs.map fun b => AV.int .u8 b.toNat)[i]? = some (.int .u8 bs[i].toNat) := by simp [hi]
            have h2 : us[i]? = some (us[i]'(by omega)) := by rw [List.getElem?_eq_getElem]
            have := r1.val i _ _ h1 h2
            rw [h2, this.int_inv]; simp [hi]
          · rw [List.getElem?_eq_none (by omega), List.getElem?_eq_none (by simpa using hi)]
        have hfold : (bs.map fun b => ((b.toNat : Nat) : Int)).foldl (fun r n => r.push (UInt8.ofNat n.toNat)) ByteArray.empty = ⟨bs.toArray⟩ := by
          have : ∀ (l : List UInt8) (r : ByteArray), (l.map fun b => ((b.toNat : Nat) : Int)).foldl (fun r n => r.push (UInt8.ofNat n.toNat)) r = ⟨r.data ++ l.toArray⟩ := by
            intro l
            induction l with
            | nil => intro r; simp
            | cons b l ih => intro r; simp only [List.map_cons, List.foldl_cons]; rw [ih]; simp [ByteArray.push]
          rw [this]; simp
        have hlen : es.length = bs.length := by rw [hes']; simp
        have hvr : VRel G (.str bs) (.string ⟨bs.toArray⟩) := VRel.str ⟨bs.toArray⟩
        have hres : ∀ base l cap, cx = .slice base l cap → (base = none → bs = []) → l = bs.length → ∃ cv, (convert src dst cx).run P w = .ok cv w ∧ VRel G (.str bs) cv := by
          rintro base l cap rfl hb rfl
          refine ⟨.string ⟨bs.toArray⟩, ?_, hvr⟩
          rw [run_convert_bytes_string w src dst e base bs.length cap hs he hd]
          cases base with
          | none => have := hb rfl; subst this; simp [Conv.bytesToString]; rfl
          | some a =>
            have h4 := r4 w rfl bs.length (by omega)
            simp only [Builtin.firstCells] at h4
            rw [run_bytesToString w a bs.length cap (bs.map fun b => ((b.toNat : Nat) : Int)) (by
              have hlc : us.length = bs.length := by rw [hus]; simp
              rw [Nat.mul_one, List.take_of_length_le (by omega), hus] at h4
              rw [h4]; simp [List.map_map]), hfold]
        cases x with
        | str s => exact absurd rfl (hns s)
        | nilSlice => cases hx; simp [elemsOf] at hes; subst hes; exact hres none 0 0 rfl (fun _ => List.eq_nil_of_length_eq_zero (by simpa using hlen.symm)) (by simpa using hlen)
        | list z ex es' =>
          simp only [elemsOf] at hes
          split at hes
          · cases hes
            rcases list_inv hx with ⟨cb, off, cap, l, h1, h2, h3, h4, h5, h6, rfl⟩ | ⟨_, rfl, a, cap, ha, rfl⟩
            · exact hres _ _ _ rfl (by simp) hlen
            · exact hres _ _ _ rfl (by simp) (by simpa using hlen)
          · cases hes
        | slice id z off len cap =>
          obtain ⟨cb, base, cap', n, h1, h2, h3, h4, h5, rfl⟩ := slice_inv hx
          simp only [elemsOf] at hes
          split at hes
          · split at hes
            · next ty esz' froz mk es0 he0 hc => cases hes; refine hres _ _ _ rfl (by simp) ?_; rw [← hlen]; simp; omega
            · cases hes
          · cases hes
        | _ => simp [elemsOf] at hes
      · cases hv
    · cases hv

end
end Go.Proofs.YtjbkcboklccmeaaGreatDoor.Abs
/-
  Comparisons: with nil, of pointers, of aggregates. Lengths; what package strings' Builder does.
-/
namespace Go.Proofs.YtjbkcboklccmeaaGreatDoor.Abs

def nkDesc (P : Program) : NK → TypeDesc → Bool
  | .ptr, .pointer e => match P.info? e with | some i => decide (i.size ≠ 0) | none => false
  | .slice, .slice _ => true
  | .map, .map .. => true
  | .func, .func .. => true
  | .iface, .interface _ => true
  | _, _ => false

def isNilConst : Operand → Bool
  | .const .nilIface => true
  | _ => false

def ckDesc : CK → TypeDesc → Bool
  | .int, .int _ => true
  | .str, .string => true
  | .bool, .bool => true
  | _, _ => false

/-- Fields that lie one after the other, one cell each, of these kinds. -/
def flatFields (P : Program) : Nat → List CK → List Field → Bool
  | _, [], [] => true
  | k, c :: l, f :: fs => decide (f.name ≠ "_") && decide (f.offset = k) && (match P.underlying f.type with | some d => ckDesc c d | none => false) && flatFields P (k + 1) l fs
  | _, _, _ => false

section
variable {K : Reads} {P : Program} {G : Ghost} {h : Heap} {w : World}

theorem eqCell_rel {c : CK} {a b : AV} {va vb : Value} {r : Bool} (hc : eqCell c a b = some r) (ha : VRel G a va) (hb : VRel G b vb) {t : TypeId} {d : TypeDesc} (ht : P.underlying t = some d) (hd : ckDesc c d = true) :
    (∀ n, (Op.equalIn (n + 1) t va vb).run P w = .ok r w) ∧ Instr.sameNow d va vb = some r ∧ (r = true → va = vb ∧ ∀ n, Instr.sameBits n va vb = true) := by
  have hbeq : ∀ s : ByteArray, (s == s) = true := fun s => by rw [beq_toListBytes]; simp
  cases c with
  | int =>
    cases d <;> simp only [ckDesc, Bool.false_eq_true] at hd
    cases a <;> try (simp [eqCell] at hc; done)
    cases b <;> try (simp [eqCell] at hc; done)
    rename_i k k1 a k' b
    simp only [eqCell] at hc
    split at hc
    · next hk =>
      subst hk; cases hc
      rw [ha.int_inv, hb.int_inv]
      refine ⟨fun n => run_equalIn_int w n t _ _ a b ht, by simp [Instr.sameNow], fun hab => ?_⟩
      have := eq_of_beq hab; subst this
      exact ⟨rfl, fun n => by cases n <;> simp [Instr.sameBits]⟩
    · cases hc
  | str =>
    cases d <;> simp only [ckDesc, Bool.false_eq_true] at hd
    cases a <;> try (simp [eqCell] at hc; done)
    cases b <;> try (simp [eqCell] at hc; done)
    rename_i a b
    simp only [eqCell] at hc
    cases hc
    obtain ⟨sa, rfl, rfl⟩ := ha.str_inv
    obtain ⟨sb, rfl, rfl⟩ := hb.str_inv
    have he : (sa.data.toList == sb.data.toList) = (sa == sb) := by
      rw [beq_toListBytes, ByteArray.toList_eq, ByteArray.toList_eq]
    refine ⟨fun n => by simp [Op.equalIn, run_underlying' ht, he], by simp [Instr.sameNow, he], fun hab => ?_⟩
    have hl := eq_of_beq hab
    have : sa = sb := ByteArray.ext (Array.ext' hl)
    subst this
    exact ⟨rfl, fun n => by cases n <;> simp [Instr.sameBits, hbeq]⟩
  | bool =>
    cases d <;> simp only [ckDesc, Bool.false_eq_true] at hd
    cases a <;> try (simp [eqCell] at hc; done)
    cases b <;> try (simp [eqCell] at hc; done)
    rename_i a b
    simp only [eqCell] at hc
    cases hc
    rw [ha.bool_inv, hb.bool_inv]
    refine ⟨fun n => by simp [Op.equalIn, run_underlying' ht], by simp [Instr.sameNow], fun hab => ?_⟩
    have := eq_of_beq hab; subst this
    exact ⟨rfl, fun n => by cases n <;> simp [Instr.sameBits]⟩

theorem ckDesc_agg {c : CK} {d : TypeDesc} (h : ckDesc c d = true) : aggD d = false := by
  cases c <;> cases d <;> simp_all [ckDesc, aggD]

theorem run_part_cell {t : TypeId} {d : TypeDesc} {cs : Array Value} {off : Nat} {v : Value} (hd : P.underlying t = some d) (ha : aggD d = false) (hv : cs[off]? = some v) : (part t cs off).run P w = .ok v w := by
  simp [part, run_isAgg' hd, ha, hv]

theorem eqCells_rel : ∀ {l : List CK} {fs : List Field} {aS bs : List AV} {xs ys : Array Value} {k : Nat} {r : Bool}, eqCells l aS bs = some r → flatFields P k l fs = true →
    VsRel G aS (xs.toList.drop k) → VsRel G bs (ys.toList.drop k) →
    (∀ n, (Op.eqFields (n + 1) xs ys fs).run P w = .ok r w) ∧ (r = true → xs.toList.drop k = ys.toList.drop k ∧ ∀ n, ((xs.toList.drop k).zip (ys.toList.drop k)).all (fun (x, y) => Instr.sameBits n x y) = true)
  | [], [], [], [], xs, ys, k, r, hc, _, ha, hb => by
    simp [eqCells] at hc; subst hc
    refine ⟨fun n => by simp [Op.eqFields], fun _ => ?_⟩
    have h1 := List.eq_nil_of_length_eq_zero ha.len.symm
    have h2 := List.eq_nil_of_length_eq_zero hb.len.symm
    rw [h1, h2]; exact ⟨rfl, fun n => rfl⟩
  | c :: l, f :: fs, a :: aS, b :: bs, xs, ys, k, r, hc, hf, ha, hb => by
    simp only [flatFields, Bool.and_eq_true, decide_eq_true_eq] at hf
    obtain ⟨⟨⟨f1, f2⟩, f3⟩, f4⟩ := hf
    split at f3
    · next d hd =>
      cases hx : xs.toList.drop k with
      | nil => rw [hx] at ha; have := ha.len; simp at this
      | cons x xr =>
        cases hy : ys.toList.drop k with
        | nil => rw [hy] at hb; have := hb.len; simp at this
        | cons y yr =>
          have hx' : xs.toList.drop (k + 1) = xr := by rw [← List.drop_drop, hx]; rfl
          have hy' : ys.toList.drop (k + 1) = yr := by rw [← List.drop_drop, hy]; rfl
          rw [hx] at ha; rw [hy] at hb
          have hxk : xs[k]? = some x := by
            have : (xs.toList.drop k)[0]? = some x := by rw [hx]; rfl
            simpa using this
          have hyk : ys[k]? = some y := by
            have : (ys.toList.drop k)[0]? = some y := by rw [hy]; rfl
            simpa using this
          simp only [eqCells] at hc
          split at hc
          · next h1 =>
            obtain ⟨q1, q2, q3⟩ := eqCell_rel (w := w) h1 ha.head hb.head hd f3
            obtain ⟨p1, p2⟩ := eqCells_rel (k := k + 1) hc f4 (by rw [hx']; exact ha.tail) (by rw [hy']; exact hb.tail)
            refine ⟨fun n => ?_, fun hr => ?_⟩
            · simp [Op.eqFields, f1, f2, run_part_cell hd (ckDesc_agg f3) hxk, run_part_cell hd (ckDesc_agg f3) hyk, q1 n, p1 n]
            · obtain ⟨e1, e2⟩ := q3 rfl
              obtain ⟨e3, e4⟩ := p2 hr
              rw [hx', hy'] at e3 e4
              refine ⟨by rw [e1, e3], fun n => ?_⟩
              simp only [List.zip_cons_cons, List.all_cons, e2 n, Bool.true_and]
              exact e4 n
          · next h1 =>
            cases hc
            obtain ⟨q1, q2, q3⟩ := eqCell_rel (w := w) h1 ha.head hb.head hd f3
            refine ⟨fun n => ?_, fun hr => by cases hr⟩
            simp [Op.eqFields, f1, f2, run_part_cell hd (ckDesc_agg f3) hxk, run_part_cell hd (ckDesc_agg f3) hyk, q1 n]
          · cases hc
    · cases f3
  | [], _ :: _, _, _, _, _, _, _, _, hf, _, _ => by simp [flatFields] at hf
  | _ :: _, [], _, _, _, _, _, _, _, hf, _, _ => by simp [flatFields] at hf
  | [], [], _ :: _, _, _, _, _, _, hc, _, _, _ => by simp [eqCells] at hc
  | [], [], [], _ :: _, _, _, _, _, hc, _, _, _ => by simp [eqCells] at hc
  | _ :: _, _ :: _, [], _, _, _, _, _, hc, _, _, _ => by simp [eqCells] at hc
  | _ :: _, _ :: _, _ :: _, [], _, _, _, _, hc, _, _, _ => by simp [eqCells] at hc

/-- What a kind of keys says of the type. -/
def kkDesc (P : Program) (t : TypeId) : KK → Bool
  | .cell c => match P.underlying t with | some d => ckDesc c d | none => false
  | .agg l => match P.underlying t with | some (.struct fs) => flatFields P 0 l fs.toList && !P.stoodInHeld t && !P.eqGuardType P.depth t | _ => false

theorem eqKey_rel {kk : KK} {a b : AV} {va vb : Value} {r : Bool} (hc : eqKey kk a b = some r) (ha : VRel G a va) (hb : VRel G b vb) {t : TypeId} (hd : kkDesc P t kk = true) :
    (∀ n, (Op.equalIn (n + 2) t va vb).run P w = .ok r w) ∧ (r = true → va = vb ∧ ∀ n, Instr.sameBits (n + 1) va vb = true) := by
  cases kk with
  | cell c =>
    simp only [kkDesc] at hd
    split at hd
    · next d ht =>
      simp only [eqKey] at hc
      obtain ⟨h1, h2, h3⟩ := eqCell_rel (w := w) hc ha hb ht hd
      exact ⟨fun n => h1 (n + 1), fun hr => ⟨(h3 hr).1, fun n => (h3 hr).2 _⟩⟩
    · cases hd
  | agg l =>
    simp only [kkDesc] at hd
    split at hd
    · next fs ht =>
      simp only [Bool.and_eq_true, Bool.not_eq_true'] at hd
      cases a <;> try (simp [eqKey] at hc; done)
      cases b <;> try (simp [eqKey] at hc; done)
      rename_i aS bs
      simp only [eqKey] at hc
      split at hc
      · obtain ⟨xs, rfl, hxs⟩ := agg_inv ha
        obtain ⟨ys, rfl, hys⟩ := agg_inv hb
        obtain ⟨h1, h2⟩ := eqCells_rel (w := w) (k := 0) hc hd.1.1 (by simpa using hxs.vs) (by simpa using hys.vs)
        have hfo : P.fieldsOf t = fs := by simp [Program.fieldsOf, ht]
        refine ⟨fun n => ?_, fun hr => ?_⟩
        · rw [run_equalIn_agg w (n + 1) t xs ys (by rw [hfo]; exact ht) hd.1.2, hfo]
          exact h1 n
        · obtain ⟨e1, e2⟩ := h2 hr
          have : xs = ys := Array.ext' (by simpa using e1)
          subst this
          refine ⟨rfl, fun n => ?_⟩
          have := e2 n
          simp only [List.drop_zero] at this
          simp [Instr.sameBits, this]
      · cases hc
    · cases hd


/-! ### The operators == and != -/

theorem run_eqAgg {neg : Bool} {l : List CK} {a b : AV} {va vb : Value} {r : Bool} (hc : eqKey (.agg l) a b = some r) (ha : VRel G a va) (hb : VRel G b vb) {t : TypeId} (hd : kkDesc P t (.agg l) = true) (x y : Operand) :
    (do eqGuard (if neg then .neq else .eql) t x y va vb; binOp (if neg then .neq else .eql) t va vb : Sem Value).run P w = .ok (.bool (neg != r)) w := by
  obtain ⟨h1, _⟩ := eqKey_rel (w := w) hc ha hb hd
  cases a <;> try (simp [eqKey] at hc; done)
  cases b <;> try (simp [eqKey] at hc; done)
  obtain ⟨xs, rfl, hxs⟩ := agg_inv ha
  obtain ⟨ys, rfl, hys⟩ := agg_inv hb
  have hg : P.eqGuardType P.depth t = false := by
    simp only [kkDesc] at hd
    split at hd
    · simp only [Bool.and_eq_true, Bool.not_eq_true'] at hd; exact hd.2
    · cases hd
  simp only [Sem.run_bind, run_eqGuard_agg w _ t x y xs ys hg, Result.andThen_ok]
  have h1' := h1 9998
  cases neg
  · simp only [Bool.false_eq_true, if_false, run_eql_struct, h1', Result.andThen_ok]; simp
  · simp only [if_true, run_neq_struct, h1', Result.andThen_ok]; simp

theorem isNilOf_rel {k : NK} {a : AV} {va : Value} {r : Bool} (ha : isNilOf k a = some r) (hv : VRel G a va) :
    match k with
    | .ptr => ∃ p, va = .pointer p ∧ p.isNone = r
    | .slice => ∃ p l c, va = .slice p l c ∧ p.isNone = r
    | .map => ∃ p, va = .map p ∧ p.isNone = r
    | .func => (va = .nilFunc ∧ r = true) ∨ (∃ f x y, va = .func f x y ∧ r = false)
    | .iface => (va = .nilIface ∧ r = true) ∨ (∃ t x, va = .iface t x ∧ r = false) := by
  cases k <;> cases a <;> simp only [isNilOf, reduceCtorEq, Option.some.injEq] at ha <;> subst ha <;> cases hv <;> simp

theorem equalNil {k : NK} {a b : AV} {va vb : Value} {r : Bool} (hc : eqNilOf k a b = some r) (ha : VRel G a va) (hb : VRel G b vb) {t : TypeId} {d : TypeDesc} (ht : P.underlying t = some d) (hd : nkDesc P k d = true) (n : Nat) :
    (Op.equalIn (n + 1) t va vb).run P w = .ok r w := by
  unfold eqNilOf at hc
  cases hia : isNilOf k a with
  | none => rw [hia] at hc; simp at hc
  | some ra =>
    cases hib : isNilOf k b with
    | none => rw [hia, hib] at hc; cases ra <;> simp at hc
    | some rb =>
      have h1 := isNilOf_rel hia ha
      have h2 := isNilOf_rel hib hb
      rw [hia, hib] at hc
      have hr : (ra = true ∧ r = rb) ∨ (ra = false ∧ rb = true ∧ r = false) := by
        cases ra <;> cases rb <;> simp_all
      cases k with
      | ptr =>
        obtain ⟨p, rfl, hp⟩ := h1
        obtain ⟨q, rfl, hq⟩ := h2
        cases d <;> simp only [nkDesc, Bool.false_eq_true] at hd
        rcases hr with ⟨rfl, rfl⟩ | ⟨rfl, rfl, rfl⟩
        · cases p <;> simp at hp
          simp only [Op.equalIn, Sem.run_bind, run_underlying' ht, Result.andThen_ok, Sem.run_pure, hq]
        · cases q <;> simp at hq
          cases p <;> simp at hp
          simp only [Op.equalIn, Sem.run_bind, run_underlying' ht, Result.andThen_ok, Sem.run_pure]
      | slice =>
        obtain ⟨p, l, c, rfl, hp⟩ := h1
        obtain ⟨q, l', c', rfl, hq⟩ := h2
        cases d <;> simp only [nkDesc, Bool.false_eq_true] at hd
        rcases hr with ⟨rfl, rfl⟩ | ⟨rfl, rfl, rfl⟩
        · cases p <;> simp at hp
          simp only [Op.equalIn, Sem.run_bind, run_underlying' ht, Result.andThen_ok, Sem.run_pure, hq]
        · cases q <;> simp at hq
          cases p <;> simp at hp
          simp only [Op.equalIn, Sem.run_bind, run_underlying' ht, Result.andThen_ok, Sem.run_pure]
      | map =>
        obtain ⟨p, rfl, hp⟩ := h1
        obtain ⟨q, rfl, hq⟩ := h2
        cases d <;> simp only [nkDesc, Bool.false_eq_true] at hd
        rcases hr with ⟨rfl, rfl⟩ | ⟨rfl, rfl, rfl⟩
        · cases p <;> simp at hp
          simp only [Op.equalIn, Sem.run_bind, run_underlying' ht, Result.andThen_ok, Sem.run_pure, hq]
        · cases q <;> simp at hq
          cases p <;> simp at hp
          simp only [Op.equalIn, Sem.run_bind, run_underlying' ht, Result.andThen_ok, Sem.run_pure]
      | func =>
        cases d <;> simp only [nkDesc, Bool.false_eq_true] at hd
        rcases h1 with ⟨rfl, rfl⟩ | ⟨f, u, v, rfl, rfl⟩ <;> rcases h2 with ⟨rfl, rfl⟩ | ⟨f', u', v', rfl, rfl⟩ <;> simp at hr <;> subst hr <;>
          simp only [Op.equalIn, Sem.run_bind, run_underlying' ht, Result.andThen_ok, Sem.run_pure]
      | iface =>
        cases d <;> simp only [nkDesc, Bool.false_eq_true] at hd
        rcases h1 with ⟨rfl, rfl⟩ | ⟨f, u, rfl, rfl⟩ <;> rcases h2 with ⟨rfl, rfl⟩ | ⟨f', u', rfl, rfl⟩ <;> simp at hr <;> subst hr <;>
          simp only [Op.equalIn, Sem.run_bind, run_underlying' ht, Result.andThen_ok, Sem.run_pure]

/-- What is no number and no text is compared by 'equal'. -/
def cmpd : Value → Bool
  | .pointer _ => true
  | .slice .. => true
  | .map _ => true
  | .nilFunc => true
  | .func .. => true
  | .nilIface => true
  | .iface .. => true
  | _ => false

theorem run_cmpd {va vb : Value} (ha : cmpd va = true) (hb : cmpd vb = true) {neg r : Bool} {t : TypeId} (he : ∀ n, (Op.equalIn (n + 1) t va vb).run P w = .ok r w) :
    (binOp (if neg then .neq else .eql) t va vb).run P w = .ok (.bool (neg != r)) w := by
  have h1 : binOp .eql t va vb = (do pure (.bool (← Op.equal t va vb))) := by
    cases va <;> simp [cmpd] at ha <;> cases vb <;> simp [cmpd] at hb <;> rfl
  have h2 : binOp .neq t va vb = (do pure (.bool (!(← Op.equal t va vb)))) := by
    cases va <;> simp [cmpd] at ha <;> cases vb <;> simp [cmpd] at hb <;> rfl
  have h3 : (Op.equal t va vb).run P w = .ok r w := he 9999
  cases neg
  · simp only [Bool.false_eq_true, if_false, h1, Sem.run_bind, h3, Result.andThen_ok, Sem.run_pure]; simp
  · simp only [if_true, h2, Sem.run_bind, h3, Result.andThen_ok, Sem.run_pure]; simp

theorem isNilOf_cmpd {k : NK} {a : AV} {va : Value} {r : Bool} (ha : isNilOf k a = some r) (hv : VRel G a va) : cmpd va = true := by
  cases k <;> cases a <;> simp only [isNilOf, reduceCtorEq] at ha <;> cases hv <;> rfl

theorem eqNilOf_some {k : NK} {a b : AV} {r : Bool} (hc : eqNilOf k a b = some r) : (∃ x, isNilOf k a = some x) ∧ ∃ y, isNilOf k b = some y := by
  unfold eqNilOf at hc
  split at hc
  · next h1 h2 => exact ⟨⟨_, h1⟩, ⟨_, h2⟩⟩
  · next h1 h2 => exact ⟨⟨_, h1⟩, ⟨_, h2⟩⟩
  · cases hc

theorem run_eqGuard_const {op : BinOp} {t : TypeId} {x y : Operand} (hxy : isNilConst x = true ∨ isNilConst y = true) : (eqGuard op t x y .nilIface .nilIface).run P w = .ok () w := by
  have hc : ∀ z : Operand, isNilConst z = true → z = .const .nilIface := by
    intro z hz; unfold isNilConst at hz; split at hz
    · rfl
    · cases hz
  rcases hxy with h | h
  · rw [hc x h]; cases op <;> simp [eqGuard]
  · rw [hc y h]; cases x <;> cases op <;> simp [eqGuard]

theorem run_eqNil {k : NK} {neg : Bool} {a b : AV} {va vb : Value} {r : Bool} (hc : eqNilOf k a b = some r) (ha : VRel G a va) (hb : VRel G b vb) {t : TypeId} {d : TypeDesc} (ht : P.underlying t = some d) (hd : nkDesc P k d = true)
    (x y : Operand) (hx : k = .iface → isNilConst x = true ∨ isNilConst y = true) :
    (do eqGuard (if neg then .neq else .eql) t x y va vb; binOp (if neg then .neq else .eql) t va vb : Sem Value).run P w = .ok (.bool (neg != r)) w := by
  obtain ⟨⟨r1, h1⟩, r2, h2⟩ := eqNilOf_some hc
  have c1 := isNilOf_cmpd h1 ha
  have c2 := isNilOf_cmpd h2 hb
  have hg : (eqGuard (if neg then .neq else .eql) t x y va vb).run P w = .ok () w := by
    by_cases hn : va = .nilIface ∧ vb = .nilIface
    · obtain ⟨rfl, rfl⟩ := hn
      refine run_eqGuard_const (hx ?_)
      have := isNilOf_rel h1 ha
      cases k <;> simp_all
    · refine run_eqGuard_plain ?_ (fun cs hcs => by subst hcs; simp [cmpd] at c1)
      by_cases h : va = .nilIface
      · exact .inr fun h' => hn ⟨h, h'⟩
      · exact .inl h
  simp only [Sem.run_bind, hg, Result.andThen_ok]
  exact run_cmpd c1 c2 (fun n => equalNil hc ha hb ht hd n)

theorem eqPtr_rel (m : Mem K G h w) {k : NK} {neg : Bool} {a b : AV} {va vb : Value} {r : Bool} (hc : eqPtr k h a b = some r) (ha : VRel G a va) (hb : VRel G b vb) {t : TypeId} {d : TypeDesc} (ht : P.underlying t = some d) (hd : nkDesc P k d = true)
    (x y : Operand) (hx : k = .iface → isNilConst x = true ∨ isNilConst y = true) :
    (do eqGuard (if neg then .neq else .eql) t x y va vb; binOp (if neg then .neq else .eql) t va vb : Sem Value).run P w = .ok (.bool (neg != r)) w := by
  unfold eqPtr at hc
  split at hc
  · next ia i ib j =>
    obtain ⟨ca, sa, rfl⟩ := ptr_inv ha
    obtain ⟨cb, sb, rfl⟩ := ptr_inv hb
    cases d <;> simp only [nkDesc, Bool.false_eq_true] at hd
    next e =>
    split at hd
    · next ie hie =>
      simp only [decide_eq_true_eq] at hd
      have hg : (eqGuard (if neg then .neq else .eql) t x y (.pointer (some ⟨ca, i, none⟩)) (.pointer (some ⟨cb, j, none⟩))).run P w = .ok () w :=
        run_eqGuard_plain (.inl (by simp)) (by simp)
      simp only [Sem.run_bind, hg, Result.andThen_ok]
      have hs : (sameAddr ⟨ca, i, none⟩ ⟨cb, j, none⟩).run P w = .ok r w := by
        split at hc
        · next hab =>
          subst hab; cases hc
          rw [sa] at sb; cases sb
          have : ((⟨ca, i, none⟩ : Addr) == ⟨ca, j, none⟩) = (i == j) := by
            by_cases hij : i = j
            · subst hij; simp
            · have h1 : ((⟨ca, i, none⟩ : Addr) == ⟨ca, j, none⟩) = false := by simpa using hij
              rw [h1]; simp [hij]
          simp [sameAddr, this]
        · next hab =>
          split at hc
          · next hcc =>
            cases hc
            simp only [Bool.and_eq_true] at hcc
            have hcell : ∀ id cb', G.σ id = some cb' → isCells h id = true → ∃ c ty fz, w.heap[cb']? = some (.cells c ty fz) ∧ fz.2 ≤ fz.1 ∧ ∃ o, hget h id = some o ∧ blk G id o = some cb' := by
              intro id cb' hs hcs
              unfold isCells at hcs
              split at hcs
              · next ty cs he =>
                obtain ⟨cb'', obj, q1, q2, q3⟩ := m.obj id _ he
                have : cb'' = cb' := by simp only [blk] at q1; rw [hs] at q1; cases q1; rfl
                subst this
                cases obj <;> simp only [OC] at q3
                exact ⟨_, _, _, q2, q3.1, _, he, q1⟩
              · cases hcs
            obtain ⟨c1, ty1, fz1, a1, a2, o1, a3, a4⟩ := hcell _ _ sa hcc.1
            obtain ⟨c2, ty2, fz2, b1, b2, o2, b3, b4⟩ := hcell _ _ sb hcc.2
            have hne : ca ≠ cb := by rintro rfl; exact hab (m.inj _ _ _ _ _ a3 b3 a4 b4)
            have f1 : ∀ o, w.frozen? ⟨ca, o, none⟩ = false := fun o => by rw [frozen_at a1]; simp only [Bool.and_eq_false_iff, decide_eq_false_iff_not]; omega
            have f2 : ∀ o, w.frozen? ⟨cb, o, none⟩ = false := fun o => by rw [frozen_at b1]; simp only [Bool.and_eq_false_iff, decide_eq_false_iff_not]; omega
            have s1 : w.shape? ca = some (ty1, c1.size) := by simp [World.shape?, a1]
            have s2 : w.shape? cb = some (ty2, c2.size) := by simp [World.shape?, b1]
            simp [sameAddr, hne, f1, f2, noView, viewAt, s1, s2, mayBeOne, stringish]
          · cases hc
      refine run_cmpd rfl rfl fun n => ?_
      simp only [Op.equalIn, Sem.run_bind, run_underlying' ht, Result.andThen_ok, run_sizeOf' hie, hd, ne_eq, not_false_eq_true, if_true, hs]
    · cases hd
  · have := run_eqNil (w := w) (neg := neg) hc ha hb ht hd x y hx
    exact this

end
end Go.Proofs.YtjbkcboklccmeaaGreatDoor.Abs
/-
  Lengths, parts of tuples, what package strings' Builder does.
-/
namespace Go.Proofs.YtjbkcboklccmeaaGreatDoor.Abs

def lkDesc : LK → TypeDesc → Bool
  | .str, .string => true
  | .slice, .slice _ => true
  | .map, .map .. => true
  | _, _ => false

section
variable {K : Reads} {P : Program} {G : Ghost} {h : Heap} {w : World}

def isRow : Obj → Bool
  | .cells .. => true
  | _ => false

theorem run_getObj {r : Nat} {o : Obj} (h : w.heap[r]? = some o) (ho : isRow o = false := by rfl) : (getObj r).run P w = .ok o w := by
  cases o <;> first | (cases ho; done) | simp [getObj, Sem.run, h]
theorem run_setObj {r : Nat} {o : Obj} (o' : Obj) (h : w.heap[r]? = some o) (ho : isRow o = false := by rfl) : (setObj r o').run P w = .ok () (w.upd r o') := by
  cases o <;> first | (cases ho; done) | (simp only [setObj, Sem.run, h]; rfl)

theorem map_inv (m : Mem K G h w) {id clock : Nat} {es : List (AV × AV × Nat)} {v : Value} (he : hget h id = some (.map es clock)) (hv : VRel G (.map id) v) :
    ∃ cb es', v = .map (some cb) ∧ G.σ id = some cb ∧ w.heap[cb]? = some (.map es' clock) ∧ MapRel G es es'.toList := by
  cases hv with | map hs =>
  obtain ⟨cb', obj, q1, q2, q3⟩ := m.obj id _ he
  simp only [blk] at q1; rw [hs] at q1; cases q1
  cases obj <;> simp only [OC] at q3
  obtain ⟨rfl, q3⟩ := q3
  exact ⟨_, _, rfl, hs, q2, q3⟩

theorem run_len (m : Mem K G h w) {k : LK} {t ty : TypeId} {ts : Array TypeId} {d : TypeDesc} {x : AV} {cx : Value} {n : Nat} (h0 : ts[0]? = some t) (ht : P.underlying t = some d) (hk : lkDesc k d = true) (hv : lenOf k h x = some n) (hx : VRel G x cx) :
    (Builtin.len_ ts ty #[cx]).run P w = .ok (.int .i64 n) w := by
  cases k <;> cases d <;> simp only [lkDesc, Bool.false_eq_true] at hk <;> cases x <;> simp only [lenOf, reduceCtorEq, Option.some.injEq] at hv
  · subst hv
    obtain ⟨s, rfl, rfl⟩ := hx.str_inv
    simp [Builtin.len_, h0, run_underlying' ht, goInt]
  · subst hv; cases hx; simp [Builtin.len_, h0, run_underlying' ht, goInt]
  · subst hv
    rcases list_inv hx with ⟨cb, off, cap, l, h1, h2, h3, h4, h5, h6, rfl⟩ | ⟨_, rfl, a, cap, ha, rfl⟩
    · simp [Builtin.len_, h0, run_underlying' ht, goInt]
    · simp [Builtin.len_, h0, run_underlying' ht, goInt]
  · subst hv
    obtain ⟨cb, base, cap', n, h1, h2, h3, h4, h5, rfl⟩ := slice_inv hx
    simp [Builtin.len_, h0, run_underlying' ht, goInt]
  · subst hv; cases hx; simp [Builtin.len_, h0, run_underlying' ht, goInt]
  · split at hv
    · next es clock he =>
      cases hv
      obtain ⟨cb, es', rfl, h1, h2, h3⟩ := map_inv m he hx
      have := h3.len
      simp only [Array.length_toList] at this
      simp [Builtin.len_, h0, run_underlying' ht, goInt, run_getObj h2, this]
    · cases hv

theorem tuple_inv {aS : List AV} {v : Value} (hv : VRel G (.tuple aS) v) : ∃ vs, v = .tuple vs ∧ VsRel G aS vs.toList := by
  cases hv with | tuple h hv => exact ⟨_, rfl, by simpa using h, fun i a v ha hu => hv i a v ha (by simpa using hu)⟩

theorem tuple_mk {aS : List AV} {vs : List Value} (h : VsRel G aS vs) : VRel G (.tuple aS) (.tuple vs.toArray) :=
  .tuple (by simpa using h.len) (fun i a v ha hv => h.val i a v ha (by simpa using hv))

theorem run_extract {aS : List AV} {v : AV} {cx : Value} {i : Nat} (hv : aS[i]? = some v) (hx : VRel G (.tuple aS) cx) : ∃ cv, (Instr.extract cx i).run P w = .ok cv w ∧ VRel G v cv := by
  obtain ⟨vs, rfl, hr⟩ := tuple_inv hx
  have hi : i < vs.toList.length := by rw [← hr.len]; exact (List.getElem?_eq_some_iff.1 hv).1
  have hi' : i < vs.size := by simpa using hi
  refine ⟨vs[i], by simp [Instr.extract, hi'], hr.val i _ _ hv (by simp [hi'])⟩

theorem run_minmax {va vb : Value} {k k' : IntKind} {x y : Int} (ha : VRel G (.int k x) va) (hb : VRel G (.int k' y) vb) (ts : Array TypeId) (t : TypeId) :
    (Builtin.min_ ts t #[va, vb]).run P w = .ok (.int k (if y < x then y else x)) w ∧ (Builtin.max_ ts t #[va, vb]).run P w = .ok (.int k (if y > x then y else x)) w := by
  rw [ha.int_inv, hb.int_inv]
  exact ⟨run_min_int2 w ts t k k' x y, run_max_int2 w ts t k k' x y⟩

theorem run_convInt {k k' : IntKind} {n : Int} {cx : Value} {src dst : TypeId} {d : TypeDesc} (hs : P.underlying src = some d) (hd : P.underlying dst = some (.int k)) (hx : VRel G (.int k' n) cx) :
    (convert src dst cx).run P w = .ok (.int k (k.wrap n)) w := by
  rw [hx.int_inv]
  cases d <;> simp [convert, run_underlying' hs, run_underlying' hd, Conv.intToInt]

theorem sliceData_rel {x v : AV} {cx : Value} (hv : sliceDataOf x = some v) (hx : VRel G x cx) (ts : Array TypeId) (t : TypeId) : ∃ cv, (Builtin.unsafeSliceData_ ts t #[cx]).run P w = .ok cv w ∧ VRel G v cv := by
  unfold sliceDataOf at hv
  split at hv
  · cases hx; cases hv; exact ⟨_, Lib.run_unsafeSliceData_nil w ts t 0 0, .nil⟩
  · split at hv
    · next hc =>
      cases hv
      obtain ⟨cb, base, cap', n, h1, h2, h3, h4, h5, rfl⟩ := slice_inv hx
      exact ⟨_, Lib.run_unsafeSliceData_row w ts t _ _ _ (by omega), .eptr h1 (by simp)⟩
    · cases hv
  · cases hv

/-- A row's freezing mark moves. -/
theorem Evolve.mark (m : Mem K G h w) {id cb base ty esz froz froz' : Nat} {mk mk' : Bool} {es : List (List AV)} {c : Array Value} {fz fz' : Nat × Nat} (e : hget h id = some (.arr ty esz froz mk es))
    (hτ : G.τ id es.length = some (cb, base, esz)) (hw : w.heap[cb]? = some (.cells c ty fz)) (hf : fz'.1 = fz'.2 ∨ fz'.2 ≤ base + froz' * esz ∨ mk' = true ∧ c.size ≤ fz'.1) :
    Evolve K G h w G (hset h id (some (.arr ty esz froz' mk' es))) (w.upd cb (.cells c ty fz')) := by
  obtain ⟨cb', base', c', fz'', a1, a2, a3, a4, a5, a6, a7⟩ := m.arr e
  rw [hτ] at a1; cases a1
  rw [hw] at a3; cases a3
  refine Evolve.upd m e (by simp [blk, hτ]) (by simp [blk, hτ]) ⟨⟨⟨cb, base, hτ, a2, a4, a5, hf⟩, a7⟩, rfl⟩ (fun n hn => ⟨c, ty, fz', rfl, m.sz_eq hn hw⟩) ?_
  intro ty' esz' froz'' mk'' es' he s x hx
  cases he
  exact m.top id _ _ _ _ _ e s x hx

theorem freeze_upd {cb off n : Nat} {c : Array Value} {t : TypeId} {fz : Nat × Nat} (hn : n ≠ 0) (hw : w.heap[cb]? = some (.cells c t fz)) :
    w.freeze ⟨cb, off, none⟩ n = w.upd cb (.cells c t (if fz.1 == fz.2 then (off, off + n) else (min fz.1 off, max fz.2 (off + n)))) := by
  refine world_ext (Array.ext_getElem? fun i => ?_) ?_ ?_ ?_ ?_
  · have hlt : cb < w.heap.size := (Array.getElem?_eq_some_iff.1 hw).1
    rw [heap_upd]
    simp only [World.freeze, hn, if_false, Array.getElem?_modify]
    split
    · next e => subst e; rw [hw]; simp [hlt]
    · rfl
  all_goals (unfold World.freeze World.upd; simp [hn])

theorem liesAt_bytes' {e : TypeId} (hc : P.cellsOf e = 1) (count off n : Nat) (hn : off + n ≤ count) : liesAt P P.depth e count off e n = true := by
  have hd : P.depth = (2 * (P.types.size + Made.depth) + 1) + 1 := rfl
  rw [hd]
  simp only [liesAt, Bool.or_eq_true]
  left
  rw [hd]
  simp [rowAt, hc, hn, sameLayout, Nat.mod_one]

theorem run_unsafeString_row' (pt it ty e : TypeId) (hp : P.underlying pt = some (.pointer e)) (hc : P.cellsOf e = 1) (g base cells : Nat) (hsh : w.shape? g = some (e, cells)) (l : List UInt8) (h0 : l ≠ []) (hn : base + l.length ≤ cells) (h63 : l.length ≤ 9223372036854775807)
    (hcell : ∀ j x, l[j]? = some x → w.cell? ((⟨g, base, none⟩ : Addr).add j) = some (.int .u8 x.toNat)) :
    (Builtin.unsafeString_ #[pt, it] ty #[.pointer (some ⟨g, base, none⟩), .int .i64 l.length]).run P w = .ok (.string ⟨l.toArray⟩) (w.freeze ⟨g, base, none⟩ l.length) := by
  have hl : l.length ≠ 0 := by simpa using h0
  have hlb := Lib.run_loadBytes (P := P) w l ⟨g, base, none⟩ .empty hcell
  have hlies := liesAt_bytes' (P := P) hc (cells / P.cellsOf e) base l.length (by rw [hc]; simpa using hn)
  have h63' : ¬ (9223372036854775807 : Int) < (l.length : Int) := by omega
  have hdef : Builtin.unsafeString_ #[pt, it] ty #[.pointer (some ⟨g, base, none⟩), .int .i64 l.length] =
      (do
        let n ← asInt (.int .i64 l.length)
        if n < 0 then runtimePanic (.error "unsafe.String: len out of range")
        if n > IntKind.i64.max then unsupported (.unsafePointer "String: a length above the largest int")
        if n = 0 then pure (.string .empty)
        else if ← variablesAt ⟨g, base, none⟩ (← elemOf pt) n.toNat then do
          let s ← loadBytes ⟨g, base, none⟩ .empty n.toNat
          _root_.Go.freeze ⟨g, base, none⟩ n.toNat
          pure (.string s)
        else unsupported (.unsafePointer "String: not so many bytes at ptr")) := rfl
  rw [hdef]
  have hmax : IntKind.i64.max = 9223372036854775807 := rfl
  have hneg : ¬ (l.length : Int) < 0 := by omega
  simp [asInt, asIntOf, hmax, h63', hneg, hl, variablesAt, hsh, elemOf, run_underlying' hp, hlies, hlb]

theorem unsafeStr_rel (m : Mem K G h w) {pt it ty e : TypeId} {x n v : AV} {cx cn : Value} {h' : Heap} (hp : P.underlying pt = some (.pointer e)) (hc : P.cellsOf e = 1)
    (hv : unsafeStrOf e x n h = some (v, h')) (hx : VRel G x cx) (hn : VRel G n cn) : DoesV K P G h w (Builtin.unsafeString_ #[pt, it] ty #[cx, cn]) v h' := by
  unfold unsafeStrOf at hv
  split at hv
  · next n =>
    rw [hn.int_inv]
    split at hv
    · cases hv
    · next hneg =>
      split at hv
      · next h0 =>
        subst h0
        have hr : ∃ p, cx = .pointer p ∧ v = .str [] ∧ h' = h := by
          split at hv
          · cases hv; cases hx; exact ⟨_, rfl, rfl, rfl⟩
          · cases hv; obtain ⟨cb, base, esz, h1, rfl⟩ := eptr_inv hx; exact ⟨_, rfl, rfl, rfl⟩
          · cases hv
        obtain ⟨p, rfl, rfl, rfl⟩ := hr
        exact DoesV.same m (Lib.run_unsafeString_none w pt it ty p) (show VRel G (.str []) (.string .empty) from VRel.str ByteArray.empty)
      · next h0 =>
        split at hv
        · next id sz i =>
          split at hv
          · next ty' froz es he =>
            split at hv
            · next hcs =>
              obtain ⟨c1, c2, c3, c4, c5⟩ := hcs
              subst c2 c4
              split at hv
              · next bs hbs =>
                cases hv
                obtain ⟨cb, base, esz, h1, rfl⟩ := eptr_inv hx
                obtain ⟨cb', base', c, fz, a1, a2, a3, a4, a5, a6, a7⟩ := m.arr he
                rw [c1, h1] at a1; cases a1
                have hes := bytesOf_rel hbs
                have hbl : bs.length = n.toNat := by
                  have := congrArg List.length hes
                  simp at this; omega
                simp only [Nat.mul_one] at a4 a5 a6
                have hfl : (es.take n.toNat).flatten = es.flatten.take n.toNat := by rw [flatten_take a7, Nat.mul_one]
                have hr := a5.take n.toNat
                rw [← hfl, hes, bytes_flatten, List.take_take, Nat.min_eq_left (by omega)] at hr
                have hcell : ∀ j x, bs[j]? = some x → w.cell? ((⟨cb, base, none⟩ : Addr).add j) = some (.int .u8 x.toNat) := by
                  intro j x hj
                  have hjl : j < bs.length := (List.getElem?_eq_some_iff.1 hj).1
                  rw [addr_add, cell_at a3]
                  have hlt : base + j < c.size := by omega
                  have h2 : ((c.toList.drop base).take n.toNat)[j]? = some c[base + j] := by
                    rw [List.getElem?_take, if_pos (by omega), List.getElem?_drop]; simp [hlt]
                  have := hr.val j (.int .u8 x.toNat) _ (by simp [hj]) h2
                  rw [Array.getElem?_eq_getElem hlt, this.int_inv]
                have hne : bs ≠ [] := by rintro rfl; simp at hbl; omega
                have hrun := run_unsafeString_row' (P := P) (w := w) pt it ty ty' hp hc cb base c.size (by simp [World.shape?, a3]) bs hne (by omega) (by omega) hcell
                rw [hbl, show ((n.toNat : Nat) : Int) = n by omega] at hrun
                rw [freeze_upd (by omega) a3] at hrun
                refine ⟨.string ⟨bs.toArray⟩, _, _, by simpa using hrun, Evolve.mark m he (by rw [c1]; exact h1) a3 (.inr (.inl ?_)), (VRel.str ⟨bs.toArray⟩ : VRel G (.str bs) (.string ⟨bs.toArray⟩))⟩
                have hmx : Nat.max froz n.toNat = max froz n.toNat := rfl
                rw [Nat.mul_one, hmx]
                by_cases hz : fz.1 = fz.2
                · rw [if_pos hz]; show base + n.toNat ≤ _; omega
                · rcases a6 with a6 | a6 | a6
                  · exact absurd a6 hz
                  · rw [if_neg hz]; show max fz.2 (base + n.toNat) ≤ _; omega
                  · cases a6.1
              · cases hv
            · cases hv
          · cases hv
        · cases hv
  · cases hv

/-- A pointer turned to unsafe.Pointer and back. -/
theorem convPtr_rel (m : Mem K G h w) {ty n : Nat} {x : AV} {cx : Value} {src dst : TypeId}
    (hv : x = .nil ∨ ∃ id cs, x = .ptr id 0 ∧ hget h id = some (.cells ty cs) ∧ cs.length = n)
    (ht : (∃ t i, P.underlying src = some (.pointer t) ∧ P.underlying dst = some .unsafePointer ∧ P.info? t = some i ∧ i.size ≠ 0 ∧ n ≠ 0) ∨
      (∃ u i, P.underlying src = some .unsafePointer ∧ P.underlying dst = some (.pointer u) ∧ P.info? u = some i ∧ liesAt P P.depth ty (n / P.cellsOf ty) 0 u 1 = true)) (hx : VRel G x cx) : (convert src dst cx).run P w = .ok cx w := by
  rcases hv with rfl | ⟨id, cs, rfl, he, hcs⟩
  · cases hx
    rcases ht with ⟨t, i, h1, h2, h3, h4, _⟩ | ⟨u, i, h1, h2, h3, h4⟩
    · simp [convert, run_underlying' h1, run_underlying' h2, Conv.unsafePointer]
    · simp [convert, run_underlying' h1, run_underlying' h2, Conv.unsafePointer]
  · obtain ⟨cb, hs, rfl⟩ := ptr_inv hx
    obtain ⟨cb', c, fz, a1, a2, a3, a4⟩ := m.cells he
    rw [hs] at a1; cases a1
    have hsz : c.size = n := by rw [← hcs, a4.len]; rfl
    have hsh : w.shape? cb = some (ty, c.size) := by simp [World.shape?, a2]
    rcases ht with ⟨t, i, h1, h2, h3, h4, h5⟩ | ⟨u, i, h1, h2, h3, h4⟩
    · exact Lib.run_to_unsafe w _ h1 h2 h3 h4 hsh (by show 0 < c.size; omega)
    · exact Lib.run_from_unsafe w _ h1 h2 h3 hsh (by rw [hsz]; exact h4)

end
end Go.Proofs.YtjbkcboklccmeaaGreatDoor.Abs
/-
  Maps.
-/
namespace Go.Proofs.YtjbkcboklccmeaaGreatDoor.Abs

section
variable {K : Reads} {P : Program} {G : Ghost} {h : Heap} {w : World}

/-- What a search in both tells. -/
structure Found (G : Ghost) (kk : KK) (k : AV) (es : List (AV × AV × Nat)) (es' : List MapEntry) (ck : Value) (i : Nat) (v : AV) (b : Nat) (e : MapEntry) : Prop where
  at' : es'[i]? = some e
  at_ : ∃ k', es[i]? = some (k', v, b) ∧ ∀ x, mapSet kk k x es = es.set i (k', x, b)
  key : e.key = ck
  bits : ∀ n, Instr.sameBits (n + 1) e.key ck = true
  val : VRel G v e.val
  born : e.born = b
  del : mapDel kk k es = es.eraseIdx i

theorem MapRel.tail {a : AV × AV × Nat} {es : List (AV × AV × Nat)} {e : MapEntry} {es' : List MapEntry} (m : MapRel G (a :: es) (e :: es')) : MapRel G es es' :=
  ⟨by have := m.len; simpa using this, fun i k v b e h1 h2 => m.val (i + 1) k v b e (by simpa using h1) (by simpa using h2)⟩

theorem Found.succ {kk : KK} {k : AV} {a : AV × AV × Nat} {es : List (AV × AV × Nat)} {e' : MapEntry} {es' : List MapEntry} {ck : Value} {i : Nat} {v : AV} {b : Nat} {e : MapEntry} (f : Found G kk k es es' ck i v b e)
    (hne : eqKey kk k a.1 = some false) : Found G kk k (a :: es) (e' :: es') ck (i + 1) v b e := by
  obtain ⟨ak, av, ab⟩ := a
  obtain ⟨k', h1, h2⟩ := f.at_
  exact ⟨by simpa using f.at', ⟨k', by simpa using h1, fun x => by simp only [mapSet, hne, h2 x, List.set_cons_succ]⟩, f.key, f.bits, f.val, f.born, by simp only [mapDel, hne, f.del, List.eraseIdx_cons_succ]⟩

theorem Found.zero {kk : KK} {k ak av : AV} {b : Nat} {es : List (AV × AV × Nat)} {e : MapEntry} {es' : List MapEntry} {ck : Value} (m : MapRel G ((ak, av, b) :: es) (e :: es')) (heq : eqKey kk k ak = some true)
    (h1 : ck = e.key) (h2 : ∀ n, Instr.sameBits (n + 1) ck e.key = true) : Found G kk k ((ak, av, b) :: es) (e :: es') ck 0 av b e := by
  obtain ⟨q1, q2, q3⟩ := m.val 0 ak av b e rfl rfl
  exact ⟨rfl, ⟨ak, rfl, fun x => by simp only [mapSet, heq, List.set_cons_zero]⟩, h1.symm, fun n => by rw [h1]; have := h2 n; rwa [h1] at this, q2, q3.symm, by simp only [mapDel, heq, List.eraseIdx_cons_zero]⟩

theorem findNow_rel {c : CK} {d : TypeDesc} (hd : ckDesc c d = true) {kt : TypeId} (ht : P.underlying kt = some d) {k : AV} {ck : Value} (hk : VRel G k ck) : ∀ {es : List (AV × AV × Nat)} {es' : List MapEntry} {r : Option (AV × Nat)} (j : Nat),
    MapRel G es es' → mapFind (.cell c) k es = some r →
    (r = none ∧ Instr.findNow d ck es' j = some none) ∨ (∃ v b i e, r = some (v, b) ∧ Instr.findNow d ck es' j = some (some (j + i, e.val)) ∧ Found G (.cell c) k es es' ck i v b e)
  | [], [], r, j, m, h => by simp [mapFind] at h; subst h; exact .inl ⟨rfl, rfl⟩
  | [], _ :: _, r, j, m, h => by have := m.len; simp at this
  | _ :: _, [], r, j, m, h => by have := m.len; simp at this
  | (ak, av, ab) :: es, e :: es', r, j, m, h => by
    obtain ⟨q1, q2, q3⟩ := m.val 0 ak av ab e rfl rfl
    simp only [mapFind] at h
    cases he : eqKey (.cell c) k ak with
    | none => rw [he] at h; cases h
    | some t =>
      rw [he] at h
      obtain ⟨_, p2, p3⟩ := eqCell_rel (P := P) (w := default) (show eqCell c k ak = some t from he) hk q1 ht hd
      cases t with
      | true =>
        simp only [Option.some.injEq] at h; subst h
        obtain ⟨s1, s2⟩ := p3 rfl
        exact .inr ⟨av, ab, 0, e, rfl, by simp [Instr.findNow, p2], .zero m he s1 (fun n => s2 _)⟩
      | false =>
        rcases findNow_rel hd ht hk (j + 1) m.tail h with ⟨h1, h2⟩ | ⟨v, b, i, e', h1, h2, h3⟩
        · exact .inl ⟨h1, by simp [Instr.findNow, p2, h2]⟩
        · exact .inr ⟨v, b, i + 1, e', h1, by simp only [Instr.findNow, p2, h2]; simp; omega, h3.succ he⟩

theorem findAsking_rel {l : List CK} {kt : TypeId} (hd : kkDesc P kt (.agg l) = true) {k : AV} {ck : Value} (hk : VRel G k ck) : ∀ {es : List (AV × AV × Nat)} {es' : List MapEntry} {r : Option (AV × Nat)} (j : Nat),
    MapRel G es es' → mapFind (.agg l) k es = some r →
    (r = none ∧ (Instr.findAsking kt ck es' j).run P w = .ok none w) ∨ (∃ v b i e, r = some (v, b) ∧ (Instr.findAsking kt ck es' j).run P w = .ok (some (j + i, e.val)) w ∧ Found G (.agg l) k es es' ck i v b e)
  | [], [], r, j, m, h => by simp [mapFind] at h; subst h; exact .inl ⟨rfl, rfl⟩
  | [], _ :: _, r, j, m, h => by have := m.len; simp at this
  | _ :: _, [], r, j, m, h => by have := m.len; simp at this
  | (ak, av, ab) :: es, e :: es', r, j, m, h => by
    obtain ⟨q1, q2, q3⟩ := m.val 0 ak av ab e rfl rfl
    simp only [mapFind] at h
    cases he : eqKey (.agg l) k ak with
    | none => rw [he] at h; cases h
    | some t =>
      rw [he] at h
      obtain ⟨p2, p3⟩ := eqKey_rel (P := P) (w := w) he hk q1 hd
      have p2' : (Op.equal kt ck e.key).run P w = .ok t w := p2 9998
      cases t with
      | true =>
        simp only [Option.some.injEq] at h; subst h
        obtain ⟨s1, s2⟩ := p3 rfl
        exact .inr ⟨av, ab, 0, e, rfl, by simp [Instr.findAsking, p2'], .zero m he s1 s2⟩
      | false =>
        rcases findAsking_rel hd hk (j + 1) m.tail h with ⟨h1, h2⟩ | ⟨v, b, i, e', h1, h2, h3⟩
        · exact .inl ⟨h1, by simp [Instr.findAsking, p2', h2]⟩
        · exact .inr ⟨v, b, i + 1, e', h1, by simp only [Instr.findAsking, Sem.run_bind, p2', Result.andThen_ok, h2]; simp [h2]; omega, h3.succ he⟩

theorem findNow_struct {fs : Array Field} {ck : Value} {es' : List MapEntry} {j : Nat} : Instr.findNow (.struct fs) ck es' j = some none ∧ es' = [] ∨ Instr.findNow (.struct fs) ck es' j = none := by
  cases es' with
  | nil => exact .inl ⟨rfl, rfl⟩
  | cons e es => exact .inr rfl

theorem findKey_rel {kk : KK} {kt : TypeId} (hd : kkDesc P kt kk = true) {k : AV} {ck : Value} (hk : VRel G k ck) {es : List (AV × AV × Nat)} {es' : List MapEntry} {r : Option (AV × Nat)} (m : MapRel G es es') (h : mapFind kk k es = some r) :
    (r = none ∧ (Instr.findKey kt ck es').run P w = .ok none w) ∨ (∃ v b i e, r = some (v, b) ∧ (Instr.findKey kt ck es').run P w = .ok (some (i, e.val)) w ∧ Found G kk k es es' ck i v b e) := by
  cases kk with
  | cell c =>
    have hd' := hd
    simp only [kkDesc] at hd'
    split at hd'
    · next d ht =>
      rcases findNow_rel hd' ht hk 0 m h with ⟨h1, h2⟩ | ⟨v, b, i, e, h1, h2, h3⟩
      · exact .inl ⟨h1, by simp [Instr.findKey, run_underlying' ht, h2]⟩
      · exact .inr ⟨v, b, i, e, h1, by simp [Instr.findKey, run_underlying' ht, h2], h3⟩
    · cases hd'
  | agg l =>
    have hd' := hd
    simp only [kkDesc] at hd'
    split at hd'
    · next fs ht =>
      rcases findNow_struct (fs := fs) (ck := ck) (es' := es') (j := 0) with ⟨h1, rfl⟩ | h1
      · have : es = [] := List.eq_nil_of_length_eq_zero m.len
        subst this
        simp only [mapFind, Option.some.injEq] at h
        exact .inl ⟨h.symm, by simp [Instr.findKey, run_underlying' ht, h1]⟩
      · rcases findAsking_rel (w := w) hd hk 0 m h with ⟨h2, h3⟩ | ⟨v, b, i, e, h2, h3, h4⟩
        · exact .inl ⟨h2, by simp [Instr.findKey, run_underlying' ht, h1, h3]⟩
        · exact .inr ⟨v, b, i, e, h2, by simp [Instr.findKey, run_underlying' ht, h1, h3], h4⟩
    · cases hd'

theorem checkFields (e : Bool) (n : Nat) : ∀ {l : List CK} {fs : List Field} {aS : List AV} {xs : Array Value} {k : Nat}, flatFields P k l fs = true → aS.length = l.length → VsRel G aS (xs.toList.drop k) →
    ∀ F : Field → PUnit → Sem (ForInStep PUnit), (∀ f, f.name ≠ "_" → F f PUnit.unit = (do Instr.checkKey e (n + 1) f.type (← part f.type xs f.offset); pure (ForInStep.yield PUnit.unit))) →
    (forIn fs PUnit.unit F).run P w = .ok PUnit.unit w
  | [], [], aS, xs, k, hf, hl, ha, F, hF => by simp
  | [], _ :: _, aS, xs, k, hf, hl, ha, F, hF => by simp [flatFields] at hf
  | _ :: _, [], aS, xs, k, hf, hl, ha, F, hF => by simp [flatFields] at hf
  | c :: l, f :: fs, [], xs, k, hf, hl, ha, F, hF => by simp at hl
  | c :: l, f :: fs, a :: aS, xs, k, hf, hl, ha, F, hF => by
    simp only [flatFields, Bool.and_eq_true, decide_eq_true_eq] at hf
    obtain ⟨⟨⟨f1, f2⟩, f3⟩, f4⟩ := hf
    split at f3
    · next d hd =>
      cases hx : xs.toList.drop k with
      | nil => rw [hx] at ha; have := ha.len; simp at this
      | cons x xr =>
        have hx' : xs.toList.drop (k + 1) = xr := by rw [← List.drop_drop, hx]; rfl
        rw [hx] at ha
        have hxk : xs[k]? = some x := by
          have : (xs.toList.drop k)[0]? = some x := by rw [hx]; rfl
          simpa using this
        have ih := checkFields e n f4 (by simpa using hl) (by rw [hx']; exact ha.tail) F hF
        have hck : (Instr.checkKey e (n + 1) f.type x).run P w = .ok () w := by
          unfold Instr.checkKey
          simp only [Sem.run_bind, run_underlying' hd, Result.andThen_ok]
          cases c <;> cases d <;> simp only [ckDesc, Bool.false_eq_true] at f3 <;> rfl
        simp only [List.forIn_cons, Sem.run_bind, hF f f1, f2, run_part_cell hd (ckDesc_agg f3) hxk, Result.andThen_ok, hck, Sem.run_pure]
        exact ih
    · cases f3

theorem run_checkKey' {kk : KK} {kt : TypeId} (hd : kkDesc P kt kk = true) {k : AV} {ck : Value} (hk : VRel G k ck) (h : eqKey kk k k = some true) (e : Bool) : (Instr.checkKey e 10000 kt ck).run P w = .ok () w := by
  have key : ∀ n, (Instr.checkKey e (n + 2) kt ck).run P w = .ok () w := by
    intro n
    cases kk with
    | cell c =>
      simp only [kkDesc] at hd
      split at hd
      · next d ht =>
        unfold Instr.checkKey
        simp only [Sem.run_bind, run_underlying' ht, Result.andThen_ok]
        cases c <;> cases d <;> simp only [ckDesc, Bool.false_eq_true] at hd <;> rfl
      · cases hd
    | agg l =>
      simp only [kkDesc] at hd
      split at hd
      · next fs ht =>
        simp only [Bool.and_eq_true, Bool.not_eq_true'] at hd
        cases k <;> try (simp [eqKey] at h; done)
        rename_i aS
        simp only [eqKey] at h
        split at h
        · next hl =>
          obtain ⟨xs, rfl, hxs⟩ := agg_inv hk
          unfold Instr.checkKey
          simp only [Sem.run_bind, run_underlying' ht, Result.andThen_ok]
          rw [← Array.forIn_toList]
          have := checkFields (P := P) (w := w) (G := G) e n (k := 0) (xs := xs) hd.1.1 hl.1 (by simpa using hxs.vs) (fun f _ => do
            if f.name ≠ "_" then
              Instr.checkKey e (n + 1) f.type (← part f.type xs f.offset)
            pure (ForInStep.yield PUnit.unit)) (fun f hf => by simp [hf])
          first
          | (rw [this]; rfl)
          | (simp only [ne_eq] at this ⊢; simp [this])
        · cases h
      · cases hd
  exact key 9998


theorem run_keyThatStays {old new : Value} (hs : Instr.sameBits 10000 old new = true) : (Instr.keyThatStays old new).run P w = .ok new w := by
  simp only [Instr.keyThatStays, hs, if_true, Sem.run_pure]

/-- A map's entries turned. -/
theorem Evolve.mapSet (m : Mem K G h w) {id clock clock' cb : Nat} {es es2 : List (AV × AV × Nat)} {es' : Array MapEntry} {es2' : Array MapEntry} (he : hget h id = some (.map es clock)) (hs : G.σ id = some cb)
    (hw : w.heap[cb]? = some (.map es' clock)) (hr : MapRel G es2 es2'.toList) : Evolve K G h w G (hset h id (some (.map es2 clock'))) (w.upd cb (.map es2' clock')) := by
  refine Evolve.upd m he (by simpa [blk] using hs) (by simpa [blk] using hs) ⟨rfl, hr⟩ (fun n hn => ?_) (fun _ _ _ _ _ h => by cases h)
  obtain ⟨c, t, fz, h1, _⟩ := m.sz cb n hn
  rw [hw] at h1; cases h1

theorem MapRel.snoc {es : List (AV × AV × Nat)} {es' : List MapEntry} (m : MapRel G es es') {k v : AV} {b : Nat} {ck cv : Value} (hk : VRel G k ck) (hv : VRel G v cv) : MapRel G (es ++ [(k, v, b)]) (es' ++ [{ key := ck, val := cv, born := b }]) := by
  refine ⟨by simp [m.len], fun i k' v' b' e h1 h2 => ?_⟩
  by_cases hi : i < es.length
  · rw [List.getElem?_append_left hi] at h1
    rw [List.getElem?_append_left (m.len ▸ hi)] at h2
    exact m.val i k' v' b' e h1 h2
  · rw [List.getElem?_append_right (by omega)] at h1
    rw [List.getElem?_append_right (by rw [← m.len]; omega), ← m.len] at h2
    cases hj : i - es.length with
    | zero => rw [hj] at h1 h2; simp at h1 h2; obtain ⟨rfl, rfl, rfl⟩ := h1; subst h2; exact ⟨hk, hv, rfl⟩
    | succ j => rw [hj] at h1; simp at h1

theorem MapRel.set {es : List (AV × AV × Nat)} {es' : List MapEntry} (m : MapRel G es es') {i : Nat} {k v x : AV} {b : Nat} {e : MapEntry} {cx : Value} (h1 : es[i]? = some (k, v, b)) (h2 : es'[i]? = some e) (hx : VRel G x cx) :
    MapRel G (es.set i (k, x, b)) (es'.set i { e with val := cx }) := by
  obtain ⟨q1, q2, q3⟩ := m.val i k v b e h1 h2
  refine ⟨by simp [m.len], fun j k' v' b' e' g1 g2 => ?_⟩
  rw [List.getElem?_set] at g1 g2
  by_cases hij : i = j
  · subst hij
    have l1 : i < es.length := (List.getElem?_eq_some_iff.1 h1).1
    have l2 : i < es'.length := (List.getElem?_eq_some_iff.1 h2).1
    rw [if_pos rfl, if_pos l1] at g1
    rw [if_pos rfl, if_pos l2] at g2
    simp only [Option.some.injEq, Prod.mk.injEq] at g1 g2
    obtain ⟨rfl, rfl, rfl⟩ := g1
    subst g2
    exact ⟨q1, hx, q3⟩
  · rw [if_neg hij] at g1 g2
    exact m.val j k' v' b' e' g1 g2

theorem MapRel.erase {es : List (AV × AV × Nat)} {es' : List MapEntry} (m : MapRel G es es') (i : Nat) : MapRel G (es.eraseIdx i) (es'.eraseIdx i) := by
  refine ⟨by simp [List.length_eraseIdx, m.len], fun j k v b e g1 g2 => ?_⟩
  rw [List.getElem?_eraseIdx] at g1 g2
  split at g1
  · next hj => rw [if_pos hj] at g2; exact m.val j k v b e g1 g2
  · next hj => rw [if_neg hj] at g2; exact m.val _ k v b e g1 g2

theorem run_lookup (m : Mem K G h w) {t kt et : TypeId} {i : TypeInfo} {z : Value} {kk : KK} {zero v a k : AV} {ok : Bool} {ca ck : Value} (ht : P.underlying t = some (.map kt et)) (hd : kkDesc P kt kk = true) (hi : P.info? et = some i) (hz : i.zero = some z)
    (hzr : VRel G zero z) (hv : lookupOf kk zero ok a k h = some v) (ha : VRel G a ca) (hk : VRel G k ck) : ∃ cv, (Instr.lookup t ca ck ok).run P w = .ok cv w ∧ VRel G v cv := by
  have hout : ∀ x cx b, VRel G x cx → VRel G (bif ok then .tuple [x, .bool b] else x) (if ok = true then .tuple #[cx, .bool b] else cx) := by
    intro x cx b hx
    cases ok
    · simpa using hx
    · simp only [cond_true, if_true]
      exact tuple_mk (vs := [cx, .bool b]) (.cons hx (.cons (.bool b) (.nil G)))
  unfold lookupOf at hv
  split at hv
  · cases ha
    split at hv
    · next hkk =>
      cases hv
      have h1 := run_checkKey' (w := w) hd hk hkk true
      refine ⟨_, ?_, hout zero z false hzr⟩
      rcases findKey_rel (w := w) hd hk (es := []) (es' := []) ⟨rfl, fun i k v b e h => by simp at h⟩ rfl with ⟨_, h2⟩ | ⟨_, _, _, _, h2, _⟩
      · simp [Instr.lookup, run_underlying' ht, h1, h2, run_zeroValue' hi hz]
      · cases h2
    · cases hv
  · split at hv
    · next id es clock he =>
      obtain ⟨cb, es', rfl, hs, hw, hr⟩ := map_inv m he ha
      split at hv
      · next hkk =>
        have h1 := run_checkKey' (w := w) hd hk hkk es'.isEmpty
        split at hv
        · next v' b' hf =>
          cases hv
          rcases findKey_rel (w := w) hd hk hr hf with ⟨h2, _⟩ | ⟨v, b, i, e, h2, h3, h4⟩
          · cases h2
          · cases h2
            refine ⟨_, ?_, hout _ _ true h4.val⟩
            simp [Instr.lookup, run_underlying' ht, run_getObj hw, h1, h3]
        · next hf =>
          cases hv
          rcases findKey_rel (w := w) hd hk hr hf with ⟨_, h3⟩ | ⟨v, b, i, e, h2, _⟩
          · refine ⟨_, ?_, hout zero z false hzr⟩
            simp [Instr.lookup, run_underlying' ht, run_getObj hw, h1, h3, run_zeroValue' hi hz]
          · cases h2
        · cases hv
      · cases hv
    · cases hv
  · cases hv

theorem modify_toList {α : Type} {a : Array α} {i : Nat} {x : α} (f : α → α) (h : a.toList[i]? = some x) : (a.modify i f).toList = a.toList.set i (f x) := by
  have hx : a[i]? = some x := by simpa using h
  apply List.ext_getElem?
  intro j
  rw [List.getElem?_set, Array.getElem?_toList, Array.getElem?_modify]
  split
  · next e => subst e; rw [hx]; simp; simpa using (List.getElem?_eq_some_iff.1 h).1
  · simp

theorem mapUpdate_rel (m : Mem K G h w) {t kt et : TypeId} {kk : KK} {a k x : AV} {ca ck cx : Value} {h' : Heap} (ht : P.underlying t = some (.map kt et)) (hd : kkDesc P kt kk = true)
    (hv : mapUpdateOf kk a k x h = some h') (ha : VRel G a ca) (hk : VRel G k ck) (hx : VRel G x cx) : DoesU K P G h w (Instr.mapUpdate t ca ck cx) h' := by
  unfold mapUpdateOf at hv
  split at hv
  · split at hv
    · next id es clock he =>
      obtain ⟨cb, es', rfl, hs, hw, hr⟩ := map_inv m he ha
      split at hv
      · next hkk =>
        have h1 := run_checkKey' (w := w) hd hk hkk false
        split at hv
        · next q hf =>
          cases hv
          rcases findKey_rel (w := w) hd hk hr hf with ⟨h2, _⟩ | ⟨v, b, i, e, h2, h3, h4⟩
          · cases h2
          · obtain ⟨k', g1, g2⟩ := h4.at_
            have g3 := h4.at'
            have hes : es'[i]? = some e := by simpa using g3
            have hb : Instr.sameBits 10000 e.key ck = true := h4.bits 9999
            refine ⟨G, w.upd cb (.map (es'.modify i fun e => { e with key := ck, val := cx }) clock), ?_, ?_⟩
            · simp [Instr.mapUpdate, run_underlying' ht, run_getObj hw, h1, h3, hes, run_keyThatStays hb, run_setObj _ hw]
            · refine Evolve.mapSet m he hs hw ?_
              rw [g2 x, modify_toList _ g3]
              have := hr.set g1 g3 hx
              rwa [← h4.key]
        · next hf =>
          cases hv
          rcases findKey_rel (w := w) hd hk hr hf with ⟨_, h3⟩ | ⟨v, b, i, e, h2, _⟩
          · refine ⟨G, w.upd cb (.map (es'.push { key := ck, val := cx, born := clock }) (clock + 1)), ?_, ?_⟩
            · simp [Instr.mapUpdate, run_underlying' ht, run_getObj hw, h1, h3, run_setObj _ hw]
            · refine Evolve.mapSet m he hs hw ?_
              rw [Array.toList_push]
              exact hr.snoc hk hx
          · cases h2
        · cases hv
      · cases hv
    · cases hv
  · cases hv

theorem mapEntry_rel (m : Mem K G h w) {t kt et : TypeId} {i : TypeInfo} {z : Value} {kk : KK} {zero a k v : AV} {ca ck : Value} {h' : Heap} (ht : P.underlying t = some (.map kt et)) (hd : kkDesc P kt kk = true) (hi : P.info? et = some i) (hz : i.zero = some z)
    (hzr : VRel G zero z) (hv : mapEntryOf kk zero a k h = some (v, h')) (ha : VRel G a ca) (hk : VRel G k ck) : DoesV K P G h w (Instr.mapEntry t ca ck) v h' := by
  unfold mapEntryOf at hv
  split at hv
  · split at hv
    · next id es clock he =>
      obtain ⟨cb, es', rfl, hs, hw, hr⟩ := map_inv m he ha
      split at hv
      · next hkk =>
        have h1 := run_checkKey' (w := w) hd hk hkk false
        split at hv
        · next v b hf =>
          cases hv
          rcases findKey_rel (w := w) hd hk hr hf with ⟨h2, _⟩ | ⟨v, b, i, e, h2, h3, h4⟩
          · cases h2
          · cases h2
            obtain ⟨k', g1, g2⟩ := h4.at_
            have g3 := h4.at'
            have hes : es'[i]? = some e := by simpa using g3
            have hb : Instr.sameBits 10000 e.key ck = true := h4.bits 9999
            have hself : es'.modify i (fun e => { e with key := ck }) = es' := by
              apply Array.ext'
              rw [modify_toList _ g3, ← h4.key]
              apply List.ext_getElem?
              intro j
              rw [List.getElem?_set]
              split
              · next e' => subst e'; rw [if_pos (List.getElem?_eq_some_iff.1 g3).1, g3]
              · rfl
            refine ⟨.tuple #[e.val, goInt e.born], G, w, ?_, .refl m, ?_⟩
            · simp [Instr.mapEntry, run_underlying' ht, run_getObj hw, h1, h3, hes, run_keyThatStays hb, run_setObj _ hw, hself, upd_self hw]
            · exact tuple_mk (vs := [e.val, goInt e.born]) (.cons h4.val (.cons (by rw [h4.born]; exact .int _ _) (.nil G)))
        · next hf =>
          cases hv
          rcases findKey_rel (w := w) hd hk hr hf with ⟨_, h3⟩ | ⟨v, b, i, e, h2, _⟩
          · refine ⟨.tuple #[z, goInt clock], G, w.upd cb (.map (es'.push { key := ck, val := z, born := clock }) (clock + 1)), ?_, ?_, ?_⟩
            · simp [Instr.mapEntry, run_underlying' ht, run_getObj hw, h1, h3, run_zeroValue' hi hz, run_setObj _ hw]
            · refine Evolve.mapSet m he hs hw ?_
              rw [Array.toList_push]
              exact hr.snoc hk hzr
            · exact tuple_mk (vs := [z, goInt clock]) (.cons hzr (.cons (.int _ _) (.nil G)))
          · cases h2
        · cases hv
      · cases hv
    · cases hv
  · cases hv

theorem mapDel_none {kk : KK} {k : AV} : ∀ {es : List (AV × AV × Nat)}, mapFind kk k es = some none → mapDel kk k es = es
  | [], _ => rfl
  | (ak, av, ab) :: es, h => by
    simp only [mapFind] at h
    cases he : eqKey kk k ak with
    | none => rw [he] at h; cases h
    | some t => cases t with
      | true => rw [he] at h; simp at h
      | false => rw [he] at h; simp only [mapDel, he, mapDel_none h]

theorem delete_rel (m : Mem K G h w) {t t' ty kt et : TypeId} {kk : KK} {a k : AV} {ca ck : Value} {h' : Heap} (ht : P.underlying t = some (.map kt et)) (hd : kkDesc P kt kk = true)
    (hv : deleteOf kk a k h = some h') (ha : VRel G a ca) (hk : VRel G k ck) : ∃ G' w', (Builtin.delete_ #[t, t'] ty #[ca, ck]).run P w = .ok (.tuple #[]) w' ∧ Evolve K G h w G' h' w' := by
  unfold deleteOf at hv
  split at hv
  · split at hv
    · next hkk =>
      cases hv; cases ha
      exact ⟨G, w, by simp [Builtin.delete_, run_underlying' ht, run_checkKey' hd hk hkk true], .refl m⟩
    · cases hv
  · split at hv
    · next id es clock he =>
      obtain ⟨cb, es', rfl, hs, hw, hr⟩ := map_inv m he ha
      split at hv
      · next hkk =>
        have h1 := run_checkKey' (w := w) hd hk hkk es'.isEmpty
        split at hv
        · next r hf =>
          cases hv
          rcases findKey_rel (w := w) hd hk hr hf with ⟨hr0, h3⟩ | ⟨v, b, i, e, h2, h3, h4⟩
          · subst hr0
            refine ⟨G, w.upd cb (.map es' clock), ?_, ?_⟩
            · simp [Builtin.delete_, run_underlying' ht, run_getObj hw, h1, h3, run_setObj _ hw]
            · refine Evolve.mapSet m he hs hw ?_
              rw [mapDel_none hf]; exact hr
          · refine ⟨G, w.upd cb (.map (es'.eraseIdxIfInBounds i) clock), ?_, ?_⟩
            · simp [Builtin.delete_, run_underlying' ht, run_getObj hw, h1, h3, run_setObj _ hw]
            · refine Evolve.mapSet m he hs hw ?_
              have hi : i < es'.size := by
                have := (List.getElem?_eq_some_iff.1 h4.at').1; simpa using this
              rw [h4.del, Array.eraseIdxIfInBounds, dif_pos hi, Array.toList_eraseIdx]
              exact hr.erase i
        · cases hv
      · cases hv
    · cases hv
  · cases hv

end
end Go.Proofs.YtjbkcboklccmeaaGreatDoor.Abs
/-
  Maps made, gone through.
-/
namespace Go.Proofs.YtjbkcboklccmeaaGreatDoor.Abs

section
variable {K : Reads} {P : Program} {G : Ghost} {h : Heap} {w : World}

theorem makeMap_rel (m : Mem K G h w) {t kt et : TypeId} {r : Option Value} (ht : P.underlying t = some (.map kt et)) (hr : ∀ v, r = some v → ∃ k n, v = .int k n) : DoesV K P G h w (Instr.makeMap t r) (.map h.length) (h ++ [some (.map [] 0)]) := by
  obtain ⟨ev, hs⟩ := Evolve.alloc m (.map [] 0) (.map #[] 0) rfl ⟨rfl, rfl, fun i k v b e h => by simp at h⟩
  refine ⟨.map (some w.heap.size), _, _, ?_, ev, .map hs⟩
  cases r with
  | none => simp [Instr.makeMap]
  | some v => obtain ⟨k, n, rfl⟩ := hr v rfl; simp [Instr.makeMap, run_underlying' ht, asInt, asIntOf]

theorem range_rel (m : Mem K G h w) {t kt et : TypeId} {a v : AV} {ca : Value} {h' : Heap} (ht : P.underlying t = some (.map kt et)) (hv : rangeOf a h = some (v, h')) (ha : VRel G a ca) : DoesV K P G h w (Instr.range t ca) v h' := by
  unfold rangeOf at hv
  split at hv
  · cases hv; cases ha
    obtain ⟨ev, hs⟩ := Evolve.alloc m (.iter none 0 [] 0) (.mapIter none 0 #[] 0) rfl ⟨rfl, rfl, rfl, trivial⟩
    exact ⟨_, _, _, run_range_nilMap w t kt et ht, ev, .ptr hs⟩
  · next id =>
    split at hv
    · next es clock he =>
      cases hv
      obtain ⟨cb, es', rfl, hs, hw, hr⟩ := map_inv m he ha
      have hle : G.le (G.addσ h.length w.heap.size) := Ghost.le_addσ (m.fresh _ (Nat.le_refl _)).1
      obtain ⟨ev, hs'⟩ := Evolve.alloc m (.iter (some id) clock [] clock) (.mapIter (some cb) clock #[] clock) rfl ⟨rfl, rfl, rfl, hle.σ _ _ hs⟩
      exact ⟨_, _, _, run_range_map w t kt et cb es' clock ht hw, ev, .ptr hs'⟩
    · cases hv
  · cases hv

theorem bornSet_rel : ∀ {es es2 : List (AV × AV × Nat)} {es' : List MapEntry} {s : Int} {x : AV} {cx : Value}, MapRel G es es' → bornSet s x es = some es2 → VRel G x cx →
    ∃ i, es'.findIdx? (fun e => (e.born : Int) == s) = some i ∧ MapRel G es2 (es'.modify i fun e => { e with val := cx })
  | [], es2, es', s, x, cx, m, h, hx => by simp [bornSet] at h
  | _ :: _, es2, [], s, x, cx, m, h, hx => by have := m.len; simp at this
  | (k, v, b) :: es, es2, e :: es', s, x, cx, m, h, hx => by
    obtain ⟨q1, q2, q3⟩ := m.val 0 k v b e rfl rfl
    simp only [bornSet] at h
    split at h
    · next hb =>
      cases h
      refine ⟨0, by simp [List.findIdx?_cons, ← q3, hb], ?_⟩
      have := m.set (i := 0) (x := x) rfl rfl hx
      simpa using this
    · next hb =>
      split at h
      · next es3 h3 =>
        cases h
        obtain ⟨i, h1, h2⟩ := bornSet_rel m.tail h3 hx
        refine ⟨i + 1, by simp [List.findIdx?_cons, ← q3, hb, h1], ?_⟩
        refine ⟨by have := h2.len; simp at this ⊢; omega, fun j k' v' b' e' g1 g2 => ?_⟩
        cases j with
        | zero => simp at g1 g2; obtain ⟨rfl, rfl, rfl⟩ := g1; subst g2; exact ⟨q1, q2, q3⟩
        | succ j => simp at g1 g2; exact h2.val j k' v' b' e' g1 (by simpa using g2)
      · cases h

theorem entryStore_rel (m : Mem K G h w) {t : TypeId} {a s x : AV} {ca cs cx : Value} {h' : Heap} (hv : entryStoreOf a s x h = some h') (ha : VRel G a ca) (hs : VRel G s cs) (hx : VRel G x cx) : DoesU K P G h w (Instr.entryStore t ca cs cx) h' := by
  unfold entryStoreOf at hv
  split at hv
  · next id n hn =>
    obtain ⟨k, rfl, rfl⟩ := idxOf_inv hn hs
    split at hv
    · next es clock he =>
      obtain ⟨cb, es', rfl, hs', hw, hr⟩ := map_inv m he ha
      split at hv
      · next es2 h2 =>
        cases hv
        obtain ⟨i, h3, h4⟩ := bornSet_rel hr h2 hx
        have h3' : es'.findIdx? (fun e => (e.born : Int) == n) = some i := by
          cases es' with | mk l => simpa using h3
        refine ⟨G, w.upd cb (.map (es'.modify i fun e => { e with val := cx }) clock), ?_, ?_⟩
        · simp only [Instr.entryStore, Sem.run_bind, run_getObj hw, Result.andThen_ok, asInt, asIntOf, Sem.run_pure, h3', run_setObj _ hw]
        · refine Evolve.mapSet m he hs' hw ?_
          rw [Array.toList_modify]; exact h4
      · cases hv
    · cases hv
  · cases hv

def iterRel (G : Ghost) : Option Nat → Option Nat → Prop
  | none, none => True
  | some i, some r => G.σ i = some r
  | _, _ => False

theorem iter_inv (m : Mem K G h w) {id : Nat} {mo : Option Nat} {since last : Nat} {seen : List Nat} {v : Value} (he : hget h id = some (.iter mo since seen last)) (hv : VRel G (.ptr id 0) v) :
    ∃ cb mo' , v = .pointer (some ⟨cb, 0, none⟩) ∧ G.σ id = some cb ∧ w.heap[cb]? = some (.mapIter mo' since seen.toArray last) ∧ iterRel G mo mo' := by
  obtain ⟨cb, hs, rfl⟩ := ptr_inv hv
  obtain ⟨cb', obj, q1, q2, q3⟩ := m.obj id _ he
  simp only [blk] at q1; rw [hs] at q1; cases q1
  cases obj <;> simp only [OC] at q3
  obtain ⟨rfl, rfl, rfl, q4⟩ := q3
  exact ⟨_, _, rfl, hs, by simpa using q2, by rename_i mo' _; cases mo <;> cases mo' <;> exact q4⟩

theorem entry_rel (m : Mem K G h w) {it v : AV} {ci : Value} (hv : entryOf it h = some v) (hi : VRel G it ci) : ∃ cv, (Instr.entry ci).run P w = .ok cv w ∧ VRel G v cv := by
  unfold entryOf at hv
  split at hv
  · next id =>
    split at hv
    · next mid since seen stepped he =>
      obtain ⟨cb, mo', rfl, hs, hw, hm⟩ := iter_inv m he hi
      cases mo' with
      | none => exact hm.elim
      | some r =>
        split at hv
        · next es clock b h1 h2 =>
          split at hv
          · next hc =>
            subst hc
            split at hv
            · next k' v' b' hf =>
              cases hv
              have hmid : VRel G (.map mid) (.map (some r)) := .map hm
              obtain ⟨cb2, es', e1, hs2, hw2, hr⟩ := map_inv m h1 hmid
              cases e1
              -- the found entry
              have hfind : ∀ {es : List (AV × AV × Nat)} {es' : List MapEntry}, MapRel G es es' → es.find? (fun e => e.2.2 == b) = some (k', v', b') → ∃ e, es'.find? (fun e => e.born == b) = some e ∧ VRel G k' e.key ∧ VRel G v' e.val := by
                intro es
                induction es with
                | nil => intro es' _ h; simp at h
                | cons a es ih =>
                  intro es' hr h
                  cases es' with
                  | nil => have := hr.len; simp at this
                  | cons e es' =>
                    obtain ⟨ak, av, ab⟩ := a
                    obtain ⟨q1, q2, q3⟩ := hr.val 0 ak av ab e rfl rfl
                    rw [List.find?_cons] at h
                    split at h
                    · next hb =>
                      cases h
                      exact ⟨e, by rw [List.find?_cons, ← q3, hb], q1, q2⟩
                    · next hb =>
                      obtain ⟨e', g1, g2⟩ := ih hr.tail h
                      exact ⟨e', by rw [List.find?_cons, ← q3, hb]; exact g1, g2⟩
              obtain ⟨e, g1, g2, g3⟩ := hfind hr hf
              have g1' : es'.find? (fun e => e.born == b) = some e := by rw [← Array.find?_toList]; exact g1
              have hb : seen.toArray.back? = some b := by simpa using h2
              refine ⟨.tuple #[e.key, e.val], ?_, tuple_mk (vs := [e.key, e.val]) (.cons g2 (.cons g3 (.nil G)))⟩
              simp [Instr.entry, run_getObj hw, h2, run_getObj hw2, g1']
            · cases hv
          · cases hv
        · cases hv
    · cases hv
  · cases hv

end
end Go.Proofs.YtjbkcboklccmeaaGreatDoor.Abs
/-
  One step through a map.
-/
namespace Go.Proofs.YtjbkcboklccmeaaGreatDoor.Abs

section
variable {K : Reads} {P : Program} {G : Ghost} {h : Heap} {w : World}

theorem MapRel.filter (p : Nat → Bool) : ∀ {es : List (AV × AV × Nat)} {es' : List MapEntry}, MapRel G es es' → MapRel G (es.filter fun e => p e.2.2) (es'.filter fun e => p e.born)
  | [], [], m => ⟨rfl, fun i k v b e h => by simp at h⟩
  | [], _ :: _, m => by have := m.len; simp at this
  | _ :: _, [], m => by have := m.len; simp at this
  | (k, v, b) :: es, e :: es', m => by
    obtain ⟨q1, q2, q3⟩ := m.val 0 k v b e rfl rfl
    have ih := MapRel.filter p m.tail
    simp only [List.filter_cons]
    rw [← q3]
    cases p b with
    | false => simpa using ih
    | true =>
      simp only [if_true]
      refine ⟨by simp [ih.len], fun j k' v' b' e' g1 g2 => ?_⟩
      cases j with
      | zero => simp at g1 g2; obtain ⟨rfl, rfl, rfl⟩ := g1; subst g2; exact ⟨q1, q2, q3⟩
      | succ j => simp at g1 g2; exact ih.val j k' v' b' e' g1 g2

theorem MapRel.append {es fs : List (AV × AV × Nat)} {es' fs' : List MapEntry} (m : MapRel G es es') (m' : MapRel G fs fs') : MapRel G (es ++ fs) (es' ++ fs') := by
  refine ⟨by simp [m.len, m'.len], fun i k v b e h1 h2 => ?_⟩
  by_cases hi : i < es.length
  · rw [List.getElem?_append_left hi] at h1
    rw [List.getElem?_append_left (m.len ▸ hi)] at h2
    exact m.val i k v b e h1 h2
  · rw [List.getElem?_append_right (by omega)] at h1
    rw [List.getElem?_append_right (by rw [← m.len]; omega), ← m.len] at h2
    exact m'.val _ k v b e h1 h2

theorem MapRel.all (p : Nat → Bool) : ∀ {es : List (AV × AV × Nat)} {es' : List MapEntry}, MapRel G es es' → (es.all fun e => p e.2.2) = es'.all fun e => p e.born
  | [], [], m => rfl
  | [], _ :: _, m => by have := m.len; simp at this
  | _ :: _, [], m => by have := m.len; simp at this
  | (k, v, b) :: es, e :: es', m => by
    obtain ⟨_, _, q3⟩ := m.val 0 k v b e rfl rfl
    simp only [List.all_cons, q3, MapRel.all p m.tail]

theorem choose_some {n : Nat} (hn : 0 < n) : ∃ j w', j < n ∧ w'.heap = w.heap ∧ (choose (.mapNext n)).run P w = .ok j w' ∧ (w' = w ∨ w' = w.drew) := by
  by_cases hf : n ≤ 1
  · exact ⟨0, w, by omega, rfl, by simp [choose, Sem.run, Question.forced, hf], .inl rfl⟩
  · refine ⟨(Question.mapNext n).cut (w.tape w.drawn (.mapNext n)), w.drew, Nat.mod_lt _ hn, rfl, ?_, .inr rfl⟩
    simp only [choose, Sem.run, Question.forced, decide_eq_true_eq, hf, if_false]
    rfl

theorem next_rel (m : Mem K G h w) {it : AV} {ci : Value} {ty : TypeId} {Q : AV × Heap → Prop} (hs : (nextOf it h).Sat Q) (hi : VRel G it ci) : ∃ v h', Q (v, h') ∧ DoesV K P G h w (Instr.next ci false ty) v h' := by
  unfold nextOf at hs
  split at hs
  · next id =>
    split at hs
    · next since seen last he =>
      obtain ⟨cb, mo', rfl, hs', hw, hm⟩ := iter_inv m he hi
      cases mo' with
      | some r => exact hm.elim
      | none =>
        refine ⟨_, _, hs, .same m (cv := .tuple #[.bool false]) ?_ (tuple_mk (vs := [.bool false]) (.cons (.bool false) (.nil G)))⟩
        simp [Instr.next, run_getObj hw]
    · next mid since seen last he =>
      obtain ⟨cb, mo', rfl, hs', hw, hm⟩ := iter_inv m he hi
      cases mo' with
      | none => exact hm.elim
      | some r =>
        split at hs
        · next es clock h1 =>
          have hmid : VRel G (.map mid) (.map (some r)) := .map hm
          obtain ⟨cb2, es', e1, hs2, hw2, hr⟩ := map_inv m h1 hmid
          cases e1
          have hse : seen.isEmpty = seen.toArray.isEmpty := by simp
          have hee : es.isEmpty = es'.isEmpty := by
            have := hr.len
            rw [← Array.isEmpty_toList]
            cases hq : es'.toList with
            | nil => rw [hq] at this; rw [List.eq_nil_of_length_eq_zero this]; rfl
            | cons a l => rw [hq] at this; cases es with
              | nil => simp at this
              | cons b l' => rfl
          have hall : (es.all fun e => decide (e.2.2 ≥ last)) = es'.all fun e => decide (e.born ≥ last) := by
            rw [hr.all (fun b => decide (b ≥ last)), ← Array.all_toList]
          split at hs
          · exact hs.elim
          · next hc =>
            have hc' : (!seen.toArray.isEmpty && !es'.isEmpty && es'.all fun e => decide (e.born ≥ last)) = false := by
              rw [← hse, ← hee, ← hall]; simpa using hc
            -- the candidates
            have r1 := hr.filter (fun b => !seen.contains b)
            have r2 := r1.filter (fun b => decide (b < since))
            have r3 := r1.filter (fun b => decide (b ≥ since))
            have r4 := r2.append r3
            dsimp only at hs
            generalize hold : ((es.filter fun e => !seen.contains e.2.2).filter fun e => decide (e.2.2 < since)) = old at hs r2 r4
            generalize hnew : ((es.filter fun e => !seen.contains e.2.2).filter fun e => decide (e.2.2 ≥ since)) = new at hs r3 r4
            have k1 : ((es'.filter fun e => !seen.toArray.contains e.born).filter fun e => decide (e.born < since)).toList = (es'.toList.filter fun e => !seen.contains e.born).filter fun e => decide (e.born < since) := by
              simp
            have k2 : ((es'.filter fun e => !seen.toArray.contains e.born).filter fun e => decide (e.born ≥ since)).toList = (es'.toList.filter fun e => !seen.contains e.born).filter fun e => decide (e.born ≥ since) := by
              simp
            generalize hO : ((es'.filter fun e => !seen.toArray.contains e.born).filter fun e => decide (e.born < since)) = O at k1
            generalize hN : ((es'.filter fun e => !seen.toArray.contains e.born).filter fun e => decide (e.born ≥ since)) = N at k2
            rw [← k1] at r2 r4
            rw [← k2] at r3 r4
            have hOe : O.isEmpty = old.isEmpty := by
              have := r2.len
              rw [← Array.isEmpty_toList]
              cases hq : O.toList with
              | nil => rw [hq] at this; rw [List.eq_nil_of_length_eq_zero this]; rfl
              | cons a l => rw [hq] at this; cases old with
                | nil => simp at this
                | cons b l' => rfl
            have hcand : ((if O.isEmpty = true then #[none] else #[]) ++ (O ++ N).map some).toList = (bif old.isEmpty then [none] else []) ++ (O.toList ++ N.toList).map some := by
              rw [hOe]; cases old.isEmpty <;> simp
            have hsz : ((if O.isEmpty = true then #[none] else #[]) ++ (O ++ N).map some).size = ((bif old.isEmpty then [none] else []) ++ (old ++ new).map some).length := by
              rw [← Array.length_toList, hcand]
              have := r4.len
              cases old.isEmpty <;> simp_all
            have hpos : 0 < ((if O.isEmpty = true then #[none] else #[]) ++ (O ++ N).map some).size := by
              rw [hsz]
              cases ho : old with
              | nil => simp
              | cons a l => simp
            obtain ⟨j, w', hj, hwh, hch, hww⟩ := choose_some (P := P) (w := w) hpos
            have hsat := hs.2 j (by rw [← hsz]; exact hj)
            dsimp only at hsat
            have hev : Evolve K G h w G h w' := by rcases hww with rfl | rfl; exact .refl m; exact Evolve.drew' m
            have hcj : ((if O.isEmpty = true then #[none] else #[]) ++ (O ++ N).map some)[j]? = ((bif old.isEmpty then [none] else []) ++ (O.toList ++ N.toList).map some)[j]? := by
              rw [← hcand, Array.getElem?_toList]
            have hpre : ∀ x, (Instr.next (.pointer (some ⟨cb, 0, none⟩)) false ty).run P w = x ↔
                ((match ((if O.isEmpty = true then #[none] else #[]) ++ (O ++ N).map some)[j]? with
                  | some (some e) => do
                    setObj cb (.mapIter (some r) since (seen.toArray.push e.born) clock)
                    pure (.tuple #[.bool true, e.key, e.val])
                  | some none => pure (.tuple #[.bool false])
                  | none => stuck "Next: no such candidate" : Sem Value).run P w' = x) := by
              intro x
              simp only [Instr.next, Sem.run_bind, run_getObj hw, Result.andThen_ok, run_getObj hw2, hc', Bool.false_eq_true, if_false, hO, hN, hch]
              exact Iff.rfl
            rw [hcj] at hpre
            cases hx : ((bif old.isEmpty then [none] else []) ++ (old ++ new).map some)[j]? with
            | none => rw [hx] at hsat; exact hsat.elim
            | some o =>
              rw [hx] at hsat
              have hlen : ((bif old.isEmpty then [(none : Option (AV × AV × Nat))] else [])).length = ((bif old.isEmpty then [(none : Option MapEntry)] else [])).length := by cases old.isEmpty <;> rfl
              have h4len := r4.len
              by_cases hjl : j < ((bif old.isEmpty then [(none : Option (AV × AV × Nat))] else [])).length
              · -- nothing more
                rw [List.getElem?_append_left hjl] at hx
                have hj0 : j = 0 ∧ old.isEmpty = true := by cases hoe : old.isEmpty <;> simp_all
                rw [hj0.2, hj0.1] at hx
                simp at hx; subst hx
                refine ⟨_, _, hsat, .tuple #[.bool false], G, w', (hpre _).2 ?_, hev, tuple_mk (vs := [.bool false]) (.cons (.bool false) (.nil G))⟩
                rw [hj0.2, hj0.1]; simp
              · rw [List.getElem?_append_right (by omega), List.getElem?_map] at hx
                cases hq : (old ++ new)[j - ((bif old.isEmpty then [(none : Option (AV × AV × Nat))] else [])).length]? with
                | none => rw [hq] at hx; cases hx
                | some q =>
                  rw [hq] at hx
                  simp only [Option.map_some, Option.some.injEq] at hx
                  subst hx
                  obtain ⟨k, v, b⟩ := q
                  obtain ⟨e, he'⟩ : ∃ e, (O.toList ++ N.toList)[j - ((bif old.isEmpty then [(none : Option (AV × AV × Nat))] else [])).length]? = some e := by
                    refine ⟨_, List.getElem?_eq_getElem ?_⟩
                    rw [← h4len]
                    exact (List.getElem?_eq_some_iff.1 hq).1
                  obtain ⟨p1, p2, p3⟩ := r4.val _ k v b e hq he'
                  have hej : ((bif old.isEmpty then [none] else []) ++ (O.toList ++ N.toList).map some)[j]? = some (some e) := by
                    rw [List.getElem?_append_right (by omega), List.getElem?_map, ← hlen, he']; rfl
                  have hw' : w'.heap[cb]? = some (.mapIter (some r) since seen.toArray last) := by rw [hwh]; exact hw
                  refine ⟨_, _, hsat, .tuple #[.bool true, e.key, e.val], G, w'.upd cb (.mapIter (some r) since (seen.toArray.push e.born) clock), (hpre _).2 ?_, hev.trans ?_, tuple_mk (vs := [.bool true, e.key, e.val]) (.cons (.bool true) (.cons p1 (.cons p2 (.nil G))))⟩
                  · rw [hej]
                    simp [run_setObj _ hw']
                  · refine Evolve.upd hev.mem he (by simpa [blk] using hs') (by simpa [blk] using hs') ⟨rfl, by simp [p3], rfl, hm⟩ (fun n hn => ?_) (fun _ _ _ _ _ h => by cases h)
                    obtain ⟨c, t, fz, g1, _⟩ := hev.mem.sz cb n hn
                    rw [hw'] at g1; cases g1
        · exact hs.elim
    · exact hs.elim
  · exact hs.elim

end
end Go.Proofs.YtjbkcboklccmeaaGreatDoor.Abs
