/-
  A deterministic reading of the model's operations over abstract data: slices that are never written are lists, boxes of local variables lie in the frame, each other block has a name of its own. No program stands in it.
-/
import GoSem.Dispatch
import GoSem.Machine.Frame
set_option linter.unusedVariables false
set_option linter.unusedSimpArgs false
namespace Go.Proofs.YtjbkcboklccmeaaGreatDoor.Abs

/-- Values. -/
inductive AV where
  | undef
  | bool (b : Bool)
  | int (k : IntKind) (n : Int)
  | str (s : List UInt8)
  | nil
  | ptr (id off : Nat)
  | lptr (id off : Nat)
  | eptr (id sz i off : Nat)
  | cref (cs : List AV)
  | nilSlice
  | list (esz : Nat) (exact : Bool) (es : List (List AV))
  | slice (id esz off len cap : Nat)
  | nilMap
  | map (id : Nat)
  | clos (f : Nat) (first caps : List AV)
  | yield (l : Nat)
  | nilFunc
  | agg (cs : List AV)
  | tuple (vs : List AV)
  | nilIface
  | iface (t : Nat) (v : AV)
  deriving Inhabited

inductive ND (α : Type) where
  | fail
  | ret (a : α)
  | pick (n : Nat) (k : Nat → ND α)

def ND.bind {α β : Type} : ND α → (α → ND β) → ND β
  | .fail, _ => .fail
  | .ret a, f => f a
  | .pick n k, f => .pick n fun i => (k i).bind f

/-- All ways end, and each end is aS wanted. -/
def ND.Sat {α : Type} : ND α → (α → Prop) → Prop
  | .fail, _ => False
  | .ret a, Q => Q a
  | .pick n k, Q => 0 < n ∧ ∀ i, i < n → (k i).Sat Q

/-- Kinds of cells that can be compared. -/
inductive CK where
  | int | str | bool
  deriving Inhabited, DecidableEq

/-- Kinds of keys. -/
inductive KK where
  | cell (c : CK)
  | agg (l : List CK)
  deriving Inhabited, DecidableEq

/-- Kinds of what can be nil. -/
inductive NK where
  | ptr | slice | map | func | iface
  deriving Inhabited, DecidableEq

/-- Kinds of what has a length. -/
inductive LK where
  | str | slice | map
  deriving Inhabited, DecidableEq

mutual
def AV.same : AV → AV → Bool
  | .undef, .undef => true
  | .bool a, .bool b => a == b
  | .int k a, .int k' b => decide (k = k') && decide (a = b)
  | .str a, .str b => decide (a = b)
  | .nil, .nil => true
  | .ptr a b, .ptr a' b' => Nat.beq a a' && Nat.beq b b'
  | .lptr a b, .lptr a' b' => Nat.beq a a' && Nat.beq b b'
  | .eptr a b c d, .eptr a' b' c' d' => Nat.beq a a' && Nat.beq b b' && Nat.beq c c' && Nat.beq d d'
  | .cref cs, .cref cs' => AV.sames cs cs'
  | .nilSlice, .nilSlice => true
  | .list z e es, .list z' e' es' => Nat.beq z z' && (e == e') && AV.samess es es'
  | .slice a b c d e, .slice a' b' c' d' e' => Nat.beq a a' && Nat.beq b b' && Nat.beq c c' && Nat.beq d d' && Nat.beq e e'
  | .nilMap, .nilMap => true
  | .map a, .map b => Nat.beq a b
  | .clos f a b, .clos f' a' b' => Nat.beq f f' && AV.sames a a' && AV.sames b b'
  | .yield a, .yield b => Nat.beq a b
  | .nilFunc, .nilFunc => true
  | .agg cs, .agg cs' => AV.sames cs cs'
  | .tuple cs, .tuple cs' => AV.sames cs cs'
  | .nilIface, .nilIface => true
  | .iface t v, .iface t' v' => Nat.beq t t' && AV.same v v'
  | _, _ => false
def AV.sames : List AV → List AV → Bool
  | [], [] => true
  | a :: aS, b :: bs => AV.same a b && AV.sames aS bs
  | _, _ => false
def AV.samess : List (List AV) → List (List AV) → Bool
  | [], [] => true
  | a :: aS, b :: bs => AV.sames a b && AV.samess aS bs
  | _, _ => false
end

/-! ### Code -/

inductive AOp where
  | mov (x : Operand)
  | pick (c a b : Operand)
  | allocL (k : Nat) (zero : List AV)
  | boxL (k n : Nat) (x : Operand)
  | allocH (ty : Nat) (zero : List AV)
  | boxH (ty n : Nat) (x : Operand)
  | loadL (agg : Bool) (n : Nat) (addr : Operand)
  | storeL (n : Nat) (addr x : Operand)
  | fieldL (off : Nat) (x : Operand)
  | idxL (esz len : Nat) (x i : Operand)
  | same (d : Nat) (agg : Bool) (n : Nat) (addr : Operand)
  | load (agg : Bool) (n : Nat) (addr : Operand)
  | store (n : Nat) (addr x : Operand)
  | nilCheck (x : Operand)
  | fieldAddr (off : Nat) (x : Operand)
  | indexAddr (esz : Nat) (x i : Operand)
  | indexArr (esz len : Nat) (x i : Operand)
  | field (agg : Bool) (n off : Nat) (x : Operand)
  | index (agg : Bool) (esz len : Nat) (x i : Operand)
  | indexStr (x i : Operand)
  | sliceStr (x : Operand) (lo hi : Option Operand)
  | slice (esz : Nat) (x : Operand) (lo hi : Option Operand)
  | bin (op : BinOp) (x y : Operand)
  | binB (op : BinOp) (x y : Operand)
  | eqAgg (neg : Bool) (ks : List CK) (x y : Operand)
  | eqNil (k : NK) (neg : Bool) (x y : Operand)
  | un (op : UnOp) (x : Operand)
  | convInt (k : IntKind) (x : Operand)
  | bytesToStr (x : Operand)
  | strToBytes (ty : Nat) (x : Operand)
  | convPtr (ty n : Nat) (x : Operand)
  | clos (f : Nat) (first caps : List Operand)
  | makeMap
  | lookup (kk : KK) (zero : AV) (ok : Bool) (m k : Operand)
  | mapUpdate (kk : KK) (m k v : Operand)
  | mapEntry (kk : KK) (zero : AV) (m k : Operand)
  | entryStore (m s v : Operand)
  | delete (kk : KK) (m k : Operand)
  | range (m : Operand)
  | next (it : Operand)
  | entry (it : Operand)
  | makeSlice (ty esz bytes : Nat) (zero : List AV) (len cap : Operand)
  | build (zero : List AV) (parts : List (Nat × Nat × Operand))
  | buildSlice (imm : Bool) (ty esz len : Nat) (zero : List AV) (parts : List (Nat × Operand))
  | call (f : Nat) (args : List Operand)
  | callv (f : Operand) (args : List Operand)
  | ext (f : Nat) (args : List Operand)
  | defer (f : Nat) (args : List Operand)
  | append (imm : Bool) (ty esz bytes : Nat) (s x : Operand)
  | copy (esz : Nat) (dst src : Operand)
  | len (k : LK) (x : Operand)
  | min (x y : Operand)
  | max (x y : Operand)
  | extract (t : Operand) (i : Nat)
  | sliceData (x : Operand)
  | unsafeStr (ty : Nat) (x n : Operand)
  deriving Inhabited

/-- An operation: where its result goes, whether it is carried out at all, whether its result is let go of (no more written). -/
structure AOper where
  dst : Option Nat
  op : AOp
  guard : Option (Nat × Bool) := none
  frz : Bool := false
  deriving Inhabited

inductive ACode where
  | skip
  | fail
  | ops (l : List AOper) (live : List Nat)
  | opsD (l : List (AOper × List (Nat × AOp))) (live : List Nat)
  | seq (a b : ACode)
  | cond (c : Operand) (a b : ACode)
  | block (id : Nat) (b : ACode)
  | mblock (id it room : Nat) (live : List Nat) (b : ACode)
  | loop (live : List Nat) (b : ACode)
  | exit (id : Nat)
  | ret
  | rangeFunc (f : Operand) (params : List Nat) (assign body : ACode) (live : List Nat)
  deriving Inhabited

inductive ARes where
  | tmp (s : Nat)
  | cellL (agg : Bool) (n s : Nat)
  | cellH (agg : Bool) (n s : Nat)
  deriving Inhabited

structure AFunc where
  params : Nat
  results : List ARes
  body : ACode
  deriving Inhabited

/-! ### Memory -/

inductive AExit where
  | normal
  | exit (id : Nat)
  | ret
  deriving Inhabited

abbrev Env := List (Nat × AV)

structure ALoop where
  state : LoopState
  pending : Option AExit
  env : Env
  params : List Nat
  assign : ACode
  body : ACode
  deriving Inhabited

inductive AObj where
  | cells (ty : Nat) (cs : List AV)
  | arr (ty esz froz : Nat) (mk : Bool) (es : List (List AV))
  | map (es : List (AV × AV × Nat)) (clock : Nat)
  | iter (m : Option Nat) (since : Nat) (seen : List Nat) (stepped : Nat)
  | loop (l : ALoop)
  deriving Inhabited

abbrev Heap := List (Option AObj)

def hget : Heap → Nat → Option AObj
  | [], _ => none
  | o :: _, 0 => o
  | _ :: h, i + 1 => hget h i

def hset : Heap → Nat → Option AObj → Heap
  | [], _, _ => []
  | _ :: h, 0, x => x :: h
  | o :: h, i + 1, x => o :: hset h i x

def Env.get : Env → Nat → AV
  | [], _ => .undef
  | (k, v) :: e, s => bif Nat.beq k s then v else Env.get e s

def Env.put (e : Env) (d : Option Nat) (v : AV) : Env :=
  match d with
  | some d => (d, v) :: e
  | none => e

def Env.keep (e : Env) (l : List Nat) : Env := l.map fun s => (s, e.get s)

abbrev M (α : Type) := Heap → ND (α × Heap)

def M.bind {α β : Type} (x : M α) (f : α → M β) : M β := fun h => (x h).bind fun r => f r.1 r.2
def M.fail {α : Type} : M α := fun _ => .fail
def M.ret {α : Type} (a : α) : M α := fun h => .ret (a, h)
def M.opt {α : Type} (o : Option α) : M α := fun h => match o with | some a => .ret (a, h) | none => .fail
/-- What reads memory alone. -/
def M.see {α : Type} (f : Heap → Option α) : M α := fun h => match f h with | some a => .ret (a, h) | none => .fail
def M.step {α : Type} (f : Heap → Option (α × Heap)) : M α := fun h => match f h with | some a => .ret a | none => .fail

/-! ### Values -/

mutual
def AV.ofValue : Value → AV
  | .bool b => .bool b
  | .int k n => .int k n
  | .string s => .str s.data.toList
  | .pointer none => .nil
  | .slice none 0 0 => .nilSlice
  | .map none => .nilMap
  | .nilFunc => .nilFunc
  | .nilIface => .nilIface
  | .agg ⟨cs⟩ => match AV.ofValues cs with | some cs => .agg cs | none => .undef
  | _ => .undef
def AV.ofValues : List Value → Option (List AV)
  | [] => some []
  | v :: vs => match AV.ofValue v, AV.ofValues vs with
    | .undef, _ => none
    | .agg _, _ => none
    | _, none => none
    | a, some aS => some (a :: aS)
end

/-- What a package-level variable holds (never written). -/
abbrev Globals := Nat → Option (List AV)

def Opd.eval (gl : Globals) (e : Env) : Operand → AV
  | .tmp s => e.get s
  | .const v => AV.ofValue v
  | .global g => match gl g with | some cs => .cref cs | none => .undef
  | .func f => .clos f [] []

def AV.cells : AV → Option (List AV)
  | .undef => none
  | .tuple _ => none
  | .lptr .. => none
  | .agg cs => some cs
  | v => some [v]

def mkVal (agg : Bool) (n : Nat) (cs : List AV) : Option AV :=
  bif agg then (if n ≤ cs.length then some (.agg (cs.take n)) else none) else cs.head?

/-- The cells from an address on. -/
def cellsAt (h : Heap) : AV → Option (List AV)
  | .ptr id off => match hget h id with
    | some (.cells _ cs) => if off ≤ cs.length then some (cs.drop off) else none
    | _ => none
  | .eptr id sz i off => match hget h id with
    | some (.arr _ _ _ _ es) => if es.length = sz then
        match es[i]? with
        | some e => if off ≤ e.length then some (e.drop off) else none
        | none => none
      else none
    | _ => none
  | .cref cs => some cs
  | _ => none

def loadAt (agg : Bool) (n : Nat) (h : Heap) (a : AV) : Option AV :=
  match cellsAt h a with
  | some cs => mkVal agg n cs
  | none => none

def splice {α : Type} (cs : List α) (off : Nat) (xs : List α) : List α := cs.take off ++ xs ++ cs.drop (off + xs.length)

def storeAt (n : Nat) (h : Heap) (a x : AV) : Option Heap :=
  match x.cells with
  | none => none
  | some xs => if xs.length = n then
      match a with
      | .ptr id off => match hget h id with
        | some (.cells ty cs) => if off + n ≤ cs.length then some (hset h id (some (.cells ty (splice cs off xs)))) else none
        | _ => none
      | .eptr id sz i off => match hget h id with
        | some (.arr ty esz froz mk es) => if es.length = sz ∧ froz ≤ i then
            match es[i]? with
            | some e => if off + n ≤ e.length then some (hset h id (some (.arr ty esz froz mk (es.set i (splice e off xs))))) else none
            | none => none
          else none
        | _ => none
      | _ => none
    else none

def fieldAt (off : Nat) : AV → Option AV
  | .ptr id o => some (.ptr id (o + off))
  | .eptr id sz i o => some (.eptr id sz i (o + off))
  | .cref cs => if off ≤ cs.length then some (.cref (cs.drop off)) else none
  | _ => none

def idxOf : AV → Option Int
  | .int _ n => some n
  | _ => none

def indexAt (esz : Nat) (x i : AV) : Option AV :=
  match idxOf i with
  | none => none
  | some i => match x with
    | .slice id z off len cap => if 0 ≤ i ∧ i < (len : Int) ∧ z = esz then some (.eptr id (off + cap) (off + i.toNat) 0) else none
    | .list z _ es => if 0 ≤ i ∧ z = esz then match es[i.toNat]? with | some e => some (.cref e) | none => none else none
    | _ => none

def indexArrAt (esz len : Nat) (x i : AV) : Option AV :=
  match idxOf i with
  | none => none
  | some i => if 0 ≤ i ∧ i < (len : Int) then fieldAt (i.toNat * esz) x else none

def fieldOf (agg : Bool) (n off : Nat) : AV → Option AV
  | .agg cs => if off ≤ cs.length then mkVal agg n (cs.drop off) else none
  | _ => none

def indexOf (agg : Bool) (esz len : Nat) (x i : AV) : Option AV :=
  match idxOf i with
  | none => none
  | some i => if 0 ≤ i ∧ i < (len : Int) then fieldOf agg esz (i.toNat * esz) x else none

def indexStrOf (x i : AV) : Option AV :=
  match x, idxOf i with
  | .str s, some i => if 0 ≤ i then match s[i.toNat]? with | some b => some (.int .u8 b.toNat) | none => none else none
  | _, _ => none

/-- The bounds of a slice expression: low, high of something so long, with so much room. -/
def hiOf (len cap : Nat) : Option AV → Option Nat
  | none => some len
  | some v => match idxOf v with
    | some i => if 0 ≤ i ∧ i ≤ (cap : Int) then some i.toNat else none
    | none => none

def loOf (u : Nat) : Option AV → Option Nat
  | none => some 0
  | some v => match idxOf v with
    | some i => if 0 ≤ i ∧ i ≤ (u : Int) then some i.toNat else none
    | none => none

def bounds (len cap : Nat) (lo hi : Option AV) : Option (Nat × Nat) :=
  match hiOf len cap hi with
  | none => none
  | some u => match loOf u lo with
    | none => none
    | some l => some (l, u)

def sliceStrOf (x : AV) (lo hi : Option AV) : Option AV :=
  match x with
  | .str s => match bounds s.length s.length lo hi with
    | some (l, h) => some (.str ((s.drop l).take (h - l)))
    | none => none
  | _ => none

def sliceOf (esz : Nat) (x : AV) (lo hi : Option AV) : Option AV :=
  match x with
  | .nilSlice => match bounds 0 0 lo hi with
    | some _ => some .nilSlice
    | none => none
  | .list z ex es => if z = esz then match bounds es.length es.length lo hi with
      | some (l, h) => if l < es.length ∨ ex = true ∧ l = 0 then some (.list esz (ex && h == es.length) ((es.drop l).take (h - l))) else some (.list esz false [])
      | none => none
    else none
  | .slice id z off len cap => if z = esz then match bounds len cap lo hi with
      | some (l, h) => if l < cap then some (.slice id esz (off + l) (h - l) (cap - l)) else some (.list esz false [])
      | none => none
    else none
  | _ => none

def eqCell : CK → AV → AV → Option Bool
  | .int, .int k a, .int k' b => if k = k' then some (a == b) else none
  | .str, .str a, .str b => some (a == b)
  | .bool, .bool a, .bool b => some (a == b)
  | _, _, _ => none

def eqCells : List CK → List AV → List AV → Option Bool
  | [], [], [] => some true
  | c :: ks, a :: aS, b :: bs => match eqCell c a b with
    | some true => eqCells ks aS bs
    | some false => some false
    | none => none
  | _, _, _ => none

def eqKey : KK → AV → AV → Option Bool
  | .agg l, .agg aS, .agg bs => if aS.length = l.length ∧ bs.length = l.length then eqCells l aS bs else none
  | .cell c, a, b => eqCell c a b
  | _, _, _ => none

/-- Nil of its kind or not. -/
def isNilOf : NK → AV → Option Bool
  | .ptr, .nil => some true
  | .ptr, .ptr .. => some false
  | .ptr, .eptr .. => some false
  | .ptr, .cref _ => some false
  | .slice, .nilSlice => some true
  | .slice, .list .. => some false
  | .slice, .slice .. => some false
  | .map, .nilMap => some true
  | .map, .map _ => some false
  | .func, .nilFunc => some true
  | .func, .clos .. => some false
  | .func, .yield _ => some false
  | .iface, .nilIface => some true
  | .iface, .iface .. => some false
  | _, _ => none

def eqNilOf (k : NK) (a b : AV) : Option Bool :=
  match isNilOf k a, isNilOf k b with
  | some true, some y => some y
  | some false, some true => some false
  | _, _ => none

def isCells (h : Heap) (id : Nat) : Bool := match hget h id with | some (.cells ..) => true | _ => false

def eqPtr (k : NK) (h : Heap) (x y : AV) : Option Bool :=
  match k, x, y with
  | .ptr, .ptr a i, .ptr b j => if a = b then some (i == j) else if isCells h a && isCells h b then some false else none
  | k, a, b => eqNilOf k a b

def intBin (op : BinOp) (k : IntKind) (x y : Int) : Option AV :=
  match op with
  | .add => some (.int k (k.wrap (x + y)))
  | .sub => some (.int k (k.wrap (x - y)))
  | .mul => some (.int k (k.wrap (x * y)))
  | .quo => if y = 0 then none else some (.int k (k.wrap (x.tdiv y)))
  | .rem => if y = 0 then none else some (.int k (x.tmod y))
  | .and => some (.int k (k.wrap ((BitVec.ofInt k.bits x &&& BitVec.ofInt k.bits y).toNat)))
  | .or => some (.int k (k.wrap ((BitVec.ofInt k.bits x ||| BitVec.ofInt k.bits y).toNat)))
  | .xor => some (.int k (k.wrap ((BitVec.ofInt k.bits x ^^^ BitVec.ofInt k.bits y).toNat)))
  | .andNot => some (.int k (k.wrap ((BitVec.ofInt k.bits x &&& ~~~ (BitVec.ofInt k.bits y)).toNat)))
  | .eql => some (.bool (x == y))
  | .neq => some (.bool (x != y))
  | .lss => some (.bool (decide (x < y)))
  | .leq => some (.bool (decide (x ≤ y)))
  | .gtr => some (.bool (decide (x > y)))
  | .geq => some (.bool (decide (x ≥ y)))
  | _ => none

def shiftBin (op : BinOp) (k : IntKind) (x y : Int) : Option AV :=
  if y < 0 then none else
  match op with
  | .shl => some (.int k (k.wrap (x * 2 ^ (Nat.min y.toNat k.bits))))
  | .shr => some (.int k (x.fdiv (2 ^ (Nat.min y.toNat k.bits))))
  | _ => none

def strBin (op : BinOp) (x y : List UInt8) : Option AV :=
  match op with
  | .add => if x.length + y.length ≤ 140737488355328 then some (.str (x ++ y)) else none
  | .eql => some (.bool (x == y))
  | .neq => some (.bool (!(x == y)))
  | .lss => some (.bool (Op.bytesLess x y))
  | .leq => some (.bool (Op.bytesLess x y || x == y))
  | .gtr => some (.bool (!(Op.bytesLess x y || x == y)))
  | .geq => some (.bool (!(Op.bytesLess x y)))
  | _ => none

def binOf (op : BinOp) (x y : AV) : Option AV :=
  match x, y with
  | .int k a, .int k' b =>
    match op with
    | .shl | .shr => shiftBin op k a b
    | _ => if k = k' then intBin op k a b else none
  | .str a, .str b => strBin op a b
  | _, _ => none

def binBOf (op : BinOp) (x y : AV) : Option AV :=
  match x, y with
  | .bool a, .bool b => match op with
    | .eql => some (.bool (a == b))
    | .neq => some (.bool (!(a == b)))
    | _ => none
  | _, _ => none

def unOf (op : UnOp) (x : AV) : Option AV :=
  match op, x with
  | .neg, .int k n => intBin .sub k 0 n
  | .xor, .int k n => intBin .xor k (if k.signed then -1 else k.max) n
  | .not, .bool b => some (.bool (!b))
  | _, _ => none

def lenOf (k : LK) (h : Heap) (x : AV) : Option Nat :=
  match k, x with
  | .str, .str s => some s.length
  | .slice, .nilSlice => some 0
  | .slice, .list _ _ es => some es.length
  | .slice, .slice _ _ _ len _ => some len
  | .map, .nilMap => some 0
  | .map, .map id => match hget h id with
    | some (.map es _) => some es.length
    | _ => none
  | _, _ => none

/-- The elements of a slice, or the bytes of a text. -/
def elemsOf (esz : Nat) (h : Heap) : AV → Option (List (List AV))
  | .str s => if esz = 1 then some (s.map fun b => [.int .u8 b.toNat]) else none
  | .nilSlice => some []
  | .list z _ es => if z = esz then some es else none
  | .slice id z off len cap => match hget h id with
    | some (.arr _ _ _ _ es) => if es.length = off + cap ∧ len ≤ cap ∧ z = esz then some ((es.drop off).take len) else none
    | _ => none
  | _ => none

/-- A slice is let go of: nobody writes it any more. -/
def freeze1 (v : AV) (h : Heap) : Option (AV × Heap) :=
  match v with
  | .slice id z off len cap => match hget h id with
    | some (.arr _ _ _ _ es) => if es.length = off + cap ∧ len ≤ cap then some (.list z false ((es.drop off).take len), hset h id none) else none
    | _ => none
  | v => some (v, h)

def freezeL : List AV → Heap → Option (List AV × Heap)
  | [], h => some ([], h)
  | v :: vs, h => match freeze1 v h with
    | none => none
    | some (v, h) => match freezeL vs h with
      | none => none
      | some (vs, h) => some (v :: vs, h)

def freeze (v : AV) (h : Heap) : Option (AV × Heap) :=
  match v with
  | .agg cs => match freezeL cs h with
    | some (cs, h) => some (.agg cs, h)
    | none => none
  | v => freeze1 v h

def newArr (imm : Bool) (ty esz : Nat) (ex : Bool) (es : List (List AV)) (h : Heap) : AV × Heap :=
  bif imm then (.list esz ex es, h) else (.slice h.length esz 0 es.length es.length, h ++ [some (.arr ty esz 0 false es)])

def maxBytes : Nat := 140737488355328

def appendOf (imm : Bool) (ty esz bytes : Nat) (s x : AV) (h : Heap) : Option (AV × Heap) :=
  match elemsOf esz h x with
  | none => none
  | some xs =>
    match s with
    | .nilSlice => if xs.length = 0 then some (.nilSlice, h) else if xs.length * bytes ≤ maxBytes then some (newArr imm ty esz false xs h) else none
    | .list z ex es =>
      if xs.length = 0 then some (.list z ex es, h)
      else if ex = true ∧ (es.length + xs.length) * bytes ≤ maxBytes ∧ z = esz then some (newArr imm ty esz false (es ++ xs) h) else none
    | .slice id z off len cap => match hget h id with
      | some (.arr ty' esz' froz mk es) =>
        if es.length = off + cap ∧ len ≤ cap ∧ esz' = esz ∧ z = esz ∧ froz ≤ off + len ∧ ty' = ty then
          (if len + xs.length ≤ cap then
            (let h' := hset h id (some (.arr ty esz froz mk (splice es (off + len) xs)))
             bif imm then freeze1 (.slice id esz off (len + xs.length) cap) h' else some (.slice id esz off (len + xs.length) cap, h'))
          else if (len + xs.length) * bytes ≤ maxBytes ∧ off = 0 then
            (let h' := hset h id (some (.arr ty esz froz mk (es.take len ++ xs)))
             bif imm then freeze1 (.slice id esz 0 (len + xs.length) (len + xs.length)) h'
             else some (.slice id esz 0 (len + xs.length) (len + xs.length), h'))
          else none)
        else none
      | _ => none
    | _ => none

def copyOf (esz : Nat) (dst src : AV) (h : Heap) : Option (AV × Heap) :=
  match elemsOf esz h src with
  | none => none
  | some xs => match dst with
    | .nilSlice => some (.int .i64 0, h)
    | .list _ _ [] => some (.int .i64 0, h)
    | .slice id z off len cap => match hget h id with
      | some (.arr ty esz' froz mk es) =>
        if es.length = off + cap ∧ len ≤ cap ∧ froz ≤ off ∧ z = esz ∧ esz' = esz then
          some (.int .i64 (Nat.min xs.length len), hset h id (some (.arr ty esz froz mk (splice es off (xs.take len)))))
        else none
      | _ => none
    | _ => none

/-! ### Maps -/

def mapFind (kk : KK) (k : AV) : List (AV × AV × Nat) → Option (Option (AV × Nat))
  | [] => some none
  | (k', v, b) :: es => match eqKey kk k k' with
    | some true => some (some (v, b))
    | some false => mapFind kk k es
    | none => none

def mapSet (kk : KK) (k v : AV) : List (AV × AV × Nat) → List (AV × AV × Nat)
  | [] => []
  | (k', v', b) :: es => match eqKey kk k k' with
    | some true => (k', v, b) :: es
    | _ => (k', v', b) :: mapSet kk k v es

def mapDel (kk : KK) (k : AV) : List (AV × AV × Nat) → List (AV × AV × Nat)
  | [] => []
  | (k', v', b) :: es => match eqKey kk k k' with
    | some true => es
    | _ => (k', v', b) :: mapDel kk k es

def bornSet (s : Int) (v : AV) : List (AV × AV × Nat) → Option (List (AV × AV × Nat))
  | [] => none
  | (k', v', b) :: es => if (b : Int) = s then some ((k', v, b) :: es) else match bornSet s v es with
    | some es => some ((k', v', b) :: es)
    | none => none

def lookupOf (kk : KK) (zero : AV) (ok : Bool) (m k : AV) (h : Heap) : Option AV :=
  let out (v : AV) (b : Bool) : AV := bif ok then .tuple [v, .bool b] else v
  match m with
  | .nilMap => match eqKey kk k k with | some true => some (out zero false) | _ => none
  | .map id => match hget h id with
    | some (.map es _) => match eqKey kk k k with
      | some true => match mapFind kk k es with
        | some (some (v, _)) => some (out v true)
        | some none => some (out zero false)
        | none => none
      | _ => none
    | _ => none
  | _ => none

def mapUpdateOf (kk : KK) (m k v : AV) (h : Heap) : Option Heap :=
  match m with
  | .map id => match hget h id with
    | some (.map es clock) => match eqKey kk k k with
      | some true => match mapFind kk k es with
        | some (some _) => some (hset h id (some (.map (mapSet kk k v es) clock)))
        | some none => some (hset h id (some (.map (es ++ [(k, v, clock)]) (clock + 1))))
        | none => none
      | _ => none
    | _ => none
  | _ => none

def mapEntryOf (kk : KK) (zero m k : AV) (h : Heap) : Option (AV × Heap) :=
  match m with
  | .map id => match hget h id with
    | some (.map es clock) => match eqKey kk k k with
      | some true => match mapFind kk k es with
        | some (some (v, b)) => some (.tuple [v, .int .i64 b], h)
        | some none => some (.tuple [zero, .int .i64 clock], hset h id (some (.map (es ++ [(k, zero, clock)]) (clock + 1))))
        | none => none
      | _ => none
    | _ => none
  | _ => none

def entryStoreOf (m s v : AV) (h : Heap) : Option Heap :=
  match m, idxOf s with
  | .map id, some s => match hget h id with
    | some (.map es clock) => match bornSet s v es with
      | some es => some (hset h id (some (.map es clock)))
      | none => none
    | _ => none
  | _, _ => none

def deleteOf (kk : KK) (m k : AV) (h : Heap) : Option Heap :=
  match m with
  | .nilMap => match eqKey kk k k with | some true => some h | _ => none
  | .map id => match hget h id with
    | some (.map es clock) => match eqKey kk k k with
      | some true => match mapFind kk k es with
        | some _ => some (hset h id (some (.map (mapDel kk k es) clock)))
        | none => none
      | _ => none
    | _ => none
  | _ => none

def rangeOf (m : AV) (h : Heap) : Option (AV × Heap) :=
  match m with
  | .nilMap => some (.ptr h.length 0, h ++ [some (.iter none 0 [] 0)])
  | .map id => match hget h id with
    | some (.map _ clock) => some (.ptr h.length 0, h ++ [some (.iter (some id) clock [] clock)])
    | _ => none
  | _ => none

def nextOf (it : AV) : M AV := fun h =>
  match it with
  | .ptr id 0 => match hget h id with
    | some (.iter none _ _ _) => .ret (.tuple [.bool false], h)
    | some (.iter (some m) since seen last) => match hget h m with
      | some (.map es clock) =>
        if !seen.isEmpty && !es.isEmpty && es.all (fun e => decide (e.2.2 ≥ last)) then .fail else
        let left := es.filter fun e => !seen.contains e.2.2
        let old := left.filter fun e => decide (e.2.2 < since)
        let new := left.filter fun e => decide (e.2.2 ≥ since)
        let all := (bif old.isEmpty then [none] else []) ++ (old ++ new).map some
        .pick all.length fun i => match all[i]? with
          | some (some (k, v, b)) => .ret (.tuple [.bool true, k, v], hset h id (some (.iter (some m) since (seen ++ [b]) clock)))
          | some none => .ret (.tuple [.bool false], h)
          | none => .fail
      | _ => .fail
    | _ => .fail
  | _ => .fail

def entryOf (it : AV) (h : Heap) : Option AV :=
  match it with
  | .ptr id 0 => match hget h id with
    | some (.iter (some m) _ seen stepped) => match hget h m, seen.getLast? with
      | some (.map es clock), some b => if clock = stepped then
          match es.find? (fun e => e.2.2 == b) with
          | some (k, v, _) => some (.tuple [k, v])
          | none => none
        else none
      | _, _ => none
    | _ => none
  | _ => none

/-! ### Making -/

/-- Parts are laid into cells: each at its place, so wide. -/
def fillParts : List AV → List (Nat × Nat × AV) → Option (List AV)
  | cs, [] => some cs
  | cs, (off, n, v) :: ps => match v.cells with
    | some xs => if xs.length = n ∧ off + n ≤ cs.length then fillParts (splice cs off xs) ps else none
    | none => none

def fillElems (esz : Nat) : List (List AV) → List (Nat × AV) → Option (List (List AV))
  | es, [] => some es
  | es, (i, v) :: ps => match v.cells with
    | some xs => if xs.length = esz ∧ i < es.length then fillElems esz (es.set i xs) ps else none
    | none => none

def bytesOf : List (List AV) → Option (List UInt8)
  | [] => some []
  | [.int .u8 n] :: es => if 0 ≤ n ∧ n < 256 then match bytesOf es with
      | some bs => some (UInt8.ofNat n.toNat :: bs)
      | none => none
    else none
  | _ :: _ => none

def strOf (h : Heap) (x : AV) : Option AV :=
  match x with
  | .str _ => none
  | _ => match elemsOf 1 h x with
    | some es => match bytesOf es with
      | some bs => some (.str bs)
      | none => none
    | none => none

def sliceDataOf : AV → Option AV
  | .nilSlice => some .nil
  | .slice id _ off _ cap => if 0 < cap then some (.eptr id (off + cap) off 0) else none
  | _ => none

def unsafeStrOf (ty : Nat) (x n : AV) (h : Heap) : Option (AV × Heap) :=
  match n with
  | .int .i64 n => if n < 0 then none else if n = 0 then
      match x with
      | .nil => some (.str [], h)
      | .eptr .. => some (.str [], h)
      | _ => none
    else match x with
      | .eptr id sz i 0 => match hget h id with
        | some (.arr ty' 1 froz false es) => if es.length = sz ∧ i = 0 ∧ n.toNat ≤ es.length ∧ ty' = ty ∧ n ≤ 9223372036854775807 then
            match bytesOf (es.take n.toNat) with
            | some bs => some (.str bs, hset h id (some (.arr ty 1 (Nat.max froz n.toNat) false es)))
            | none => none
          else none
        | _ => none
      | _ => none
  | _ => none

def evalAll (gl : Globals) (e : Env) (l : List Operand) : List AV := l.map fun x => match Opd.eval gl e x with | .lptr .. => .undef | v => v

/-! ### Carrying out -/

inductive Callee where
  | fn (f : Nat)
  | yield (l : Nat)

abbrev Rec := Callee → List AV → M AV
abbrev Exts := Nat → List AV → Option AV

/-- The boxes of local variables that lie in the frame. -/
structure Loc where
  boxes : List (Nat × List AV)
  nb : Nat
  deriving Inhabited

def boxGet : List (Nat × List AV) → Nat → Option (List AV)
  | [], _ => none
  | (k, v) :: l, i => bif Nat.beq k i then some v else boxGet l i

def boxSet : List (Nat × List AV) → Nat → List AV → List (Nat × List AV)
  | [], _, _ => []
  | (k, v) :: l, i, x => bif Nat.beq k i then (k, x) :: l else (k, v) :: boxSet l i x

def Loc.id (l : Loc) (k : Nat) : Nat := l.nb * 64 + k
def Loc.add (l : Loc) (k : Nat) (cs : List AV) : Loc := { boxes := (l.id k, cs) :: l.boxes, nb := l.nb }
def Loc.set (l : Loc) (i : Nat) (cs : List AV) : Loc := { l with boxes := boxSet l.boxes i cs }
/-- May a new box bear this number? -/
def Loc.free (l : Loc) (k : Nat) : Bool := Nat.blt k 64 && (match boxGet l.boxes (l.id k) with | none => true | some _ => false)

def lptrOf : AV → Option Nat
  | .lptr i _ => some i
  | _ => none

/-- The boxes that an environment names, in its order. -/
def rebuild (b : List (Nat × List AV)) : Env → List (Nat × List AV)
  | [] => []
  | p :: e => match lptrOf p.2 with
    | some i => match boxGet b i with
      | some cs => (i, cs) :: rebuild b e
      | none => rebuild b e
    | none => rebuild b e

def Loc.keep (l : Loc) (e : Env) : Loc := { boxes := rebuild l.boxes e, nb := l.nb + 1 }

def AV.clean : AV → AV
  | .lptr .. => .undef
  | v => v

structure St where
  env : Env
  loc : Loc
  defers : List (Nat × List AV)
  deriving Inhabited

structure Ctx where
  gl : Globals
  ext : Exts

def out (v : Option AV) : M (AV × Option Loc) := fun h => match v with | some v => .ret ((v, none), h) | none => .fail
def outH (v : Option (AV × Heap)) : M (AV × Option Loc) := fun _ => match v with | some (v, h) => .ret ((v, none), h) | none => .fail
def outS (v : Option Heap) : M (AV × Option Loc) := fun _ => match v with | some h => .ret ((.undef, none), h) | none => .fail

def callValue (rec : Rec) (f : AV) (args : List AV) : M AV :=
  match f with
  | .clos g first caps => rec (.fn g) (first ++ args ++ caps)
  | .yield l => rec (.yield l) args
  | _ => M.fail

/-- One operation: its result; a local variable's box is turned in the frame (the second part). -/
def doOp (c : Ctx) (rec : Rec) (e : Env) (l : Loc) (op : AOp) : M (AV × Option Loc) := fun h =>
  let raw := Opd.eval c.gl e
  let ev := fun x => (Opd.eval c.gl e x).clean
  match op with
  | .mov x => .ret ((raw x, none), h)
  | .pick p a b => match ev p with
    | .bool t => .ret ((bif t then raw a else raw b, none), h)
    | _ => .fail
  | .allocL k zero => if l.free k then .ret ((.lptr (l.id k) 0, some (l.add k zero)), h) else .fail
  | .boxL k n x => match (ev x).cells with
    | some cs => if cs.length = n then (if l.free k then .ret ((.lptr (l.id k) 0, some (l.add k cs)), h) else .fail) else .fail
    | none => .fail
  | .allocH ty zero => .ret ((.ptr h.length 0, none), h ++ [some (.cells ty zero)])
  | .boxH ty n x => match (ev x).cells with
    | some cs => if cs.length = n then .ret ((.ptr h.length 0, none), h ++ [some (.cells ty cs)]) else .fail
    | none => .fail
  | .loadL agg n a => match raw a with
    | .lptr i off => match boxGet l.boxes i with
      | some cs => if off ≤ cs.length then out (mkVal agg n (cs.drop off)) h else .fail
      | none => .fail
    | _ => .fail
  | .storeL n a x => match raw a, (ev x).cells with
    | .lptr i off, some xs => match boxGet l.boxes i with
      | some cs => if xs.length = n ∧ off + n ≤ cs.length then .ret ((.undef, some (l.set i (splice cs off xs))), h) else .fail
      | none => .fail
    | _, _ => .fail
  | .fieldL off x => match raw x with
    | .lptr i o => .ret ((.lptr i (o + off), none), h)
    | _ => .fail
  | .idxL esz len x i => match raw x, idxOf (ev i) with
    | .lptr j o, some i => if 0 ≤ i ∧ i < (len : Int) then .ret ((.lptr j (o + i.toNat * esz), none), h) else .fail
    | _, _ => .fail
  | .same .. => .fail
  | .load agg n a => out (loadAt agg n h (ev a)) h
  | .store n a x => outS (storeAt n h (ev a) (ev x)) h
  | .nilCheck x => match ev x with
    | .ptr i o => .ret ((.ptr i o, none), h)
    | .eptr i s k o => .ret ((.eptr i s k o, none), h)
    | .cref cs => .ret ((.cref cs, none), h)
    | _ => .fail
  | .fieldAddr off x => out (fieldAt off (ev x)) h
  | .indexAddr esz x i => out (indexAt esz (ev x) (ev i)) h
  | .indexArr esz len x i => out (indexArrAt esz len (ev x) (ev i)) h
  | .field agg n off x => out (fieldOf agg n off (ev x)) h
  | .index agg esz len x i => out (indexOf agg esz len (ev x) (ev i)) h
  | .indexStr x i => out (indexStrOf (ev x) (ev i)) h
  | .sliceStr x lo hi => out (sliceStrOf (ev x) (lo.map ev) (hi.map ev)) h
  | .slice esz x lo hi => out (sliceOf esz (ev x) (lo.map ev) (hi.map ev)) h
  | .bin op x y => out (binOf op (ev x) (ev y)) h
  | .binB op x y => out (binBOf op (ev x) (ev y)) h
  | .eqAgg neg ks x y => match eqKey (.agg ks) (ev x) (ev y) with
    | some b => .ret ((.bool (neg != b), none), h)
    | none => .fail
  | .eqNil k neg x y => match eqPtr k h (ev x) (ev y) with
    | some b => .ret ((.bool (neg != b), none), h)
    | none => .fail
  | .un op x => out (unOf op (ev x)) h
  | .convInt k x => match ev x with
    | .int _ n => .ret ((.int k (k.wrap n), none), h)
    | _ => .fail
  | .bytesToStr x => out (strOf h (ev x)) h
  | .strToBytes ty x => match ev x with
    | .str s => .ret ((.slice h.length 1 0 s.length s.length, none), h ++ [some (.arr ty 1 0 true (s.map fun b => [.int .u8 b.toNat]))])
    | _ => .fail
  | .convPtr ty n x => match ev x with
    | .nil => .ret ((.nil, none), h)
    | .ptr id off => match hget h id with
      | some (.cells ty' cs) => if ty' = ty ∧ off = 0 ∧ cs.length = n then .ret ((.ptr id off, none), h) else .fail
      | _ => .fail
    | _ => .fail
  | .clos f first caps => .ret ((.clos f (evalAll c.gl e first) (evalAll c.gl e caps), none), h)
  | .makeMap => .ret ((.map h.length, none), h ++ [some (.map [] 0)])
  | .lookup kk zero ok m k => out (lookupOf kk zero ok (ev m) (ev k) h) h
  | .mapUpdate kk m k v => outS (mapUpdateOf kk (ev m) (ev k) (ev v) h) h
  | .mapEntry kk zero m k => outH (mapEntryOf kk zero (ev m) (ev k) h) h
  | .entryStore m s v => outS (entryStoreOf (ev m) (ev s) (ev v) h) h
  | .delete kk m k => outS (deleteOf kk (ev m) (ev k) h) h
  | .range m => outH (rangeOf (ev m) h) h
  | .next it => (nextOf (ev it) h).bind fun r => .ret ((r.1, none), r.2)
  | .entry it => out (entryOf (ev it) h) h
  | .makeSlice ty esz bytes zero len cap => match ev len, ev cap with
    | .int _ l, .int _ n => if 0 ≤ l ∧ l ≤ n ∧ n * bytes ≤ maxBytes ∧ n ≤ 9223372036854775807 then
        .ret ((.slice h.length esz 0 l.toNat n.toNat, none), h ++ [some (.arr ty esz 0 false (List.replicate n.toNat zero))])
      else .fail
    | _, _ => .fail
  | .build zero ps => match fillParts zero (ps.map fun p => (p.1, p.2.1, ev p.2.2)) with
    | some cs => .ret ((.agg cs, none), h)
    | none => .fail
  | .buildSlice imm ty esz len zero ps => match fillElems esz (List.replicate len zero) (ps.map fun p => (p.1, ev p.2)) with
    | some es => .ret (((newArr imm ty esz true es h).1, none), (newArr imm ty esz true es h).2)
    | none => .fail
  | .call f args => (rec (.fn f) (evalAll c.gl e args) h).bind fun r => .ret ((r.1, none), r.2)
  | .callv f args => (callValue rec (ev f) (evalAll c.gl e args) h).bind fun r => .ret ((r.1, none), r.2)
  | .ext f args => out (c.ext f (evalAll c.gl e args)) h
  | .defer .. => .fail
  | .append imm ty esz bytes s x => outH (appendOf imm ty esz bytes (ev s) (ev x) h) h
  | .copy esz d s => outH (copyOf esz (ev d) (ev s) h) h
  | .len k x => match lenOf k h (ev x) with
    | some n => .ret ((.int .i64 n, none), h)
    | none => .fail
  | .min x y => match ev x, ev y with
    | .int k a, .int k' b => if k = k' then .ret ((.int k (if b < a then b else a), none), h) else .fail
    | _, _ => .fail
  | .max x y => match ev x, ev y with
    | .int k a, .int k' b => if k = k' then .ret ((.int k (if b > a then b else a), none), h) else .fail
    | _, _ => .fail
  | .extract t i => match ev t with
    | .tuple vs => out vs[i]? h
    | _ => .fail
  | .sliceData x => out (sliceDataOf (ev x)) h
  | .unsafeStr ty x n => outH (unsafeStrOf ty (ev x) (ev n) h) h

def afterOp (st : St) (o : AOper) (r : (AV × Option Loc) × Heap) : ND (St × Heap) :=
  bif o.frz then match freeze r.1.1 r.2 with
    | some (v, h) => .ret ({ st with env := st.env.put o.dst v, loc := r.1.2.getD st.loc }, h)
    | none => .fail
  else .ret ({ st with env := st.env.put o.dst r.1.1, loc := r.1.2.getD st.loc }, r.2)

def goOper (c : Ctx) (rec : Rec) (st : St) (o : AOper) : M St := fun h =>
  match o.op with
  | .defer f args => .ret ({ st with env := st.env.put o.dst .undef, defers := (f, evalAll c.gl st.env args) :: st.defers }, h)
  | op => (doOp c rec st.env st.loc op h).bind (afterOp st o)

def doOper (c : Ctx) (rec : Rec) (st : St) (o : AOper) : M St := fun h =>
  match o.guard with
  | none => goOper c rec st o h
  | some (s, want) => match st.env.get s with
    | .bool b => if b = want then goOper c rec st o h else .ret ({ st with env := st.env.put o.dst (.tuple []) }, h)
    | .tuple [] => .ret ({ st with env := st.env.put o.dst (.tuple []) }, h)
    | _ => .fail

def doOps (c : Ctx) (rec : Rec) : List AOper → St → M St
  | [], st => fun h => .ret (st, h)
  | o :: os, st => fun h => (doOper c rec st o h).bind fun r => doOps c rec os r.1 r.2

/-- A load done again. -/
def loadV (c : Ctx) (st : St) (h : Heap) : AOp → Option AV
  | .load agg n a => loadAt agg n h (Opd.eval c.gl st.env a).clean
  | .loadL agg n a => match Opd.eval c.gl st.env a with
    | .lptr i off => match boxGet st.loc.boxes i with
      | some cs => if off ≤ cs.length then mkVal agg n (cs.drop off) else none
      | none => none
    | _ => none
  | _ => none

def reOK (c : Ctx) (st : St) (h : Heap) : List (Nat × AOp) → Bool
  | [] => true
  | (d, op) :: rs => (match loadV c st h op with | some v => AV.same v (st.env.get d) | none => false) && reOK c st h rs

/-- An operation, behind which some loads are done again: they must give what they gave. -/
def doD (c : Ctx) (rec : Rec) (st : St) (d : AOper × List (Nat × AOp)) : M St := fun h =>
  (doOper c rec st d.1 h).bind fun r => if reOK c r.1 r.2 d.2 then .ret r else .fail

def doDs (c : Ctx) (rec : Rec) : List (AOper × List (Nat × AOp)) → St → M St
  | [], st => fun h => .ret (st, h)
  | o :: os, st => fun h => (doD c rec st o h).bind fun r => doDs c rec os r.1 r.2

def St.keep (st : St) (live : List Nat) : St := { st with env := st.env.keep live, loc := st.loc.keep (st.env.keep live) }

/-! ### Ways that come to the same -/

def exitSame : AExit → AExit → Bool
  | .normal, .normal => true
  | .exit i, .exit j => Nat.beq i j
  | .ret, .ret => true
  | _, _ => false

def pairsSame : List (Nat × AV) → List (Nat × AV) → Bool
  | [], [] => true
  | a :: aS, b :: bs => Nat.beq a.1 b.1 && AV.same a.2 b.2 && pairsSame aS bs
  | _, _ => false

def listsSame : List (Nat × List AV) → List (Nat × List AV) → Bool
  | [], [] => true
  | a :: aS, b :: bs => Nat.beq a.1 b.1 && AV.sames a.2 b.2 && listsSame aS bs
  | _, _ => false

def entriesSame : List (AV × AV × Nat) → List (AV × AV × Nat) → Bool
  | [], [] => true
  | a :: aS, b :: bs => AV.same a.1 b.1 && AV.same a.2.1 b.2.1 && Nat.beq a.2.2 b.2.2 && entriesSame aS bs
  | _, _ => false

def objSame : Option AObj → Option AObj → Bool
  | none, none => true
  | some (.cells t cs), some (.cells t' cs') => Nat.beq t t' && AV.sames cs cs'
  | some (.arr t z f m es), some (.arr t' z' f' m' es') => Nat.beq t t' && Nat.beq z z' && Nat.beq f f' && (m == m') && AV.samess es es'
  | some (.map es c), some (.map es' c') => entriesSame es es' && Nat.beq c c'
  | some (.iter none s l t), some (.iter none s' l' t') => Nat.beq s s' && decide (l = l') && Nat.beq t t'
  | some (.iter (some m) s l t), some (.iter (some m') s' l' t') => Nat.beq m m' && Nat.beq s s' && decide (l = l') && Nat.beq t t'
  | _, _ => false

def heapSame : Heap → Heap → Bool
  | [], [] => true
  | a :: aS, b :: bs => objSame a b && heapSame aS bs
  | _, _ => false

def outSame (a b : (AExit × St) × Heap) : Bool :=
  exitSame a.1.1 b.1.1 && pairsSame a.1.2.env b.1.2.env && listsSame a.1.2.loc.boxes b.1.2.loc.boxes && Nat.beq a.1.2.loc.nb b.1.2.loc.nb && listsSame a.1.2.defers b.1.2.defers && heapSame a.2 b.2

/-- All further ways come to this one. -/
def restSame {α : Type} (eq : α → α → Bool) (a : α) (f : Nat → Option α) : Nat → Bool
  | 0 => true
  | n + 1 => (match f n with | some b => eq a b | none => false) && restSame eq a f n

/-- All ways come to the same. -/
def ND.one {α : Type} (eq : α → α → Bool) : ND α → Option α
  | .fail => none
  | .ret a => some a
  | .pick n k => match n with
    | 0 => none
    | n + 1 => match ND.one eq (k n) with
      | none => none
      | some a => if restSame eq a (fun i => ND.one eq (k i)) n then some a else none

/-- What is kept of a frame, its boxes numbered anew from there on. -/
def St.keepAt (st : St) (live : List Nat) (nb : Nat) : St := { st with env := st.env.keep live, loc := { boxes := rebuild st.loc.boxes (st.env.keep live), nb } }

/-- Behind a range over a map: the iterator is let go of. -/
def behindRange (id nb : Nat) (live : List Nat) (r : (AExit × St) × Heap) : ND ((AExit × St) × Heap) :=
  match hget r.2 id with
  | some (.iter ..) => if r.1.2.loc.nb < nb then .ret ((r.1.1, r.1.2.keepAt live nb), hset r.2 id none) else .fail
  | _ => .fail

def blockM (id : Nat) (r : (AExit × St) × Heap) : ND ((AExit × St) × Heap) :=
  match r.1.1 with
  | .exit i => if i = id then .ret ((.normal, r.1.2), r.2) else .ret ((.exit i, r.1.2), r.2)
  | .normal => .ret ((.normal, r.1.2), r.2)
  | .ret => .ret ((.ret, r.1.2), r.2)

/-- A frame's environment for another frame: no boxes. -/
def Env.strip (e : Env) : Env := e.map fun p => (p.1, p.2.clean)

def loopM (body : St → M (AExit × St)) : Nat → St → M (AExit × St)
  | 0, _ => fun _ => .fail
  | n + 1, st => fun h => (body st h).bind fun r => match r.1.1 with
    | .normal => loopM body n r.1.2 r.2
    | .exit i => .ret ((.exit i, r.1.2), r.2)
    | .ret => .ret ((.ret, r.1.2), r.2)

def exec (c : Ctx) (rec : Rec) (n : Nat) : ACode → St → M (AExit × St)
  | .skip, st => fun h => .ret ((.normal, st), h)
  | .fail, _ => fun _ => .fail
  | .ops l live, st => fun h => (doOps c rec l st h).bind fun r => .ret ((.normal, r.1.keep live), r.2)
  | .opsD l live, st => fun h => (doDs c rec l st h).bind fun r => .ret ((.normal, r.1.keep live), r.2)
  | .seq a b, st => fun h => (exec c rec n a st h).bind fun r => match r.1.1 with
    | .normal => exec c rec n b r.1.2 r.2
    | .exit i => .ret ((.exit i, r.1.2), r.2)
    | .ret => .ret ((.ret, r.1.2), r.2)
  | .cond p a b, st => fun h => match Opd.eval c.gl st.env p with
    | .bool true => exec c rec n a st h
    | .bool false => exec c rec n b st h
    | _ => .fail
  | .block id b, st => fun h => (exec c rec n b st h).bind fun r => match r.1.1 with
    | .exit i => if i = id then .ret ((.normal, r.1.2), r.2) else .ret ((.exit i, r.1.2), r.2)
    | .normal => .ret ((.normal, r.1.2), r.2)
    | .ret => .ret ((.ret, r.1.2), r.2)
  | .mblock id it room live b, st => fun h => match st.env.get it with
    | .ptr i 0 => match ND.one outSame ((exec c rec n b st h).bind fun r => (blockM id r).bind (behindRange i (st.loc.nb + room) live)) with
      | some r => .ret r
      | none => .fail
    | _ => .fail
  | .loop live b, st => fun h => loopM (fun st => exec c rec n b (st.keep live)) n st h
  | .exit id, st => fun h => .ret ((.exit id, st), h)
  | .ret, st => fun h => .ret ((.ret, st), h)
  | .rangeFunc f ps assign body live, st => fun h =>
    match Opd.eval c.gl st.env f with
    | .clos g first caps =>
      (rec (.fn g) (first ++ [.yield h.length] ++ caps)
        (h ++ [some (.loop { state := .ready, pending := none, env := (st.env.keep live).strip, params := ps, assign, body })])).bind fun r =>
      match hget r.2 h.length with
      | some (.loop lp) => match lp.state with
        | .busy => .fail
        | _ => match lp.pending with
          | none => .ret ((.normal, st), hset r.2 h.length none)
          | some .ret => .ret ((.ret, st), hset r.2 h.length none)
          | some (.exit i) => .ret ((.exit i, st), hset r.2 h.length none)
          | some .normal => .fail
      | _ => .fail
    | _ => .fail

def readRes (st : St) (h : Heap) : ARes → Option AV
  | .tmp s => some (st.env.get s).clean
  | .cellL agg n s => match st.env.get s with
    | .lptr i off => match boxGet st.loc.boxes i with
      | some cs => if off ≤ cs.length then mkVal agg n (cs.drop off) else none
      | none => none
    | _ => none
  | .cellH agg n s => loadAt agg n h (st.env.get s)

def readAll (st : St) (h : Heap) : List ARes → Option (List AV)
  | [] => some []
  | r :: rs => match readRes st h r, readAll st h rs with
    | some v, some vs => some (v :: vs)
    | _, _ => none

def resultOf (st : St) (h : Heap) : List ARes → Option AV
  | [r] => readRes st h r
  | rs => match readAll st h rs with
    | some vs => some (.tuple vs)
    | none => none

def runDefers (rec : Rec) : List (Nat × List AV) → M Unit
  | [] => fun h => .ret ((), h)
  | (f, args) :: ds => fun h => (rec (.fn f) args h).bind fun r => runDefers rec ds r.2

def argEnv : Nat → List AV → Env
  | _, [] => []
  | i, v :: vs => (i, v) :: argEnv (i + 1) vs

def runFunc (c : Ctx) (rec : Rec) (n : Nat) (f : AFunc) (args : List AV) : M AV := fun h =>
  if args.length = f.params then
    (exec c rec n f.body { env := argEnv 0 args, loc := ⟨[], 0⟩, defers := [] } h).bind fun r =>
    match r.1.1 with
    | .exit _ => .fail
    | _ => (runDefers rec r.1.2.defers r.2).bind fun d => match resultOf r.1.2 d.2 f.results with
      | some v => .ret (v, d.2)
      | none => .fail
  else .fail

def putAll : Env → List Nat → List AV → Env
  | e, s :: ss, v :: vs => putAll ((s, v) :: e) ss vs
  | e, _, _ => e

def setLoop (l : Nat) (f : ALoop → ALoop) (h : Heap) : Option Heap :=
  match hget h l with
  | some (.loop lp) => some (hset h l (some (.loop (f lp))))
  | _ => none

def endRoundM (l : Nat) (e : AExit) (h : Heap) : ND (AV × Heap) :=
  match e with
  | .normal => match setLoop l (fun lp => { lp with state := .ready, pending := none }) h with
    | some h => .ret (.bool true, h)
    | none => .fail
  | e => match setLoop l (fun lp => { lp with state := .done, pending := some e }) h with
    | some h => .ret (.bool false, h)
    | none => .fail

def runRound (c : Ctx) (rec : Rec) (n : Nat) (l : Nat) (args : List AV) : M AV := fun h =>
  match hget h l with
  | some (.loop lp) => if args.length = lp.params.length then
      (exec c rec n lp.assign { env := putAll lp.env lp.params args, loc := ⟨[], 0⟩, defers := [] } h).bind fun r =>
      match r.1.1 with
      | .normal => match hget r.2 l with
        | some (.loop lp2) => match lp2.state with
          | .ready => (exec c rec n lp.body r.1.2 (hset r.2 l (some (.loop { lp2 with state := .busy })))).bind fun q => endRoundM l q.1.1 q.2
          | _ => .fail
        | _ => .fail
      | _ => .fail
    else .fail
  | _ => .fail

abbrev Table := Nat → Option AFunc

def call (c : Ctx) (T : Table) : Nat → Rec
  | 0 => fun _ _ _ => .fail
  | n + 1 => fun f args h => match f with
    | .fn f => match T f with
      | some af => runFunc c (call c T n) n af args h
      | none => .fail
    | .yield l => runRound c (call c T n) n l args h

end Go.Proofs.YtjbkcboklccmeaaGreatDoor.Abs
