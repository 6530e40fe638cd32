/- A plain machine beside the model: values and blocks of its own numbering, no tape, no world; what it says of a call the model's call does (the later texts). -/
import Derived.Below
import Derived.Calls
import Derived.Laws.IdiomCopy
import Derived.LoopN
import Derived.Orders
import Derived.Scope
set_option linter.unusedVariables false
set_option linter.unusedSimpArgs false
namespace Go.Proofs.YtemgddekbdifeaaGreat.Am

/-- A block: cells, the type of an element, may the call write it, may it have room behind its cells. -/
inductive Blk where
  | cells (cs : List Value) (t : TypeId) (own opn : Bool)

structure H where
  next : Nat
  get : Nat → Option Blk

def H.push (h : H) (b : Blk) : H := ⟨h.next + 1, fun i => if i = h.next then some b else h.get i⟩
def H.upd (h : H) (i : Nat) (b : Blk) : H := ⟨h.next, fun j => if j = i then some b else h.get j⟩
def H.kill (h : H) (i : Nat) : H := ⟨h.next, fun j => if j = i then none else h.get j⟩
def H.pushO (h : H) : Option Blk → H
  | none => h
  | some b => h.push b

/-- The cells from place o on, n of them. -/
def H.rd (h : H) (i o n : Nat) : Option (List Value) :=
  match h.get i with
  | some (.cells cs _ _ _) => if o + n ≤ cs.length then some ((cs.drop o).take n) else none
  | none => none
def H.cell (h : H) (i o : Nat) : Option Value :=
  match h.get i with
  | some (.cells cs _ _ _) => cs[o]?
  | none => none
def splice (cs : List Value) (o : Nat) (vs : List Value) : List Value := cs.take o ++ vs ++ cs.drop (o + vs.length)
def H.wr (h : H) (i o : Nat) (vs : List Value) : Option H :=
  match h.get i with
  | some (.cells cs t true op) => if o + vs.length ≤ cs.length then some (h.upd i (.cells (splice cs o vs) t true op)) else none
  | _ => none
def H.wr1 (h : H) (i o : Nat) (v : Value) : Option H :=
  match h.get i with
  | some (.cells cs t true op) => if o < cs.length then some (h.upd i (.cells (cs.set o v) t true op)) else none
  | _ => none

abbrev Fr := Nat → Value
def Fr.put (f : Fr) (d : Option Nat) (v : Value) : Fr :=
  match d with
  | some d => fun i => if i = d then v else f i
  | none => f
def ev (f : Fr) : Operand → Value
  | .tmp t => f t
  | .const v => v
  | .global g => .pointer (some ⟨g, 0, none⟩)
  | .func g => .func (.func g) #[] #[]

/-- A piece of a value that is built: cells that are known, or an operand of so many cells. -/
inductive Seg where
  | lit (vs : List Value)
  | opd (n : Nat) (x : Operand)

/-- A cell that is compared: a whole number, a Bool, a string. -/
inductive Leaf where
  | n (o : Nat)
  | b (o : Nat)
  | s (o : Nat)
def Leaf.off : Leaf → Nat
  | .n o | .b o | .s o => o

inductive NK where
  | p | s | m | f

inductive AOp where
  | mv (x : Operand)
  | pick (c a b : Operand)
  | alloc (t : TypeId) (z : List Value)
  | box (t : TypeId) (x : Operand)
  | build (ps : List Seg)
  | bslice (t : TypeId) (len : Nat) (ps : List Seg)
  | ld1 (x : Operand)
  | ldN (n : Nat) (x : Operand)
  | nilc (x : Operand)
  | bin (op : BinOp) (x y : Operand)
  | eqB (neg : Bool) (x y : Operand)
  | eqA (offs : List Leaf) (neg : Bool) (x y : Operand)
  | eqN (k : NK) (neg : Bool) (x y : Operand)
  | un (op : UnOp) (x : Operand)
  | cvI (k : IntKind) (x : Operand)
  | cvStr (x : Operand)
  | cvBytes (t : TypeId) (x : Operand)
  | fad (off : Nat) (x : Operand)
  | iadA (len sz : Nat) (x i : Operand)
  | iadS (sz : Nat) (x i : Operand)
  | fld1 (off : Nat) (x : Operand)
  | fldN (off n : Nat) (x : Operand)
  | ix1 (len sz : Nat) (x i : Operand)
  | ixN (len sz : Nat) (x i : Operand)
  | ixS (x i : Operand)
  | slS (x : Operand) (lo hi : Option Operand)
  | slL (t : TypeId) (sz : Nat) (x : Operand) (lo hi : Option Operand)
  | slA (n sz : Nat) (x : Operand) (lo hi : Option Operand)
  | slZ (t : TypeId) (x : Operand)
  | mks (t : TypeId) (bytes : Nat) (z : List Value) (len cap : Operand)
  | mkf (fn : FuncId) (first cap : List Operand)
  | ext (x : Operand) (i : Nat)
  | lenS (x : Operand)
  | lenL (x : Operand)
  | cst (v : Value)
  | minmax (mx : Bool) (x : Operand) (xs : List Operand)
  -- what follows writes, or calls
  | mvS (x : Operand)
  | st1 (x v : Operand)
  | stN (n : Nat) (x v : Operand)
  | app (t : TypeId) (sz bytes : Nat) (x y : Operand)
  | cpy (sz : Nat) (d s : Operand)
  | call (f : FuncId) (args : List Operand)
  | callv (f : Operand) (args : List Operand)

def AOp.strict : AOp → Bool
  | .mvS _ | .st1 .. | .stN .. | .app .. | .cpy .. | .call .. | .callv .. => true
  | _ => false

structure AStep where
  dst : Option Nat
  op : AOp
  guard : Option (Nat × Bool) := none
  chk : List (Option Nat × AOp) := []

inductive ACode where
  | skip
  | reg (l : List AStep)
  | seq (a b : ACode)
  | cond (c : Operand) (t e : ACode)
  | block (id : Nat) (c : ACode)
  | loop (c : ACode)
  | exit (id : Nat)
  | ret

inductive RV where
  | tmp (t : Nat)
  | cell1 (a : Nat)
  | cellN (a n : Nat)

structure AFn where
  body : ACode
  res : List RV

/-- A test of a Bool that may be unknown. -/
def obool (b : Bool) (A B : Prop) : Prop :=
  match b with
  | true => A
  | false => B

/-- A value whose kind is known goes on. -/
def force (v : Value) (K : Value → Prop) : Prop :=
  match v with
  | .bool b => K (.bool b)
  | .int k n => K (.int k n)
  | .float k n => K (.float k n)
  | .complex k a b => K (.complex k a b)
  | .string s => K (.string s)
  | .pointer a => K (.pointer a)
  | .slice a n c => K (.slice a n c)
  | .map r => K (.map r)
  | .chan r => K (.chan r)
  | .func a b c => K (.func a b c)
  | .nilFunc => K .nilFunc
  | .iface t v => K (.iface t v)
  | .nilIface => K .nilIface
  | .agg cs => K (.agg cs)
  | .tuple cs => K (.tuple cs)

/-- The cells of a value that memory may hold. -/
def cellsOf : Value → Option (List Value)
  | .tuple _ => none
  | .agg cs => some cs.toList
  | v => some [v]

def segs (ρ : Operand → Value) : List Seg → Option (List Value)
  | [] => some []
  | .lit vs :: r => (segs ρ r).map (vs ++ ·)
  | .opd n x :: r => match cellsOf (ρ x) with
    | some l => if l.length = n then (segs ρ r).map (l ++ ·) else none
    | none => none

def bytesOf : List Value → Option (List UInt8)
  | [] => some []
  | .int .u8 n :: r => (bytesOf r).map (UInt8.ofNat n.toNat :: ·)
  | _ :: _ => none

def leafEq : Leaf → Value → Value → Option Bool
  | .n _, .int k a, .int k' b => if k = k' then some (a == b) else none
  | .b _, .bool a, .bool b => some (a == b)
  | .s _, .string a, .string b => some (a == b)
  | _, _, _ => none
def eqL (xs ys : List Value) : List Leaf → Option Bool
  | [] => some true
  | l :: r => match xs[l.off]?, ys[l.off]? with
    | some x, some y => match leafEq l x y with
      | some b => (eqL xs ys r).map (b && ·)
      | none => none
    | _, _ => none

def byteAt (s : ByteArray) (i : Nat) : Nat := (s.data[i]?.getD 0).toNat

/-- A number that is reckoned: it stands as its kind has it. (A walk halts here: whoever proves says that it fits.) -/
inductive Ar (k : IntKind) (z : Int) (K : Value → Prop) : Prop
  | mk (h : K (.int k (k.wrap z))) : Ar k z K

def intB (op : BinOp) (k : IntKind) (a b : Int) (K : Value → Prop) : Prop :=
  match op with
  | .add => Ar k (a + b) K
  | .sub => Ar k (a - b) K
  | .mul => Ar k (a * b) K
  | .quo => b ≠ 0 ∧ Ar k (a.tdiv b) K
  | .rem => b ≠ 0 ∧ K (.int k (a.tmod b))
  | .and => Ar k (BitVec.ofInt k.bits a &&& BitVec.ofInt k.bits b).toNat K
  | .or => Ar k (BitVec.ofInt k.bits a ||| BitVec.ofInt k.bits b).toNat K
  | .xor => Ar k (BitVec.ofInt k.bits a ^^^ BitVec.ofInt k.bits b).toNat K
  | .andNot => Ar k (BitVec.ofInt k.bits a &&& ~~~BitVec.ofInt k.bits b).toNat K
  | .eql => K (.bool (a == b))
  | .neq => K (.bool (a != b))
  | .lss => K (.bool (decide (a < b)))
  | .leq => K (.bool (decide (a ≤ b)))
  | .gtr => K (.bool (decide (a > b)))
  | .geq => K (.bool (decide (a ≥ b)))
  | _ => False
def strB (op : BinOp) (a b : ByteArray) (K : Value → Prop) : Prop :=
  match op with
  | .add => a.size + b.size ≤ 9223372036854775807 ∧ K (.string (a ++ b))
  | .eql => K (.bool (a.toList == b.toList))
  | .neq => K (.bool (!(a.toList == b.toList)))
  | .lss => K (.bool (Op.bytesLess a.toList b.toList))
  | .leq => K (.bool (Op.bytesLess a.toList b.toList || a.toList == b.toList))
  | .gtr => K (.bool (!(Op.bytesLess a.toList b.toList || a.toList == b.toList)))
  | .geq => K (.bool (!(Op.bytesLess a.toList b.toList)))
  | _ => False
def binF (op : BinOp) (x y : Value) (K : Value → Prop) : Prop :=
  match x, y with
  | .int k a, .int k' b =>
    match op with
    | .shl => 0 ≤ b ∧ Ar k (a * 2 ^ (min b.toNat k.bits)) K
    | .shr => 0 ≤ b ∧ K (.int k (a.fdiv (2 ^ (min b.toNat k.bits))))
    | op => if k = k' then intB op k a b K else False
  | .string a, .string b => strB op a b K
  | _, _ => False
def unF (op : UnOp) (x : Value) (K : Value → Prop) : Prop :=
  match op, x with
  | .neg, .int k n => Ar k (0 - n) K
  | .not, .bool b => K (.bool (!b))
  | .xor, .int k n => Ar k (BitVec.ofInt k.bits (if k.signed then -1 else k.max) ^^^ BitVec.ofInt k.bits n).toNat K
  | _, _ => False
/-- One of two values is nil: are they the same? -/
def nilEq (k : NK) (x y : Value) : Option Bool :=
  match k, x, y with
  | .p, .pointer a, .pointer none => some a.isNone
  | .p, .pointer none, .pointer b => some b.isNone
  | .s, .slice a _ _, .slice none _ _ => some a.isNone
  | .s, .slice none _ _, .slice b _ _ => some b.isNone
  | .m, .map a, .map none => some a.isNone
  | .m, .map none, .map b => some b.isNone
  | .f, .nilFunc, .nilFunc => some true
  | .f, .nilFunc, .func .. => some false
  | .f, .func .., .nilFunc => some false
  | _, _, _ => none
def mnx (mx : Bool) (k : IntKind) (x : Int) : List Value → (Value → Prop) → Prop
  | [], K => K (.int k x)
  | .int _ y :: r, K => mnx mx k (if mx then (if y > x then y else x) else (if y < x then y else x)) r K
  | _ :: _, _ => False

/-- Bounds of a slice expression: low, high, out of a length and a capacity. -/
def bnd (ρ : Operand → Value) (len cap : Nat) (lo hi : Option Operand) (K : Nat → Nat → Prop) : Prop :=
  match hi with
  | none =>
    match lo with
    | none => K 0 len
    | some l => match ρ l with
      | .int _ l => (0 ≤ l ∧ l ≤ (len : Int)) ∧ K l.toNat len
      | _ => False
  | some u => match ρ u with
    | .int _ u => (0 ≤ u ∧ u ≤ (cap : Int)) ∧
      match lo with
      | none => K 0 u.toNat
      | some l => match ρ l with
        | .int _ l => (0 ≤ l ∧ l ≤ (u.toNat : Int)) ∧ K l.toNat u.toNat
        | _ => False
    | _ => False

def closedAt (h : H) (i : Nat) : Prop := ∃ cs t own, h.get i = some (.cells cs t own false)
/-- A block that is closed, or whose elements are of this type. -/
def tagAt (h : H) (i : Nat) (t : TypeId) : Prop := ∃ cs t' own op, h.get i = some (.cells cs t' own op) ∧ (op = true → t' = t)

/-- An operation that reads, reckons or makes one block: its value, and the block that it makes. -/
def nst (ρ : Operand → Value) (h : H) (op : AOp) (K : Value → Option Blk → Prop) : Prop :=
  match op with
  | .mv x => K (ρ x) none
  | .pick c a b => match ρ c with
    | .bool c => obool c (K (ρ a) none) (K (ρ b) none)
    | _ => False
  | .alloc t z => K (.pointer (some ⟨h.next, 0, none⟩)) (some (.cells z t true false))
  | .box t x => ∃ l, cellsOf (ρ x) = some l ∧ K (.pointer (some ⟨h.next, 0, none⟩)) (some (.cells l t true false))
  | .build ps => ∃ vs, segs ρ ps = some vs ∧ K (.agg vs.toArray) none
  | .bslice t n ps => ∃ vs, segs ρ ps = some vs ∧ K (.slice (some ⟨h.next, 0, none⟩) n n) (some (.cells vs t true false))
  | .ld1 x => match ρ x with
    | .pointer (some ⟨i, o, none⟩) => ∃ v, h.cell i o = some v ∧ K v none
    | _ => False
  | .ldN n x => match ρ x with
    | .pointer (some ⟨i, o, none⟩) => ∃ vs, h.rd i o n = some vs ∧ K (.agg vs.toArray) none
    | _ => False
  | .nilc x => match ρ x with
    | .pointer (some a) => K (.pointer (some a)) none
    | _ => False
  | .bin op x y => binF op (ρ x) (ρ y) fun v => K v none
  | .eqB neg x y => match ρ x, ρ y with
    | .bool a, .bool b => K (.bool ((a == b) != neg)) none
    | _, _ => False
  | .eqA offs neg x y => match ρ x, ρ y with
    | .agg xs, .agg ys => ∃ b, eqL xs.toList ys.toList offs = some b ∧ K (.bool (b != neg)) none
    | _, _ => False
  | .eqN k neg x y => ∃ b, nilEq k (ρ x) (ρ y) = some b ∧ K (.bool (b != neg)) none
  | .un op x => unF op (ρ x) fun v => K v none
  | .cvI k x => match ρ x with
    | .int _ n => Ar k n fun v => K v none
    | _ => False
  | .cvStr x => match ρ x with
    | .slice none _ _ => K (.string ByteArray.empty) none
    | .slice (some ⟨i, o, none⟩) n _ => ∃ vs, h.rd i o n = some vs ∧ ∃ l, bytesOf vs = some l ∧ K (.string ⟨l.toArray⟩) none
    | _ => False
  | .cvBytes t x => match ρ x with
    | .string s => K (.slice (some ⟨h.next, 0, none⟩) s.size s.size) (some (.cells (s.data.toList.map fun b => .int .u8 b.toNat) t true true))
    | _ => False
  | .fad off x => match ρ x with
    | .pointer (some ⟨i, o, none⟩) => K (.pointer (some ⟨i, o + off, none⟩)) none
    | _ => False
  | .iadA len sz x ix => match ρ x, ρ ix with
    | .pointer (some ⟨i, o, none⟩), .int _ n => (0 ≤ n ∧ n < (len : Int)) ∧ K (.pointer (some ⟨i, o + n.toNat * sz, none⟩)) none
    | _, _ => False
  | .iadS sz x ix => match ρ x, ρ ix with
    | .slice (some ⟨i, o, none⟩) len _, .int _ n => (0 ≤ n ∧ n < (len : Int)) ∧ K (.pointer (some ⟨i, o + n.toNat * sz, none⟩)) none
    | _, _ => False
  | .fld1 off x => match ρ x with
    | .agg cs => ∃ v, cs.toList[off]? = some v ∧ K v none
    | _ => False
  | .fldN off n x => match ρ x with
    | .agg cs => K (.agg ((cs.toList.drop off).take n).toArray) none
    | _ => False
  | .ix1 len sz x ix => match ρ x, ρ ix with
    | .agg cs, .int _ n => (0 ≤ n ∧ n < (len : Int)) ∧ ∃ v, cs.toList[n.toNat * sz]? = some v ∧ K v none
    | _, _ => False
  | .ixN len sz x ix => match ρ x, ρ ix with
    | .agg cs, .int _ n => (0 ≤ n ∧ n < (len : Int)) ∧ K (.agg ((cs.toList.drop (n.toNat * sz)).take sz).toArray) none
    | _, _ => False
  | .ixS x ix => match ρ x, ρ ix with
    | .string s, .int _ n => (0 ≤ n ∧ n < (s.size : Int)) ∧ K (.int .u8 (byteAt s n.toNat)) none
    | _, _ => False
  | .slS x lo hi => match ρ x with
    | .string s => bnd ρ s.size s.size lo hi fun l u => K (.string (s.extract l u)) none
    | _ => False
  | .slL t sz x lo hi => match ρ x with
    | .slice none 0 0 => bnd ρ 0 0 lo hi fun _ _ => K (.slice none 0 0) none
    | .slice (some ⟨i, o, none⟩) n c => bnd ρ n c lo hi fun l u =>
      match lo with
      | none => K (.slice (some ⟨i, o, none⟩) u c) none
      | some _ => (l < c → (l = 0 ∨ tagAt h i t) ∧ K (.slice (some ⟨i, o + l * sz, none⟩) (u - l) (c - l)) none) ∧
          (c ≤ l → (l = 0 ∨ closedAt h i) ∧ K (.slice (some ⟨i, o, none⟩) (u - l) (c - l)) none)
    | _ => False
  | .slA n sz x lo hi => match ρ x with
    | .pointer (some ⟨i, o, none⟩) => bnd ρ n n lo hi fun l u =>
      match lo with
      | none => closedAt h i ∧ K (.slice (some ⟨i, o, none⟩) u n) none
      | some _ => closedAt h i ∧ (l < n → K (.slice (some ⟨i, o + l * sz, none⟩) (u - l) (n - l)) none) ∧
          (n ≤ l → K (.slice (some ⟨i, o, none⟩) (u - l) (n - l)) none)
    | _ => False
  | .slZ t x => match ρ x with
    | .slice none 0 0 => K (.slice none 0 0) none
    | .slice (some ⟨_, _, none⟩) _ _ => K (.slice (some ⟨h.next, 0, none⟩) 0 0) (some (.cells [] t false false))
    | _ => False
  | .mks t bytes z n c => match ρ n, ρ c with
    | .int _ n, .int _ c => (0 ≤ n ∧ n ≤ c ∧ bytes * c ≤ 2 ^ 48) ∧
      K (.slice (some ⟨h.next, 0, none⟩) n.toNat c.toNat) (some (.cells (List.replicate c.toNat z).flatten t true false))
    | _, _ => False
  | .mkf fn first cap => K (.func (.func fn) (first.map ρ).toArray (cap.map ρ).toArray) none
  | .ext x i => match ρ x with
    | .tuple vs => ∃ v, vs.toList[i]? = some v ∧ K v none
    | _ => False
  | .lenS x => match ρ x with
    | .string s => K (.int .i64 s.size) none
    | _ => False
  | .lenL x => match ρ x with
    | .slice _ n _ => K (.int .i64 n) none
    | _ => False
  | .cst v => K v none
  | .minmax mx x xs => match ρ x with
    | .int k x => mnx mx k x (xs.map ρ) fun v => K v none
    | _ => False
  | _ => False

abbrev Cl := FuncId → List Value → H → (Value → H → Prop) → Prop

/-- The cells of a slice's elements: what an append or a copy takes. -/
def srcCells (h : H) (sz n : Nat) : Value → Option (List Value)
  | .slice none _ _ => some []
  | .slice (some ⟨i, o, none⟩) _ _ => h.rd i o (n * sz)
  | .string s => if sz = 1 then some ((s.data.toList.take n).map fun b => .int .u8 b.toNat) else none
  | _ => none
def srcLen : Value → Option Nat
  | .slice _ n _ => some n
  | .string s => some s.size
  | _ => none

/-- Where an append that may go into new memory begins: what stands there already, and the heap without it. -/
def takeRow (h : H) (t sz : Nat) (n c : Nat) : Option Addr → Option (List Value × H)
  | none => if n = 0 ∧ c = 0 then some ([], h) else none
  | some ⟨i, o, none⟩ => match h.get i with
    | some (.cells cs t' own opn) =>
      if o + n * sz ≤ cs.length then
        (if opn then (if own = true ∧ t' = t ∧ cs.length ≤ o + c * sz then some ((cs.drop o).take (n * sz), h.kill i) else none)
        else some ((cs.drop o).take (n * sz), h))
      else none
    | none => none
  | _ => none

/-- An operation that writes, or calls. -/
def sst (cl : Cl) (ρ : Operand → Value) (h : H) (op : AOp) (K : Value → H → Prop) : Prop :=
  match op with
  | .mvS x => K (ρ x) h
  | .st1 x v => match ρ x with
    | .pointer (some ⟨i, o, none⟩) => cellsOf (ρ v) = some [ρ v] ∧ ∃ h', h.wr1 i o (ρ v) = some h' ∧ K undef h'
    | _ => False
  | .stN n x v => match ρ x with
    | .pointer (some ⟨i, o, none⟩) => ∃ l, cellsOf (ρ v) = some l ∧ l.length = n ∧ ∃ h', h.wr i o l = some h' ∧ K undef h'
    | _ => False
  | .app t sz bytes x y => match ρ x with
    | .slice base n c => ∃ m, srcLen (ρ y) = some m ∧ ∃ ys, srcCells h sz m (ρ y) = some ys ∧
        (n + m ≤ c → match base with
          | none => K (.slice none n c) h
          | some ⟨i, o, none⟩ => ∃ h', h.wr i (o + n * sz) ys = some h' ∧ K (.slice (some ⟨i, o, none⟩) (n + m) c) h'
          | _ => False) ∧
        (c < n + m → ((n + m) + (n + m) / 4 + 512) * bytes ≤ 2 ^ 48 ∧ ∃ p, takeRow h t sz n c base = some p ∧
          K (.slice (some ⟨h.next, 0, none⟩) (n + m) (n + m)) (p.2.push (.cells (p.1 ++ ys) t true true)))
    | _ => False
  | .cpy sz d s => match ρ d with
    | .slice base n _ => ∃ m, srcLen (ρ s) = some m ∧ ∃ ys, srcCells h sz (min m n) (ρ s) = some ys ∧
        match base with
        | none => K (.int .i64 (min m n : Nat)) h
        | some ⟨i, o, none⟩ => ∃ h', h.wr i o ys = some h' ∧ K (.int .i64 (min m n : Nat)) h'
        | _ => False
    | _ => False
  | .call g args => cl g (args.map ρ) h K
  | .callv x args => match ρ x with
    | .func (.func g) first cap => cl g (first.toList ++ args.map ρ ++ cap.toList) h K
    | _ => False
  | _ => False

/-- What was read or made before a call and may come to pass behind it: it would be the same. -/
def chkOne (f : Fr) (h : H) (c : Option Nat × AOp) : Prop :=
  match c.1 with
  | some d => nst (ev f) h c.2 fun v b =>
      match b with
      | none => v = f d
      | some blk => match f d with
        | .pointer (some ⟨i, 0, none⟩) => h.get i = some blk
        | .slice (some ⟨i, 0, none⟩) _ _ => h.get i = some blk
        | _ => False
  | none => nst (ev f) h c.2 fun _ b => b = none
def chkAll (f : Fr) (h : H) : List (Option Nat × AOp) → Prop → Prop
  | [], Q => Q
  | c :: r, Q => chkOne f h c ∧ chkAll f h r Q

def stepW (cl : Cl) (s : AStep) (f : Fr) (h : H) (K : Fr → H → Prop) : Prop :=
  match s.op.strict with
  | true => sst cl (ev f) h s.op fun v h' => force v fun v => chkAll f h' s.chk (K (f.put s.dst v) h')
  | false => nst (ev f) h s.op fun v b => force v fun v =>
    match b with
    | none => K (f.put s.dst v) h
    | some b => K (f.put s.dst v) (h.push b)

def steps (cl : Cl) : List AStep → Fr → H → (Fr → H → Prop) → Prop
  | [], f, h, K => K f h
  | s :: r, f, h, K =>
    match s.guard with
    | none => stepW cl s f h fun f' h' => steps cl r f' h' K
    | some (t, want) => match f t with
      | .bool b =>
        match want with
        | true => obool b (stepW cl s (f.put (some t) (.bool true)) h fun f' h' => steps cl r f' h' K) (steps cl r ((f.put (some t) (.bool false)).put s.dst undef) h K)
        | false => obool b (steps cl r ((f.put (some t) (.bool true)).put s.dst undef) h K) (stepW cl s (f.put (some t) (.bool false)) h fun f' h' => steps cl r f' h' K)
      | _ => steps cl r (f.put s.dst undef) h K

inductive Out where
  | normal
  | exit (id : Nat)
  | ret

def loopN (B : Fr → H → (Out → Fr → H → Prop) → Prop) (K : Out → Fr → H → Prop) : Nat → Fr → H → Prop
  | 0, _, _ => False
  | m + 1, f, h => B f h fun o f' h' =>
    match o with
    | .normal => loopN B K m f' h'
    | o => K o f' h'

def wp (cl : Cl) : ACode → Fr → H → (Out → Fr → H → Prop) → Prop
  | .skip, f, h, K => K .normal f h
  | .reg l, f, h, K => steps cl l f h (K .normal)
  | .seq a b, f, h, K => wp cl a f h fun o f' h' =>
    match o with
    | .normal => wp cl b f' h' K
    | o => K o f' h'
  | .cond c t e, f, h, K => match ev f c with
    | .bool b => obool b (wp cl t f h K) (wp cl e f h K)
    | _ => False
  | .block id c, f, h, K => wp cl c f h fun o f' h' =>
    match o with
    | .exit j => if j = id then K .normal f' h' else K (.exit j) f' h'
    | o => K o f' h'
  | .loop c, f, h, K => ∃ m, loopN (wp cl c) K m f h
  | .exit id, f, h, K => K (.exit id) f h
  | .ret, f, h, K => K .ret f h

def resOne (f : Fr) (h : H) : RV → Option Value
  | .tmp t => some (f t)
  | .cell1 a => match f a with
    | .pointer (some ⟨i, o, none⟩) => h.cell i o
    | _ => none
  | .cellN a n => match f a with
    | .pointer (some ⟨i, o, none⟩) => (h.rd i o n).map fun vs => .agg vs.toArray
    | _ => none
def resAll (f : Fr) (h : H) : List RV → Option (List Value)
  | [] => some []
  | r :: l => (resOne f h r).bind fun v => (resAll f h l).map (v :: ·)
def resVal : List Value → Value
  | [v] => v
  | vs => .tuple vs.toArray

def initFr (args : List Value) : Fr := fun i => args[i]?.getD undef

/-- A call: what is known of it beforehand, or its code. -/
def acall (C : FuncId → Option AFn) (base : Cl) : Nat → Cl
  | 0, _, _, _, _ => False
  | n + 1, g, args, h, K =>
    match C g with
    | none => base g args h K
    | some a => wp (acall C base n) a.body (initFr args) h fun o f h' =>
      match o with
      | .exit _ => False
      | _ => ∃ vs, resAll f h' a.res = some vs ∧ K (resVal vs) h'

def noBase : Cl := fun _ _ _ _ => False

end Go.Proofs.YtemgddekbdifeaaGreat.Am

namespace Go.Proofs.YtemgddekbdifeaaGreat.Am

def isAggT (P : Program) (t : TypeId) : Option Bool :=
  (P.underlying t).map fun | .struct _ => true | .array .. => true | _ => false
def szT (P : Program) (t : TypeId) : Option Nat := (P.info? t).map (·.size)
def byT (P : Program) (t : TypeId) : Option Nat := (P.info? t).map (·.bytes)
/-- A value of one cell without an address in it. -/
def flat1 : Value → Bool
  | .bool _ | .int .. | .float .. | .complex .. | .string _ | .pointer none | .nilFunc | .nilIface | .map none => true
  | .slice none n c => n == 0 && c == 0
  | _ => false
def flat : Value → Bool
  | .agg cs => cs.toList.all flat1
  | .tuple cs => cs.toList.all flat1
  | v => flat1 v
def zeroT (P : Program) (t : TypeId) : Option (List Value) :=
  match (P.info? t).bind (·.zero) with
  | some v => if v.cells.toList.all flat1 then some v.cells.toList else none
  | none => none

def mkSegs (z : List Value) (at_ : Nat) : List (Nat × Nat × Operand) → Option (List Seg)
  | [] => some (if at_ < z.length then [.lit (z.drop at_)] else [])
  | (off, sz, x) :: r =>
    if at_ ≤ off ∧ off + sz ≤ z.length then
      (mkSegs z (off + sz) r).map fun l => if at_ < off then .lit ((z.drop at_).take (off - at_)) :: .opd sz x :: l else .opd sz x :: l
    else none

/-- Where the leaves of a type that is compared lie: whole numbers, bools, strings alone. -/
def leafOffs (P : Program) : Nat → Nat → TypeId → Option (List Leaf)
  | 0, _, _ => none
  | d + 1, at_, t =>
    match P.underlying t with
    | some .bool => some [.b at_]
    | some (.int _) => some [.n at_]
    | some .string => some [.s at_]
    | some (.struct fs) =>
      if P.stoodInHeld t then none else
      match szT P t with
      | none => none
      | some n => fs.toList.foldr (fun f acc =>
          match acc with
          | none => none
          | some l =>
            if f.name = "_" then none else
            match szT P f.type with
            | none => none
            | some m => if 0 < m ∧ f.offset + m ≤ n then (leafOffs P d (at_ + f.offset) f.type).map (· ++ l) else none) (some [])
    | some (.array n e) =>
      match szT P t with
      | none => none
      | some k =>
        match szT P e with
        | none => none
        | some sz => if 0 < sz ∧ n * sz ≤ k then (List.range n).foldr (fun i acc =>
            match acc with
            | none => none
            | some l => (leafOffs P d (at_ + i * sz) e).map (· ++ l)) (some []) else none
    | _ => none

def isZero : Option Operand → Bool
  | some (.const (.int _ 0)) => true
  | _ => false

def compEqA (P : Program) (op : BinOp) (t : TypeId) (x y : Operand) : Option AOp :=
  if P.eqGuardType P.depth t then none else
  match leafOffs P 64 0 t with
  | none => none
  | some l =>
    match op with
    | .eql => some (.eqA l false x y)
    | .neq => some (.eqA l true x y)
    | _ => none
def compEqB (op : BinOp) (x y : Operand) : Option AOp :=
  match op with
  | .eql => some (.eqB false x y)
  | .neq => some (.eqB true x y)
  | _ => none
def compEqN (k : NK) (op : BinOp) (x y : Operand) : Option AOp :=
  match op with
  | .eql => some (.eqN k false x y)
  | .neq => some (.eqN k true x y)
  | _ => none
def compBin (P : Program) (op : BinOp) (t : TypeId) (x y : Operand) : Option AOp :=
  match P.underlying t with
  | some (.int _) => some (.bin op x y)
  | some .string => some (.bin op x y)
  | some .bool => compEqB op x y
  | some (.pointer _) => compEqN .p op x y
  | some (.slice _) => compEqN .s op x y
  | some (.map ..) => compEqN .m op x y
  | some (.func ..) => compEqN .f op x y
  | some (.struct _) => compEqA P op t x y
  | some (.array ..) => compEqA P op t x y
  | _ => none
def isU8 (P : Program) (e : TypeId) : Bool :=
  (match P.underlying e with
  | some (.int .u8) => true
  | _ => false) && (match szT P e with
  | some 1 => true
  | _ => false)
theorem isU8_sz {P : Program} {e : TypeId} (h : isU8 P e = true) : szT P e = some 1 := by
  unfold isU8 at h
  simp only [Bool.and_eq_true] at h
  have := h.2
  split at this
  · assumption
  · cases this
theorem isU8_und {P : Program} {e : TypeId} (h : isU8 P e = true) : P.underlying e = some (.int .u8) := by
  unfold isU8 at h
  simp only [Bool.and_eq_true] at h
  have := h.1
  split at this
  · assumption
  · cases this
def compConv (P : Program) (s d : TypeId) (x : Operand) : Option AOp :=
  match P.underlying s with
  | some (.int _) => match P.underlying d with
    | some (.int k) => some (.cvI k x)
    | _ => none
  | some (.slice e) => match P.underlying d with
    | some .string => if isU8 P e then some (.cvStr x) else none
    | _ => none
  | some .string => match P.underlying d with
    | some (.slice e) => if isU8 P e then some (.cvBytes e x) else none
    | _ => none
  | _ => none
def compBuild (P : Program) (t : TypeId) (parts : Array (Nat × Operand)) : Option AOp :=
  match zeroT P t with
  | none => none
  | some z =>
    match P.underlying t with
    | some (.struct fs) =>
      match parts.toList.mapM fun x => ((fs[x.1]?).bind fun f => (szT P f.type).map fun sz => (f.offset, sz)).map fun p => (p.1, p.2, x.2) with
      | some ps => if fs.toList.all (fun f => (szT P f.type).isSome) then (mkSegs z 0 ps).map .build else none
      | none => none
    | some (.array _ e) =>
      match szT P e with
      | some sz => (mkSegs z 0 (parts.toList.map fun x => (x.1 * sz, sz, x.2))).map .build
      | none => none
    | _ => none
def compBSlice (P : Program) (t : TypeId) (len : Nat) (parts : Array (Nat × Operand)) : Option AOp :=
  match P.underlying t with
  | some (.slice e) =>
    match szT P e with
    | none => none
    | some sz =>
      match zeroT P e with
      | none => none
      | some z =>
        if z.length = sz ∧ 0 < sz ∧ len * sz ≤ 16777216 then
          (mkSegs (List.replicate len z).flatten 0 (parts.toList.map fun x => (x.1 * sz, sz, x.2))).map (.bslice e len ·)
        else none
  | _ => none
def compLoad (P : Program) (t : TypeId) (x : Operand) : Option AOp :=
  match isAggT P t with
  | some true => (szT P t).map fun n => .ldN n x
  | some false => some (.ld1 x)
  | none => none
def compStore (P : Program) (t : TypeId) (x v : Operand) : Option AOp :=
  match szT P t with
  | none => none
  | some n =>
    match isAggT P t with
    | some true => some (.stN n x v)
    | some false => if n = 1 then some (.st1 x v) else none
    | none => none
def compMks (P : Program) (t : TypeId) (n c : Operand) : Option AOp :=
  match P.underlying t with
  | some (.slice e) =>
    match szT P e with
    | none => none
    | some sz =>
      match byT P e with
      | none => none
      | some byt =>
        match zeroT P e with
        | none => none
        | some z => if z.length = sz ∧ 0 < sz ∧ 0 < byt then some (.mks e byt z n c) else none
  | _ => none
def compSlA (P : Program) (n : Nat) (e : TypeId) (x : Operand) (lo hi : Option Operand) : Option AOp :=
  match szT P e with
  | some sz => if 0 < sz then some (.slA n sz x lo hi) else none
  | none => none
def compSlice (P : Program) (t : TypeId) (x : Operand) (lo hi mx : Option Operand) : Option AOp :=
  match P.underlying t with
  | some .string => match mx with
    | none => some (.slS x lo hi)
    | some _ => none
  | some (.slice e) => match mx with
    | none => match szT P e with
      | some sz => if 0 < sz then some (.slL e sz x lo hi) else none
      | none => none
    | some m => match szT P e with
      | some sz => if isZero lo && isZero hi && isZero (some m) then some (.slZ e x) else none
      | none => none
  | some (.array n e) => match mx with
    | none => compSlA P n e x lo hi
    | some _ => none
  | some (.pointer a) => match P.underlying a with
    | some (.array n e) => match mx with
      | none => compSlA P n e x lo hi
      | some _ => none
    | _ => none
  | _ => none
def compFad (P : Program) (s : TypeId) (x : Operand) (f : Nat) : Option AOp :=
  match P.underlying s with
  | some (.struct fs) => match fs[f]? with
    | some fd => match szT P fd.type with
      | some sz => if sz = 0 then none else some (.fad fd.offset x)
      | none => none
    | none => none
  | _ => none
def compFld (P : Program) (s : TypeId) (x : Operand) (f : Nat) : Option AOp :=
  match P.underlying s with
  | some (.struct fs) => match fs[f]? with
    | some fd => match isAggT P fd.type with
      | some true => (szT P fd.type).map fun n => .fldN fd.offset n x
      | some false => some (.fld1 fd.offset x)
      | none => none
    | none => none
  | _ => none
def compIad (P : Program) (t : TypeId) (x i : Operand) : Option AOp :=
  match P.underlying t with
  | some (.array n e) => (szT P e).map fun sz => .iadA n sz x i
  | some (.slice e) => (szT P e).map fun sz => .iadS sz x i
  | _ => none
def compIx (P : Program) (t : TypeId) (x i : Operand) : Option AOp :=
  match P.underlying t with
  | some .string => some (.ixS x i)
  | some (.array n e) => match isAggT P e with
    | some true => (szT P e).map fun sz => .ixN n sz x i
    | some false => (szT P e).map fun sz => .ix1 n sz x i
    | none => none
  | _ => none
def undArg (P : Program) (ts : Array TypeId) (i : Nat) : Option TypeDesc := (ts[i]?).bind (P.underlying ·)
def compLen (P : Program) (ts : Array TypeId) (args : List Operand) : Option AOp :=
  match args with
  | [x] => match undArg P ts 0 with
    | some .string => some (.lenS x)
    | some (.slice _) => some (.lenL x)
    | some (.array n _) => some (.cst (.int .i64 n))
    | _ => none
  | _ => none
def isApp (u : Option TypeDesc) : Bool :=
  match u with
  | some (.slice _) | some .string => true
  | _ => false
def compApp (P : Program) (ts : List TypeId) (args : List Operand) : Option AOp :=
  match args with
  | [x, y] => match ts with
    | [t, u] => match P.underlying t with
      | some (.slice e) =>
        match szT P e with
        | none => none
        | some sz =>
          match byT P e with
          | none => none
          | some byt =>
            match zeroT P e with
            | none => none
            | some z => if z.length = sz ∧ 0 < sz ∧ 0 < byt ∧ isApp (P.underlying u) = true then some (.app e sz byt x y) else none
      | _ => none
    | _ => none
  | _ => none
def compCpy (P : Program) (ts : Array TypeId) (args : List Operand) : Option AOp :=
  match args with
  | [x, y] => match undArg P ts 0 with
    | some (.slice e) => (szT P e).map fun sz => .cpy sz x y
    | _ => none
  | _ => none
def compMM (mx : Bool) (args : List Operand) : Option AOp :=
  match args with
  | x :: xs => some (.minmax mx x xs)
  | [] => none
def compCall (P : Program) (c : Call) : Option AOp :=
  match c.callee with
  | .value (.func g) => some (.call g c.args.toList)
  | .value (.tmp t) => some (.callv (.tmp t) c.args.toList)
  | .builtin .len => compLen P c.argTypes c.args.toList
  | .builtin .append => compApp P c.argTypes.toList c.args.toList
  | .builtin .copy => compCpy P c.argTypes c.args.toList
  | .builtin .max => compMM true c.args.toList
  | .builtin .min => compMM false c.args.toList
  | _ => none

def compOp (P : Program) (o : Op) : Option AOp :=
  match o with
  | .move x => some (.mv x)
  | .assign x => some (.mv x)
  | .pick c a b => some (.pick c a b)
  | .alloc t => (zeroT P t).map (.alloc t ·)
  | .box t x => some (.box t x)
  | .build t parts => compBuild P t parts
  | .buildSlice t len parts => compBSlice P t len parts
  | .load t x => compLoad P t x
  | .store t x v => compStore P t x v
  | .nilCheck x => some (.nilc x)
  | .binOp op t x y _ => compBin P op t x y
  | .unOp op _ x => some (.un op x)
  | .convert s d x => compConv P s d x
  | .makeFunc (.func g) first cap => some (.mkf g first.toList cap.toList)
  | .makeSlice t n c => compMks P t n c
  | .slice t x lo hi mx => compSlice P t x lo hi mx
  | .fieldAddr s x f => compFad P s x f
  | .field s x f => compFld P s x f
  | .indexAddr t x i => compIad P t x i
  | .index t x i => compIx P t x i
  | .extract x i => some (.ext x i)
  | .call c => compCall P c
  | _ => none

def guardOf (ops : Array Oper) : Option (Nat × Bool) → Option (Option (Nat × Bool))
  | none => some none
  | some (j, want) => ((ops[j]?).bind (·.dst)).map fun t => some (t, want)

/-- An operand that the plain machine takes. -/
def okO : Operand → Bool
  | .tmp _ => true
  | .const v => flat v
  | .func _ => true
  | .global _ => false
def okD (nt : Nat) : Option Tmp → Bool
  | none => true
  | some d => d < nt

def oo : Option Operand → List Operand
  | none => []
  | some x => [x]
def segOpds : List Seg → List Operand
  | [] => []
  | .lit _ :: r => segOpds r
  | .opd _ x :: r => x :: segOpds r
/-- The operands that an operation looks at. -/
def AOp.opds : AOp → List Operand
  | .mv x | .box _ x | .ld1 x | .ldN _ x | .nilc x | .un _ x | .cvI _ x | .cvStr x | .cvBytes _ x | .fad _ x | .fld1 _ x | .fldN _ _ x | .slZ _ x | .ext x _ | .lenS x | .lenL x | .mvS x => [x]
  | .pick c a b => [c, a, b]
  | .alloc .. | .cst _ => []
  | .build ps | .bslice _ _ ps => segOpds ps
  | .bin _ x y | .eqB _ x y | .eqA _ _ x y | .eqN _ _ x y | .iadA _ _ x y | .iadS _ x y | .ix1 _ _ x y | .ixN _ _ x y | .ixS x y | .mks _ _ _ x y | .st1 x y | .stN _ x y | .app _ _ _ x y | .cpy _ x y => [x, y]
  | .slS x lo hi | .slL _ _ x lo hi | .slA _ _ x lo hi => x :: (oo lo ++ oo hi)
  | .mkf _ a b => a ++ b
  | .minmax _ x xs => x :: xs
  | .call _ xs => xs
  | .callv f xs => f :: xs
def tmpIn (l : List Nat) : Operand → Bool
  | .tmp t => l.contains t
  | _ => true

def isMvS : AOp → Bool
  | .mvS _ => true
  | _ => false

/-- An operation of a region. -/
def compStep (P : Program) (nt : Nat) (ops : Array Oper) (o : Oper) : Option AStep :=
  match compOp P o.op with
  | none => none
  | some a =>
    match guardOf ops o.guard with
    | none => none
    | some g => if o.op.operands.toList.all okO && okD nt o.dst && a.opds.all (tmpIn (o.looksAt ops)) && !isMvS a then some { dst := o.dst, op := a, guard := g } else none

/-- Does what an operation tells hang on the heap, or does it make a block? -/
def AOp.reads : AOp → Bool
  | .ld1 _ | .ldN .. | .cvStr _ | .slL .. | .slA .. | .alloc .. | .box .. | .bslice .. | .cvBytes .. | .slZ .. | .mks .. => true
  | _ => false

/-- Does it make a block? -/
def AOp.alc : AOp → Bool
  | .alloc .. | .box .. | .bslice .. | .cvBytes .. | .slZ .. | .mks .. => true
  | _ => false

def looks (ops : Array Oper) (o : Oper) : List Tmp := o.looksAt ops
def touch (ops : Array Oper) (o : Oper) : List Tmp := o.dst.toList ++ o.looksAt ops
/-- The slots that an operation of a list touches. -/
structure Card where
  dst : Option Nat
  looks : List Nat
  bits : Nat
  step : AStep

/-- Must whoever comes to this operation wait? It writes what others touch that don't stand behind it. -/
def mustWait (cs : List (Option Nat × List Nat × Nat)) (i : Nat) : Nat → Bool :=
  fun d => cs.zipIdx.any fun (c, r) => r != i && (c.2.1.contains d || c.1 == some d) && !(c.2.2.testBit i)

def strictAs (wait : Bool) (a : AOp) : Option AOp :=
  if wait then
    match a with
    | .mv x => some (.mvS x)
    | a => if a.strict then some a else none
  else some a

/-- The operations of a region, each with what is asked of it. -/
def cards (P : Program) (nt : Nat) (ops : Array Oper) : Option (List Card) :=
  let b := (Region.before ops).toList
  let base := (ops.toList.zip b).map fun (o, b) => (o.dst, o.looksAt ops, b)
  (ops.toList.zip base).zipIdx.mapM fun ((o, d, l, b), i) =>
    match compStep P nt ops o with
    | none => none
    | some s => (strictAs (match d with | none => false | some d => mustWait base i d) s.op).map fun a => ⟨d, l, b, { s with op := a }⟩

def pairOf {α : Type} (R : α → α → Bool) : List α → Bool
  | [] => true
  | x :: r => r.all (R x) && pairOf R r

def drawOrd (cs : List (Card × Nat)) : List (Card × Nat) :=
  let st := cs.filter (·.1.step.op.strict)
  let ns := (cs.filter (!·.1.step.op.strict)).map fun c => ((st.filter fun s => c.1.bits.testBit s.2).length, c)
  (List.range (st.length + 1)).flatMap fun p => ((ns.filter (·.1 == p)).map (·.2)) ++ (st[p]?).toList

def needChk (j i : Card × Nat) : Bool := j.1.step.op.strict && !isMvS j.1.step.op && !i.1.step.op.strict && i.1.step.op.reads && !j.1.bits.testBit i.2
/-- What must hold of an operation i that the plain machine takes ahead of j. -/
def pairOk (i j : Card × Nat) : Bool :=
  i.2 != j.2 &&
  (!i.1.step.op.strict || j.1.bits.testBit i.2) &&
  (match j.1.dst with
    | none => true
    | some d => !(i.1.dst == some d || i.1.looks.contains d) || (j.1.bits.testBit i.2 && (i.1.step.op.strict || j.1.step.op.strict))) &&
  (match i.1.dst with
    | none => true
    | some d => !(j.1.dst == some d || j.1.looks.contains d) || j.1.bits.testBit i.2) &&
  (!needChk j i || i.1.step.guard.isNone || (i.1.step.guard == j.1.step.guard))
def cardOk (i : Card × Nat) : Bool :=
  (i.1.step.op.strict || (match i.1.dst with | none => true | some d => !i.1.looks.contains d)) &&
  (!i.1.step.op.alc || i.1.dst.isSome)

/-- The bits of 'before' tell the truth: each rests on an edge to an operation ahead. -/
def bitsOk (ops : List Oper) (b : List Nat) : Bool :=
  (ops.zip b).zipIdx.all fun ((o, x), i) => decide (x < 2 ^ b.length) && (List.range b.length).all fun j => !x.testBit j || o.after.any fun e => Region.binds .any e && decide (e.on < i) && (e.on == j || (b.getD e.on 0).testBit j)
/-- Nobody waits for ever. -/
def acyc (md : Region.Mode) (ops : Array Oper) : Bool :=
  let l := Region.linearise md ops 0
  (List.range ops.size).all (l.contains ·) &&
  ops.toList.zipIdx.all fun (o, i) => o.after.all fun e => !Region.binds md e || (decide (e.on < ops.size) && decide (l.idxOf e.on < l.idxOf i))

def withChk (ord : List (Card × Nat)) (j : Card × Nat) : AStep :=
  if j.1.step.op.strict && !isMvS j.1.step.op then { j.1.step with chk := (ord.filter fun i => needChk j i && ((ord.map (·.2)).idxOf i.2 < (ord.map (·.2)).idxOf j.2)).map fun i => (i.1.step.dst, i.1.step.op) } else j.1.step

/-- A region that draws its order: the operations in the order in which the plain machine takes them. -/
def compDraw (P : Program) (nt : Nat) (ops : Array Oper) : Option (List AStep) :=
  match cards P nt ops with
  | none => none
  | some cs =>
    let ord := drawOrd cs.zipIdx
    if pairOf pairOk ord && ord.all cardOk && (List.range ops.size).all ((ord.map (·.2)).contains ·) && ord.length == ops.size
        && bitsOk ops.toList (Region.before ops).toList && acyc .any ops && (!Region.departs ops || (acyc .text ops && acyc .gc ops)) then
      some (ord.map (withChk ord))
    else none

def compRegion (P : Program) (nt : Nat) (ops : Array Oper) (draw : Bool) : Option (List AStep) :=
  if draw then compDraw P nt ops else ops.toList.mapM (compStep P nt ops)

def comp (P : Program) (nt : Nat) : Code → Option ACode
  | .skip => some .skip
  | .label _ => some .skip
  | .scope c => comp P nt c
  | .region _ ops draw => (compRegion P nt ops draw).map .reg
  | .seq a b => match comp P nt a, comp P nt b with
    | some a, some b => some (.seq a b)
    | _, _ => none
  | .cond c t e => if okO c then match comp P nt t, comp P nt e with
    | some t, some e => some (.cond c t e)
    | _, _ => none
    else none
  | .block id c => (comp P nt c).map (.block id ·)
  | .loop c => (comp P nt c).map .loop
  | .exit id => some (.exit id)
  | .ret => some .ret
  | _ => none

def compRes (P : Program) : ResultVar → Option RV
  | .tmp t => some (.tmp t)
  | .cell a t => match isAggT P t, szT P t with
    | some true, some n => some (.cellN a n)
    | some false, _ => some (.cell1 a)
    | _, _ => none

def compFn (P : Program) (fn : Func) : Option AFn :=
  match fn.body with
  | none => none
  | some c => match comp P fn.ntmps c, fn.results.toList.mapM (compRes P) with
    | some b, some r => some ⟨b, r⟩
    | _, _ => none

end Go.Proofs.YtemgddekbdifeaaGreat.Am

namespace Go.Proofs.YtemgddekbdifeaaGreat.Am
open Go.RowKit

/-- Where a block lies: the model's block, from which cell on; may it have room behind; of such: the block's cells, an element's. -/
structure Ent where
  b : Nat
  o : Nat
  opn : Bool
  E : Nat := 0
  sz : Nat := 0

abbrev Mu := Nat → Option Ent

def one : Value → Bool
  | .agg _ | .tuple _ => false
  | _ => true

mutual
inductive VR (μ : Mu) : Value → Value → Prop
  | bool (b : Bool) : VR μ (.bool b) (.bool b)
  | int (k : IntKind) (n : Int) : VR μ (.int k n) (.int k n)
  | float (k : FloatKind) (n : Nat) : VR μ (.float k n) (.float k n)
  | complex (k : FloatKind) (a b : Nat) : VR μ (.complex k a b) (.complex k a b)
  | string (s : ByteArray) : VR μ (.string s) (.string s)
  | ptr0 : VR μ (.pointer none) (.pointer none)
  | ptr {i o : Nat} {e : Ent} (h : μ i = some e) : VR μ (.pointer (some ⟨i, o, none⟩)) (.pointer (some ⟨e.b, e.o + o, none⟩))
  | sl0 : VR μ (.slice none 0 0) (.slice none 0 0)
  | sl {i o n c c' : Nat} {e : Ent} (h : μ i = some e) (hn : n ≤ c) (hc : c ≤ c') (hx : e.opn = false → c' = c) (hE : e.opn = true → e.o + o + c' * e.sz ≤ e.E) :
      VR μ (.slice (some ⟨i, o, none⟩) n c) (.slice (some ⟨e.b, e.o + o, none⟩) n c')
  | map0 : VR μ (.map none) (.map none)
  | func {f : FuncId} {a a' c c' : Array Value} (h : VRL μ a.toList a'.toList) (k : VRL μ c.toList c'.toList) : VR μ (.func (.func f) a c) (.func (.func f) a' c')
  | nilFunc : VR μ .nilFunc .nilFunc
  | nilIface : VR μ .nilIface .nilIface
  | agg {c c' : Array Value} (h : VRL μ c.toList c'.toList) (h1 : ∀ v ∈ c.toList, one v = true) : VR μ (.agg c) (.agg c')
  | tuple {c c' : Array Value} (h : VRL μ c.toList c'.toList) : VR μ (.tuple c) (.tuple c')
inductive VRL (μ : Mu) : List Value → List Value → Prop
  | nil : VRL μ [] []
  | cons {v v' : Value} {l l' : List Value} (h : VR μ v v') (t : VRL μ l l') : VRL μ (v :: l) (v' :: l')
end

mutual
theorem VR.mono {μ μ' : Mu} (hm : ∀ i e, μ i = some e → μ' i = some e) {v v' : Value} (h : VR μ v v') : VR μ' v v' :=
  match h with
  | .bool b => .bool b
  | .int k n => .int k n
  | .float k n => .float k n
  | .complex k a b => .complex k a b
  | .string s => .string s
  | .ptr0 => .ptr0
  | .ptr h => .ptr (hm _ _ h)
  | .sl0 => .sl0
  | .sl h hn hc hx hE => .sl (hm _ _ h) hn hc hx hE
  | .map0 => .map0
  | .func h k => .func (VRL.mono hm h) (VRL.mono hm k)
  | .nilFunc => .nilFunc
  | .nilIface => .nilIface
  | .agg h h1 => .agg (VRL.mono hm h) h1
  | .tuple h => .tuple (VRL.mono hm h)
theorem VRL.mono {μ μ' : Mu} (hm : ∀ i e, μ i = some e → μ' i = some e) {v v' : List Value} (h : VRL μ v v') : VRL μ' v v' :=
  match h with
  | .nil => .nil
  | .cons h t => .cons (VR.mono hm h) (VRL.mono hm t)
end

theorem VRL.length {μ : Mu} : ∀ {l l' : List Value}, VRL μ l l' → l.length = l'.length
  | _, _, .nil => rfl
  | _, _, .cons _ t => by simp [t.length]
theorem VRL.append {μ : Mu} : ∀ {a a' b b' : List Value}, VRL μ a a' → VRL μ b b' → VRL μ (a ++ b) (a' ++ b')
  | _, _, _, _, .nil, h => h
  | _, _, _, _, .cons h t, k => .cons h (t.append k)
theorem VRL.take {μ : Mu} : ∀ {l l' : List Value} (n : Nat), VRL μ l l' → VRL μ (l.take n) (l'.take n)
  | _, _, 0, _ => by simpa using VRL.nil
  | _, _, n + 1, .nil => by simpa using VRL.nil
  | _, _, n + 1, .cons h t => .cons h (t.take n)
theorem VRL.drop {μ : Mu} : ∀ {l l' : List Value} (n : Nat), VRL μ l l' → VRL μ (l.drop n) (l'.drop n)
  | _, _, 0, h => h
  | _, _, n + 1, .nil => .nil
  | _, _, n + 1, .cons h t => t.drop n
theorem VRL.get {μ : Mu} : ∀ {l l' : List Value} (n : Nat) {v : Value}, VRL μ l l' → l[n]? = some v → ∃ v', l'[n]? = some v' ∧ VR μ v v'
  | _, _, 0, v, .cons h t, e => by simp at e; subst e; exact ⟨_, rfl, h⟩
  | _, _, n + 1, v, .cons h t, e => by simpa using t.get n (by simpa using e)
theorem VRL.set {μ : Mu} : ∀ {l l' : List Value} (n : Nat) {v v' : Value}, VRL μ l l' → VR μ v v' → VRL μ (l.set n v) (l'.set n v')
  | _, _, _, _, _, .nil, _ => .nil
  | _, _, 0, _, _, .cons _ t, h => .cons h t
  | _, _, n + 1, _, _, .cons h t, k => .cons h (t.set n k)
theorem VRL.of_get {μ : Mu} : ∀ {l l' : List Value}, l.length = l'.length → (∀ (n : Nat) (v v' : Value), l[n]? = some v → l'[n]? = some v' → VR μ v v') → VRL μ l l'
  | [], [], _, _ => .nil
  | v :: l, v' :: l', hl, h => .cons (h 0 v v' rfl rfl) (VRL.of_get (by simpa using hl) (fun n a b ha hb => h (n + 1) a b (by simpa using ha) (by simpa using hb)))
theorem VRL.map {μ : Mu} {α : Type} {f g : α → Value} : ∀ (l : List α), (∀ x ∈ l, VR μ (f x) (g x)) → VRL μ (l.map f) (l.map g)
  | [], _ => .nil
  | x :: l, h => .cons (h x (by simp)) (VRL.map l (fun y hy => h y (by simp [hy])))
theorem VRL.flatten_rep {μ : Mu} {z z' : List Value} (h : VRL μ z z') : ∀ n : Nat, VRL μ (List.replicate n z).flatten (List.replicate n z').flatten
  | 0 => .nil
  | n + 1 => by simpa [List.replicate_succ] using h.append (VRL.flatten_rep h n)

theorem flat1_VR (μ : Mu) {v : Value} (h : flat1 v = true) : VR μ v v := by
  unfold flat1 at h
  split at h <;> first
    | exact .bool _ | exact .int _ _ | exact .float _ _ | exact .complex _ _ _ | exact .string _ | exact .ptr0 | exact .nilFunc | exact .nilIface | exact .map0
    | (simp at h; obtain ⟨rfl, rfl⟩ := h; exact .sl0) | cases h
theorem flat1_one {v : Value} (h : flat1 v = true) : one v = true := by
  unfold flat1 at h
  split at h <;> first | rfl | cases h
theorem flatL_VRL (μ : Mu) : ∀ (l : List Value), l.all flat1 = true → VRL μ l l
  | [], _ => .nil
  | v :: l, h => by simp at h; exact .cons (flat1_VR μ h.1) (flatL_VRL μ l (by simpa using h.2))
theorem flat_VR (μ : Mu) {v : Value} (h : flat v = true) : VR μ v v := by
  unfold flat at h
  split at h
  · exact .agg (flatL_VRL μ _ h) (fun v hv => flat1_one (List.all_eq_true.1 h v hv))
  · exact .tuple (flatL_VRL μ _ h)
  · exact flat1_VR μ h

theorem VR.one_iff {μ : Mu} {v v' : Value} (h : VR μ v v') : one v' = one v := by cases h <;> rfl

theorem VRL.all_one {μ : Mu} : ∀ {l l' : List Value}, VRL μ l l' → (∀ v ∈ l, one v = true) → ∀ v ∈ l', one v = true
  | _, _, .nil, _ => by simp
  | _, _, .cons h t, k => by
    intro v hv
    simp at hv
    rcases hv with rfl | hv
    · rw [h.one_iff]; exact k _ (by simp)
    · exact t.all_one (fun v hv => k v (by simp [hv])) v hv

theorem one_cells {v : Value} (h : one v = true) : v.cells = #[v] := by cases v <;> first | rfl | cases h
theorem one_oneCell {v : Value} (h : one v = true) : v.oneCell' = true := by cases v <;> first | rfl | cases h

/-- The cells of related values are related. -/
theorem cellsOf_VR {μ : Mu} {v v' : Value} {l : List Value} (h : VR μ v v') (hc : cellsOf v = some l) :
    VRL μ l v'.cells.toList ∧ (∀ x ∈ l, one x = true) := by
  cases h <;> simp only [cellsOf, Option.some.injEq, reduceCtorEq] at hc
  case agg h h1 => subst hc; exact ⟨h, h1⟩
  all_goals
    subst hc
    refine ⟨.cons ?_ .nil, by simp [one]⟩
    constructor <;> assumption

/-- A block in the world. -/
def BR (P : Program) (B : Nat) (μ : Mu) (w : World) (e : Ent) (cs : List Value) (t : TypeId) (own op : Bool) : Prop :=
  e.opn = op ∧ (∀ v ∈ cs, one v = true) ∧
  ((cs = [] ∧ own = false ∧ op = false) ∨
    ∃ cs' fr, w.heap[e.b]? = some (.cells cs' t fr) ∧ e.o + cs.length ≤ cs'.size ∧ VRL μ cs ((cs'.toList.drop e.o).take cs.length) ∧
      (own = true → B ≤ e.b ∧ (fr.2 ≤ fr.1 ∨ cs'.size ≤ fr.1) ∧ (op = true → e.E = cs'.size)) ∧ (op = true → szT P t = some e.sz) ∧
      (own = false → e.b < B))

structure Rel (P : Program) (B : Nat) (w0 : World) (μ : Mu) (h : H) (w : World) : Prop where
  below : Below B w0 w
  size : B ≤ w.heap.size
  fresh : ∀ i, h.next ≤ i → μ i = none ∧ h.get i = none
  blk : ∀ i e cs t own op, μ i = some e → h.get i = some (.cells cs t own op) → BR P B μ w e cs t own op
  inj : ∀ i j e e' cs t op cs' t' op', i ≠ j → μ i = some e → μ j = some e' → h.get i = some (.cells cs t true op) → h.get j = some (.cells cs' t' true op') → e.b ≠ e'.b

/-- What a piece of a run leaves alone. -/
structure Tr (μ : Mu) (h : H) (w : World) (μ' : Mu) (h' : H) (w' : World) : Prop where
  mu : ∀ i, i < h.next → μ' i = μ i
  next : h.next ≤ h'.next
  live : ∀ i cs t op, i < h.next → h'.get i = some (.cells cs t true op) → ∃ cs t op, h.get i = some (.cells cs t true op)
  keep : ∀ b, b < w.heap.size → (∀ i e cs t op, μ i = some e → h.get i = some (.cells cs t true op) → e.b ≠ b) → w'.heap[b]? = w.heap[b]?
  new : ∀ i e cs t op, h.next ≤ i → μ' i = some e → h'.get i = some (.cells cs t true op) →
    w.heap.size ≤ e.b ∨ ∃ j e' cs' t' op', μ j = some e' ∧ h.get j = some (.cells cs' t' true op') ∧ e'.b = e.b
  size : w.heap.size ≤ w'.heap.size

theorem Tr.refl (μ : Mu) (h : H) (w : World) (hf : ∀ i, h.next ≤ i → μ i = none) : Tr μ h w μ h w :=
  ⟨fun _ _ => rfl, Nat.le_refl _, fun i cs t op _ hg => ⟨cs, t, op, hg⟩, fun _ _ _ => rfl, (fun i e _ _ _ hi he _ => by rw [hf i hi] at he; cases he), Nat.le_refl _⟩

theorem Tr.trans {μ : Mu} {h : H} {w : World} {μ1 : Mu} {h1 : H} {w1 : World} {μ2 : Mu} {h2 : H} {w2 : World}
    (a : Tr μ h w μ1 h1 w1) (b : Tr μ1 h1 w1 μ2 h2 w2) : Tr μ h w μ2 h2 w2 := by
  refine ⟨fun i hi => (b.mu i (Nat.lt_of_lt_of_le hi a.next)).trans (a.mu i hi), Nat.le_trans a.next b.next, ?_, ?_, ?_, Nat.le_trans a.size b.size⟩
  · intro i cs t op hi hg
    obtain ⟨cs1, t1, op1, hg1⟩ := b.live i cs t op (Nat.lt_of_lt_of_le hi a.next) hg
    exact a.live i _ _ _ hi hg1
  · intro k hk hne
    rw [b.keep k (Nat.lt_of_lt_of_le hk a.size) ?_, a.keep k hk hne]
    intro i e cs t op he hg heq
    by_cases hi : i < h.next
    · obtain ⟨cs0, t0, op0, hg0⟩ := a.live i cs t op hi hg
      exact hne i e cs0 t0 op0 (by rw [← a.mu i hi]; exact he) hg0 heq
    · rcases a.new i e cs t op (by omega) he hg with h1 | ⟨j, e', cs', t', op', hj, hgj, hbj⟩
      · omega
      · exact hne j e' cs' t' op' hj hgj (hbj.trans heq)
  · intro i e cs t op hi he hg
    by_cases hi1 : i < h1.next
    · have he1 : μ1 i = some e := by rw [← b.mu i hi1]; exact he
      obtain ⟨cs1, t1, op1, hg1⟩ := b.live i cs t op hi1 hg
      exact a.new i e cs1 t1 op1 hi he1 hg1
    · rcases b.new i e cs t op (by omega) he hg with h1' | ⟨j, e', cs', t', op', hj, hgj, hbj⟩
      · exact .inl (Nat.le_trans a.size h1')
      · by_cases hj0 : j < h.next
        · obtain ⟨cs0, t0, op0, hg0⟩ := a.live j _ _ _ hj0 hgj
          exact .inr ⟨j, e', cs0, t0, op0, by rw [← a.mu j hj0]; exact hj, hg0, hbj⟩
        · rcases a.new j e' cs' t' op' (by omega) hj hgj with h2' | ⟨l, e'', cs'', t'', op'', hl, hgl, hbl⟩
          · exact .inl (by omega)
          · exact .inr ⟨l, e'', cs'', t'', op'', hl, hgl, hbl.trans hbj⟩

end Go.Proofs.YtemgddekbdifeaaGreat.Am
