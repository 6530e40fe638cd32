/- The plain machine run: what it comes to at inputs that are known. -/
import Derived.Test.YthiaocjneeafiaaAm5
import Derived.Laws.Strings
set_option linter.unusedVariables false
set_option linter.unusedSimpArgs false
namespace Go.Proofs.Ythiaocjneeafiaa.Am

/-! ### Trees of slots -/
inductive T (α : Type) where
  | leaf
  | node (l : T α) (v : Option α) (r : T α)

def forceN {α : Type} (n : Nat) (k : Nat → α) : α := match n with | 0 => k 0 | m + 1 => k (m + 1)
theorem forceN_eq {α : Type} (n : Nat) (k : Nat → α) : forceN n k = k n := by cases n <;> rfl
def forceI {α : Type} (z : Int) (k : Int → α) : α := match z with
  | .ofNat n => forceN n fun n => k (.ofNat n)
  | .negSucc n => forceN n fun n => k (.negSucc n)
theorem forceI_eq {α : Type} (z : Int) (k : Int → α) : forceI z k = k z := by cases z <;> simp [forceI, forceN_eq]
def forceB {α : Type} (b : Bool) (k : Bool → α) : α := match b with | true => k true | false => k false
theorem forceB_eq {α : Type} (b : Bool) (k : Bool → α) : forceB b k = k b := by cases b <;> rfl
def forceV {α : Type} (v : Value) (k : Value → α) : α :=
  match v with
  | .int kk z => forceI z fun z => k (.int kk z)
  | .bool b => forceB b fun b => k (.bool b)
  | .pointer (some ⟨b, o, x⟩) => forceN b fun b => forceN o fun o => k (.pointer (some ⟨b, o, x⟩))
  | .slice (some ⟨b, o, x⟩) n c => forceN b fun b => forceN o fun o => forceN n fun n => forceN c fun c => k (.slice (some ⟨b, o, x⟩) n c)
  | v => k v
theorem forceV_eq {α : Type} (v : Value) (k : Value → α) : forceV v k = k v := by
  unfold forceV
  split <;> simp only [forceI_eq, forceB_eq, forceN_eq]

def T.get {α : Type} : T α → Nat → Option α
  | .leaf, _ => none
  | .node l v r, i => match i with
    | 0 => v
    | i + 1 => match i % 2 with
      | 0 => l.get (i / 2)
      | _ => r.get (i / 2)
def T.setF {α : Type} : Nat → T α → Nat → Option α → T α
  | 0, t, _, _ => t
  | n + 1, t, i, x =>
    match t with
    | .leaf => match i with
      | 0 => .node .leaf x .leaf
      | i + 1 => match i % 2 with
        | 0 => .node (T.setF n .leaf (i / 2) x) none .leaf
        | _ => .node .leaf none (T.setF n .leaf (i / 2) x)
    | .node l v r => match i with
      | 0 => .node l x r
      | i + 1 => match i % 2 with
        | 0 => .node (T.setF n l (i / 2) x) v r
        | _ => .node l v (T.setF n r (i / 2) x)

theorem T.get_setF {α : Type} : ∀ (n : Nat) (t : T α) (i : Nat) (x : Option α) (j : Nat), i < n → (T.setF n t i x).get j = if j = i then x else t.get j
  | 0, t, i, x, j, h => by omega
  | n + 1, t, i, x, j, h => by
    have hh : ∀ a b : Nat, a + 1 ≠ b + 1 → a % 2 = b % 2 → a / 2 ≠ b / 2 := by intro a b h1 h2; omega
    cases t with
    | leaf =>
      cases i with
      | zero =>
        cases j with
        | zero => simp [T.setF, T.get]
        | succ j => simp only [T.setF, T.get]; split <;> simp
      | succ i =>
        have hi : i / 2 < n := by omega
        simp only [T.setF]
        cases hm : i % 2 with
        | zero =>
          simp only [T.get]
          cases j with
          | zero => simp
          | succ j =>
            simp only
            cases hm2 : j % 2 with
            | zero =>
              simp only [T.get_setF n _ _ _ _ hi]
              by_cases hij : j = i
              · simp [hij]
              · have := hh j i (by omega) (by omega); simp [hij, this, T.get]
            | succ k =>
              have : j ≠ i := by rintro rfl; omega
              simp [this]
        | succ k =>
          simp only [T.get]
          cases j with
          | zero => simp
          | succ j =>
            simp only
            cases hm2 : j % 2 with
            | zero =>
              have : j ≠ i := by rintro rfl; omega
              simp [this]
            | succ k' =>
              simp only [T.get_setF n _ _ _ _ hi]
              by_cases hij : j = i
              · simp [hij]
              · have := hh j i (by omega) (by omega); simp [hij, this, T.get]
    | node l v r =>
      cases i with
      | zero =>
        cases j with
        | zero => simp [T.setF, T.get]
        | succ j => simp [T.setF, T.get]
      | succ i =>
        have hi : i / 2 < n := by omega
        simp only [T.setF]
        cases hm : i % 2 with
        | zero =>
          simp only [T.get]
          cases j with
          | zero => simp
          | succ j =>
            simp only
            cases hm2 : j % 2 with
            | zero =>
              simp only [T.get_setF n _ _ _ _ hi]
              by_cases hij : j = i
              · simp [hij]
              · have := hh j i (by omega) (by omega); simp [hij, this]
            | succ k =>
              have : j ≠ i := by rintro rfl; omega
              simp [this]
        | succ k =>
          simp only [T.get]
          cases j with
          | zero => simp
          | succ j =>
            simp only
            cases hm2 : j % 2 with
            | zero =>
              have : j ≠ i := by rintro rfl; omega
              simp [this]
            | succ k' =>
              simp only [T.get_setF n _ _ _ _ hi]
              by_cases hij : j = i
              · simp [hij]
              · have := hh j i (by omega) (by omega); simp [hij, this]

def T.set {α : Type} (t : T α) (i : Nat) (x : Option α) : T α := T.setF (i + 1) t i x
theorem T.get_set {α : Type} (t : T α) (i : Nat) (x : Option α) (j : Nat) : (t.set i x).get j = if j = i then x else t.get j := T.get_setF _ _ _ _ _ (Nat.lt_succ_self i)

structure XH where
  next : Nat
  t : T Blk
def XH.toH (x : XH) : H := ⟨x.next, x.t.get⟩
def XH.push (x : XH) (b : Blk) : XH := ⟨x.next + 1, x.t.set x.next (some b)⟩
def XH.upd (x : XH) (i : Nat) (b : Blk) : XH := ⟨x.next, x.t.set i (some b)⟩
def XH.kill (x : XH) (i : Nat) : XH := ⟨x.next, x.t.set i none⟩
theorem XH.push_eq (x : XH) (b : Blk) : (x.push b).toH = x.toH.push b := by
  unfold XH.toH XH.push H.push; congr 1; funext i; exact T.get_set ..
theorem XH.upd_eq (x : XH) (i : Nat) (b : Blk) : (x.upd i b).toH = x.toH.upd i b := by
  unfold XH.toH XH.upd H.upd; congr 1; funext j; exact T.get_set ..
theorem XH.kill_eq (x : XH) (i : Nat) : (x.kill i).toH = x.toH.kill i := by
  unfold XH.toH XH.kill H.kill; congr 1; funext j; exact T.get_set ..

abbrev FT := T Value
def FT.fr (t : FT) : Fr := fun i => (t.get i).getD undef
def FT.put (t : FT) (d : Option Nat) (v : Value) : FT := match d with | some d => T.set t d (some v) | none => t
theorem FT.put_eq (t : FT) (d : Option Nat) (v : Value) : FT.fr (FT.put t d v) = (FT.fr t).put d v := by
  cases d with
  | none => rfl
  | some d => funext i; simp only [FT.fr, FT.put, Fr.put, T.get_set]; split <;> rfl

/-! ### Operations -/
def arE (k : IntKind) (z : Int) : Value := .int k (k.wrap z)
def intE (op : BinOp) (k : IntKind) (a b : Int) : Option Value :=
  match op with
  | .add => some (arE k (a + b))
  | .sub => some (arE k (a - b))
  | .mul => some (arE k (a * b))
  | .quo => if b = 0 then none else some (arE k (a.tdiv b))
  | .rem => if b = 0 then none else some (.int k (a.tmod b))
  | .and => some (arE k (BitVec.ofInt k.bits a &&& BitVec.ofInt k.bits b).toNat)
  | .or => some (arE k (BitVec.ofInt k.bits a ||| BitVec.ofInt k.bits b).toNat)
  | .xor => some (arE k (BitVec.ofInt k.bits a ^^^ BitVec.ofInt k.bits b).toNat)
  | .andNot => some (arE k (BitVec.ofInt k.bits a &&& ~~~BitVec.ofInt k.bits b).toNat)
  | .eql => some (.bool (a == b))
  | .neq => some (.bool (a != b))
  | .lss => some (.bool (decide (a < b)))
  | .leq => some (.bool (decide (a ≤ b)))
  | .gtr => some (.bool (decide (a > b)))
  | .geq => some (.bool (decide (a ≥ b)))
  | _ => none
theorem intE_ok {op : BinOp} {k : IntKind} {a b : Int} {v : Value} (h : intE op k a b = some v) {K : Value → Prop} (hk : K v) : intB op k a b K := by
  cases op <;> simp only [intE, Option.some.injEq, reduceCtorEq] at h <;> simp only [intB] <;> first
    | (subst h; exact ⟨hk⟩)
    | (subst h; exact hk)
    | (split at h
       · cases h
       · rename_i hb; simp only [Option.some.injEq] at h; subst h; exact ⟨hb, ⟨hk⟩⟩)
    | (split at h
       · cases h
       · rename_i hb; simp only [Option.some.injEq] at h; subst h; exact ⟨hb, hk⟩)

/-- A string of known bytes. -/
def bs (l : List UInt8) : ByteArray := ⟨⟨l⟩⟩
def lessL : List UInt8 → List UInt8 → Bool := Op.bytesLess
def strE (op : BinOp) (a b : ByteArray) : Option Value :=
  match op with
  | .add => if a.size + b.size ≤ 9223372036854775807 then some (.string (bs (a.data.toList ++ b.data.toList))) else none
  | .eql => some (.bool (a.data.toList == b.data.toList))
  | .neq => some (.bool (!(a.data.toList == b.data.toList)))
  | .lss => some (.bool (lessL a.data.toList b.data.toList))
  | .leq => some (.bool (lessL a.data.toList b.data.toList || a.data.toList == b.data.toList))
  | .gtr => some (.bool (!(lessL a.data.toList b.data.toList || a.data.toList == b.data.toList)))
  | .geq => some (.bool (!(lessL a.data.toList b.data.toList)))
  | _ => none
theorem bs_append (a b : ByteArray) : bs (a.data.toList ++ b.data.toList) = a ++ b := by
  apply ByteArray.ext
  apply Array.ext'
  simp [bs]
theorem strE_ok {op : BinOp} {a b : ByteArray} {v : Value} (h : strE op a b = some v) {K : Value → Prop} (hk : K v) : strB op a b K := by
  cases op <;> simp only [strE, Option.some.injEq, reduceCtorEq] at h <;> simp only [strB, ByteArray.toList_eq] <;> first
    | (subst h; exact hk)
    | (split at h
       · rename_i hb; simp only [Option.some.injEq] at h; subst h; rw [bs_append] at hk; exact ⟨hb, hk⟩
       · cases h)
end Go.Proofs.Ythiaocjneeafiaa.Am

namespace Go.Proofs.Ythiaocjneeafiaa.Am

def shlE (k : IntKind) (a b : Int) : Option Value := if 0 ≤ b then some (arE k (a * 2 ^ (min b.toNat k.bits))) else none
def shrE (k : IntKind) (a b : Int) : Option Value := if 0 ≤ b then some (.int k (a.fdiv (2 ^ (min b.toNat k.bits)))) else none
def binE (op : BinOp) (x y : Value) : Option Value :=
  match x with
  | .int k a => match y with
    | .int k' b =>
      match op with
      | .shl => shlE k a b
      | .shr => shrE k a b
      | op => if k = k' then intE op k a b else none
    | _ => none
  | .string a => match y with
    | .string b => strE op a b
    | _ => none
  | _ => none
theorem binE_ok {op : BinOp} {x y v : Value} (h : binE op x y = some v) {K : Value → Prop} (hk : K v) : binF op x y K := by
  unfold binE at h
  split at h
  · rename_i k a
    split at h
    · rename_i k' b
      cases op <;> simp only [shlE, shrE] at h <;> simp only [binF] <;> split at h <;> first
        | (cases h; done)
        | (rename_i hk'; rw [if_pos hk']; exact intE_ok h hk)
        | (rename_i hb; simp only [Option.some.injEq] at h; subst h; exact ⟨hb, ⟨hk⟩⟩)
        | (rename_i hb; simp only [Option.some.injEq] at h; subst h; exact ⟨hb, hk⟩)
    · cases h
  · split at h
    · exact strE_ok h hk
    · cases h
  · cases h
def unE (op : UnOp) (x : Value) : Option Value :=
  match op with
  | .neg => match x with
    | .int k n => some (arE k (0 - n))
    | _ => none
  | .not => match x with
    | .bool b => some (.bool (!b))
    | _ => none
  | .xor => match x with
    | .int k n => some (arE k (BitVec.ofInt k.bits (if k.signed then -1 else k.max) ^^^ BitVec.ofInt k.bits n).toNat)
    | _ => none
  | _ => none
theorem unE_ok {op : UnOp} {x v : Value} (h : unE op x = some v) {K : Value → Prop} (hk : K v) : unF op x K := by
  cases op <;> simp only [unE, reduceCtorEq] at h <;> split at h <;> simp only [Option.some.injEq, reduceCtorEq] at h <;> subst h <;> first
    | exact ⟨hk⟩
    | exact hk
def mnxE (mx : Bool) (k : IntKind) (x : Int) : List Value → Option Value
  | [] => some (.int k x)
  | .int _ y :: r => mnxE mx k (if mx then (if y > x then y else x) else (if y < x then y else x)) r
  | _ :: _ => none
theorem mnxE_ok {mx : Bool} {k : IntKind} : ∀ {l : List Value} {x : Int} {v : Value}, mnxE mx k x l = some v → ∀ {K : Value → Prop}, K v → mnx mx k x l K
  | [], x, v, h, K, hk => by simp only [mnxE, Option.some.injEq] at h; subst h; exact hk
  | y :: r, x, v, h, K, hk => by
    cases y <;> simp only [mnxE, reduceCtorEq] at h
    exact mnxE_ok (l := r) h hk
def intOf : Value → Option Int
  | .int _ n => some n
  | _ => none
theorem intOf_eq {v : Value} {n : Int} (h : intOf v = some n) : ∃ k, v = .int k n := by
  cases v <;> simp only [intOf, Option.some.injEq, reduceCtorEq] at h
  subst h; exact ⟨_, rfl⟩
def bndE (ρ : Operand → Value) (len cap : Nat) (lo hi : Option Operand) : Option (Nat × Nat) :=
  match hi with
  | none =>
    match lo with
    | none => some (0, len)
    | some l => match intOf (ρ l) with
      | some l => if 0 ≤ l ∧ l ≤ (len : Int) then some (l.toNat, len) else none
      | none => none
  | some u => match intOf (ρ u) with
    | some u => if 0 ≤ u ∧ u ≤ (cap : Int) then
        match lo with
        | none => some (0, u.toNat)
        | some l => match intOf (ρ l) with
          | some l => if 0 ≤ l ∧ l ≤ (u.toNat : Int) then some (l.toNat, u.toNat) else none
          | none => none
        else none
    | none => none
theorem bndE_ok {ρ : Operand → Value} {len cap : Nat} {lo hi : Option Operand} {l u : Nat} (h : bndE ρ len cap lo hi = some (l, u)) {K : Nat → Nat → Prop} (hk : K l u) : bnd ρ len cap lo hi K := by
  unfold bndE at h
  unfold bnd
  cases hi with
  | none =>
    cases lo with
    | none => simp only [Option.some.injEq, Prod.mk.injEq] at h; obtain ⟨rfl, rfl⟩ := h; exact hk
    | some x =>
      simp only at h ⊢
      split at h
      · rename_i n hn
        obtain ⟨k, hv⟩ := intOf_eq hn
        rw [hv]
        split at h
        · rename_i hb; simp only [Option.some.injEq, Prod.mk.injEq] at h; obtain ⟨rfl, rfl⟩ := h; exact ⟨hb, hk⟩
        · cases h
      · cases h
  | some y =>
    simp only at h ⊢
    split at h
    · rename_i n hn
      obtain ⟨k, hv⟩ := intOf_eq hn
      rw [hv]
      split at h
      · rename_i hb
        refine ⟨hb, ?_⟩
        cases lo with
        | none => simp only [Option.some.injEq, Prod.mk.injEq] at h; obtain ⟨rfl, rfl⟩ := h; exact hk
        | some x =>
          simp only at h ⊢
          split at h
          · rename_i n' hn'
            obtain ⟨k', hv'⟩ := intOf_eq hn'
            rw [hv']
            split at h
            · rename_i hb'; simp only [Option.some.injEq, Prod.mk.injEq] at h; obtain ⟨rfl, rfl⟩ := h; exact ⟨hb', hk⟩
            · cases h
          · cases h
      · cases h
    · cases h

def closedE (h : H) (i : Nat) : Bool := match h.get i with
  | some (.cells _ _ _ op) => !op
  | none => false
theorem closedE_ok {h : H} {i : Nat} (hc : closedE h i = true) : closedAt h i := by
  unfold closedE at hc
  split at hc
  · rename_i cs t own op hg
    simp only [Bool.not_eq_true'] at hc
    subst hc
    exact ⟨_, _, _, hg⟩
  · cases hc
def tagE (h : H) (i : Nat) (t : TypeId) : Bool := match h.get i with
  | some (.cells _ t' _ op) => !op || t' == t
  | none => false
theorem tagE_ok {h : H} {i : Nat} {t : TypeId} (hc : tagE h i t = true) : tagAt h i t := by
  unfold tagE at hc
  split at hc
  · rename_i cs t' own op hg
    refine ⟨_, _, _, _, hg, fun ho => ?_⟩
    subst ho
    simpa using hc
  · cases hc

def ptrOf : Value → Option (Nat × Nat)
  | .pointer (some ⟨i, o, none⟩) => some (i, o)
  | _ => none
theorem ptrOf_eq {v : Value} {i o : Nat} (h : ptrOf v = some (i, o)) : v = .pointer (some ⟨i, o, none⟩) := by
  unfold ptrOf at h
  split at h
  · simp only [Option.some.injEq, Prod.mk.injEq] at h; obtain ⟨rfl, rfl⟩ := h; rfl
  · cases h
def aggOf : Value → Option (List Value)
  | .agg cs => some cs.toList
  | _ => none
theorem aggOf_eq {v : Value} {l : List Value} (h : aggOf v = some l) : ∃ cs : Array Value, v = .agg cs ∧ cs.toList = l := by
  cases v <;> simp only [aggOf, Option.some.injEq, reduceCtorEq] at h
  exact ⟨_, rfl, h⟩

abbrev Told := Option (Value × Option Blk)
def pur (v : Value) : Told := some (v, none)

def nstE (ρ : Operand → Value) (h : H) (op : AOp) : Told :=
  match op with
  | .mv x => pur (ρ x)
  | .pick c a b => match ρ c with
    | .bool c => (match c with | true => pur (ρ a) | false => pur (ρ b))
    | _ => none
  | .alloc t z => some (.pointer (some ⟨h.next, 0, none⟩), some (.cells z t true false))
  | .box t x => match cellsOf (ρ x) with
    | some l => some (.pointer (some ⟨h.next, 0, none⟩), some (.cells l t true false))
    | none => none
  | .build ps => match segs ρ ps with
    | some vs => pur (.agg vs.toArray)
    | none => none
  | .bslice t n ps => match segs ρ ps with
    | some vs => some (.slice (some ⟨h.next, 0, none⟩) n n, some (.cells vs t true false))
    | none => none
  | .ld1 x => match ptrOf (ρ x) with
    | some (i, o) => (match h.cell i o with | some v => pur v | none => none)
    | none => none
  | .ldN n x => match ptrOf (ρ x) with
    | some (i, o) => (match h.rd i o n with | some vs => pur (.agg vs.toArray) | none => none)
    | none => none
  | .nilc x => match ρ x with
    | .pointer (some a) => pur (.pointer (some a))
    | _ => none
  | .bin op x y => match binE op (ρ x) (ρ y) with
    | some v => pur v
    | none => none
  | .eqB neg x y => match ρ x with
    | .bool a => (match ρ y with | .bool b => pur (.bool ((a == b) != neg)) | _ => none)
    | _ => none
  | .eqA offs neg x y => match aggOf (ρ x) with
    | some xs => (match aggOf (ρ y) with
      | some ys => (match eqL xs ys offs with | some b => pur (.bool (b != neg)) | none => none)
      | none => none)
    | none => none
  | .eqN k neg x y => match nilEq k (ρ x) (ρ y) with
    | some b => pur (.bool (b != neg))
    | none => none
  | .un op x => match unE op (ρ x) with
    | some v => pur v
    | none => none
  | .cvI k x => match intOf (ρ x) with
    | some n => pur (arE k n)
    | none => none
  | .cvStr x => match ρ x with
    | .slice none _ _ => pur (.string (bs []))
    | .slice (some ⟨i, o, none⟩) n _ => (match h.rd i o n with
      | some vs => (match bytesOf vs with | some l => pur (.string (bs l)) | none => none)
      | none => none)
    | _ => none
  | .cvBytes t x => match ρ x with
    | .string s => some (.slice (some ⟨h.next, 0, none⟩) s.size s.size, some (.cells (s.data.toList.map fun b => .int .u8 b.toNat) t true true))
    | _ => none
  | .fad off x => match ptrOf (ρ x) with
    | some (i, o) => pur (.pointer (some ⟨i, o + off, none⟩))
    | none => none
  | .iadA len sz x ix => match ptrOf (ρ x) with
    | some (i, o) => (match intOf (ρ ix) with
      | some n => if 0 ≤ n ∧ n < (len : Int) then pur (.pointer (some ⟨i, o + n.toNat * sz, none⟩)) else none
      | none => none)
    | none => none
  | .iadS sz x ix => match ρ x with
    | .slice (some ⟨i, o, none⟩) len _ => (match intOf (ρ ix) with
      | some n => if 0 ≤ n ∧ n < (len : Int) then pur (.pointer (some ⟨i, o + n.toNat * sz, none⟩)) else none
      | none => none)
    | _ => none
  | .fld1 off x => match aggOf (ρ x) with
    | some cs => (match cs[off]? with | some v => pur v | none => none)
    | none => none
  | .fldN off n x => match aggOf (ρ x) with
    | some cs => pur (.agg ((cs.drop off).take n).toArray)
    | none => none
  | .ix1 len sz x ix => match aggOf (ρ x) with
    | some cs => (match intOf (ρ ix) with
      | some n => if 0 ≤ n ∧ n < (len : Int) then (match cs[n.toNat * sz]? with | some v => pur v | none => none) else none
      | none => none)
    | none => none
  | .ixN len sz x ix => match aggOf (ρ x) with
    | some cs => (match intOf (ρ ix) with
      | some n => if 0 ≤ n ∧ n < (len : Int) then pur (.agg ((cs.drop (n.toNat * sz)).take sz).toArray) else none
      | none => none)
    | none => none
  | .ixS x ix => match ρ x with
    | .string s => (match intOf (ρ ix) with
      | some n => if 0 ≤ n ∧ n < (s.data.toList.length : Int) then pur (.int .u8 ((s.data.toList[n.toNat]?.getD 0).toNat : Nat)) else none
      | none => none)
    | _ => none
  | .slS x lo hi => match ρ x with
    | .string s => (match bndE ρ s.data.toList.length s.data.toList.length lo hi with
      | some (l, u) => pur (.string (bs ((s.data.toList.drop l).take (u - l))))
      | none => none)
    | _ => none
  | .slL t sz x lo hi => match ρ x with
    | .slice none 0 0 => (match bndE ρ 0 0 lo hi with | some _ => pur (.slice none 0 0) | none => none)
    | .slice (some ⟨i, o, none⟩) n c => (match bndE ρ n c lo hi with
      | some (l, u) => (match lo with
        | none => pur (.slice (some ⟨i, o, none⟩) u c)
        | some _ => if l < c then (if l == 0 || tagE h i t then pur (.slice (some ⟨i, o + l * sz, none⟩) (u - l) (c - l)) else none)
            else (if l == 0 || closedE h i then pur (.slice (some ⟨i, o, none⟩) (u - l) (c - l)) else none))
      | none => none)
    | _ => none
  | .slA n sz x lo hi => match ptrOf (ρ x) with
    | some (i, o) => (match bndE ρ n n lo hi with
      | some (l, u) => if closedE h i then (match lo with
          | none => pur (.slice (some ⟨i, o, none⟩) u n)
          | some _ => if l < n then pur (.slice (some ⟨i, o + l * sz, none⟩) (u - l) (n - l)) else pur (.slice (some ⟨i, o, none⟩) (u - l) (n - l))) else none
      | none => none)
    | none => none
  | .slZ t x => match ρ x with
    | .slice none 0 0 => pur (.slice none 0 0)
    | .slice (some ⟨_, _, none⟩) _ _ => some (.slice (some ⟨h.next, 0, none⟩) 0 0, some (.cells [] t false false))
    | _ => none
  | .mks t bytes z n c => match intOf (ρ n) with
    | some n => (match intOf (ρ c) with
      | some c => if 0 ≤ n ∧ n ≤ c ∧ (bytes : Int) * c ≤ 2 ^ 48 then some (.slice (some ⟨h.next, 0, none⟩) n.toNat c.toNat, some (.cells (List.replicate c.toNat z).flatten t true false)) else none
      | none => none)
    | none => none
  | .mkf fn first cap => pur (.func (.func fn) (first.map ρ).toArray (cap.map ρ).toArray)
  | .ext x i => match ρ x with
    | .tuple vs => (match vs.toList[i]? with | some v => pur v | none => none)
    | _ => none
  | .lenS x => match ρ x with
    | .string s => pur (.int .i64 (s.data.toList.length : Nat))
    | _ => none
  | .lenL x => match ρ x with
    | .slice _ n _ => pur (.int .i64 n)
    | _ => none
  | .cst v => pur v
  | .minmax mx x xs => match ρ x with
    | .int k x => (match mnxE mx k x (xs.map ρ) with | some v => pur v | none => none)
    | _ => none
  | _ => none

theorem size_list (s : ByteArray) : s.data.toList.length = s.size := by cases s; rfl
theorem bs_nil : bs [] = ByteArray.empty := rfl
theorem bs_extract (s : ByteArray) (l u : Nat) (h : u ≤ s.size) : bs ((s.data.toList.drop l).take (u - l)) = s.extract l u := by
  apply ByteArray.ext
  apply Array.ext'
  simp only [bs]
  have : (s.extract l u).data = s.data.extract l u := by
    by_cases hlu : l ≤ u
    · simp [ByteArray.extract, ByteArray.copySlice, Nat.add_sub_cancel' hlu]
    · have h0 : u - l = 0 := by omega
      simp [ByteArray.extract, ByteArray.copySlice, h0]
      apply Array.ext'
      simp only [Array.toList_extract, List.extract_eq_take_drop, h0, Nat.sub_self]
  rw [this, Array.toList_extract, List.extract_eq_take_drop]

theorem nstE_ok {ρ : Operand → Value} {h : H} {op : AOp} {v : Value} {b : Option Blk} (he : nstE ρ h op = some (v, b)) {K : Value → Option Blk → Prop} (hk : K v b) : nst ρ h op K := by
  have fin : ∀ {v' : Value}, pur v' = some (v, b) → K v' none := by
    intro v' hh
    simp only [pur, Option.some.injEq, Prod.mk.injEq] at hh
    obtain ⟨rfl, rfl⟩ := hh
    exact hk
  have finB : ∀ {v' : Value} {b' : Blk}, (some (v', some b') : Told) = some (v, b) → K v' (some b') := by
    intro v' b' hh
    simp only [Option.some.injEq, Prod.mk.injEq] at hh
    obtain ⟨rfl, rfl⟩ := hh
    exact hk
  cases op <;> simp only [nstE, reduceCtorEq] at he <;> simp only [nst]
  case mv x => exact fin he
  case pick c a b =>
    split at he
    · rename_i cb hcb; rw [hcb]; cases cb <;> exact fin he
    · cases he
  case alloc t z => exact finB he
  case box t x =>
    split at he
    · rename_i l hl; exact ⟨l, hl, finB he⟩
    · cases he
  case build ps =>
    split at he
    · rename_i l hl; exact ⟨l, hl, fin he⟩
    · cases he
  case bslice t n ps =>
    split at he
    · rename_i l hl; exact ⟨l, hl, finB he⟩
    · cases he
  case ld1 x =>
    split at he
    · rename_i i o hp
      rw [ptrOf_eq hp]
      split at he
      · rename_i l hl; exact ⟨l, hl, fin he⟩
      · cases he
    · cases he
  case ldN n x =>
    split at he
    · rename_i i o hp
      rw [ptrOf_eq hp]
      split at he
      · rename_i l hl; exact ⟨l, hl, fin he⟩
      · cases he
    · cases he
  case nilc x =>
    split at he
    · rename_i a ha; rw [ha]; exact fin he
    · cases he
  case bin op x y =>
    split at he
    · rename_i v' hv; exact binE_ok hv (K := fun v => K v none) (fin he)
    · cases he
  case eqB neg x y =>
    split at he
    · rename_i a ha
      split at he
      · rename_i b' hb; rw [ha, hb]; exact fin he
      · cases he
    · cases he
  case eqA offs neg x y =>
    split at he
    · rename_i xs hx
      split at he
      · rename_i ys hy
        obtain ⟨cs, hcs, rfl⟩ := aggOf_eq hx
        obtain ⟨ds, hds, rfl⟩ := aggOf_eq hy
        rw [hcs, hds]
        split at he
        · rename_i l hl; exact ⟨l, hl, fin he⟩
        · cases he
      · cases he
    · cases he
  case eqN k neg x y =>
    split at he
    · rename_i l hl; exact ⟨l, hl, fin he⟩
    · cases he
  case un op x =>
    split at he
    · rename_i v' hv; exact unE_ok hv (K := fun v => K v none) (fin he)
    · cases he
  case cvI k x =>
    split at he
    · rename_i n hn
      obtain ⟨k', hv⟩ := intOf_eq hn
      rw [hv]; exact ⟨fin he⟩
    · cases he
  case cvStr x =>
    split at he
    · rename_i hv; rw [hv]; exact fin he
    · rename_i i o n _ hv
      rw [hv]
      split at he
      · rename_i l hl
        split at he
        · rename_i m hm; exact ⟨l, hl, m, hm, fin he⟩
        · cases he
      · cases he
    · cases he
  case cvBytes t x =>
    split at he
    · rename_i s hs; rw [hs]; exact finB he
    · cases he
  case fad off x =>
    split at he
    · rename_i i o hp; rw [ptrOf_eq hp]; exact fin he
    · cases he
  case iadA len sz x ix =>
    split at he
    · rename_i i o hp
      split at he
      · rename_i n hn
        obtain ⟨k, hv⟩ := intOf_eq hn
        rw [ptrOf_eq hp, hv]
        split at he
        · rename_i hb; exact ⟨hb, fin he⟩
        · cases he
      · cases he
    · cases he
  case iadS sz x ix =>
    split at he
    · rename_i i o len c hp
      split at he
      · rename_i n hn
        obtain ⟨k, hv⟩ := intOf_eq hn
        rw [hp, hv]
        split at he
        · rename_i hb; exact ⟨hb, fin he⟩
        · cases he
      · cases he
    · cases he
  case fld1 off x =>
    split at he
    · rename_i xs hx
      obtain ⟨cs, hcs, rfl⟩ := aggOf_eq hx
      rw [hcs]
      split at he
      · rename_i l hl; exact ⟨l, hl, fin he⟩
      · cases he
    · cases he
  case fldN off n x =>
    split at he
    · rename_i xs hx
      obtain ⟨cs, hcs, rfl⟩ := aggOf_eq hx
      rw [hcs]; exact fin he
    · cases he
  case ix1 len sz x ix =>
    split at he
    · rename_i xs hx
      obtain ⟨cs, hcs, rfl⟩ := aggOf_eq hx
      split at he
      · rename_i n hn
        obtain ⟨k, hv⟩ := intOf_eq hn
        rw [hcs, hv]
        split at he
        · rename_i hb
          split at he
          · rename_i l hl; exact ⟨hb, l, hl, fin he⟩
          · cases he
        · cases he
      · cases he
    · cases he
  case ixN len sz x ix =>
    split at he
    · rename_i xs hx
      obtain ⟨cs, hcs, rfl⟩ := aggOf_eq hx
      split at he
      · rename_i n hn
        obtain ⟨k, hv⟩ := intOf_eq hn
        rw [hcs, hv]
        split at he
        · rename_i hb; exact ⟨hb, fin he⟩
        · cases he
      · cases he
    · cases he
  case ixS x ix =>
    split at he
    · rename_i s hs
      split at he
      · rename_i n hn
        obtain ⟨k, hv⟩ := intOf_eq hn
        rw [hs, hv]
        split at he
        · rename_i hb
          rw [size_list] at hb
          refine ⟨hb, ?_⟩
          have := fin he
          simpa [byteAt] using this
        · cases he
      · cases he
    · cases he
  case slS x lo hi =>
    split at he
    · rename_i s hs
      rw [hs]
      split at he
      · rename_i l u hlu
        rw [size_list] at hlu
        refine bndE_ok hlu ?_
        have hu : u ≤ s.size := by
          have := bndE_ok hlu (K := fun l u => True) trivial
          unfold bndE at hlu
          repeat' split at hlu
          all_goals first
            | (cases hlu; done)
            | (simp only [Option.some.injEq, Prod.mk.injEq] at hlu; omega)
        have := fin he
        rwa [bs_extract s l u hu] at this
      · cases he
    · cases he
  case slL t sz x lo hi =>
    split at he
    · rename_i hv
      rw [hv]
      split at he
      · rename_i p hp; exact bndE_ok (l := p.1) (u := p.2) hp (fin he)
      · cases he
    · rename_i i o n c hne hv
      rw [hv]
      split at he
      · rename_i l u hlu
        refine bndE_ok hlu ?_
        cases lo with
        | none => exact fin he
        | some y =>
          simp only at he ⊢
          split at he
          · rename_i hlc
            split at he
            · rename_i hc
              simp only [Bool.or_eq_true, beq_iff_eq] at hc
              exact ⟨fun _ => ⟨hc.imp id tagE_ok, fin he⟩, fun hcl => absurd hcl (by omega)⟩
            · cases he
          · rename_i hlc
            split at he
            · rename_i hc
              simp only [Bool.or_eq_true, beq_iff_eq] at hc
              exact ⟨fun hcl => absurd hcl hlc, fun _ => ⟨hc.imp id closedE_ok, fin he⟩⟩
            · cases he
      · cases he
    · cases he
  case slA n sz x lo hi =>
    split at he
    · rename_i i o hp
      rw [ptrOf_eq hp]
      split at he
      · rename_i l u hlu
        refine bndE_ok hlu ?_
        split at he
        · rename_i hc
          have hcl := closedE_ok hc
          cases lo with
          | none => exact ⟨hcl, fin he⟩
          | some y =>
            simp only at he ⊢
            split at he
            · rename_i hlc; exact ⟨hcl, fun _ => fin he, fun h => absurd h (by omega)⟩
            · rename_i hlc; exact ⟨hcl, fun h => absurd h hlc, fun _ => fin he⟩
        · cases he
      · cases he
    · cases he
  case slZ t x =>
    split at he
    · rename_i hv; rw [hv]; exact fin he
    · rename_i hv; rw [hv]; exact finB he
    · cases he
  case mks t bytes z n c =>
    split at he
    · rename_i n' hn
      obtain ⟨k, hv⟩ := intOf_eq hn
      split at he
      · rename_i c' hc
        obtain ⟨k', hv'⟩ := intOf_eq hc
        rw [hv, hv']
        split at he
        · rename_i hb; exact ⟨hb, finB he⟩
        · cases he
      · cases he
    · cases he
  case mkf fn first cap => exact fin he
  case ext x i =>
    split at he
    · rename_i vs hv
      rw [hv]
      split at he
      · rename_i l hl; exact ⟨l, hl, fin he⟩
      · cases he
    · cases he
  case lenS x =>
    split at he
    · rename_i s hs; rw [hs]; rw [size_list] at he; exact fin he
    · cases he
  case lenL x =>
    split at he
    · rename_i a n c hs; rw [hs]; exact fin he
    · cases he
  case cst v => exact fin he
  case minmax mx x xs =>
    split at he
    · rename_i k n hv
      rw [hv]
      split at he
      · rename_i v' hv'; exact mnxE_ok hv' (K := fun v => K v none) (fin he)
      · cases he
    · cases he
end Go.Proofs.Ythiaocjneeafiaa.Am

namespace Go.Proofs.Ythiaocjneeafiaa.Am
open Go.RowKit

def eqNat (a b : Nat) : Bool := decide (a = b)
def addrEq : Option Addr → Option Addr → Bool
  | none, none => true
  | some ⟨b, o, none⟩, some ⟨b', o', none⟩ => decide (b = b') && decide (o = o')
  | _, _ => false
theorem addrEq_ok {a b : Option Addr} (h : addrEq a b = true) : a = b := by
  unfold addrEq at h
  split at h
  · rfl
  · simp only [Bool.and_eq_true, decide_eq_true_eq] at h; obtain ⟨rfl, rfl⟩ := h; rfl
  · cases h
def veq1 : Value → Value → Bool
  | .bool a, .bool b => a == b
  | .int k a, .int k' b => decide (k = k') && decide (a = b)
  | .string a, .string b => decide (a.data.toList = b.data.toList)
  | .pointer a, .pointer b => addrEq a b
  | .slice a n c, .slice a' n' c' => addrEq a a' && decide (n = n') && decide (c = c')
  | .map none, .map none => true
  | .nilFunc, .nilFunc => true
  | .nilIface, .nilIface => true
  | _, _ => false
theorem veq1_ok {a b : Value} (h : veq1 a b = true) : a = b := by
  unfold veq1 at h
  split at h <;> first
    | rfl
    | (simp only [beq_iff_eq] at h; rw [h]; done)
    | (simp only [Bool.and_eq_true, decide_eq_true_eq] at h; obtain ⟨rfl, rfl⟩ := h; rfl)
    | (simp only [decide_eq_true_eq] at h; congr 1; apply ByteArray.ext; exact Array.ext' h)
    | (rw [addrEq_ok h]; done)
    | (simp only [Bool.and_eq_true, decide_eq_true_eq] at h; obtain ⟨⟨h1, rfl⟩, rfl⟩ := h; rw [addrEq_ok h1])
    | cases h
def veqL : List Value → List Value → Bool
  | [], [] => true
  | a :: l, b :: r => veq1 a b && veqL l r
  | _, _ => false
theorem veqL_ok : ∀ {a b : List Value}, veqL a b = true → a = b
  | [], [], _ => rfl
  | a :: l, b :: r, h => by
    simp only [veqL, Bool.and_eq_true] at h
    rw [veq1_ok h.1, veqL_ok h.2]
  | [], _ :: _, h => by cases h
  | _ :: _, [], h => by cases h
def veq (a b : Value) : Bool :=
  match aggOf a with
  | some l => match aggOf b with
    | some r => veqL l r
    | none => false
  | none => veq1 a b
theorem veq_ok {a b : Value} (h : veq a b = true) : a = b := by
  unfold veq at h
  split at h
  · rename_i l hl
    split at h
    · rename_i r hr
      obtain ⟨cs, rfl, rfl⟩ := aggOf_eq hl
      obtain ⟨ds, rfl, rfl⟩ := aggOf_eq hr
      congr 1
      exact Array.ext' (veqL_ok h)
    · cases h
  · exact veq1_ok h

def blkEq (a : Option Blk) (b : Blk) : Bool :=
  match a with
  | some (.cells cs t own op) => match b with
    | .cells cs' t' own' op' => veqL cs cs' && decide (t = t') && (own == own') && (op == op')
  | none => false
theorem blkEq_ok {a : Option Blk} {b : Blk} (h : blkEq a b = true) : a = some b := by
  unfold blkEq at h
  split at h
  · split at h
    simp only [Bool.and_eq_true, decide_eq_true_eq, beq_iff_eq] at h
    obtain ⟨⟨⟨h1, rfl⟩, rfl⟩, rfl⟩ := h
    rw [veqL_ok h1]
  · cases h

def chkE (f : Fr) (h : H) (c : Option Nat × AOp) : Bool :=
  match nstE (ev f) h c.2 with
  | none => false
  | some (v, b) =>
    match c.1 with
    | some d => (match b with
      | none => veq v (f d)
      | some blk => match f d with
        | .pointer (some ⟨i, 0, none⟩) => blkEq (h.get i) blk
        | .slice (some ⟨i, 0, none⟩) _ _ => blkEq (h.get i) blk
        | _ => false)
    | none => (match b with | none => true | some _ => false)
theorem chkE_ok {f : Fr} {h : H} {c : Option Nat × AOp} (hc : chkE f h c = true) : chkOne f h c := by
  obtain ⟨d, op⟩ := c
  unfold chkE at hc
  simp only at hc
  split at hc
  · cases hc
  · rename_i v b hn
    unfold chkOne
    cases d with
    | none =>
      simp only at hc ⊢
      refine nstE_ok hn ?_
      cases b with
      | none => rfl
      | some b => cases hc
    | some d =>
      simp only at hc ⊢
      refine nstE_ok hn ?_
      cases b with
      | none => exact veq_ok hc
      | some blk =>
        simp only at hc ⊢
        split at hc
        · rename_i i hi; rw [hi]; exact blkEq_ok hc
        · rename_i i n c hi; rw [hi]; exact blkEq_ok hc
        · cases hc

abbrev ClE := FuncId → List Value → XH → Option (Value × XH)
def ClEOK (clE : ClE) (cl : Cl) : Prop := ∀ g args x v x', clE g args x = some (v, x') → ∀ K : Value → H → Prop, K v x'.toH → cl g args x.toH K

def wr1E (x : XH) (i o : Nat) (v : Value) : Option XH :=
  match x.t.get i with
  | some (.cells cs t true op) => if o < cs.length then some (x.upd i (.cells (cs.set o v) t true op)) else none
  | _ => none
def wrE (x : XH) (i o : Nat) (vs : List Value) : Option XH :=
  match x.t.get i with
  | some (.cells cs t true op) => if o + vs.length ≤ cs.length then some (x.upd i (.cells (splice cs o vs) t true op)) else none
  | _ => none
theorem wr1E_ok {x x' : XH} {i o : Nat} {v : Value} (h : wr1E x i o v = some x') : x.toH.wr1 i o v = some x'.toH := by
  unfold wr1E at h
  unfold H.wr1
  split at h
  · rename_i cs t op hg
    have hg' : x.toH.get i = some (.cells cs t true op) := hg
    rw [hg']
    simp only
    split at h
    · rename_i ho
      rw [if_pos ho]
      simp only [Option.some.injEq] at h ⊢
      rw [← h, XH.upd_eq]
    · cases h
  · cases h
theorem wrE_ok {x x' : XH} {i o : Nat} {vs : List Value} (h : wrE x i o vs = some x') : x.toH.wr i o vs = some x'.toH := by
  unfold wrE at h
  unfold H.wr
  split at h
  · rename_i cs t op hg
    have hg' : x.toH.get i = some (.cells cs t true op) := hg
    rw [hg']
    simp only
    split at h
    · rename_i ho
      rw [if_pos ho]
      simp only [Option.some.injEq] at h ⊢
      rw [← h, XH.upd_eq]
    · cases h
  · cases h
def oneE : Value → Bool
  | .agg _ | .tuple _ => false
  | _ => true
theorem oneE_ok {v : Value} (h : oneE v = true) : cellsOf v = some [v] := by cases v <;> first | rfl | cases h

def takeE (x : XH) (t sz n c : Nat) (base : Option Addr) : Option (List Value × XH) :=
  match base with
  | none => if n = 0 ∧ c = 0 then some ([], x) else none
  | some ⟨i, o, none⟩ => match x.t.get i with
    | some (.cells cs t' own opn) =>
      if o + n * sz ≤ cs.length then
        (if opn then (if own = true ∧ t' = t ∧ cs.length ≤ o + c * sz then some ((cs.drop o).take (n * sz), x.kill i) else none)
        else some ((cs.drop o).take (n * sz), x))
      else none
    | none => none
  | _ => none
theorem takeE_ok {x : XH} {t sz n c : Nat} {base : Option Addr} {p : List Value × XH} (h : takeE x t sz n c base = some p) : takeRow x.toH t sz n c base = some (p.1, p.2.toH) := by
  unfold takeE at h
  unfold takeRow
  split at h
  · split at h
    · rename_i hb; rw [if_pos hb]; simp only [Option.some.injEq] at h; rw [← h]
    · cases h
  · rename_i i o
    split at h
    · rename_i cs t' own opn hg
      have hg' : x.toH.get i = some (.cells cs t' own opn) := hg
      simp only [hg']
      split at h
      · rename_i hb
        rw [if_pos hb]
        split at h
        · rename_i ho
          rw [if_pos ho]
          split at h
          · rename_i hc; rw [if_pos hc]; simp only [Option.some.injEq] at h; rw [← h]; simp only [XH.kill_eq]
          · cases h
        · rename_i ho
          rw [if_neg ho]
          simp only [Option.some.injEq] at h; rw [← h]
      · cases h
    · cases h
  · cases h

def sstE (cl : ClE) (ρ : Operand → Value) (x : XH) (op : AOp) : Option (Value × XH) :=
  match op with
  | .mvS a => some (ρ a, x)
  | .st1 a v => match ptrOf (ρ a) with
    | some (i, o) => if oneE (ρ v) then (match wr1E x i o (ρ v) with | some x' => some (undef, x') | none => none) else none
    | none => none
  | .stN n a v => match ptrOf (ρ a) with
    | some (i, o) => (match cellsOf (ρ v) with
      | some l => if l.length = n then (match wrE x i o l with | some x' => some (undef, x') | none => none) else none
      | none => none)
    | none => none
  | .app t sz bytes a b => match ρ a with
    | .slice base n c => (match srcLen (ρ b) with
      | some m => (match srcCells x.toH sz m (ρ b) with
        | some ys =>
          if n + m ≤ c then (match base with
            | none => some (.slice none n c, x)
            | some ⟨i, o, none⟩ => (match wrE x i (o + n * sz) ys with | some x' => some (.slice (some ⟨i, o, none⟩) (n + m) c, x') | none => none)
            | _ => none)
          else if ((n + m) + (n + m) / 4 + 512) * bytes ≤ 2 ^ 48 then
            (match takeE x t sz n c base with
            | some p => some (.slice (some ⟨x.next, 0, none⟩) (n + m) (n + m), p.2.push (.cells (p.1 ++ ys) t true true))
            | none => none)
          else none
        | none => none)
      | none => none)
    | _ => none
  | .cpy sz d s => match ρ d with
    | .slice base n _ => (match srcLen (ρ s) with
      | some m => (match srcCells x.toH sz (min m n) (ρ s) with
        | some ys => (match base with
          | none => some (.int .i64 (min m n : Nat), x)
          | some ⟨i, o, none⟩ => (match wrE x i o ys with | some x' => some (.int .i64 (min m n : Nat), x') | none => none)
          | _ => none)
        | none => none)
      | none => none)
    | _ => none
  | .call g args => cl g (args.map ρ) x
  | .callv a args => match ρ a with
    | .func (.func g) first cap => cl g (first.toList ++ args.map ρ ++ cap.toList) x
    | _ => none
  | _ => none

theorem sstE_ok {clE : ClE} {cl : Cl} (hcl : ClEOK clE cl) {ρ : Operand → Value} {x : XH} {op : AOp} {v : Value} {x' : XH} (he : sstE clE ρ x op = some (v, x')) {K : Value → H → Prop} (hk : K v x'.toH) : sst cl ρ x.toH op K := by
  cases op <;> simp only [sstE, reduceCtorEq] at he <;> simp only [sst]
  case mvS a => simp only [Option.some.injEq, Prod.mk.injEq] at he; obtain ⟨rfl, rfl⟩ := he; exact hk
  case st1 a b =>
    split at he
    · rename_i i o hp
      rw [ptrOf_eq hp]
      split at he
      · rename_i h1
        split at he
        · rename_i y hy
          simp only [Option.some.injEq, Prod.mk.injEq] at he
          obtain ⟨rfl, rfl⟩ := he
          exact ⟨oneE_ok h1, _, wr1E_ok hy, hk⟩
        · cases he
      · cases he
    · cases he
  case stN n a b =>
    split at he
    · rename_i i o hp
      rw [ptrOf_eq hp]
      split at he
      · rename_i l hl
        split at he
        · rename_i h1
          split at he
          · rename_i y hy
            simp only [Option.some.injEq, Prod.mk.injEq] at he
            obtain ⟨rfl, rfl⟩ := he
            exact ⟨l, hl, h1, _, wrE_ok hy, hk⟩
          · cases he
        · cases he
      · cases he
    · cases he
  case app t sz bytes a b =>
    split at he
    · rename_i base n c hv
      rw [hv]
      split at he
      · rename_i m hm
        split at he
        · rename_i ys hys
          refine ⟨m, hm, ys, hys, ?_⟩
          split at he
          · rename_i hle
            refine ⟨fun _ => ?_, fun hlt => absurd hlt (by omega)⟩
            split at he
            · simp only [Option.some.injEq, Prod.mk.injEq] at he
              obtain ⟨rfl, rfl⟩ := he
              exact hk
            · rename_i i o
              split at he
              · rename_i y hy
                simp only [Option.some.injEq, Prod.mk.injEq] at he
                obtain ⟨rfl, rfl⟩ := he
                exact ⟨_, wrE_ok hy, hk⟩
              · cases he
            · cases he
          · rename_i hle
            refine ⟨fun h => absurd h hle, fun _ => ?_⟩
            split at he
            · rename_i hb
              split at he
              · rename_i p hp
                simp only [Option.some.injEq, Prod.mk.injEq] at he
                obtain ⟨rfl, rfl⟩ := he
                refine ⟨hb, _, takeE_ok hp, ?_⟩
                rw [XH.push_eq] at hk
                exact hk
              · cases he
            · cases he
        · cases he
      · cases he
    · cases he
  case cpy sz d s =>
    split at he
    · rename_i base n c hv
      rw [hv]
      split at he
      · rename_i m hm
        split at he
        · rename_i ys hys
          refine ⟨m, hm, ys, hys, ?_⟩
          split at he
          · simp only [Option.some.injEq, Prod.mk.injEq] at he
            obtain ⟨rfl, rfl⟩ := he
            exact hk
          · rename_i i o
            split at he
            · rename_i y hy
              simp only [Option.some.injEq, Prod.mk.injEq] at he
              obtain ⟨rfl, rfl⟩ := he
              exact ⟨_, wrE_ok hy, hk⟩
            · cases he
          · cases he
        · cases he
      · cases he
    · cases he
  case call g args => exact hcl _ _ _ _ _ he K hk
  case callv a args =>
    split at he
    · rename_i g first cap hv
      rw [hv]
      exact hcl _ _ _ _ _ he K hk
    · cases he

def stepE (cl : ClE) (s : AStep) (f : FT) (x : XH) : Option (FT × XH) :=
  match s.op.strict with
  | true => match sstE cl (ev (FT.fr f)) x s.op with
    | some (v, x') => forceV v fun v => if s.chk.all (chkE (FT.fr f) x'.toH) then some (FT.put f s.dst v, x') else none
    | none => none
  | false => match nstE (ev (FT.fr f)) x.toH s.op with
    | some (v, b) => forceV v fun v => match b with
      | none => some (FT.put f s.dst v, x)
      | some b => some (FT.put f s.dst v, x.push b)
    | none => none

theorem chkAll_intro {f : Fr} {h : H} : ∀ {l : List (Option Nat × AOp)} {Q : Prop}, l.all (chkE f h) = true → Q → chkAll f h l Q
  | [], Q, _, hq => hq
  | c :: r, Q, h, hq => by
    simp only [List.all_cons, Bool.and_eq_true] at h
    exact ⟨chkE_ok h.1, chkAll_intro h.2 hq⟩

theorem stepE_ok {clE : ClE} {cl : Cl} (hcl : ClEOK clE cl) {s : AStep} {f : FT} {x : XH} {f' : FT} {x' : XH} (he : stepE clE s f x = some (f', x')) {K : Fr → H → Prop} (hk : K (FT.fr f') x'.toH) :
    stepW cl s (FT.fr f) x.toH K := by
  unfold stepE at he
  unfold stepW
  cases hst : s.op.strict with
  | true =>
    rw [hst] at he
    simp only at he ⊢
    split at he
    · rename_i v y hv
      rw [forceV_eq] at he
      split at he
      · rename_i hc
        simp only [Option.some.injEq, Prod.mk.injEq] at he
        obtain ⟨rfl, rfl⟩ := he
        refine sstE_ok hcl hv ?_
        rw [force_eq]
        rw [FT.put_eq] at hk
        exact chkAll_intro hc hk
      · cases he
    · cases he
  | false =>
    rw [hst] at he
    simp only at he ⊢
    split at he
    · rename_i v b hv
      rw [forceV_eq] at he
      refine nstE_ok hv ?_
      rw [force_eq]
      cases b with
      | none =>
        simp only [Option.some.injEq, Prod.mk.injEq] at he
        obtain ⟨rfl, rfl⟩ := he
        rw [FT.put_eq] at hk
        exact hk
      | some b =>
        simp only [Option.some.injEq, Prod.mk.injEq] at he
        obtain ⟨rfl, rfl⟩ := he
        rw [FT.put_eq, XH.push_eq] at hk
        exact hk
    · cases he

def boolAt (f : FT) (t : Nat) : Option Bool := match FT.fr f t with
  | .bool b => some b
  | _ => none
def stepsE (cl : ClE) : List AStep → FT → XH → Option (FT × XH)
  | [], f, x => some (f, x)
  | s :: r, f, x =>
    match s.guard with
    | none => match stepE cl s f x with
      | some (f', x') => stepsE cl r f' x'
      | none => none
    | some (t, want) => match boolAt f t with
      | some b => if b == want then (match stepE cl s f x with
          | some (f', x') => stepsE cl r f' x'
          | none => none)
        else stepsE cl r (FT.put f s.dst undef) x
      | none => none

theorem stepsE_ok {clE : ClE} {cl : Cl} (hcl : ClEOK clE cl) : ∀ {l : List AStep} {f : FT} {x : XH} {f' : FT} {x' : XH}, stepsE clE l f x = some (f', x') → ∀ {K : Fr → H → Prop}, K (FT.fr f') x'.toH → steps cl l (FT.fr f) x.toH K
  | [], f, x, f', x', he, K, hk => by
    simp only [stepsE, Option.some.injEq, Prod.mk.injEq] at he
    obtain ⟨rfl, rfl⟩ := he
    exact hk
  | s :: r, f, x, f', x', he, K, hk => by
    simp only [stepsE] at he
    simp only [steps]
    cases hg : s.guard with
    | none =>
      rw [hg] at he
      simp only at he ⊢
      split at he
      · rename_i f1 x1 h1
        exact stepE_ok hcl h1 (stepsE_ok hcl he hk)
      · cases he
    | some tw =>
      obtain ⟨t, want⟩ := tw
      rw [hg] at he
      simp only at he ⊢
      split at he
      · rename_i b hb
        have hv : FT.fr f t = .bool b := by
          unfold boolAt at hb
          split at hb
          · rename_i c hc; simp only [Option.some.injEq] at hb; rw [← hb]; exact hc
          · cases hb
        rw [hv]
        simp only
        split at he
        · rename_i hbw
          have hbw' : b = want := by simpa using hbw
          subst hbw'
          split at he
          · rename_i f1 x1 h1
            have := stepE_ok hcl h1 (K := fun f' h' => steps cl r f' h' K) (stepsE_ok hcl he hk)
            cases b with
            | true => simp only [obool]; rw [put_same hv]; exact this
            | false => simp only [obool]; rw [put_same hv]; exact this
          · cases he
        · rename_i hbw
          have := stepsE_ok hcl he hk
          rw [FT.put_eq] at this
          cases b <;> cases want <;> simp only [obool] <;> first
            | exact absurd rfl hbw
            | (rw [put_same hv]; exact this)
      · cases he

def loopE (b : FT → XH → Option (Out × FT × XH)) : Nat → FT → XH → Option (Out × FT × XH)
  | 0, _, _ => none
  | n + 1, f, x => match b f x with
    | some (o, f', x') => (match o with
      | .normal => loopE b n f' x'
      | o => some (o, f', x'))
    | none => none
def wpE (cl : ClE) (fuel : Nat) : ACode → FT → XH → Option (Out × FT × XH)
  | .skip, f, x => some (.normal, f, x)
  | .reg l, f, x => match stepsE cl l f x with
    | some (f', x') => some (.normal, f', x')
    | none => none
  | .seq a b, f, x => match wpE cl fuel a f x with
    | some (o, f', x') => (match o with
      | .normal => wpE cl fuel b f' x'
      | o => some (o, f', x'))
    | none => none
  | .cond c t e, f, x => match ev (FT.fr f) c with
    | .bool b => (match b with | true => wpE cl fuel t f x | false => wpE cl fuel e f x)
    | _ => none
  | .block id c, f, x => match wpE cl fuel c f x with
    | some (o, f', x') => (match o with
      | .exit j => if j = id then some (.normal, f', x') else some (.exit j, f', x')
      | o => some (o, f', x'))
    | none => none
  | .loop c, f, x => loopE (wpE cl fuel c) fuel f x
  | .exit id, f, x => some (.exit id, f, x)
  | .ret, f, x => some (.ret, f, x)

theorem wpE_ok {clE : ClE} {cl : Cl} (hcl : ClEOK clE cl) {fuel : Nat} : ∀ {c : ACode} {f : FT} {x : XH} {o : Out} {f' : FT} {x' : XH}, wpE clE fuel c f x = some (o, f', x') → ∀ {K : Out → Fr → H → Prop}, K o (FT.fr f') x'.toH → wp cl c (FT.fr f) x.toH K
  | .skip, f, x, o, f', x', he, K, hk => by
    simp only [wpE, Option.some.injEq, Prod.mk.injEq] at he; obtain ⟨rfl, rfl, rfl⟩ := he; exact hk
  | .exit id, f, x, o, f', x', he, K, hk => by
    simp only [wpE, Option.some.injEq, Prod.mk.injEq] at he; obtain ⟨rfl, rfl, rfl⟩ := he; exact hk
  | .ret, f, x, o, f', x', he, K, hk => by
    simp only [wpE, Option.some.injEq, Prod.mk.injEq] at he; obtain ⟨rfl, rfl, rfl⟩ := he; exact hk
  | .reg l, f, x, o, f', x', he, K, hk => by
    simp only [wpE] at he
    split at he
    · rename_i f1 x1 h1
      simp only [Option.some.injEq, Prod.mk.injEq] at he; obtain ⟨rfl, rfl, rfl⟩ := he
      exact stepsE_ok hcl h1 hk
    · cases he
  | .seq a b, f, x, o, f', x', he, K, hk => by
    simp only [wpE] at he
    split at he
    · rename_i o1 f1 x1 h1
      refine wpE_ok hcl h1 ?_
      cases o1 with
      | normal => exact wpE_ok hcl he hk
      | exit j => simp only [Option.some.injEq, Prod.mk.injEq] at he; obtain ⟨rfl, rfl, rfl⟩ := he; exact hk
      | ret => simp only [Option.some.injEq, Prod.mk.injEq] at he; obtain ⟨rfl, rfl, rfl⟩ := he; exact hk
    · cases he
  | .cond c t e, f, x, o, f', x', he, K, hk => by
    simp only [wpE] at he
    simp only [wp]
    split at he
    · rename_i b hb
      rw [hb]
      cases b with
      | true => exact wpE_ok hcl he hk
      | false => exact wpE_ok hcl he hk
    · cases he
  | .block id c, f, x, o, f', x', he, K, hk => by
    simp only [wpE] at he
    split at he
    · rename_i o1 f1 x1 h1
      refine wpE_ok hcl h1 ?_
      cases o1 with
      | normal => simp only [Option.some.injEq, Prod.mk.injEq] at he; obtain ⟨rfl, rfl, rfl⟩ := he; exact hk
      | exit j =>
        simp only at he ⊢
        split at he
        · rename_i hj; rw [if_pos hj]; simp only [Option.some.injEq, Prod.mk.injEq] at he; obtain ⟨rfl, rfl, rfl⟩ := he; exact hk
        · rename_i hj; rw [if_neg hj]; simp only [Option.some.injEq, Prod.mk.injEq] at he; obtain ⟨rfl, rfl, rfl⟩ := he; exact hk
      | ret => simp only [Option.some.injEq, Prod.mk.injEq] at he; obtain ⟨rfl, rfl, rfl⟩ := he; exact hk
    · cases he
  | .loop c, f, x, o, f', x', he, K, hk => by
    simp only [wpE] at he
    refine ⟨fuel, ?_⟩
    have key : ∀ (m : Nat) (f : FT) (x : XH), loopE (wpE clE fuel c) m f x = some (o, f', x') → loopN (wp cl c) K m (FT.fr f) x.toH := by
      intro m
      induction m with
      | zero => intro f x he; cases he
      | succ m ih =>
        intro f x he
        simp only [loopE] at he
        split at he
        · rename_i o1 f1 x1 h1
          refine wpE_ok hcl h1 ?_
          cases o1 with
          | normal => exact ih _ _ he
          | exit j => simp only [Option.some.injEq, Prod.mk.injEq] at he; obtain ⟨rfl, rfl, rfl⟩ := he; exact hk
          | ret => simp only [Option.some.injEq, Prod.mk.injEq] at he; obtain ⟨rfl, rfl, rfl⟩ := he; exact hk
        · cases he
    exact key fuel f x he

def initE : Nat → List Value → FT
  | _, [] => .leaf
  | i, v :: r => FT.put (initE (i + 1) r) (some i) v
theorem initE_get : ∀ (args : List Value) (i j : Nat), (initE i args).get j = if i ≤ j then args[j - i]? else none
  | [], i, j => by simp [initE, T.get]
  | v :: r, i, j => by
    simp only [initE, FT.put]
    rw [T.get_set, initE_get r (i + 1) j]
    by_cases h1 : j = i
    · subst h1; simp
    · rw [if_neg h1]
      by_cases h2 : i ≤ j
      · rw [if_pos (by omega), if_pos h2]
        have : j - i = (j - (i + 1)) + 1 := by omega
        rw [this]; simp
      · rw [if_neg (by omega), if_neg h2]
theorem initE_fr (args : List Value) : FT.fr (initE 0 args) = initFr args := by
  funext i
  unfold FT.fr initFr
  rw [initE_get]
  simp

def acallE (C : FuncId → Option AFn) (base : ClE) (fuel : Nat) : Nat → ClE
  | 0, _, _, _ => none
  | n + 1, g, args, x =>
    match C g with
    | none => base g args x
    | some a => match wpE (acallE C base fuel n) fuel a.body (initE 0 args) x with
      | some (o, f, x') => (match o with
        | .exit _ => none
        | _ => match resAll (FT.fr f) x'.toH a.res with
          | some vs => some (resVal vs, x')
          | none => none)
      | none => none

theorem acallE_ok {C : FuncId → Option AFn} {baseE : ClE} {base : Cl} (hb : ClEOK baseE base) {fuel : Nat} : ∀ n, ClEOK (acallE C baseE fuel n) (acall C base n)
  | 0 => fun g args x v x' he => by cases he
  | n + 1 => by
    intro g args x v x' he K hk
    simp only [acallE] at he
    simp only [acall]
    cases hg : C g with
    | none => rw [hg] at he; exact hb g args x v x' he K hk
    | some a =>
      rw [hg] at he
      simp only at he ⊢
      split at he
      · rename_i o f y hw
        rw [← initE_fr]
        refine wpE_ok (acallE_ok hb n) hw ?_
        cases o with
        | exit j => cases he
        | normal =>
          simp only at he ⊢
          split at he
          · rename_i vs hvs
            simp only [Option.some.injEq, Prod.mk.injEq] at he; obtain ⟨rfl, rfl⟩ := he
            exact ⟨vs, hvs, hk⟩
          · cases he
        | ret =>
          simp only at he ⊢
          split at he
          · rename_i vs hvs
            simp only [Option.some.injEq, Prod.mk.injEq] at he; obtain ⟨rfl, rfl⟩ := he
            exact ⟨vs, hvs, hk⟩
          · cases he
      · cases he
def noBaseE : ClE := fun _ _ _ => none
theorem noBaseE_ok {cl : Cl} : ClEOK noBaseE cl := fun _ _ _ _ _ h => by cases h

/-! ### A table of functions -/
def mkT : List (Nat × AFn) → T AFn
  | [] => .leaf
  | p :: r => T.set (mkT r) p.1 (some p.2)
theorem mkT_mem : ∀ {l : List (Nat × AFn)} {g : Nat} {A : AFn}, (mkT l).get g = some A → (g, A) ∈ l
  | [], g, A, h => by cases h
  | p :: r, g, A, h => by
    simp only [mkT] at h
    rw [T.get_set] at h
    split at h
    · rename_i hg
      cases h
      rw [hg]
      simp
    · exact List.mem_cons_of_mem _ (mkT_mem h)
def tabC (l : List (Nat × AFn)) : FuncId → Option AFn := fun g => (mkT l).get g

def isTrue : Option (Value × XH) → Bool
  | some (.bool b, _) => b
  | _ => false
theorem isTrue_ok {r : Option (Value × XH)} (h : isTrue r = true) : ∃ x, r = some (.bool true, x) := by
  unfold isTrue at h
  split at h
  · subst h; exact ⟨_, rfl⟩
  · cases h

/-- A program's own function, as the plain machine has it. -/
def FnOK (P : Program) (p : Nat × AFn) : Prop := ∃ fn, P.funcs[p.1]? = some fn ∧ compFn P fn = some p.2 ∧ (fn.name == "runtime.NumGoroutine") = false
theorem tabOK {P : Program} {l : List (Nat × AFn)} (h : ∀ p ∈ l, FnOK P p) : TabOK P (tabC l) := fun g A hg => h _ (mkT_mem hg)

theorem pok (P : Program) : POk P := fun _ h => isU8_sz h

/-- A law without arguments that the plain machine runs to true. -/
theorem closed_holds {P : Program} (hP : POk P) {l : List (Nat × AFn)} (hl : ∀ p ∈ l, FnOK P p) {n g : Nat} (h : acall (tabC l) noBase n g [] ⟨0, fun _ => none⟩ (fun v _ => v = .bool true)) (w : World) :
    Calls P g #[] w fun e w' => e = .returned (.bool true) ∧ Below w.heap.size w w' := by
  refine (acall_sound (B := w.heap.size) (w0 := w) hP (tabOK hl) noBase_ok n g [] _ _ h (fun _ => none) w #[] ?_ .nil).2 _ ?_
  · exact ⟨⟨rfl, rfl, rfl, Nat.le_refl _, fun _ _ => rfl⟩, Nat.le_refl _, fun _ _ => ⟨rfl, rfl⟩, (fun i e _ _ _ _ hi => by cases hi), fun i j e _ _ _ _ _ _ _ _ hi => by cases hi⟩
  · intro v h' μ' v' w' hv hR hV _
    subst hv
    cases hV
    exact ⟨rfl, hR.below⟩

end Go.Proofs.Ythiaocjneeafiaa.Am
