/- Slices and loops of the plain machine, by hand; natural numbers by their digits. Plain lemmas. -/
import Derived.Test.YtpilfppdiifbjaaAm6
import Derived.IntWalk
set_option linter.unusedVariables false
set_option linter.unusedSimpArgs false
set_option maxRecDepth 100000
namespace Go.Proofs.Ytpilfppdiifbjaa.Am

theorem obool_intro {b : Bool} {A B : Prop} (ha : b = true → A) (hb : b = false → B) : obool b A B := by
  cases b
  · exact hb rfl
  · exact ha rfl
theorem obool_t {b : Bool} {A B : Prop} (h : b = true) (ha : A) : obool b A B := by subst h; exact ha
theorem obool_f {b : Bool} {A B : Prop} (h : b = false) (hb : B) : obool b A B := by subst h; exact hb
theorem obool_d {p : Prop} [Decidable p] {A B : Prop} (ha : p → A) (hb : ¬ p → B) : obool (decide p) A B := by
  by_cases hp : p
  · rw [decide_eq_true hp]; exact ha hp
  · rw [decide_eq_false hp]; exact hb hp
theorem ar_i64 {z : Int} {K : Value → Prop} (h : -9223372036854775808 ≤ z ∧ z ≤ 9223372036854775807) (hk : K (.int .i64 z)) : Ar .i64 z K := ⟨by rw [IntWalk.i64_in _ h]; exact hk⟩
theorem ar_u64 {z : Int} {K : Value → Prop} (h : 0 ≤ z ∧ z ≤ 18446744073709551615) (hk : K (.int .u64 z)) : Ar .u64 z K := ⟨by rw [IntWalk.u64_in _ h]; exact hk⟩
theorem ar_u32 {z : Int} {K : Value → Prop} (h : 0 ≤ z ∧ z ≤ 4294967295) (hk : K (.int .u32 z)) : Ar .u32 z K := ⟨by rw [IntWalk.u32_in _ h]; exact hk⟩
theorem ar_u8 {z : Int} {K : Value → Prop} (h : 0 ≤ z ∧ z ≤ 255) (hk : K (.int .u8 z)) : Ar .u8 z K := ⟨by rw [IntWalk.u8_in _ h]; exact hk⟩
theorem ar_u32e {z : Int} {K : Value → Prop} (d : Nat) (hz : z = (d : Int)) (h : d ≤ 4294967295) (hk : K (.int .u32 (d : Int))) : Ar .u32 z K := by subst hz; exact ar_u32 (by omega) hk
theorem ar_u64e {z : Int} {K : Value → Prop} (d : Nat) (hz : z = (d : Int)) (h : d ≤ 18446744073709551615) (hk : K (.int .u64 (d : Int))) : Ar .u64 z K := by subst hz; exact ar_u64 (by omega) hk
theorem ar_u8e {z : Int} {K : Value → Prop} (d : Nat) (hz : z = (d : Int)) (h : d ≤ 255) (hk : K (.int .u8 (d : Int))) : Ar .u8 z K := by subst hz; exact ar_u8 (by omega) hk
theorem ar_i64e {z : Int} {K : Value → Prop} (d : Nat) (hz : z = (d : Int)) (h : d ≤ 9223372036854775807) (hk : K (.int .i64 (d : Int))) : Ar .i64 z K := by subst hz; exact ar_i64 (by omega) hk
theorem ar_i64i {z : Int} {K : Value → Prop} (d : Int) (hz : z = d) (h : -9223372036854775808 ≤ d ∧ d ≤ 9223372036854775807) (hk : K (.int .i64 d)) : Ar .i64 z K := by subst hz; exact ar_i64 h hk
theorem tmod_nat (a b : Nat) : Int.tmod (a : Int) (b : Int) = ((a % b : Nat) : Int) := rfl
theorem tdiv_nat (a b : Nat) : Int.tdiv (a : Int) (b : Int) = ((a / b : Nat) : Int) := rfl
theorem ar_eq {k : IntKind} {z z' : Int} {K : Value → Prop} (h : k.wrap z = z') (hk : K (.int k z')) : Ar k z K := ⟨by rw [h]; exact hk⟩

/-- Rounds of a loop: what holds at its head, and what goes down. -/
theorem loop_rule {B : Fr → H → (Out → Fr → H → Prop) → Prop} {K : Out → Fr → H → Prop} {X : Type} (I : X → Fr → H → Prop) (μ : X → Nat)
    (step : ∀ n x f h, I x f h → (∀ x' f' h', μ x' < μ x → I x' f' h' → loopN B K n f' h') → loopN B K (n + 1) f h) :
    ∀ x f h, I x f h → ∃ m, loopN B K m f h := by
  intro x f h hi
  have key : ∀ n x f h, μ x < n → I x f h → loopN B K n f h := by
    intro n
    induction n with
    | zero => intro x f h hx; omega
    | succ n ih => intro x f h hx hi; exact step n x f h hi fun x' f' h' hx' hi' => ih x' f' h' (by omega) hi'
  exact ⟨μ x + 1, key _ x f h (by omega) hi⟩

/-- A frame in which some slots are known. -/
def upd (f : Fr) : List (Nat × Value) → Fr
  | [] => f
  | p :: r => Fr.put (upd f r) (some p.1) p.2
theorem upd_self {f : Fr} : ∀ {l : List (Nat × Value)}, (∀ p ∈ l, f p.1 = p.2) → f = upd f l
  | [], _ => rfl
  | p :: r, h => by
    have h1 := upd_self (l := r) fun q hq => h q (List.mem_cons_of_mem _ hq)
    unfold upd
    rw [← h1]
    funext i
    simp only [Fr.put]
    split
    · rename_i hi
      rw [hi]; exact h p (List.mem_cons_self ..)
    · rfl
/-- The slots of a frame hold these. -/
def holds (f : Fr) : List (Nat × Value) → Prop
  | [] => True
  | p :: r => f p.1 = p.2 ∧ holds f r
theorem upd_holds {f : Fr} : ∀ {l : List (Nat × Value)}, holds f l → f = upd f l
  | [], _ => rfl
  | p :: r, h => by
    unfold upd
    rw [← upd_holds h.2]
    funext i
    simp only [Fr.put]
    split
    · rename_i hi
      rw [hi]; exact h.1
    · rfl

/-- Rounds of a loop whose head knows some slots. -/
theorem loop_upd {B : Fr → H → (Out → Fr → H → Prop) → Prop} {K : Out → Fr → H → Prop} {X : Type} (s : X → List (Nat × Value)) (I : X → H → Prop) (μ : X → Nat)
    (step : ∀ n x f h, I x h → (∀ x' f' h', μ x' < μ x → holds f' (s x') → I x' h' → loopN B K n f' h') → B (upd f (s x)) h fun o f' h' =>
      match o with
      | .normal => loopN B K n f' h'
      | o => K o f' h') :
    ∀ x f h, holds f (s x) → I x h → ∃ m, loopN B K m f h := by
  intro x f h hs hi
  refine loop_rule (fun x f h => holds f (s x) ∧ I x h) μ ?_ x f h ⟨hs, hi⟩
  intro n x f h hI ih
  have := step n x f h hI.2 fun x' f' h' hx hs' hi' => ih x' f' h' hx ⟨hs', hi'⟩
  rw [← upd_holds hI.1] at this
  exact this

/-- A heap in which all that was there stands as it stood. -/
def Ext (h h' : H) : Prop := h.next ≤ h'.next ∧ ∀ i, i < h.next → h'.get i = h.get i
theorem Ext.refl (h : H) : Ext h h := ⟨Nat.le_refl _, fun _ _ => rfl⟩
theorem Ext.trans {h h' h'' : H} (a : Ext h h') (b : Ext h' h'') : Ext h h'' :=
  ⟨Nat.le_trans a.1 b.1, fun i hi => (b.2 i (Nat.lt_of_lt_of_le hi a.1)).trans (a.2 i hi)⟩
theorem Ext.push {h h' : H} (a : Ext h h') (b : Blk) : Ext h (h'.push b) :=
  ⟨Nat.le_succ_of_le a.1, fun i hi => by
    have : i ≠ h'.next := by have := a.1; omega
    simp only [H.push, if_neg this]; exact a.2 i hi⟩
theorem Ext.upd {h h' : H} (a : Ext h h') {j : Nat} (hj : h.next ≤ j) (b : Blk) : Ext h (h'.upd j b) :=
  ⟨a.1, fun i hi => by
    have : i ≠ j := by omega
    simp only [H.upd, if_neg this]; exact a.2 i hi⟩
theorem Ext.kill {h h' : H} (a : Ext h h') {j : Nat} (hj : h.next ≤ j) : Ext h (h'.kill j) :=
  ⟨a.1, fun i hi => by
    have : i ≠ j := by omega
    simp only [H.kill, if_neg this]; exact a.2 i hi⟩

/-- A slice of elements of one cell: its base, its length and room, its cells. -/
def Sl (h : H) (b : Option Addr) (c : Nat) (cs : List Value) : Prop :=
  (b = none ∧ c = 0 ∧ cs = []) ∨
  ∃ i o all t own opn, b = some ⟨i, o, none⟩ ∧ cs.length ≤ c ∧ i < h.next ∧ h.get i = some (.cells all t own opn) ∧ o + cs.length ≤ all.length ∧ (all.drop o).take cs.length = cs
theorem Sl.ext {h h' : H} {b : Option Addr} {c : Nat} {cs : List Value} (s : Sl h b c cs) (e : Ext h h') : Sl h' b c cs := by
  rcases s with s | ⟨i, o, all, t, own, opn, hb, hc, hi, hg, hl, ht⟩
  · exact .inl s
  · exact .inr ⟨i, o, all, t, own, opn, hb, hc, Nat.lt_of_lt_of_le hi e.1, by rw [e.2 i hi]; exact hg, hl, ht⟩
theorem Sl.nil (h : H) : Sl h none 0 [] := .inl ⟨rfl, rfl, rfl⟩
/-- An element of a slice. -/
theorem Sl.at {h : H} {b : Option Addr} {c : Nat} {cs : List Value} (s : Sl h b c cs) {k : Nat} (hk : k < cs.length) :
    ∃ i o, b = some ⟨i, o, none⟩ ∧ h.cell i (o + k) = some cs[k] := by
  rcases s with ⟨_, _, rfl⟩ | ⟨i, o, all, t, own, opn, hb, hc, hi, hg, hl, ht⟩
  · exact absurd hk (by simp)
  · refine ⟨i, o, hb, ?_⟩
    simp only [H.cell, hg]
    have : cs[k]? = all[o + k]? := by
      conv => lhs; rw [← ht]
      rw [List.getElem?_take, if_pos hk, List.getElem?_drop]
    rw [← this, List.getElem?_eq_getElem hk]

/-- A block that is a slice's own: its cells from the first on. -/
theorem H.get_push (h : H) (b : Blk) : (h.push b).get h.next = some b := by simp [H.push]
theorem H.get_push_ne (h : H) (b : Blk) {i : Nat} (hi : i ≠ h.next) : (h.push b).get i = h.get i := by simp [H.push, hi]
theorem H.get_upd (h : H) (j : Nat) (b : Blk) : (h.upd j b).get j = some b := by simp [H.upd]
theorem H.get_upd_ne (h : H) (j : Nat) (b : Blk) {i : Nat} (hi : i ≠ j) : (h.upd j b).get i = h.get i := by simp [H.upd, hi]
theorem H.get_kill_ne (h : H) (j : Nat) {i : Nat} (hi : i ≠ j) : (h.kill j).get i = h.get i := by simp [H.kill, hi]
theorem H.next_push (h : H) (b : Blk) : (h.push b).next = h.next + 1 := rfl
theorem H.next_upd (h : H) (j : Nat) (b : Blk) : (h.upd j b).next = h.next := rfl
theorem H.next_kill (h : H) (j : Nat) : (h.kill j).next = h.next := rfl

theorem H.wr1_own {h : H} {i o : Nat} {v : Value} {cs : List Value} {t : TypeId} {op : Bool} (hg : h.get i = some (.cells cs t true op)) (ho : o < cs.length) :
    h.wr1 i o v = some (h.upd i (.cells (cs.set o v) t true op)) := by simp [H.wr1, hg, ho]
theorem H.cell_own {h : H} {i o : Nat} {cs : List Value} {t : TypeId} {own op : Bool} (hg : h.get i = some (.cells cs t own op)) (ho : o < cs.length) :
    h.cell i o = some cs[o] := by simp [H.cell, hg, ho]
theorem H.rd_own {h : H} {i o n : Nat} {cs : List Value} {t : TypeId} {own op : Bool} (hg : h.get i = some (.cells cs t own op)) (ho : o + n ≤ cs.length) :
    h.rd i o n = some ((cs.drop o).take n) := by simp [H.rd, hg, ho]

/-- A whole block as a slice. -/
theorem Sl.own {h : H} {i c : Nat} {cs : List Value} {t : TypeId} {own op : Bool} (hg : h.get i = some (.cells cs t own op)) (hi : i < h.next) (hc : cs.length ≤ c) :
    Sl h (some ⟨i, 0, none⟩) c cs := .inr ⟨i, 0, cs, t, own, op, rfl, hc, hi, hg, by simp, by simp⟩
/-- A front part of a slice. -/
theorem Sl.take {h : H} {b : Option Addr} {c : Nat} {cs : List Value} (s : Sl h b c cs) (k : Nat) : Sl h b c (cs.take k) := by
  rcases s with ⟨hb, hc, rfl⟩ | ⟨i, o, all, t, own, opn, hb, hc, hi, hg, hl, ht⟩
  · exact .inl ⟨hb, hc, by simp⟩
  · refine .inr ⟨i, o, all, t, own, opn, hb, by simp; omega, hi, hg, by simp; omega, ?_⟩
    rw [List.length_take]
    conv => rhs; rw [← ht]
    rw [List.take_take]

theorem bs_all (s : ByteArray) : ∃ l, s = bs l := ⟨s.data.toList, by cases s; rfl⟩
@[simp] theorem bs_size (l : List UInt8) : (bs l).size = l.length := rfl
@[simp] theorem bs_data (l : List UInt8) : (bs l).data.toList = l := rfl
theorem bs_byteAt (l : List UInt8) (i : Nat) : byteAt (bs l) i = (l[i]?.getD 0).toNat := by
  simp [byteAt, bs]
theorem bs_byteAt_lt {l : List UInt8} {i : Nat} (h : i < l.length) : byteAt (bs l) i = l[i].toNat := by
  rw [bs_byteAt, List.getElem?_eq_getElem h]; rfl
theorem bs_toList (l : List UInt8) : (bs l).toList = l := by
  rw [ByteArray.toList_eq]; rfl
theorem bs_app (a b : List UInt8) : bs a ++ bs b = bs (a ++ b) := (bs_append (bs a) (bs b)).symm
theorem bs_inj {a b : List UInt8} : bs a = bs b ↔ a = b := ⟨fun h => by have := congrArg (fun s => s.data.toList) h; exact this, fun h => by rw [h]⟩

end Go.Proofs.Ytpilfppdiifbjaa.Am

namespace Go.Proofs.Ytpilfppdiifbjaa.Am

theorem acall_of {C : FuncId → Option AFn} {base : Cl} {n g : Nat} {args : List Value} {h : H} {K : Value → H → Prop} {A : AFn} (hg : C g = some A)
    (hw : wp (acall C base n) A.body (initFr args) h fun o f h' =>
      match o with
      | .exit _ => False
      | _ => ∃ vs, resAll f h' A.res = some vs ∧ K (resVal vs) h') : acall C base (n + 1) g args h K := by
  simp only [acall, hg]
  exact hw

def u32s (l : List Nat) : List Value := l.map fun (d : Nat) => .int .u32 (d : Int)
def i64s (l : List Nat) : List Value := l.map fun (d : Nat) => .int .i64 (d : Int)
def u8s (l : List UInt8) : List Value := l.map fun d => .int .u8 (d.toNat : Int)
def strs (l : List (List UInt8)) : List Value := l.map fun d => .string (bs d)
@[simp] theorem u32s_length (l : List Nat) : (u32s l).length = l.length := by simp [u32s]
@[simp] theorem i64s_length (l : List Nat) : (i64s l).length = l.length := by simp [i64s]
@[simp] theorem u8s_length (l : List UInt8) : (u8s l).length = l.length := by simp [u8s]
@[simp] theorem strs_length (l : List (List UInt8)) : (strs l).length = l.length := by simp [strs]
theorem u32s_get {l : List Nat} {n : Nat} (h : n < l.length) : (u32s l)[n]'(by simpa using h) = .int .u32 (l[n] : Int) := by simp [u32s]
theorem i64s_get {l : List Nat} {n : Nat} (h : n < l.length) : (i64s l)[n]'(by simpa using h) = .int .i64 (l[n] : Int) := by simp [i64s]
theorem u8s_get {l : List UInt8} {n : Nat} (h : n < l.length) : (u8s l)[n]'(by simpa using h) = .int .u8 (l[n].toNat : Int) := by simp [u8s]
theorem strs_get {l : List (List UInt8)} {n : Nat} (h : n < l.length) : (strs l)[n]'(by simpa using h) = .string (bs l[n]) := by simp [strs]
theorem u32s_set (l : List Nat) (n d : Nat) : (u32s l).set n (.int .u32 (d : Int)) = u32s (l.set n d) := by simp [u32s, List.map_set]
theorem i64s_set (l : List Nat) (n d : Nat) : (i64s l).set n (.int .i64 (d : Int)) = i64s (l.set n d) := by simp [i64s, List.map_set]
theorem u8s_set (l : List UInt8) (n : Nat) (d : UInt8) : (u8s l).set n (.int .u8 (d.toNat : Int)) = u8s (l.set n d) := by simp [u8s, List.map_set]
theorem u32s_app (a b : List Nat) : u32s a ++ u32s b = u32s (a ++ b) := by simp [u32s]
theorem i64s_app (a b : List Nat) : i64s a ++ i64s b = i64s (a ++ b) := by simp [i64s]
theorem u8s_app (a b : List UInt8) : u8s a ++ u8s b = u8s (a ++ b) := by simp [u8s]
theorem strs_app (a b : List (List UInt8)) : strs a ++ strs b = strs (a ++ b) := by simp [strs]
theorem u32s_take (l : List Nat) (n : Nat) : (u32s l).take n = u32s (l.take n) := by simp [u32s, List.map_take]
theorem i64s_take (l : List Nat) (n : Nat) : (i64s l).take n = i64s (l.take n) := by simp [i64s, List.map_take]
theorem u8s_take (l : List UInt8) (n : Nat) : (u8s l).take n = u8s (l.take n) := by simp [u8s, List.map_take]
theorem u32s_drop (l : List Nat) (n : Nat) : (u32s l).drop n = u32s (l.drop n) := by simp [u32s, List.map_drop]
theorem i64s_drop (l : List Nat) (n : Nat) : (i64s l).drop n = i64s (l.drop n) := by simp [i64s, List.map_drop]
theorem u8s_drop (l : List UInt8) (n : Nat) : (u8s l).drop n = u8s (l.drop n) := by simp [u8s, List.map_drop]
theorem bytesOf_u8s : ∀ (l : List UInt8), bytesOf (u8s l) = some l
  | [] => rfl
  | c :: l => by
    show (bytesOf (u8s l)).map (UInt8.ofNat ((c.toNat : Int)).toNat :: ·) = _
    rw [bytesOf_u8s l]
    simp

/-- All that stands in a slice, in this heap and in those that grow out of it; the place comes as the walk has it. -/
theorem Sl.all {h : H} {b : Option Addr} {c : Nat} {cs : List Value} (s : Sl h b c cs) (hk : 0 < cs.length) :
    ∃ i o, b = some ⟨i, o, none⟩ ∧ i < h.next ∧ ∀ h', Ext h h' → ∀ (z : Int) (n : Nat), z.toNat = n → ∀ hn : n < cs.length, h'.cell i (o + z.toNat * 1) = some cs[n] := by
  rcases s with ⟨_, _, rfl⟩ | ⟨i, o, all, t, own, opn, hb, hc, hi, hg, hl, ht⟩
  · exact absurd hk (by simp)
  · refine ⟨i, o, hb, hi, fun h' he z n hz hn => ?_⟩
    subst hz
    simp only [H.cell, he.2 i hi, hg, Nat.mul_one]
    have : cs[z.toNat]? = all[o + z.toNat]? := by
      conv => lhs; rw [← ht]
      rw [List.getElem?_take, if_pos hn, List.getElem?_drop]
    rw [← this, List.getElem?_eq_getElem hn]
theorem Sl.all32 {h : H} {b : Option Addr} {c : Nat} {l : List Nat} (s : Sl h b c (u32s l)) (hk : 0 < l.length) :
    ∃ i o, b = some ⟨i, o, none⟩ ∧ i < h.next ∧ ∀ h', Ext h h' → ∀ (z : Int) (n : Nat), z.toNat = n → ∀ hn : n < l.length, h'.cell i (o + z.toNat * 1) = some (.int .u32 (l[n] : Int)) := by
  obtain ⟨i, o, hb, hi, ha⟩ := s.all (by simpa using hk)
  exact ⟨i, o, hb, hi, fun h' he z n hz hn => by rw [ha h' he z n hz (by simpa using hn), u32s_get hn]⟩
theorem Sl.all64 {h : H} {b : Option Addr} {c : Nat} {l : List Nat} (s : Sl h b c (i64s l)) (hk : 0 < l.length) :
    ∃ i o, b = some ⟨i, o, none⟩ ∧ i < h.next ∧ ∀ h', Ext h h' → ∀ (z : Int) (n : Nat), z.toNat = n → ∀ hn : n < l.length, h'.cell i (o + z.toNat * 1) = some (.int .i64 (l[n] : Int)) := by
  obtain ⟨i, o, hb, hi, ha⟩ := s.all (by simpa using hk)
  exact ⟨i, o, hb, hi, fun h' he z n hz hn => by rw [ha h' he z n hz (by simpa using hn), i64s_get hn]⟩
theorem Sl.all8 {h : H} {b : Option Addr} {c : Nat} {l : List UInt8} (s : Sl h b c (u8s l)) (hk : 0 < l.length) :
    ∃ i o, b = some ⟨i, o, none⟩ ∧ i < h.next ∧ ∀ h', Ext h h' → ∀ (z : Int) (n : Nat), z.toNat = n → ∀ hn : n < l.length, h'.cell i (o + z.toNat * 1) = some (.int .u8 (l[n].toNat : Int)) := by
  obtain ⟨i, o, hb, hi, ha⟩ := s.all (by simpa using hk)
  exact ⟨i, o, hb, hi, fun h' he z n hz hn => by rw [ha h' he z n hz (by simpa using hn), u8s_get hn]⟩
theorem Sl.allS {h : H} {b : Option Addr} {c : Nat} {l : List (List UInt8)} (s : Sl h b c (strs l)) (hk : 0 < l.length) :
    ∃ i o, b = some ⟨i, o, none⟩ ∧ i < h.next ∧ ∀ h', Ext h h' → ∀ (z : Int) (n : Nat), z.toNat = n → ∀ hn : n < l.length, h'.cell i (o + z.toNat * 1) = some (.string (bs l[n])) := by
  obtain ⟨i, o, hb, hi, ha⟩ := s.all (by simpa using hk)
  exact ⟨i, o, hb, hi, fun h' he z n hz hn => by rw [ha h' he z n hz (by simpa using hn), strs_get hn]⟩

theorem Sl.cap {h : H} {b : Option Addr} {c : Nat} {cs : List Value} (s : Sl h b c cs) : cs.length ≤ c := by
  rcases s with ⟨_, _, rfl⟩ | ⟨i, o, all, t, own, opn, hb, hc, _⟩
  · simp
  · exact hc
/-- What an append or a copy takes of a slice. -/
theorem Sl.src {h h' : H} {b : Option Addr} {c : Nat} {cs : List Value} (s : Sl h b c cs) (e : Ext h h') {m n : Nat} (hn : n ≤ cs.length) : srcCells h' 1 n (.slice b m c) = some (cs.take n) := by
  rcases s with ⟨rfl, _, rfl⟩ | ⟨i, o, all, t, own, opn, rfl, hc, hi, hg, hl, ht⟩
  · simp [srcCells]
  · simp only [srcCells, H.rd, e.2 i hi, hg, Nat.mul_one]
    rw [if_pos (by omega)]
    conv => rhs; rw [← ht]
    rw [List.take_take, Nat.min_eq_left hn]

/-- A block of one's own. -/
def Own (h : H) (j : Nat) (cs : List Value) (t : TypeId) (op : Bool) : Prop := j < h.next ∧ h.get j = some (.cells cs t true op)
theorem Own.push {h : H} (cs : List Value) (t : TypeId) (op : Bool) : Own (h.push (.cells cs t true op)) h.next cs t op := ⟨by simp [H.push], H.get_push _ _⟩
theorem Own.ext {h h' : H} {j : Nat} {cs : List Value} {t : TypeId} {op : Bool} (o : Own h j cs t op) (e : Ext h h') : Own h' j cs t op := ⟨Nat.lt_of_lt_of_le o.1 e.1, by rw [e.2 j o.1]; exact o.2⟩
theorem Own.lt {h : H} {j : Nat} {cs : List Value} {t : TypeId} {op : Bool} (o : Own h j cs t op) : j < h.next := o.1
theorem Own.sl {h : H} {j c : Nat} {cs : List Value} {t : TypeId} {op : Bool} (o : Own h j cs t op) (hc : cs.length ≤ c) : Sl h (some ⟨j, 0, none⟩) c cs := Sl.own o.2 o.1 hc
theorem Own.cell {h : H} {j : Nat} {cs : List Value} {t : TypeId} {op : Bool} (o : Own h j cs t op) (z : Int) (n : Nat) (hz : z.toNat = n) (hn : n < cs.length) : h.cell j (0 + z.toNat * 1) = some cs[n] := by
  subst hz
  rw [Nat.mul_one, Nat.zero_add]
  exact H.cell_own o.2 hn
theorem Own.cell32 {h : H} {j : Nat} {l : List Nat} {t : TypeId} {op : Bool} (o : Own h j (u32s l) t op) (z : Int) (n : Nat) (hz : z.toNat = n) (hn : n < l.length) : h.cell j (0 + z.toNat * 1) = some (.int .u32 (l[n] : Int)) := by
  rw [o.cell z n hz (by simpa using hn), u32s_get hn]
theorem Own.cell64 {h : H} {j : Nat} {l : List Nat} {t : TypeId} {op : Bool} (o : Own h j (i64s l) t op) (z : Int) (n : Nat) (hz : z.toNat = n) (hn : n < l.length) : h.cell j (0 + z.toNat * 1) = some (.int .i64 (l[n] : Int)) := by
  rw [o.cell z n hz (by simpa using hn), i64s_get hn]
theorem Own.cell8 {h : H} {j : Nat} {l : List UInt8} {t : TypeId} {op : Bool} (o : Own h j (u8s l) t op) (z : Int) (n : Nat) (hz : z.toNat = n) (hn : n < l.length) : h.cell j (0 + z.toNat * 1) = some (.int .u8 (l[n].toNat : Int)) := by
  rw [o.cell z n hz (by simpa using hn), u8s_get hn]
theorem Own.wr1 {h : H} {j : Nat} {cs : List Value} {t : TypeId} {op : Bool} (o : Own h j cs t op) (z : Int) (n : Nat) (v : Value) (hz : z.toNat = n) (hn : n < cs.length) :
    h.wr1 j (0 + z.toNat * 1) v = some (h.upd j (.cells (cs.set n v) t true op)) := by
  subst hz
  rw [Nat.mul_one, Nat.zero_add]
  exact H.wr1_own o.2 hn
theorem Own.upd {h : H} {j : Nat} {cs : List Value} {t : TypeId} {op : Bool} (o : Own h j cs t op) (cs' : List Value) : Own (h.upd j (.cells cs' t true op)) j cs' t op := ⟨o.1, H.get_upd _ _ _⟩
/-- A cell of one's own is written: the heap, and what stands there then. -/
theorem Own.set32 {h : H} {j : Nat} {l : List Nat} {t : TypeId} {op : Bool} (o : Own h j (u32s l) t op) (z : Int) (n : Nat) (y : Int) (d : Nat) (hz : z.toNat = n) (hn : n < l.length) (hy : y = (d : Int)) :
    ∃ h', h.wr1 j (0 + z.toNat * 1) (.int .u32 y) = some h' ∧ Own h' j (u32s (l.set n d)) t op ∧ (∀ h0, Ext h0 h → h0.next ≤ j → Ext h0 h') ∧ h'.next = h.next ∧ ∀ i, i ≠ j → h'.get i = h.get i := by
  subst hy
  refine ⟨_, o.wr1 z n _ hz (by simpa using hn), ?_, fun h0 e hj => e.upd hj _, rfl, fun i hi => H.get_upd_ne _ _ _ hi⟩
  rw [u32s_set]; exact o.upd _
theorem Own.set64 {h : H} {j : Nat} {l : List Nat} {t : TypeId} {op : Bool} (o : Own h j (i64s l) t op) (z : Int) (n : Nat) (y : Int) (d : Nat) (hz : z.toNat = n) (hn : n < l.length) (hy : y = (d : Int)) :
    ∃ h', h.wr1 j (0 + z.toNat * 1) (.int .i64 y) = some h' ∧ Own h' j (i64s (l.set n d)) t op ∧ (∀ h0, Ext h0 h → h0.next ≤ j → Ext h0 h') ∧ h'.next = h.next ∧ ∀ i, i ≠ j → h'.get i = h.get i := by
  subst hy
  refine ⟨_, o.wr1 z n _ hz (by simpa using hn), ?_, fun h0 e hj => e.upd hj _, rfl, fun i hi => H.get_upd_ne _ _ _ hi⟩
  rw [i64s_set]; exact o.upd _
theorem Own.set8 {h : H} {j : Nat} {l : List UInt8} {t : TypeId} {op : Bool} (o : Own h j (u8s l) t op) (z : Int) (n : Nat) (y : Int) (d : UInt8) (hz : z.toNat = n) (hn : n < l.length) (hy : y = (d.toNat : Int)) :
    ∃ h', h.wr1 j (0 + z.toNat * 1) (.int .u8 y) = some h' ∧ Own h' j (u8s (l.set n d)) t op ∧ (∀ h0, Ext h0 h → h0.next ≤ j → Ext h0 h') ∧ h'.next = h.next ∧ ∀ i, i ≠ j → h'.get i = h.get i := by
  subst hy
  refine ⟨_, o.wr1 z n _ hz (by simpa using hn), ?_, fun h0 e hj => e.upd hj _, rfl, fun i hi => H.get_upd_ne _ _ _ hi⟩
  rw [u8s_set]; exact o.upd _

/-- A list that grows by append: nil, or a block of one's own that is whole. -/
def Grow (t : TypeId) (h0 h : H) (b : Option Addr) (c : Nat) (cs : List Value) : Prop :=
  Ext h0 h ∧ ((b = none ∧ c = 0 ∧ cs = []) ∨ ∃ j, b = some ⟨j, 0, none⟩ ∧ c = cs.length ∧ h0.next ≤ j ∧ Own h j cs t true)
theorem Grow.nil (t : TypeId) {h0 h : H} (e : Ext h0 h) : Grow t h0 h none 0 [] := ⟨e, .inl ⟨rfl, rfl, rfl⟩⟩
theorem Grow.e {t : TypeId} {h0 h : H} {b : Option Addr} {c : Nat} {cs : List Value} (g : Grow t h0 h b c cs) : Ext h0 h := g.1
theorem Grow.cap {t : TypeId} {h0 h : H} {b : Option Addr} {c : Nat} {cs : List Value} (g : Grow t h0 h b c cs) : c = cs.length := by
  rcases g.2 with ⟨_, rfl, rfl⟩ | ⟨j, _, hc, _⟩
  · rfl
  · exact hc
theorem Grow.sl {t : TypeId} {h0 h : H} {b : Option Addr} {c : Nat} {cs : List Value} (g : Grow t h0 h b c cs) : Sl h b c cs := by
  rcases g.2 with ⟨rfl, rfl, rfl⟩ | ⟨j, rfl, rfl, hj, o⟩
  · exact Sl.nil h
  · exact o.sl (Nat.le_refl _)
theorem Grow.ext {t : TypeId} {h0 h h' : H} {b : Option Addr} {c : Nat} {cs : List Value} (g : Grow t h0 h b c cs) (e : Ext h h') : Grow t h0 h' b c cs :=
  ⟨g.1.trans e, by
    rcases g.2 with x | ⟨j, hb, hc, hj, o⟩
    · exact .inl x
    · exact .inr ⟨j, hb, hc, hj, o.ext e⟩⟩
/-- What an append takes, and what stands then. -/
theorem Grow.row {t : TypeId} {h0 h : H} {b : Option Addr} {c m : Nat} {cs : List Value} (g : Grow t h0 h b c cs) (hm : m = cs.length) :
    ∃ p, takeRow h t 1 m c b = some p ∧ p.1 = cs ∧ p.2.next = h.next ∧ (∀ i, h0.next ≤ i → some (⟨i, 0, none⟩ : Addr) ≠ b → p.2.get i = h.get i) ∧
      ∀ ys, ∀ k, k = cs.length + ys.length → Grow t h0 (p.2.push (.cells (p.1 ++ ys) t true true)) (some ⟨h.next, 0, none⟩) k (cs ++ ys) := by
  subst hm
  rcases g.2 with ⟨rfl, rfl, rfl⟩ | ⟨j, rfl, rfl, hj, o⟩
  · refine ⟨([], h), rfl, rfl, rfl, fun i _ _ => rfl, fun ys k hk => ⟨g.1.push _, .inr ⟨h.next, rfl, by simpa using hk, g.1.1, ?_⟩⟩⟩
    exact Own.push _ _ _
  · refine ⟨(cs, h.kill j), ?_, rfl, rfl, fun i _ hi => H.get_kill_ne _ _ (by rintro rfl; exact hi rfl), fun ys k hk => ⟨(g.1.kill hj).push _, .inr ⟨h.next, rfl, by simpa using hk, g.1.1, ?_⟩⟩⟩
    · simp only [takeRow, o.2]
      simp
    · exact ⟨by simp [H.push, H.kill], by simp [H.push, H.kill]⟩
theorem src_lit (h : H) (v : Value) (t : TypeId) : srcCells (h.push (.cells [v] t true false)) 1 1 (.slice (some ⟨h.next, 0, none⟩) 1 1) = some [v] := by
  simp [srcCells, H.rd, H.push]
/-- One element is put behind: a block of one element is made, and taken. -/
theorem Grow.one {t : TypeId} {h0 h : H} {b : Option Addr} {c m : Nat} {cs : List Value} (g : Grow t h0 h b c cs) (hm : m = cs.length) (v : Value) :
    ∃ p, takeRow (h.push (.cells [v] t true false)) t 1 m c b = some p ∧ p.1 = cs ∧ Grow t h0 (p.2.push (.cells (p.1 ++ [v]) t true true)) (some ⟨h.next + 1, 0, none⟩) (m + 1) (cs ++ [v]) := by
  obtain ⟨p, hp, h1, hn, _, hg⟩ := (g.ext ((Ext.refl _).push (.cells [v] t true false))).row hm
  exact ⟨p, hp, h1, hg [v] _ (by simp [hm])⟩
theorem flat_u8 (n : Nat) : (List.replicate n [Value.int .u8 0]).flatten = u8s (List.replicate n 0) := by
  induction n with
  | zero => rfl
  | succ n ih => rw [List.replicate_succ, List.flatten_cons, ih, List.replicate_succ]; rfl
theorem flat_u32 (n : Nat) : (List.replicate n [Value.int .u32 0]).flatten = u32s (List.replicate n 0) := by
  induction n with
  | zero => rfl
  | succ n ih => rw [List.replicate_succ, List.flatten_cons, ih, List.replicate_succ]; rfl
theorem flat_i64 (n : Nat) : (List.replicate n [Value.int .i64 0]).flatten = i64s (List.replicate n 0) := by
  induction n with
  | zero => rfl
  | succ n ih => rw [List.replicate_succ, List.flatten_cons, ih, List.replicate_succ]; rfl
theorem Own.rd {h : H} {j : Nat} {cs : List Value} {t : TypeId} {op : Bool} (o : Own h j cs t op) (k n : Nat) (hk : k + n ≤ cs.length) : h.rd j k n = some ((cs.drop k).take n) := H.rd_own o.2 hk
/-- All of a block of one's own is written over. -/
theorem Own.wr0 {h : H} {j : Nat} {cs : List Value} {t : TypeId} {op : Bool} (o : Own h j cs t op) (vs : List Value) (hl : vs.length = cs.length) :
    ∃ h', h.wr j 0 vs = some h' ∧ Own h' j vs t op ∧ (∀ h0, Ext h0 h → h0.next ≤ j → Ext h0 h') ∧ h'.next = h.next ∧ ∀ i, i ≠ j → h'.get i = h.get i := by
  refine ⟨h.upd j (.cells vs t true op), ?_, o.upd vs, fun h0 e hj => e.upd hj _, rfl, fun i hi => H.get_upd_ne _ _ _ hi⟩
  simp only [H.wr, o.2]
  rw [if_pos (by omega)]
  have : splice cs 0 vs = vs := by
    unfold splice
    rw [List.take_zero, List.nil_append, List.drop_eq_nil_of_le (by omega), List.append_nil]
  rw [this]
theorem Ext.other {h0 h h' : H} {j : Nat} (e : Ext h0 h) (hj : h0.next ≤ j) (hn : h'.next = h.next) (hg : ∀ k, k ≠ j → h'.get k = h.get k) : Ext h0 h' :=
  ⟨by rw [hn]; exact e.1, fun i hi => by rw [hg i (by omega)]; exact e.2 i hi⟩
/-- A slice stays where a block that is not its own is written. -/
theorem Sl.upd {h h' : H} {j : Nat} {b : Option Addr} {c : Nat} {cs : List Value} (s : Sl h b c cs) (hn : h'.next = h.next) (hg : ∀ k, k ≠ j → h'.get k = h.get k) (hb : ∀ i o, b = some ⟨i, o, none⟩ → i ≠ j) : Sl h' b c cs := by
  rcases s with s | ⟨i, o, all, t, own, opn, hbb, hc, hi, hgg, hl, ht⟩
  · exact .inl s
  · exact .inr ⟨i, o, all, t, own, opn, hbb, hc, by rw [hn]; exact hi, by rw [hg i (hb i o hbb)]; exact hgg, hl, ht⟩
theorem Own.wr_nil {h : H} {j : Nat} {cs : List Value} {t : TypeId} {op : Bool} (o : Own h j cs t op) (k : Nat) (hk : k ≤ cs.length) :
    ∃ h', h.wr j k [] = some h' ∧ Own h' j cs t op ∧ (∀ h0, Ext h0 h → h0.next ≤ j → Ext h0 h') ∧ h'.next = h.next ∧ ∀ i, i ≠ j → h'.get i = h.get i := by
  refine ⟨h.upd j (.cells cs t true op), ?_, o.upd cs, fun h0 e hj => e.upd hj _, rfl, fun i hi => H.get_upd_ne _ _ _ hi⟩
  simp only [H.wr, o.2]
  rw [if_pos (by simpa using hk)]
  have : splice cs k [] = cs := by simp [splice]
  rw [this]
theorem Own.take_closed {h : H} {j : Nat} {cs : List Value} {t : TypeId} (o : Own h j cs t false) (n c : Nat) (hn : n = cs.length) : takeRow h t 1 n c (some ⟨j, 0, none⟩) = some (cs, h) := by
  subst hn
  simp [takeRow, o.2]
/-- A part of a block of one's own is written over. -/
theorem Own.wrm {h : H} {j : Nat} {cs : List Value} {t : TypeId} {op : Bool} (o : Own h j cs t op) (k : Nat) (vs : List Value) (hl : k + vs.length ≤ cs.length) :
    ∃ h', h.wr j k vs = some h' ∧ Own h' j (cs.take k ++ vs ++ cs.drop (k + vs.length)) t op ∧ (∀ h0, Ext h0 h → h0.next ≤ j → Ext h0 h') ∧ h'.next = h.next ∧ ∀ i, i ≠ j → h'.get i = h.get i := by
  refine ⟨h.upd j (.cells (splice cs k vs) t true op), ?_, o.upd _, fun h0 e hj => e.upd hj _, rfl, fun i hi => H.get_upd_ne _ _ _ hi⟩
  simp only [H.wr, o.2]
  rw [if_pos hl]
theorem Own.tag {h : H} {j : Nat} {cs : List Value} {t : TypeId} {op : Bool} (o : Own h j cs t op) : tagAt h j t := ⟨cs, t, true, op, o.2, fun _ => rfl⟩
/-- A block of one's own stays where another one is written. -/
theorem Own.other {h h' : H} {j i : Nat} {cs : List Value} {t : TypeId} {op : Bool} (o : Own h j cs t op) (hn : h'.next = h.next) (hg : ∀ k, k ≠ i → h'.get k = h.get k) (hij : j ≠ i) : Own h' j cs t op :=
  ⟨by rw [hn]; exact o.1, by rw [hg j hij]; exact o.2⟩
theorem Own.src {h : H} {j : Nat} {cs : List Value} {t : TypeId} {op : Bool} (o : Own h j cs t op) (z : Int) (k m c n n' : Nat) (hz : z.toNat = k) (hk : k + n ≤ cs.length) (hn : n' = n) :
    srcCells h 1 n' (.slice (some ⟨j, 0 + z.toNat * 1, none⟩) m c) = some ((cs.drop k).take n) := by
  subst hz hn
  simp only [srcCells]
  rw [Nat.zero_add, Nat.mul_one, Nat.mul_one]
  exact o.rd _ _ hk
end Go.Proofs.Ytpilfppdiifbjaa.Am

namespace Go.Proofs.Ytpilfppdiifbjaa.Am
open Go.RowKit

theorem flat_holds {P : Program} {l : List (Nat × AFn)} (hl : ∀ p ∈ l, FnOK P p) {n g : Nat} {args : List Value} (hv : VRL (fun _ => none) args args)
    (h : acall (tabC l) noBase n g args ⟨0, fun _ => none⟩ (fun v _ => v = .bool true)) (w : World) :
    Calls P g args.toArray w fun e w' => e = .returned (.bool true) ∧ Below w.heap.size w w' := by
  refine (acall_sound (B := w.heap.size) (w0 := w) (pok P) (tabOK hl) noBase_ok n g args _ _ h (fun _ => none) w args.toArray ?_ (by simpa using hv)).2 _ ?_
  · exact ⟨⟨rfl, rfl, rfl, Nat.le_refl _, fun _ _ => rfl⟩, Nat.le_refl _, fun _ _ => ⟨rfl, rfl⟩, (fun i e _ _ _ _ hi => by cases hi), fun i j e _ _ _ _ _ _ _ _ hi => by cases hi⟩
  · intro v h' μ' v' w' hv hR hV _
    subst hv
    cases hV
    exact ⟨rfl, hR.below⟩
theorem u64_of_wf {n : Int} (h : (Lit.int .u64 n).wf = true) : ∃ x : Nat, n = (x : Int) ∧ x < 18446744073709551616 := by
  simp only [Lit.wf, IntKind.wrap, IntKind.bits, IntKind.signed, IntKind.min, IntKind.max] at h
  simp at h
  exact ⟨n.toNat, by omega, by omega⟩
end Go.Proofs.Ytpilfppdiifbjaa.Am

namespace Go.Proofs.Ytpilfppdiifbjaa.Nt

def ofD (B : Nat) : List Nat → Nat
  | [] => 0
  | d :: r => d + B * ofD B r

def digs (B n : Nat) : List Nat :=
  if _h : 2 ≤ B ∧ 0 < n then n % B :: digs B (n / B) else []
termination_by n
decreasing_by exact Nat.div_lt_self _h.2 _h.1

theorem digs_zero (B : Nat) : digs B 0 = [] := by rw [digs]; simp
theorem digs_pos {B n : Nat} (hB : 2 ≤ B) (hn : 0 < n) : digs B n = n % B :: digs B (n / B) := by
  rw [digs, dif_pos ⟨hB, hn⟩]
theorem ofD_digs {B : Nat} (hB : 2 ≤ B) (n : Nat) : ofD B (digs B n) = n := by
  induction n using Nat.strongRecOn with
  | ind n ih =>
    by_cases hn : 0 < n
    · rw [digs_pos hB hn, ofD, ih _ (Nat.div_lt_self hn hB)]
      exact Nat.mod_add_div n B
    · have : n = 0 := by omega
      subst this; rw [digs_zero]; rfl
theorem digs_lt {B : Nat} (hB : 2 ≤ B) (n : Nat) : ∀ d ∈ digs B n, d < B := by
  induction n using Nat.strongRecOn with
  | ind n ih =>
    by_cases hn : 0 < n
    · rw [digs_pos hB hn]
      intro d hd
      rcases List.mem_cons.1 hd with rfl | hd
      · exact Nat.mod_lt _ (by omega)
      · exact ih _ (Nat.div_lt_self hn hB) d hd
    · have : n = 0 := by omega
      subst this; rw [digs_zero]; intro d hd; cases hd
theorem ofD_pos {B : Nat} (hB : 2 ≤ B) : ∀ {l : List Nat}, (∀ h : l ≠ [], l.getLast h ≠ 0) → l ≠ [] → 0 < ofD B l
  | [], _, h => absurd rfl h
  | [d], hl, _ => by
    have : d ≠ 0 := hl (by simp)
    simp only [ofD]; omega
  | d :: e :: r, hl, _ => by
    have : 0 < ofD B (e :: r) := ofD_pos hB (fun h => by have := hl (by simp); rwa [List.getLast_cons h] at this) (by simp)
    rw [ofD]
    have := Nat.mul_le_mul hB this
    omega
theorem digs_ofD {B : Nat} (hB : 2 ≤ B) : ∀ {l : List Nat}, (∀ d ∈ l, d < B) → (∀ h : l ≠ [], l.getLast h ≠ 0) → digs B (ofD B l) = l
  | [], _, _ => digs_zero B
  | d :: r, hd, hl => by
    have hdB : d < B := hd d (List.mem_cons_self ..)
    have hpos : 0 < ofD B (d :: r) := ofD_pos hB hl (by simp)
    rw [digs_pos hB hpos]
    have h1 : ofD B (d :: r) % B = d := by rw [ofD, Nat.add_mul_mod_self_left, Nat.mod_eq_of_lt hdB]
    have h2 : ofD B (d :: r) / B = ofD B r := by rw [ofD, Nat.add_mul_div_left _ _ (by omega), Nat.div_eq_of_lt hdB, Nat.zero_add]
    rw [h1, h2, digs_ofD hB (fun e he => hd e (List.mem_cons_of_mem _ he)) (fun h => by have := hl (by simp); rwa [List.getLast_cons h] at this)]
theorem ofD_append (B : Nat) : ∀ (a b : List Nat), ofD B (a ++ b) = ofD B a + B ^ a.length * ofD B b
  | [], b => by simp [ofD]
  | d :: r, b => by
    simp only [List.cons_append, ofD, ofD_append B r b, List.length_cons, Nat.pow_succ, Nat.mul_add]
    rw [show B ^ r.length * B * ofD B b = B * (B ^ r.length * ofD B b) from by rw [Nat.mul_comm (B ^ r.length) B, Nat.mul_assoc]]
    omega
theorem ofD_zeros (B : Nat) : ∀ (l : List Nat), (∀ d ∈ l, d = 0) → ofD B l = 0
  | [], _ => rfl
  | d :: r, h => by
    rw [ofD, h d (List.mem_cons_self ..), ofD_zeros B r fun e he => h e (List.mem_cons_of_mem _ he)]; simp
theorem ofD_lt {B : Nat} : ∀ {l : List Nat}, (∀ d ∈ l, d < B) → ofD B l < B ^ l.length
  | [], _ => by simp [ofD]
  | d :: r, h => by
    have h1 : d < B := h d (List.mem_cons_self ..)
    have h2 : ofD B r < B ^ r.length := ofD_lt fun e he => h e (List.mem_cons_of_mem _ he)
    rw [ofD, List.length_cons, Nat.pow_succ, Nat.mul_comm (B ^ r.length) B]
    have := Nat.mul_le_mul_left B (show ofD B r + 1 ≤ B ^ r.length from h2)
    rw [Nat.mul_add, Nat.mul_one] at this
    omega
theorem ofD_drop (B : Nat) (l : List Nat) (i : Nat) : ofD B (l.drop i) = l[i]?.getD 0 + B * ofD B (l.drop (i + 1)) := by
  by_cases h : i < l.length
  · rw [List.drop_eq_getElem_cons h, ofD, List.getElem?_eq_getElem h]; rfl
  · rw [List.drop_eq_nil_of_le (by omega), List.drop_eq_nil_of_le (by omega), List.getElem?_eq_none (by omega)]; rfl
theorem ofD_snoc (B : Nat) (l : List Nat) (d : Nat) : ofD B (l ++ [d]) = ofD B l + B ^ l.length * d := by rw [ofD_append]; simp [ofD]
/-- One place of a sum: what is written, and what goes on. -/
theorem carry_step (P B s R : Nat) : P * (s % B) + P * B * (s / B + R) = P * (s + B * R) := by
  have := Nat.mod_add_div s B
  calc P * (s % B) + P * B * (s / B + R) = P * (s % B + B * (s / B + R)) := by rw [Nat.mul_assoc, ← Nat.mul_add]
    _ = P * (s % B + B * (s / B) + B * R) := by rw [Nat.mul_add B, Nat.add_assoc]
    _ = P * (s + B * R) := by rw [this]
theorem ofD_take_succ (B : Nat) (l : List Nat) (i : Nat) : ofD B (l.take (i + 1)) = ofD B (l.take i) + B ^ i * l[i]?.getD 0 := by
  by_cases h : i < l.length
  · rw [List.take_succ_eq_append_getElem h, ofD_snoc, List.length_take, Nat.min_eq_left (by omega), List.getElem?_eq_getElem h]; rfl
  · rw [List.take_of_length_le (by omega), List.take_of_length_le (by omega), List.getElem?_eq_none (by omega)]; simp
theorem ofD_set (B : Nat) : ∀ (l : List Nat) (p d : Nat) (h : p < l.length), ofD B (l.set p d) + B ^ p * l[p] = ofD B l + B ^ p * d
  | e :: r, 0, d, _ => by simp only [List.set_cons_zero, ofD, List.getElem_cons_zero, Nat.pow_zero]; omega
  | e :: r, p + 1, d, h => by
    have := ofD_set B r p d (by simpa using h)
    simp only [List.set_cons_succ, ofD, List.getElem_cons_succ, Nat.pow_succ]
    rw [Nat.mul_comm (B ^ p) B, Nat.mul_assoc, Nat.mul_assoc, Nat.add_assoc, ← Nat.mul_add, this, Nat.mul_add]; omega
theorem digs_get {B : Nat} (hB : 2 ≤ B) : ∀ (i n : Nat) (h : i < (digs B n).length), (digs B n)[i] = n / B ^ i % B := by
  intro i
  induction i with
  | zero =>
    intro n h
    have hn : 0 < n := by
      rcases Nat.eq_zero_or_pos n with rfl | h'
      · rw [digs_zero] at h; simp at h
      · exact h'
    simp only [digs_pos hB hn, List.getElem_cons_zero, Nat.pow_zero, Nat.div_one]
  | succ i ih =>
    intro n h
    have hn : 0 < n := by
      rcases Nat.eq_zero_or_pos n with rfl | h'
      · rw [digs_zero] at h; simp at h
      · exact h'
    simp only [digs_pos hB hn, List.getElem_cons_succ]
    rw [ih _ (by rw [digs_pos hB hn] at h; simpa using h), Nat.div_div_eq_div_mul, Nat.pow_succ, Nat.mul_comm]
theorem mul_step {B i k S xi yk yt cy t2 O O' oik : Nat} (hset : O' + B ^ (i + k) * oik = O + B ^ (i + k) * (t2 % B)) (ht : t2 = cy + (oik + xi * yk)) (hinv : O + B ^ (i + k) * cy = S + B ^ i * (xi * yt)) :
    O' + B ^ (i + (k + 1)) * (t2 / B) = S + B ^ i * (xi * (yt + B ^ k * yk)) := by
  have e := carry_step (B ^ (i + k)) B t2 0
  have e1 : B ^ i * (xi * (yt + B ^ k * yk)) = B ^ i * (xi * yt) + B ^ (i + k) * (xi * yk) := by
    rw [Nat.mul_add, Nat.mul_add, Nat.pow_add, Nat.mul_assoc (B ^ i) (B ^ k), Nat.mul_left_comm xi]
  have e2 : B ^ (i + k) * t2 = B ^ (i + k) * cy + (B ^ (i + k) * oik + B ^ (i + k) * (xi * yk)) := by rw [ht, Nat.mul_add, Nat.mul_add]
  rw [e1, ← Nat.add_assoc i, Nat.pow_succ]
  rw [Nat.add_zero, Nat.mul_zero, Nat.add_zero] at e
  omega
theorem mul_end {B i lb xi y xt cy O O' : Nat} (hset : O' + B ^ (i + lb) * 0 = O + B ^ (i + lb) * cy) (hinv : O + B ^ (i + lb) * cy = xt * y + B ^ i * (xi * y)) : O' = (xt + B ^ i * xi) * y := by
  rw [Nat.add_mul, Nat.mul_assoc]; omega
/-- A front part behind which nothing but noughts stands, and whose last is none. -/
theorem digs_take {B : Nat} (hB : 2 ≤ B) {l : List Nat} (hl : ∀ d ∈ l, d < B) {k : Nat} (hk : k ≤ l.length) (hz : ∀ i (h : i < l.length), k ≤ i → l[i] = 0) (hn : ∀ h : k - 1 < l.length, 0 < k → l[k - 1] ≠ 0) :
    digs B (ofD B l) = l.take k := by
  have h0 : ofD B l = ofD B (l.take k) := by
    conv => lhs; rw [← List.take_append_drop k l]
    rw [ofD_append, ofD_zeros B (l.drop k), Nat.mul_zero, Nat.add_zero]
    intro d hd
    obtain ⟨i, hi, rfl⟩ := List.mem_iff_getElem.1 hd
    rw [List.getElem_drop]
    rw [List.length_drop] at hi
    exact hz _ _ (by omega)
  rw [h0]
  refine digs_ofD hB (fun d hd => hl d (List.mem_of_mem_take hd)) fun h => ?_
  have hk0 : 0 < k := by
    rcases Nat.eq_zero_or_pos k with rfl | h'
    · simp at h
    · exact h'
  have hlen : (l.take k).length = k := by rw [List.length_take]; omega
  rw [List.getLast_eq_getElem]
  simp only [hlen]
  rw [List.getElem_take]
  exact hn (by omega) hk0
theorem digs_len_le {B : Nat} (hB : 2 ≤ B) : ∀ (k n : Nat), n < B ^ k → (digs B n).length ≤ k
  | 0, n, h => by
    have : n = 0 := by simpa using h
    subst this; rw [digs_zero]; simp
  | k + 1, n, h => by
    by_cases hn : 0 < n
    · rw [digs_pos hB hn, List.length_cons]
      have : n / B < B ^ k := by rw [Nat.div_lt_iff_lt_mul (by omega)]; rwa [Nat.pow_succ] at h
      have := digs_len_le hB k _ this
      omega
    · have : n = 0 := by omega
      subst this; rw [digs_zero]; simp
theorem lt_pow_len {B : Nat} (hB : 2 ≤ B) (n : Nat) : n < B ^ (digs B n).length := by
  have := ofD_lt (digs_lt hB n)
  rwa [ofD_digs hB] at this
theorem pow_len_le {B : Nat} (hB : 2 ≤ B) {n : Nat} (hn : 0 < n) : B ^ ((digs B n).length - 1) ≤ n := by
  rcases Nat.lt_or_ge n (B ^ ((digs B n).length - 1)) with h | h
  · have := digs_len_le hB _ _ h
    have h1 : 0 < (digs B n).length := by rw [digs_pos hB hn]; simp
    omega
  · exact h
theorem digs_len_mono {B : Nat} (hB : 2 ≤ B) {m n : Nat} (h : m ≤ n) : (digs B m).length ≤ (digs B n).length :=
  digs_len_le hB _ _ (Nat.lt_of_le_of_lt h (lt_pow_len hB n))
theorem digs_nil {B : Nat} (hB : 2 ≤ B) {n : Nat} : digs B n = [] ↔ n = 0 := by
  constructor
  · intro h
    have := ofD_digs hB n
    rw [h] at this
    exact this.symm
  · rintro rfl; exact digs_zero B
theorem digs_len_zero {B : Nat} (hB : 2 ≤ B) {n : Nat} : (digs B n).length = 0 ↔ n = 0 := by
  rw [List.length_eq_zero_iff]; exact digs_nil hB
theorem digs_last {B : Nat} (hB : 2 ≤ B) (n : Nat) : ∀ h : digs B n ≠ [], (digs B n).getLast h ≠ 0 := by
  induction n using Nat.strongRecOn with
  | ind n ih =>
    by_cases hn : 0 < n
    · rw [digs_pos hB hn]
      intro h
      by_cases hq : digs B (n / B) = []
      · simp only [hq, List.getLast_singleton]
        have := (digs_nil hB).1 hq
        have := Nat.mod_add_div n B
        rw [‹n / B = 0›] at this
        omega
      · rw [List.getLast_cons hq]
        exact ih _ (Nat.div_lt_self hn hB) hq
    · have : n = 0 := by omega
      subst this; rw [digs_zero]; intro h; exact absurd rfl h
/-- Comparison, place by place from the top. -/
theorem ofD_lt_of_top {B : Nat} {a b : List Nat} (ha : ∀ d ∈ a, d < B) (hab : a.length = b.length) {k : Nat} (hk : k < a.length) (hk' : k < b.length) (hlt : a[k] < b[k]) (heq : ∀ i (h : i < a.length) (h' : i < b.length), k < i → a[i] = b[i]) : ofD B a < ofD B b := by
  have htop : a.drop (k + 1) = b.drop (k + 1) := by
    apply List.ext_getElem
    · simp [hab]
    · intro i h1 h2
      simp only [List.getElem_drop]
      exact heq _ _ _ (by omega)
  have e : ∀ (l : List Nat) (h : k < l.length), ofD B l = ofD B (l.take k) + B ^ k * (l[k] + B * ofD B (l.drop (k + 1))) := by
    intro l h
    conv => lhs; rw [← List.take_append_drop k l, List.drop_eq_getElem_cons h]
    rw [ofD_append, List.length_take, Nat.min_eq_left (by omega), ofD]
  rw [e a hk, e b hk', htop]
  have h1 : ofD B (a.take k) < B ^ k := by
    have := ofD_lt (B := B) (l := a.take k) fun d hd => ha d (List.mem_of_mem_take hd)
    rwa [List.length_take, Nat.min_eq_left (by omega)] at this
  have h2 := Nat.mul_le_mul_left (B ^ k) (show a[k] + B * ofD B (b.drop (k + 1)) + 1 ≤ b[k] + B * ofD B (b.drop (k + 1)) from by omega)
  rw [Nat.mul_add, Nat.mul_one] at h2
  omega

/-! Texts. -/
def isDig (c : UInt8) : Bool := decide (48 ≤ c.toNat) && decide (c.toNat ≤ 57)
def natural (l : List UInt8) : Bool := decide (l ≠ []) && !(decide (1 < l.length) && decide (l[0]? = some 48)) && l.all isDig
def right (l : List UInt8) : Bool := decide (l.length ≤ 600) && natural l
def dv (c : UInt8) : Nat := c.toNat - 48
def val (l : List UInt8) : Nat := l.foldl (fun n c => 10 * n + dv c) 0
def dch (d : Nat) : UInt8 := UInt8.ofNat (48 + d)
def dec (n : Nat) : List UInt8 := if n = 0 then [48] else (digs 10 n).reverse.map dch

theorem val_foldl (l : List UInt8) : ∀ n, l.foldl (fun n c => 10 * n + dv c) n = 10 ^ l.length * n + val l := by
  induction l with
  | nil => intro n; simp [val]
  | cons c l ih =>
    intro n
    rw [List.foldl_cons, ih, show val (c :: l) = 10 ^ l.length * (10 * 0 + dv c) + val l from ih _, List.length_cons, Nat.pow_succ, Nat.mul_add, Nat.mul_add, ← Nat.mul_assoc]
    omega
theorem val_append (a b : List UInt8) : val (a ++ b) = 10 ^ b.length * val a + val b := by
  conv => lhs; rw [val, List.foldl_append]
  exact val_foldl b _
theorem val_cons (c : UInt8) (l : List UInt8) : val (c :: l) = 10 ^ l.length * dv c + val l := by
  have := val_append [c] l
  rw [show val [c] = dv c from by simp only [val, List.foldl_cons, List.foldl_nil]; omega] at this
  exact this
theorem val_snoc (l : List UInt8) (c : UInt8) : val (l ++ [c]) = 10 * val l + dv c := by
  rw [val_append]; simp [val]
theorem val_nil : val [] = 0 := rfl
theorem dv_lt {c : UInt8} (h : isDig c = true) : dv c < 10 := by
  simp only [isDig, Bool.and_eq_true, decide_eq_true_eq] at h
  unfold dv; omega
theorem val_lt {l : List UInt8} (h : l.all isDig = true) : val l < 10 ^ l.length := by
  induction l with
  | nil => simp [val]
  | cons c l ih =>
    rw [List.all_cons, Bool.and_eq_true] at h
    rw [val_cons, List.length_cons, Nat.pow_succ]
    have h1 := ih h.2
    have h2 := dv_lt h.1
    have := Nat.mul_le_mul_left (10 ^ l.length) (show dv c + 1 ≤ 10 from h2)
    rw [Nat.mul_add, Nat.mul_one] at this
    omega
theorem val_eq_ofD (l : List UInt8) : val l = ofD 10 (l.reverse.map dv) := by
  induction l with
  | nil => rfl
  | cons c l ih =>
    rw [val_cons, List.reverse_cons, List.map_append, ofD_append, ← ih]
    simp [ofD]; omega
theorem dch_dv {c : UInt8} (h : isDig c = true) : dch (dv c) = c := by
  simp only [isDig, Bool.and_eq_true, decide_eq_true_eq] at h
  unfold dch dv
  rw [show 48 + (c.toNat - 48) = c.toNat from by omega]
  exact UInt8.ofNat_toNat
theorem dv_dch {d : Nat} (h : d < 10) : dv (dch d) = d := by
  unfold dch dv
  rw [UInt8.toNat_ofNat']
  have : (48 + d) % 2 ^ 8 = 48 + d := Nat.mod_eq_of_lt (by omega)
  omega
theorem isDig_dch {d : Nat} (h : d < 10) : isDig (dch d) = true := by
  unfold isDig dch
  rw [UInt8.toNat_ofNat']
  have : (48 + d) % 2 ^ 8 = 48 + d := Nat.mod_eq_of_lt (by omega)
  rw [this]
  simp; omega
theorem dch_ne {d : Nat} (h : d < 10) (h0 : d ≠ 0) : dch d ≠ 48 := by
  intro e
  have := dv_dch h
  rw [e] at this
  simp [dv] at this
  omega
theorem dec_zero : dec 0 = [48] := by simp [dec]
theorem dec_pos {n : Nat} (h : 0 < n) : dec n = (digs 10 n).reverse.map dch := by rw [dec, if_neg (by omega)]
theorem val_dec (n : Nat) : val (dec n) = n := by
  by_cases h : n = 0
  · subst h; rfl
  · rw [dec_pos (by omega), val_eq_ofD, ← List.map_reverse, List.reverse_reverse, List.map_map]
    have : (digs 10 n).map (dv ∘ dch) = digs 10 n := by
      conv => rhs; rw [← List.map_id (digs 10 n)]
      apply List.map_congr_left
      intro d hd
      exact dv_dch (digs_lt (by omega) n d hd)
    rw [this, ofD_digs (by omega)]
theorem natural_dec (n : Nat) : natural (dec n) = true := by
  by_cases h : n = 0
  · subst h; decide
  · rw [dec_pos (by omega)]
    have hne : digs 10 n ≠ [] := fun e => h ((digs_nil (by omega)).1 e)
    unfold natural
    simp only [Bool.and_eq_true, decide_eq_true_eq, Bool.not_eq_true', Bool.and_eq_false_iff, decide_eq_false_iff_not, List.all_eq_true]
    refine ⟨⟨by simpa using hne, .inr ?_⟩, ?_⟩
    · rw [List.getElem?_map, ← List.head?_eq_getElem?, List.head?_reverse, List.getLast?_eq_some_getLast hne]
      simp only [Option.map_some, Option.some.injEq]
      have hm := List.getLast_mem hne
      exact dch_ne (digs_lt (by omega) n _ hm) (digs_last (by omega) n hne)
    · intro c hc
      obtain ⟨d, hd, rfl⟩ := List.mem_map.1 hc
      exact isDig_dch (digs_lt (by omega) n d (List.mem_reverse.1 hd))
theorem natural_all {l : List UInt8} (h : natural l = true) : l.all isDig = true := by
  unfold natural at h
  simp only [Bool.and_eq_true] at h
  exact h.2
theorem natural_ne {l : List UInt8} (h : natural l = true) : l ≠ [] := by
  unfold natural at h
  simp only [Bool.and_eq_true, decide_eq_true_eq] at h
  exact h.1.1
theorem map_dch_dv {l : List UInt8} (h : l.all isDig = true) : (l.map dv).map dch = l := by
  rw [List.map_map]
  conv => rhs; rw [← List.map_id l]
  apply List.map_congr_left
  intro c hc
  exact dch_dv (List.all_eq_true.1 h c hc)
theorem dec_val {l : List UInt8} (h : natural l = true) : dec (val l) = l := by
  have ha := natural_all h
  have hne := natural_ne h
  by_cases h0 : val l = 0
  · rw [h0, dec_zero]
    match l, h, ha, hne, h0 with
    | [c], _, ha, _, h0 =>
      simp only [List.all_cons, List.all_nil, Bool.and_true] at ha
      have : dv c = 0 := by simpa [val] using h0
      have := dch_dv ha
      rw [‹dv c = 0›] at this
      rw [← this]; rfl
    | c :: d :: r, h, ha, _, h0 =>
      unfold natural at h
      simp only [Bool.and_eq_true, Bool.not_eq_true', Bool.and_eq_false_iff, decide_eq_false_iff_not, List.length_cons] at h
      have h1 : c ≠ 48 := by
        rcases h.1.2 with h | h
        · omega
        · simpa using h
      simp only [List.all_cons, Bool.and_eq_true] at ha
      rw [val_cons] at h0
      have : dv c = 0 := by
        rcases Nat.eq_zero_or_pos (dv c) with h | h
        · exact h
        · have := Nat.mul_pos (Nat.pow_pos (n := (d :: r).length) (show 0 < 10 by omega)) h
          omega
      have e := dch_dv ha.1
      rw [this] at e
      exact absurd e.symm h1
  · rw [dec_pos (by omega), val_eq_ofD, digs_ofD (by omega)]
    · rw [← List.map_reverse, List.reverse_reverse]
      exact map_dch_dv ha
    · intro d hd
      obtain ⟨c, hc, rfl⟩ := List.mem_map.1 hd
      exact dv_lt (List.all_eq_true.1 ha c (List.mem_reverse.1 hc))
    · intro hne'
      rw [List.getLast_map]
      rw [List.getLast_reverse]
      unfold natural at h
      simp only [Bool.and_eq_true, Bool.not_eq_true', Bool.and_eq_false_iff, decide_eq_false_iff_not] at h
      intro hz
      have hd : isDig (l.head hne) = true := List.all_eq_true.1 ha _ (List.head_mem hne)
      have e := dch_dv hd
      rw [hz] at e
      rcases h.1.2 with h | h
      · have : l.length = 1 := by
          have := List.length_pos_iff.2 hne
          omega
        obtain ⟨c, rfl⟩ := List.length_eq_one_iff.1 this
        simp only [List.head_cons] at e hz
        apply h0
        simp [val, hz]
      · apply h
        rw [← List.head?_eq_getElem?, List.head?_eq_some_head hne, ← e]
        rfl
theorem dec_len_pos (n : Nat) : 0 < (dec n).length := List.length_pos_iff.2 (natural_ne (natural_dec n))
theorem dec_len {n : Nat} (h : 0 < n) : (dec n).length = (digs 10 n).length := by rw [dec_pos h]; simp
theorem dec_len_le {n k : Nat} (hk : 0 < k) : (dec n).length ≤ k ↔ n < 10 ^ k := by
  by_cases h : n = 0
  · subst h
    rw [dec_zero]
    have := Nat.pow_pos (n := k) (show 0 < 10 by omega)
    simp only [List.length_cons, List.length_nil]
    omega
  · rw [dec_len (by omega)]
    constructor
    · intro hl
      exact Nat.lt_of_lt_of_le (lt_pow_len (by omega) n) (Nat.pow_le_pow_right (by omega) hl)
    · intro hl
      exact digs_len_le (by omega) _ _ hl
theorem dec_inj {m n : Nat} (h : dec m = dec n) : m = n := by rw [← val_dec m, h, val_dec]
theorem dec_len_mono {m n : Nat} (h : m ≤ n) : (dec m).length ≤ (dec n).length :=
  (dec_len_le (dec_len_pos n)).2 (Nat.lt_of_le_of_lt h ((dec_len_le (dec_len_pos n)).1 (Nat.le_refl _)))
theorem val_take_succ (l : List UInt8) (k : Nat) (h : k < l.length) : val (l.take (k + 1)) = 10 * val (l.take k) + dv l[k] := by
  rw [List.take_succ_eq_append_getElem h, val_snoc]
theorem val_take_lt {l : List UInt8} (ha : l.all isDig = true) (k : Nat) : val (l.take k) < 10 ^ k := by
  have h1 : (l.take k).all isDig = true := by
    rw [List.all_eq_true] at ha ⊢
    exact fun c hc => ha c (List.mem_of_mem_take hc)
  refine Nat.lt_of_lt_of_le (val_lt h1) (Nat.pow_le_pow_right (by omega) ?_)
  rw [List.length_take]; omega
theorem all_drop {l : List UInt8} (ha : l.all isDig = true) (k : Nat) : (l.drop k).all isDig = true := by
  rw [List.all_eq_true] at ha ⊢
  exact fun c hc => ha c (List.mem_of_mem_drop hc)
theorem all_take {l : List UInt8} (ha : l.all isDig = true) (k : Nat) : (l.take k).all isDig = true := by
  rw [List.all_eq_true] at ha ⊢
  exact fun c hc => ha c (List.mem_of_mem_take hc)
theorem val_mid (a : List UInt8) (c : UInt8) (b : List UInt8) : val (a ++ c :: b) = 10 ^ (b.length + 1) * val a + 10 ^ b.length * dv c + val b := by
  rw [val_append, val_cons, List.length_cons]; omega
theorem val_set (l : List UInt8) (i : Nat) (c : UInt8) (h : i < l.length) : val (l.set i c) + 10 ^ (l.length - 1 - i) * dv l[i] = val l + 10 ^ (l.length - 1 - i) * dv c := by
  have e1 : l = l.take i ++ l[i] :: l.drop (i + 1) := by
    conv => lhs; rw [← List.take_append_drop i l, List.drop_eq_getElem_cons h]
  have e2 : l.set i c = l.take i ++ c :: l.drop (i + 1) := by
    rw [List.set_eq_take_append_cons_drop, if_pos h]
  have e3 : (l.drop (i + 1)).length = l.length - 1 - i := by rw [List.length_drop]; omega
  have e4 : val l = 10 ^ ((l.drop (i + 1)).length + 1) * val (l.take i) + 10 ^ (l.drop (i + 1)).length * dv l[i] + val (l.drop (i + 1)) := by
    conv => lhs; rw [e1, val_mid]
  rw [e2, val_mid, e4, e3]; omega
/-- Digits in two parts. -/
theorem val_cut (l : List UInt8) {a e : Nat} (h : a ≤ e) (he : e ≤ l.length) : val (l.drop a) = 10 ^ (l.length - e) * val ((l.drop a).take (e - a)) + val (l.drop e) := by
  conv => lhs; rw [← List.take_append_drop (e - a) (l.drop a), val_append, List.drop_drop]
  rw [show a + (e - a) = e from by omega, List.length_drop]
/-- The last n decimal digits of a number. -/
def digN : Nat → Nat → List UInt8
  | 0, _ => []
  | n + 1, x => digN n (x / 10) ++ [dch (x % 10)]
theorem digN_length : ∀ n x, (digN n x).length = n
  | 0, _ => rfl
  | n + 1, x => by simp [digN, digN_length n]
theorem digN_dig : ∀ n x, (digN n x).all isDig = true
  | 0, _ => rfl
  | n + 1, x => by
    rw [digN, List.all_append, digN_dig n]
    simp [isDig_dch (Nat.mod_lt x (show 0 < 10 by omega))]
theorem val_digN : ∀ n x, val (digN n x) = x % 10 ^ n
  | 0, x => by simp [digN, val, Nat.mod_one]
  | n + 1, x => by
    rw [digN, val_snoc, val_digN n, dv_dch (Nat.mod_lt x (by omega)), Nat.pow_succ, Nat.mul_comm (10 ^ n) 10, Nat.mod_mul]
    omega
theorem digN_get : ∀ (n x m : Nat) (h : m < n) (h' : n - 1 - m < (digN n x).length), (digN n x)[n - 1 - m] = dch (x / 10 ^ m % 10)
  | 0, x, m, h, _ => by omega
  | n + 1, x, 0, h, h' => by
    simp only [digN]
    rw [List.getElem_append_right (by rw [digN_length]; omega)]
    simp
  | n + 1, x, m + 1, h, h' => by
    simp only [digN]
    rw [List.getElem_append_left (by rw [digN_length]; omega)]
    have := digN_get n (x / 10) m (by omega) (by rw [digN_length]; omega)
    rw [Nat.div_div_eq_div_mul, Nat.mul_comm 10, ← Nat.pow_succ] at this
    rw [← this]
    congr 1; omega
theorem digN_four (m y d : Nat) (hd : d < 10000) : digN (m + 4) (d + 10000 * y) = digN m y ++ [dch (d / 1000), dch (d / 100 % 10), dch (d / 10 % 10), dch (d % 10)] := by
  have e1 : (d + 10000 * y) / 10 / 10 / 10 / 10 = y := by omega
  have e2 : (d + 10000 * y) / 10 / 10 / 10 % 10 = d / 1000 := by omega
  have e3 : (d + 10000 * y) / 10 / 10 % 10 = d / 100 % 10 := by omega
  have e4 : (d + 10000 * y) / 10 % 10 = d / 10 % 10 := by omega
  have e5 : (d + 10000 * y) % 10 = d % 10 := by omega
  simp only [digN, e1, e2, e3, e4, e5, List.append_assoc, List.cons_append, List.nil_append]
theorem val_zeros : ∀ {l : List UInt8}, (∀ c ∈ l, c = 48) → val l = 0
  | [], _ => rfl
  | c :: l, h => by
    rw [val_cons, h c (List.mem_cons_self ..), val_zeros fun d hd => h d (List.mem_cons_of_mem _ hd)]
    simp [dv]
theorem val_drop {l : List UInt8} {k : Nat} (h : ∀ i (hi : i < l.length), i < k → l[i] = 48) : val (l.drop k) = val l := by
  conv => rhs; rw [← List.take_append_drop k l, val_append]
  rw [val_zeros (l := l.take k)]
  · simp
  · intro c hc
    obtain ⟨i, hi, rfl⟩ := List.mem_iff_getElem.1 hc
    rw [List.length_take] at hi
    rw [List.getElem_take]
    exact h i (by omega) (by omega)
/-- Digits behind leading noughts are the number's text. -/
theorem dec_drop {l : List UInt8} {k : Nat} (ha : l.all isDig = true) (hk : k < l.length) (h : ∀ i (hi : i < l.length), i < k → l[i] = 48) (h1 : l[k] ≠ 48 ∨ k + 1 = l.length) : l.drop k = dec (val l) := by
  have hn : natural (l.drop k) = true := by
    unfold natural
    simp only [Bool.and_eq_true, decide_eq_true_eq, Bool.not_eq_true', Bool.and_eq_false_iff, decide_eq_false_iff_not]
    refine ⟨⟨by simp; omega, ?_⟩, ?_⟩
    · rcases h1 with h1 | h1
      · right
        rw [List.getElem?_drop, Nat.add_zero, List.getElem?_eq_getElem hk]
        simpa using h1
      · left; rw [List.length_drop]; omega
    · rw [List.all_eq_true] at ha ⊢
      intro c hc
      exact ha c (List.mem_of_mem_drop hc)
  rw [← val_drop h, dec_val hn]
theorem digit_of_limb (y k : Nat) (h : k < 9) : y % 1000000000 / 10 ^ k % 10 = y / 10 ^ k % 10 := by
  have e : 1000000000 = 10 ^ k * 10 ^ (9 - k) := by rw [← Nat.pow_add]; rw [show k + (9 - k) = 9 from by omega]
  rw [e, Nat.mod_mul_right_div_self]
  exact Nat.mod_mod_of_dvd _ ⟨10 ^ (9 - k - 1), by rw [← Nat.pow_succ']; congr 1; omega⟩
theorem limb_digit {x i k : Nat} (hi : i < (digs 1000000000 x).length) (hk : k < 9) : (digs 1000000000 x)[i] / 10 ^ k % 10 = x / 10 ^ (9 * i + k) % 10 := by
  rw [digs_get (by decide), digit_of_limb _ _ hk, Nat.div_div_eq_div_mul, show (1000000000 : Nat) = 10 ^ 9 from rfl, ← Nat.pow_mul, ← Nat.pow_add]
theorem B9_pow (k : Nat) : 1000000000 ^ k = 10 ^ (9 * k) := by rw [Nat.pow_mul]
theorem pow_le_B9 {l k : Nat} (h : l ≤ 9 * k) : 10 ^ l ≤ 1000000000 ^ k := by rw [B9_pow]; exact Nat.pow_le_pow_right (by decide) h
theorem lt_pow_dec (x : Nat) : x < 10 ^ (dec x).length := (dec_len_le (dec_len_pos x)).1 (Nat.le_refl _)
theorem lt_pow_of_le {x l k : Nat} (h : x < 10 ^ l) (hl : l ≤ k) : x < 10 ^ k := Nat.lt_of_lt_of_le h (Nat.pow_le_pow_right (by decide) hl)
theorem dec_le10 {x : Nat} (h : x < 10) {k : Nat} (hk : 0 < k) : (dec x).length ≤ k := (dec_len_le hk).2 (lt_pow_of_le (l := 1) (by simpa using h) hk)
theorem cons_len {d x : Nat} (hd : d < 1000000000) : (digs 1000000000 (d + 1000000000 * x)).length ≤ (digs 1000000000 x).length + 1 := by
  refine digs_len_le (by decide) _ _ ?_
  have := lt_pow_len (B := 1000000000) (by decide) x
  have := Nat.mul_le_mul_left 1000000000 (show x + 1 ≤ 1000000000 ^ (digs 1000000000 x).length from this)
  rw [Nat.pow_succ]; omega
theorem small_len {B x m : Nat} (hB : 2 ≤ B) (hm : m ≤ B) : (digs B (x * m)).length ≤ (digs B x).length + 1 := by
  refine digs_len_le hB _ _ ?_
  rw [Nat.pow_succ]
  exact Nat.mul_lt_mul_of_lt_of_le (lt_pow_len hB x) hm (by omega)
theorem mul_ten {x n k m : Nat} (h : x ≤ n * 10 ^ k) (hn : n < 10 ^ m) (hm : 0 < m) : (dec x).length ≤ m + k := by
  refine (dec_len_le (by omega)).2 (Nat.lt_of_le_of_lt h ?_)
  rw [Nat.pow_add]
  exact Nat.mul_lt_mul_of_pos_right hn (Nat.pow_pos (by decide))
theorem len_of_pow {y p : Nat} (h : 10 ^ p ≤ y) : p < (dec y).length := by
  rcases Nat.lt_or_ge p (dec y).length with g | g
  · exact g
  · have := lt_pow_of_le (lt_pow_dec y) g; omega
end Go.Proofs.Ytpilfppdiifbjaa.Nt
