/- Slices and loops of the plain machine, by hand. Plain lemmas. -/
import Derived.Test.YtemgddekbdifeaaGreatAm6
import Derived.IntWalk
set_option linter.unusedVariables false
set_option linter.unusedSimpArgs false
set_option maxRecDepth 100000
namespace Go.Proofs.YtemgddekbdifeaaGreat.Am

theorem obool_intro {b : Bool} {A B : Prop} (ha : b = true → A) (hb : b = false → B) : obool b A B := by
  cases b
  · exact hb rfl
  · exact ha rfl
theorem obool_t {b : Bool} {A B : Prop} (h : b = true) (ha : A) : obool b A B := by subst h; exact ha
theorem obool_f {b : Bool} {A B : Prop} (h : b = false) (hb : B) : obool b A B := by subst h; exact hb
theorem obool_d {p : Prop} [Decidable p] {A B : Prop} (ha : p → A) (hb : ¬ p → B) : obool (decide p) A B := by
  by_cases hp : p
  · rw [decide_eq_true hp]; exact ha hp
  · rw [decide_eq_false hp]; exact hb hp
theorem ar_i64 {z : Int} {K : Value → Prop} (h : -9223372036854775808 ≤ z ∧ z ≤ 9223372036854775807) (hk : K (.int .i64 z)) : Ar .i64 z K := ⟨by rw [IntWalk.i64_in _ h]; exact hk⟩
theorem ar_u64 {z : Int} {K : Value → Prop} (h : 0 ≤ z ∧ z ≤ 18446744073709551615) (hk : K (.int .u64 z)) : Ar .u64 z K := ⟨by rw [IntWalk.u64_in _ h]; exact hk⟩
theorem ar_u32 {z : Int} {K : Value → Prop} (h : 0 ≤ z ∧ z ≤ 4294967295) (hk : K (.int .u32 z)) : Ar .u32 z K := ⟨by rw [IntWalk.u32_in _ h]; exact hk⟩
theorem ar_u8 {z : Int} {K : Value → Prop} (h : 0 ≤ z ∧ z ≤ 255) (hk : K (.int .u8 z)) : Ar .u8 z K := ⟨by rw [IntWalk.u8_in _ h]; exact hk⟩
theorem ar_u32e {z : Int} {K : Value → Prop} (d : Nat) (hz : z = (d : Int)) (h : d ≤ 4294967295) (hk : K (.int .u32 (d : Int))) : Ar .u32 z K := by subst hz; exact ar_u32 (by omega) hk
theorem ar_u64e {z : Int} {K : Value → Prop} (d : Nat) (hz : z = (d : Int)) (h : d ≤ 18446744073709551615) (hk : K (.int .u64 (d : Int))) : Ar .u64 z K := by subst hz; exact ar_u64 (by omega) hk
theorem ar_u8e {z : Int} {K : Value → Prop} (d : Nat) (hz : z = (d : Int)) (h : d ≤ 255) (hk : K (.int .u8 (d : Int))) : Ar .u8 z K := by subst hz; exact ar_u8 (by omega) hk
theorem ar_i64e {z : Int} {K : Value → Prop} (d : Nat) (hz : z = (d : Int)) (h : d ≤ 9223372036854775807) (hk : K (.int .i64 (d : Int))) : Ar .i64 z K := by subst hz; exact ar_i64 (by omega) hk
theorem ar_i64i {z : Int} {K : Value → Prop} (d : Int) (hz : z = d) (h : -9223372036854775808 ≤ d ∧ d ≤ 9223372036854775807) (hk : K (.int .i64 d)) : Ar .i64 z K := by subst hz; exact ar_i64 h hk
theorem tmod_nat (a b : Nat) : Int.tmod (a : Int) (b : Int) = ((a % b : Nat) : Int) := rfl
theorem tdiv_nat (a b : Nat) : Int.tdiv (a : Int) (b : Int) = ((a / b : Nat) : Int) := rfl
theorem ar_eq {k : IntKind} {z z' : Int} {K : Value → Prop} (h : k.wrap z = z') (hk : K (.int k z')) : Ar k z K := ⟨by rw [h]; exact hk⟩

/-- Rounds of a loop: what holds at its head, and what goes down. -/
theorem loop_rule {B : Fr → H → (Out → Fr → H → Prop) → Prop} {K : Out → Fr → H → Prop} {X : Type} (I : X → Fr → H → Prop) (μ : X → Nat)
    (step : ∀ n x f h, I x f h → (∀ x' f' h', μ x' < μ x → I x' f' h' → loopN B K n f' h') → loopN B K (n + 1) f h) :
    ∀ x f h, I x f h → ∃ m, loopN B K m f h := by
  intro x f h hi
  have key : ∀ n x f h, μ x < n → I x f h → loopN B K n f h := by
    intro n
    induction n with
    | zero => intro x f h hx; omega
    | succ n ih => intro x f h hx hi; exact step n x f h hi fun x' f' h' hx' hi' => ih x' f' h' (by omega) hi'
  exact ⟨μ x + 1, key _ x f h (by omega) hi⟩

/-- A frame in which some slots are known. -/
def upd (f : Fr) : List (Nat × Value) → Fr
  | [] => f
  | p :: r => Fr.put (upd f r) (some p.1) p.2
theorem upd_self {f : Fr} : ∀ {l : List (Nat × Value)}, (∀ p ∈ l, f p.1 = p.2) → f = upd f l
  | [], _ => rfl
  | p :: r, h => by
    have h1 := upd_self (l := r) fun q hq => h q (List.mem_cons_of_mem _ hq)
    unfold upd
    rw [← h1]
    funext i
    simp only [Fr.put]
    split
    · rename_i hi
      rw [hi]; exact h p (List.mem_cons_self ..)
    · rfl
/-- The slots of a frame hold these. -/
def holds (f : Fr) : List (Nat × Value) → Prop
  | [] => True
  | p :: r => f p.1 = p.2 ∧ holds f r
theorem upd_holds {f : Fr} : ∀ {l : List (Nat × Value)}, holds f l → f = upd f l
  | [], _ => rfl
  | p :: r, h => by
    unfold upd
    rw [← upd_holds h.2]
    funext i
    simp only [Fr.put]
    split
    · rename_i hi
      rw [hi]; exact h.1
    · rfl

/-- Rounds of a loop whose head knows some slots. -/
theorem loop_upd {B : Fr → H → (Out → Fr → H → Prop) → Prop} {K : Out → Fr → H → Prop} {X : Type} (s : X → List (Nat × Value)) (I : X → H → Prop) (μ : X → Nat)
    (step : ∀ n x f h, I x h → (∀ x' f' h', μ x' < μ x → holds f' (s x') → I x' h' → loopN B K n f' h') → B (upd f (s x)) h fun o f' h' =>
      match o with
      | .normal => loopN B K n f' h'
      | o => K o f' h') :
    ∀ x f h, holds f (s x) → I x h → ∃ m, loopN B K m f h := by
  intro x f h hs hi
  refine loop_rule (fun x f h => holds f (s x) ∧ I x h) μ ?_ x f h ⟨hs, hi⟩
  intro n x f h hI ih
  have := step n x f h hI.2 fun x' f' h' hx hs' hi' => ih x' f' h' hx ⟨hs', hi'⟩
  rw [← upd_holds hI.1] at this
  exact this

/-- A heap in which all that was there stands as it stood. -/
def Ext (h h' : H) : Prop := h.next ≤ h'.next ∧ ∀ i, i < h.next → h'.get i = h.get i
theorem Ext.refl (h : H) : Ext h h := ⟨Nat.le_refl _, fun _ _ => rfl⟩
theorem Ext.trans {h h' h'' : H} (a : Ext h h') (b : Ext h' h'') : Ext h h'' :=
  ⟨Nat.le_trans a.1 b.1, fun i hi => (b.2 i (Nat.lt_of_lt_of_le hi a.1)).trans (a.2 i hi)⟩
theorem Ext.push {h h' : H} (a : Ext h h') (b : Blk) : Ext h (h'.push b) :=
  ⟨Nat.le_succ_of_le a.1, fun i hi => by
    have : i ≠ h'.next := by have := a.1; omega
    simp only [H.push, if_neg this]; exact a.2 i hi⟩
theorem Ext.upd {h h' : H} (a : Ext h h') {j : Nat} (hj : h.next ≤ j) (b : Blk) : Ext h (h'.upd j b) :=
  ⟨a.1, fun i hi => by
    have : i ≠ j := by omega
    simp only [H.upd, if_neg this]; exact a.2 i hi⟩
theorem Ext.kill {h h' : H} (a : Ext h h') {j : Nat} (hj : h.next ≤ j) : Ext h (h'.kill j) :=
  ⟨a.1, fun i hi => by
    have : i ≠ j := by omega
    simp only [H.kill, if_neg this]; exact a.2 i hi⟩

/-- A slice of elements of one cell: its base, its length and room, its cells. -/
def Sl (h : H) (b : Option Addr) (c : Nat) (cs : List Value) : Prop :=
  (b = none ∧ c = 0 ∧ cs = []) ∨
  ∃ i o all t own opn, b = some ⟨i, o, none⟩ ∧ cs.length ≤ c ∧ i < h.next ∧ h.get i = some (.cells all t own opn) ∧ o + cs.length ≤ all.length ∧ (all.drop o).take cs.length = cs
theorem Sl.ext {h h' : H} {b : Option Addr} {c : Nat} {cs : List Value} (s : Sl h b c cs) (e : Ext h h') : Sl h' b c cs := by
  rcases s with s | ⟨i, o, all, t, own, opn, hb, hc, hi, hg, hl, ht⟩
  · exact .inl s
  · exact .inr ⟨i, o, all, t, own, opn, hb, hc, Nat.lt_of_lt_of_le hi e.1, by rw [e.2 i hi]; exact hg, hl, ht⟩
theorem Sl.nil (h : H) : Sl h none 0 [] := .inl ⟨rfl, rfl, rfl⟩
/-- An element of a slice. -/
theorem Sl.at {h : H} {b : Option Addr} {c : Nat} {cs : List Value} (s : Sl h b c cs) {k : Nat} (hk : k < cs.length) :
    ∃ i o, b = some ⟨i, o, none⟩ ∧ h.cell i (o + k) = some cs[k] := by
  rcases s with ⟨_, _, rfl⟩ | ⟨i, o, all, t, own, opn, hb, hc, hi, hg, hl, ht⟩
  · exact absurd hk (by simp)
  · refine ⟨i, o, hb, ?_⟩
    simp only [H.cell, hg]
    have : cs[k]? = all[o + k]? := by
      conv => lhs; rw [← ht]
      rw [List.getElem?_take, if_pos hk, List.getElem?_drop]
    rw [← this, List.getElem?_eq_getElem hk]

/-- A block that is a slice's own: its cells from the first on. -/
theorem H.get_push (h : H) (b : Blk) : (h.push b).get h.next = some b := by simp [H.push]
theorem H.get_push_ne (h : H) (b : Blk) {i : Nat} (hi : i ≠ h.next) : (h.push b).get i = h.get i := by simp [H.push, hi]
theorem H.get_upd (h : H) (j : Nat) (b : Blk) : (h.upd j b).get j = some b := by simp [H.upd]
theorem H.get_upd_ne (h : H) (j : Nat) (b : Blk) {i : Nat} (hi : i ≠ j) : (h.upd j b).get i = h.get i := by simp [H.upd, hi]
theorem H.get_kill_ne (h : H) (j : Nat) {i : Nat} (hi : i ≠ j) : (h.kill j).get i = h.get i := by simp [H.kill, hi]
theorem H.next_push (h : H) (b : Blk) : (h.push b).next = h.next + 1 := rfl
theorem H.next_upd (h : H) (j : Nat) (b : Blk) : (h.upd j b).next = h.next := rfl
theorem H.next_kill (h : H) (j : Nat) : (h.kill j).next = h.next := rfl

theorem H.wr1_own {h : H} {i o : Nat} {v : Value} {cs : List Value} {t : TypeId} {op : Bool} (hg : h.get i = some (.cells cs t true op)) (ho : o < cs.length) :
    h.wr1 i o v = some (h.upd i (.cells (cs.set o v) t true op)) := by simp [H.wr1, hg, ho]
theorem H.cell_own {h : H} {i o : Nat} {cs : List Value} {t : TypeId} {own op : Bool} (hg : h.get i = some (.cells cs t own op)) (ho : o < cs.length) :
    h.cell i o = some cs[o] := by simp [H.cell, hg, ho]
theorem H.rd_own {h : H} {i o n : Nat} {cs : List Value} {t : TypeId} {own op : Bool} (hg : h.get i = some (.cells cs t own op)) (ho : o + n ≤ cs.length) :
    h.rd i o n = some ((cs.drop o).take n) := by simp [H.rd, hg, ho]

/-- A whole block as a slice. -/
theorem Sl.own {h : H} {i c : Nat} {cs : List Value} {t : TypeId} {own op : Bool} (hg : h.get i = some (.cells cs t own op)) (hi : i < h.next) (hc : cs.length ≤ c) :
    Sl h (some ⟨i, 0, none⟩) c cs := .inr ⟨i, 0, cs, t, own, op, rfl, hc, hi, hg, by simp, by simp⟩
/-- A front part of a slice. -/
theorem Sl.take {h : H} {b : Option Addr} {c : Nat} {cs : List Value} (s : Sl h b c cs) (k : Nat) : Sl h b c (cs.take k) := by
  rcases s with ⟨hb, hc, rfl⟩ | ⟨i, o, all, t, own, opn, hb, hc, hi, hg, hl, ht⟩
  · exact .inl ⟨hb, hc, by simp⟩
  · refine .inr ⟨i, o, all, t, own, opn, hb, by simp; omega, hi, hg, by simp; omega, ?_⟩
    rw [List.length_take]
    conv => rhs; rw [← ht]
    rw [List.take_take]

theorem bs_all (s : ByteArray) : ∃ l, s = bs l := ⟨s.data.toList, by cases s; rfl⟩
@[simp] theorem bs_size (l : List UInt8) : (bs l).size = l.length := rfl
@[simp] theorem bs_data (l : List UInt8) : (bs l).data.toList = l := rfl
theorem bs_byteAt (l : List UInt8) (i : Nat) : byteAt (bs l) i = (l[i]?.getD 0).toNat := by
  simp [byteAt, bs]
theorem bs_byteAt_lt {l : List UInt8} {i : Nat} (h : i < l.length) : byteAt (bs l) i = l[i].toNat := by
  rw [bs_byteAt, List.getElem?_eq_getElem h]; rfl
theorem bs_toList (l : List UInt8) : (bs l).toList = l := by
  rw [ByteArray.toList_eq]; rfl
theorem bs_app (a b : List UInt8) : bs a ++ bs b = bs (a ++ b) := (bs_append (bs a) (bs b)).symm
theorem bs_inj {a b : List UInt8} : bs a = bs b ↔ a = b := ⟨fun h => by have := congrArg (fun s => s.data.toList) h; exact this, fun h => by rw [h]⟩

end Go.Proofs.YtemgddekbdifeaaGreat.Am

namespace Go.Proofs.YtemgddekbdifeaaGreat.Am

theorem acall_of {C : FuncId → Option AFn} {base : Cl} {n g : Nat} {args : List Value} {h : H} {K : Value → H → Prop} {A : AFn} (hg : C g = some A)
    (hw : wp (acall C base n) A.body (initFr args) h fun o f h' =>
      match o with
      | .exit _ => False
      | _ => ∃ vs, resAll f h' A.res = some vs ∧ K (resVal vs) h') : acall C base (n + 1) g args h K := by
  simp only [acall, hg]
  exact hw

def u32s (l : List Nat) : List Value := l.map fun (d : Nat) => .int .u32 (d : Int)
def i64s (l : List Nat) : List Value := l.map fun (d : Nat) => .int .i64 (d : Int)
def u8s (l : List UInt8) : List Value := l.map fun d => .int .u8 (d.toNat : Int)
def strs (l : List (List UInt8)) : List Value := l.map fun d => .string (bs d)
@[simp] theorem u32s_length (l : List Nat) : (u32s l).length = l.length := by simp [u32s]
@[simp] theorem i64s_length (l : List Nat) : (i64s l).length = l.length := by simp [i64s]
@[simp] theorem u8s_length (l : List UInt8) : (u8s l).length = l.length := by simp [u8s]
@[simp] theorem strs_length (l : List (List UInt8)) : (strs l).length = l.length := by simp [strs]
theorem u32s_get {l : List Nat} {n : Nat} (h : n < l.length) : (u32s l)[n]'(by simpa using h) = .int .u32 (l[n] : Int) := by simp [u32s]
theorem i64s_get {l : List Nat} {n : Nat} (h : n < l.length) : (i64s l)[n]'(by simpa using h) = .int .i64 (l[n] : Int) := by simp [i64s]
theorem u8s_get {l : List UInt8} {n : Nat} (h : n < l.length) : (u8s l)[n]'(by simpa using h) = .int .u8 (l[n].toNat : Int) := by simp [u8s]
theorem strs_get {l : List (List UInt8)} {n : Nat} (h : n < l.length) : (strs l)[n]'(by simpa using h) = .string (bs l[n]) := by simp [strs]
theorem u32s_set (l : List Nat) (n d : Nat) : (u32s l).set n (.int .u32 (d : Int)) = u32s (l.set n d) := by simp [u32s, List.map_set]
theorem i64s_set (l : List Nat) (n d : Nat) : (i64s l).set n (.int .i64 (d : Int)) = i64s (l.set n d) := by simp [i64s, List.map_set]
theorem u8s_set (l : List UInt8) (n : Nat) (d : UInt8) : (u8s l).set n (.int .u8 (d.toNat : Int)) = u8s (l.set n d) := by simp [u8s, List.map_set]
theorem u32s_app (a b : List Nat) : u32s a ++ u32s b = u32s (a ++ b) := by simp [u32s]
theorem i64s_app (a b : List Nat) : i64s a ++ i64s b = i64s (a ++ b) := by simp [i64s]
theorem u8s_app (a b : List UInt8) : u8s a ++ u8s b = u8s (a ++ b) := by simp [u8s]
theorem strs_app (a b : List (List UInt8)) : strs a ++ strs b = strs (a ++ b) := by simp [strs]
theorem u32s_take (l : List Nat) (n : Nat) : (u32s l).take n = u32s (l.take n) := by simp [u32s, List.map_take]
theorem i64s_take (l : List Nat) (n : Nat) : (i64s l).take n = i64s (l.take n) := by simp [i64s, List.map_take]
theorem u8s_take (l : List UInt8) (n : Nat) : (u8s l).take n = u8s (l.take n) := by simp [u8s, List.map_take]
theorem u32s_drop (l : List Nat) (n : Nat) : (u32s l).drop n = u32s (l.drop n) := by simp [u32s, List.map_drop]
theorem i64s_drop (l : List Nat) (n : Nat) : (i64s l).drop n = i64s (l.drop n) := by simp [i64s, List.map_drop]
theorem u8s_drop (l : List UInt8) (n : Nat) : (u8s l).drop n = u8s (l.drop n) := by simp [u8s, List.map_drop]
theorem bytesOf_u8s : ∀ (l : List UInt8), bytesOf (u8s l) = some l
  | [] => rfl
  | c :: l => by
    show (bytesOf (u8s l)).map (UInt8.ofNat ((c.toNat : Int)).toNat :: ·) = _
    rw [bytesOf_u8s l]
    simp

/-- All that stands in a slice, in this heap and in those that grow out of it; the place comes as the walk has it. -/
theorem Sl.all {h : H} {b : Option Addr} {c : Nat} {cs : List Value} (s : Sl h b c cs) (hk : 0 < cs.length) :
    ∃ i o, b = some ⟨i, o, none⟩ ∧ i < h.next ∧ ∀ h', Ext h h' → ∀ (z : Int) (n : Nat), z.toNat = n → ∀ hn : n < cs.length, h'.cell i (o + z.toNat * 1) = some cs[n] := by
  rcases s with ⟨_, _, rfl⟩ | ⟨i, o, all, t, own, opn, hb, hc, hi, hg, hl, ht⟩
  · exact absurd hk (by simp)
  · refine ⟨i, o, hb, hi, fun h' he z n hz hn => ?_⟩
    subst hz
    simp only [H.cell, he.2 i hi, hg, Nat.mul_one]
    have : cs[z.toNat]? = all[o + z.toNat]? := by
      conv => lhs; rw [← ht]
      rw [List.getElem?_take, if_pos hn, List.getElem?_drop]
    rw [← this, List.getElem?_eq_getElem hn]
theorem Sl.all32 {h : H} {b : Option Addr} {c : Nat} {l : List Nat} (s : Sl h b c (u32s l)) (hk : 0 < l.length) :
    ∃ i o, b = some ⟨i, o, none⟩ ∧ i < h.next ∧ ∀ h', Ext h h' → ∀ (z : Int) (n : Nat), z.toNat = n → ∀ hn : n < l.length, h'.cell i (o + z.toNat * 1) = some (.int .u32 (l[n] : Int)) := by
  obtain ⟨i, o, hb, hi, ha⟩ := s.all (by simpa using hk)
  exact ⟨i, o, hb, hi, fun h' he z n hz hn => by rw [ha h' he z n hz (by simpa using hn), u32s_get hn]⟩
theorem Sl.all64 {h : H} {b : Option Addr} {c : Nat} {l : List Nat} (s : Sl h b c (i64s l)) (hk : 0 < l.length) :
    ∃ i o, b = some ⟨i, o, none⟩ ∧ i < h.next ∧ ∀ h', Ext h h' → ∀ (z : Int) (n : Nat), z.toNat = n → ∀ hn : n < l.length, h'.cell i (o + z.toNat * 1) = some (.int .i64 (l[n] : Int)) := by
  obtain ⟨i, o, hb, hi, ha⟩ := s.all (by simpa using hk)
  exact ⟨i, o, hb, hi, fun h' he z n hz hn => by rw [ha h' he z n hz (by simpa using hn), i64s_get hn]⟩
theorem Sl.all8 {h : H} {b : Option Addr} {c : Nat} {l : List UInt8} (s : Sl h b c (u8s l)) (hk : 0 < l.length) :
    ∃ i o, b = some ⟨i, o, none⟩ ∧ i < h.next ∧ ∀ h', Ext h h' → ∀ (z : Int) (n : Nat), z.toNat = n → ∀ hn : n < l.length, h'.cell i (o + z.toNat * 1) = some (.int .u8 (l[n].toNat : Int)) := by
  obtain ⟨i, o, hb, hi, ha⟩ := s.all (by simpa using hk)
  exact ⟨i, o, hb, hi, fun h' he z n hz hn => by rw [ha h' he z n hz (by simpa using hn), u8s_get hn]⟩
theorem Sl.allS {h : H} {b : Option Addr} {c : Nat} {l : List (List UInt8)} (s : Sl h b c (strs l)) (hk : 0 < l.length) :
    ∃ i o, b = some ⟨i, o, none⟩ ∧ i < h.next ∧ ∀ h', Ext h h' → ∀ (z : Int) (n : Nat), z.toNat = n → ∀ hn : n < l.length, h'.cell i (o + z.toNat * 1) = some (.string (bs l[n])) := by
  obtain ⟨i, o, hb, hi, ha⟩ := s.all (by simpa using hk)
  exact ⟨i, o, hb, hi, fun h' he z n hz hn => by rw [ha h' he z n hz (by simpa using hn), strs_get hn]⟩

theorem Sl.cap {h : H} {b : Option Addr} {c : Nat} {cs : List Value} (s : Sl h b c cs) : cs.length ≤ c := by
  rcases s with ⟨_, _, rfl⟩ | ⟨i, o, all, t, own, opn, hb, hc, _⟩
  · simp
  · exact hc
/-- What an append or a copy takes of a slice. -/
theorem Sl.src {h h' : H} {b : Option Addr} {c : Nat} {cs : List Value} (s : Sl h b c cs) (e : Ext h h') {m n : Nat} (hn : n ≤ cs.length) : srcCells h' 1 n (.slice b m c) = some (cs.take n) := by
  rcases s with ⟨rfl, _, rfl⟩ | ⟨i, o, all, t, own, opn, rfl, hc, hi, hg, hl, ht⟩
  · simp [srcCells]
  · simp only [srcCells, H.rd, e.2 i hi, hg, Nat.mul_one]
    rw [if_pos (by omega)]
    conv => rhs; rw [← ht]
    rw [List.take_take, Nat.min_eq_left hn]

/-- A block of one's own. -/
def Own (h : H) (j : Nat) (cs : List Value) (t : TypeId) (op : Bool) : Prop := j < h.next ∧ h.get j = some (.cells cs t true op)
theorem Own.push {h : H} (cs : List Value) (t : TypeId) (op : Bool) : Own (h.push (.cells cs t true op)) h.next cs t op := ⟨by simp [H.push], H.get_push _ _⟩
theorem Own.ext {h h' : H} {j : Nat} {cs : List Value} {t : TypeId} {op : Bool} (o : Own h j cs t op) (e : Ext h h') : Own h' j cs t op := ⟨Nat.lt_of_lt_of_le o.1 e.1, by rw [e.2 j o.1]; exact o.2⟩
theorem Own.lt {h : H} {j : Nat} {cs : List Value} {t : TypeId} {op : Bool} (o : Own h j cs t op) : j < h.next := o.1
theorem Own.sl {h : H} {j c : Nat} {cs : List Value} {t : TypeId} {op : Bool} (o : Own h j cs t op) (hc : cs.length ≤ c) : Sl h (some ⟨j, 0, none⟩) c cs := Sl.own o.2 o.1 hc
theorem Own.cell {h : H} {j : Nat} {cs : List Value} {t : TypeId} {op : Bool} (o : Own h j cs t op) (z : Int) (n : Nat) (hz : z.toNat = n) (hn : n < cs.length) : h.cell j (0 + z.toNat * 1) = some cs[n] := by
  subst hz
  rw [Nat.mul_one, Nat.zero_add]
  exact H.cell_own o.2 hn
theorem Own.cell32 {h : H} {j : Nat} {l : List Nat} {t : TypeId} {op : Bool} (o : Own h j (u32s l) t op) (z : Int) (n : Nat) (hz : z.toNat = n) (hn : n < l.length) : h.cell j (0 + z.toNat * 1) = some (.int .u32 (l[n] : Int)) := by
  rw [o.cell z n hz (by simpa using hn), u32s_get hn]
theorem Own.cell64 {h : H} {j : Nat} {l : List Nat} {t : TypeId} {op : Bool} (o : Own h j (i64s l) t op) (z : Int) (n : Nat) (hz : z.toNat = n) (hn : n < l.length) : h.cell j (0 + z.toNat * 1) = some (.int .i64 (l[n] : Int)) := by
  rw [o.cell z n hz (by simpa using hn), i64s_get hn]
theorem Own.cell8 {h : H} {j : Nat} {l : List UInt8} {t : TypeId} {op : Bool} (o : Own h j (u8s l) t op) (z : Int) (n : Nat) (hz : z.toNat = n) (hn : n < l.length) : h.cell j (0 + z.toNat * 1) = some (.int .u8 (l[n].toNat : Int)) := by
  rw [o.cell z n hz (by simpa using hn), u8s_get hn]
theorem Own.wr1 {h : H} {j : Nat} {cs : List Value} {t : TypeId} {op : Bool} (o : Own h j cs t op) (z : Int) (n : Nat) (v : Value) (hz : z.toNat = n) (hn : n < cs.length) :
    h.wr1 j (0 + z.toNat * 1) v = some (h.upd j (.cells (cs.set n v) t true op)) := by
  subst hz
  rw [Nat.mul_one, Nat.zero_add]
  exact H.wr1_own o.2 hn
theorem Own.upd {h : H} {j : Nat} {cs : List Value} {t : TypeId} {op : Bool} (o : Own h j cs t op) (cs' : List Value) : Own (h.upd j (.cells cs' t true op)) j cs' t op := ⟨o.1, H.get_upd _ _ _⟩
/-- A cell of one's own is written: the heap, and what stands there then. -/
theorem Own.set32 {h : H} {j : Nat} {l : List Nat} {t : TypeId} {op : Bool} (o : Own h j (u32s l) t op) (z : Int) (n : Nat) (y : Int) (d : Nat) (hz : z.toNat = n) (hn : n < l.length) (hy : y = (d : Int)) :
    ∃ h', h.wr1 j (0 + z.toNat * 1) (.int .u32 y) = some h' ∧ Own h' j (u32s (l.set n d)) t op ∧ (∀ h0, Ext h0 h → h0.next ≤ j → Ext h0 h') ∧ h'.next = h.next ∧ ∀ i, i ≠ j → h'.get i = h.get i := by
  subst hy
  refine ⟨_, o.wr1 z n _ hz (by simpa using hn), ?_, fun h0 e hj => e.upd hj _, rfl, fun i hi => H.get_upd_ne _ _ _ hi⟩
  rw [u32s_set]; exact o.upd _
theorem Own.set64 {h : H} {j : Nat} {l : List Nat} {t : TypeId} {op : Bool} (o : Own h j (i64s l) t op) (z : Int) (n : Nat) (y : Int) (d : Nat) (hz : z.toNat = n) (hn : n < l.length) (hy : y = (d : Int)) :
    ∃ h', h.wr1 j (0 + z.toNat * 1) (.int .i64 y) = some h' ∧ Own h' j (i64s (l.set n d)) t op ∧ (∀ h0, Ext h0 h → h0.next ≤ j → Ext h0 h') ∧ h'.next = h.next ∧ ∀ i, i ≠ j → h'.get i = h.get i := by
  subst hy
  refine ⟨_, o.wr1 z n _ hz (by simpa using hn), ?_, fun h0 e hj => e.upd hj _, rfl, fun i hi => H.get_upd_ne _ _ _ hi⟩
  rw [i64s_set]; exact o.upd _
theorem Own.set8 {h : H} {j : Nat} {l : List UInt8} {t : TypeId} {op : Bool} (o : Own h j (u8s l) t op) (z : Int) (n : Nat) (y : Int) (d : UInt8) (hz : z.toNat = n) (hn : n < l.length) (hy : y = (d.toNat : Int)) :
    ∃ h', h.wr1 j (0 + z.toNat * 1) (.int .u8 y) = some h' ∧ Own h' j (u8s (l.set n d)) t op ∧ (∀ h0, Ext h0 h → h0.next ≤ j → Ext h0 h') ∧ h'.next = h.next ∧ ∀ i, i ≠ j → h'.get i = h.get i := by
  subst hy
  refine ⟨_, o.wr1 z n _ hz (by simpa using hn), ?_, fun h0 e hj => e.upd hj _, rfl, fun i hi => H.get_upd_ne _ _ _ hi⟩
  rw [u8s_set]; exact o.upd _

/-- A list that grows by append: nil, or a block of one's own that is whole. -/
def Grow (t : TypeId) (h0 h : H) (b : Option Addr) (c : Nat) (cs : List Value) : Prop :=
  Ext h0 h ∧ ((b = none ∧ c = 0 ∧ cs = []) ∨ ∃ j, b = some ⟨j, 0, none⟩ ∧ c = cs.length ∧ h0.next ≤ j ∧ Own h j cs t true)
theorem Grow.nil (t : TypeId) {h0 h : H} (e : Ext h0 h) : Grow t h0 h none 0 [] := ⟨e, .inl ⟨rfl, rfl, rfl⟩⟩
theorem Grow.e {t : TypeId} {h0 h : H} {b : Option Addr} {c : Nat} {cs : List Value} (g : Grow t h0 h b c cs) : Ext h0 h := g.1
theorem Grow.cap {t : TypeId} {h0 h : H} {b : Option Addr} {c : Nat} {cs : List Value} (g : Grow t h0 h b c cs) : c = cs.length := by
  rcases g.2 with ⟨_, rfl, rfl⟩ | ⟨j, _, hc, _⟩
  · rfl
  · exact hc
theorem Grow.sl {t : TypeId} {h0 h : H} {b : Option Addr} {c : Nat} {cs : List Value} (g : Grow t h0 h b c cs) : Sl h b c cs := by
  rcases g.2 with ⟨rfl, rfl, rfl⟩ | ⟨j, rfl, rfl, hj, o⟩
  · exact Sl.nil h
  · exact o.sl (Nat.le_refl _)
theorem Grow.ext {t : TypeId} {h0 h h' : H} {b : Option Addr} {c : Nat} {cs : List Value} (g : Grow t h0 h b c cs) (e : Ext h h') : Grow t h0 h' b c cs :=
  ⟨g.1.trans e, by
    rcases g.2 with x | ⟨j, hb, hc, hj, o⟩
    · exact .inl x
    · exact .inr ⟨j, hb, hc, hj, o.ext e⟩⟩
/-- What an append takes, and what stands then. -/
theorem Grow.row {t : TypeId} {h0 h : H} {b : Option Addr} {c m : Nat} {cs : List Value} (g : Grow t h0 h b c cs) (hm : m = cs.length) :
    ∃ p, takeRow h t 1 m c b = some p ∧ p.1 = cs ∧ p.2.next = h.next ∧ (∀ i, h0.next ≤ i → some (⟨i, 0, none⟩ : Addr) ≠ b → p.2.get i = h.get i) ∧
      ∀ ys, ∀ k, k = cs.length + ys.length → Grow t h0 (p.2.push (.cells (p.1 ++ ys) t true true)) (some ⟨h.next, 0, none⟩) k (cs ++ ys) := by
  subst hm
  rcases g.2 with ⟨rfl, rfl, rfl⟩ | ⟨j, rfl, rfl, hj, o⟩
  · refine ⟨([], h), rfl, rfl, rfl, fun i _ _ => rfl, fun ys k hk => ⟨g.1.push _, .inr ⟨h.next, rfl, by simpa using hk, g.1.1, ?_⟩⟩⟩
    exact Own.push _ _ _
  · refine ⟨(cs, h.kill j), ?_, rfl, rfl, fun i _ hi => H.get_kill_ne _ _ (by rintro rfl; exact hi rfl), fun ys k hk => ⟨(g.1.kill hj).push _, .inr ⟨h.next, rfl, by simpa using hk, g.1.1, ?_⟩⟩⟩
    · simp only [takeRow, o.2]
      simp
    · exact ⟨by simp [H.push, H.kill], by simp [H.push, H.kill]⟩
theorem src_lit (h : H) (v : Value) (t : TypeId) : srcCells (h.push (.cells [v] t true false)) 1 1 (.slice (some ⟨h.next, 0, none⟩) 1 1) = some [v] := by
  simp [srcCells, H.rd, H.push]
/-- One element is put behind: a block of one element is made, and taken. -/
theorem Grow.one {t : TypeId} {h0 h : H} {b : Option Addr} {c m : Nat} {cs : List Value} (g : Grow t h0 h b c cs) (hm : m = cs.length) (v : Value) :
    ∃ p, takeRow (h.push (.cells [v] t true false)) t 1 m c b = some p ∧ p.1 = cs ∧ Grow t h0 (p.2.push (.cells (p.1 ++ [v]) t true true)) (some ⟨h.next + 1, 0, none⟩) (m + 1) (cs ++ [v]) := by
  obtain ⟨p, hp, h1, hn, _, hg⟩ := (g.ext ((Ext.refl _).push (.cells [v] t true false))).row hm
  exact ⟨p, hp, h1, hg [v] _ (by simp [hm])⟩
theorem flat_u8 (n : Nat) : (List.replicate n [Value.int .u8 0]).flatten = u8s (List.replicate n 0) := by
  induction n with
  | zero => rfl
  | succ n ih => rw [List.replicate_succ, List.flatten_cons, ih, List.replicate_succ]; rfl
theorem flat_u32 (n : Nat) : (List.replicate n [Value.int .u32 0]).flatten = u32s (List.replicate n 0) := by
  induction n with
  | zero => rfl
  | succ n ih => rw [List.replicate_succ, List.flatten_cons, ih, List.replicate_succ]; rfl
theorem flat_i64 (n : Nat) : (List.replicate n [Value.int .i64 0]).flatten = i64s (List.replicate n 0) := by
  induction n with
  | zero => rfl
  | succ n ih => rw [List.replicate_succ, List.flatten_cons, ih, List.replicate_succ]; rfl
theorem Own.rd {h : H} {j : Nat} {cs : List Value} {t : TypeId} {op : Bool} (o : Own h j cs t op) (k n : Nat) (hk : k + n ≤ cs.length) : h.rd j k n = some ((cs.drop k).take n) := H.rd_own o.2 hk
/-- All of a block of one's own is written over. -/
theorem Own.wr0 {h : H} {j : Nat} {cs : List Value} {t : TypeId} {op : Bool} (o : Own h j cs t op) (vs : List Value) (hl : vs.length = cs.length) :
    ∃ h', h.wr j 0 vs = some h' ∧ Own h' j vs t op ∧ (∀ h0, Ext h0 h → h0.next ≤ j → Ext h0 h') ∧ h'.next = h.next ∧ ∀ i, i ≠ j → h'.get i = h.get i := by
  refine ⟨h.upd j (.cells vs t true op), ?_, o.upd vs, fun h0 e hj => e.upd hj _, rfl, fun i hi => H.get_upd_ne _ _ _ hi⟩
  simp only [H.wr, o.2]
  rw [if_pos (by omega)]
  have : splice cs 0 vs = vs := by
    unfold splice
    rw [List.take_zero, List.nil_append, List.drop_eq_nil_of_le (by omega), List.append_nil]
  rw [this]
theorem Ext.other {h0 h h' : H} {j : Nat} (e : Ext h0 h) (hj : h0.next ≤ j) (hn : h'.next = h.next) (hg : ∀ k, k ≠ j → h'.get k = h.get k) : Ext h0 h' :=
  ⟨by rw [hn]; exact e.1, fun i hi => by rw [hg i (by omega)]; exact e.2 i hi⟩
/-- A slice stays where a block that is not its own is written. -/
theorem Sl.upd {h h' : H} {j : Nat} {b : Option Addr} {c : Nat} {cs : List Value} (s : Sl h b c cs) (hn : h'.next = h.next) (hg : ∀ k, k ≠ j → h'.get k = h.get k) (hb : ∀ i o, b = some ⟨i, o, none⟩ → i ≠ j) : Sl h' b c cs := by
  rcases s with s | ⟨i, o, all, t, own, opn, hbb, hc, hi, hgg, hl, ht⟩
  · exact .inl s
  · exact .inr ⟨i, o, all, t, own, opn, hbb, hc, by rw [hn]; exact hi, by rw [hg i (hb i o hbb)]; exact hgg, hl, ht⟩
theorem Own.wr_nil {h : H} {j : Nat} {cs : List Value} {t : TypeId} {op : Bool} (o : Own h j cs t op) (k : Nat) (hk : k ≤ cs.length) :
    ∃ h', h.wr j k [] = some h' ∧ Own h' j cs t op ∧ (∀ h0, Ext h0 h → h0.next ≤ j → Ext h0 h') ∧ h'.next = h.next ∧ ∀ i, i ≠ j → h'.get i = h.get i := by
  refine ⟨h.upd j (.cells cs t true op), ?_, o.upd cs, fun h0 e hj => e.upd hj _, rfl, fun i hi => H.get_upd_ne _ _ _ hi⟩
  simp only [H.wr, o.2]
  rw [if_pos (by simpa using hk)]
  have : splice cs k [] = cs := by simp [splice]
  rw [this]
theorem Own.take_closed {h : H} {j : Nat} {cs : List Value} {t : TypeId} (o : Own h j cs t false) (n c : Nat) (hn : n = cs.length) : takeRow h t 1 n c (some ⟨j, 0, none⟩) = some (cs, h) := by
  subst hn
  simp [takeRow, o.2]
/-- A part of a block of one's own is written over. -/
theorem Own.wrm {h : H} {j : Nat} {cs : List Value} {t : TypeId} {op : Bool} (o : Own h j cs t op) (k : Nat) (vs : List Value) (hl : k + vs.length ≤ cs.length) :
    ∃ h', h.wr j k vs = some h' ∧ Own h' j (cs.take k ++ vs ++ cs.drop (k + vs.length)) t op ∧ (∀ h0, Ext h0 h → h0.next ≤ j → Ext h0 h') ∧ h'.next = h.next ∧ ∀ i, i ≠ j → h'.get i = h.get i := by
  refine ⟨h.upd j (.cells (splice cs k vs) t true op), ?_, o.upd _, fun h0 e hj => e.upd hj _, rfl, fun i hi => H.get_upd_ne _ _ _ hi⟩
  simp only [H.wr, o.2]
  rw [if_pos hl]
theorem Own.tag {h : H} {j : Nat} {cs : List Value} {t : TypeId} {op : Bool} (o : Own h j cs t op) : tagAt h j t := ⟨cs, t, true, op, o.2, fun _ => rfl⟩
/-- A block of one's own stays where another one is written. -/
theorem Own.other {h h' : H} {j i : Nat} {cs : List Value} {t : TypeId} {op : Bool} (o : Own h j cs t op) (hn : h'.next = h.next) (hg : ∀ k, k ≠ i → h'.get k = h.get k) (hij : j ≠ i) : Own h' j cs t op :=
  ⟨by rw [hn]; exact o.1, by rw [hg j hij]; exact o.2⟩
theorem Own.src {h : H} {j : Nat} {cs : List Value} {t : TypeId} {op : Bool} (o : Own h j cs t op) (z : Int) (k m c n n' : Nat) (hz : z.toNat = k) (hk : k + n ≤ cs.length) (hn : n' = n) :
    srcCells h 1 n' (.slice (some ⟨j, 0 + z.toNat * 1, none⟩) m c) = some ((cs.drop k).take n) := by
  subst hz hn
  simp only [srcCells]
  rw [Nat.zero_add, Nat.mul_one, Nat.mul_one]
  exact o.rd _ _ hk
end Go.Proofs.YtemgddekbdifeaaGreat.Am
