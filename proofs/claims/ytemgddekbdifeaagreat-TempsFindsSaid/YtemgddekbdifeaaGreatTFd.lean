/- Fixed points of temperature: what is found, and where nothing is. -/
import Derived.Test.YtemgddekbdifeaaGreatMt
import Derived.Test.YtemgddekbdifeaaGreatTc0
import Derived.Test.YtemgddekbdifeaaGreatTc1
import Derived.Test.YtemgddekbdifeaaGreatTc2
import Derived.Test.YtemgddekbdifeaaGreatTc3
import Derived.Test.YtemgddekbdifeaaGreatTc4
import Derived.Test.YtemgddekbdifeaaGreatTc5
import Derived.Test.YtemgddekbdifeaaGreatTc6
import Derived.Test.YtemgddekbdifeaaGreatTc7
import Derived.Test.YtemgddekbdifeaaGreatTd0
import Derived.Test.YtemgddekbdifeaaGreatTd1
import Derived.Test.YtemgddekbdifeaaGreatTd2
import Derived.Test.YtemgddekbdifeaaGreatTd3
import Derived.KernelRfl
set_option linter.unusedVariables false
set_option linter.unusedSimpArgs false
set_option maxRecDepth 1000000
namespace Go.Proofs.YtemgddekbdifeaaGreat.Am

/-- A unit: its name, its symbol, the thirteen cells behind them. -/
structure Unt where
  n : List UInt8
  s : List UInt8
  r : List Value

def Unt.cells (u : Unt) : List Value := .string (bs u.n) :: .string (bs u.s) :: u.r
def flatU : List Unt → List Value
  | [] => []
  | u :: U => u.cells ++ flatU U
def Unt.hit (u : Unt) (s : List UInt8) : Bool := u.n == s || u.s == s
/-- The cells of no unit. -/
def noU : List Value := [.string ⟨#[]⟩, .string ⟨#[]⟩, .int .i64 0, .int .i64 0, .int .i64 0, .int .i64 0, .int .i64 0, .int .i64 0, .int .i64 0, .int .i64 0, .string ⟨#[]⟩, .string ⟨#[]⟩, .string ⟨#[]⟩, .string ⟨#[]⟩, .int .i64 0]
def foundU (U : List Unt) (s : List UInt8) : Value :=
  match U.find? (fun u => u.hit s) with
  | some u => .tuple #[.agg u.cells.toArray, .bool true]
  | none => .tuple #[.agg noU.toArray, .bool false]

def okU (U : List Unt) : Prop := ∀ u ∈ U, u.r.length = 13
theorem Unt.cells_len {u : Unt} (h : u.r.length = 13) : u.cells.length = 15 := by simp [Unt.cells, h]
theorem flatU_len : ∀ {U : List Unt}, okU U → (flatU U).length = 15 * U.length
  | [], _ => rfl
  | u :: U, h => by
    have h1 := flatU_len (U := U) fun v hv => h v (List.mem_cons_of_mem _ hv)
    have h2 := Unt.cells_len (h u (List.mem_cons_self ..))
    simp only [flatU, List.length_append, h1, h2, List.length_cons]; omega
theorem flatU_drop : ∀ {U : List Unt} (k : Nat), okU U → (flatU U).drop (15 * k) = flatU (U.drop k)
  | U, 0, _ => by simp
  | [], k + 1, _ => by simp [flatU]
  | u :: U, k + 1, h => by
    have h1 := flatU_drop (U := U) k fun v hv => h v (List.mem_cons_of_mem _ hv)
    have h2 := Unt.cells_len (h u (List.mem_cons_self ..))
    have : 15 * (k + 1) = u.cells.length + 15 * k := by omega
    simp only [flatU, List.drop_succ_cons]
    rw [this, List.drop_append, List.drop_eq_nil_of_le (by omega), List.nil_append, Nat.add_sub_cancel_left, h1]
theorem flatU_at {U : List Unt} (hU : okU U) {k : Nat} (hk : k < U.length) : ((flatU U).drop (15 * k)).take 15 = U[k].cells := by
  rw [flatU_drop k hU, List.drop_eq_getElem_cons hk, flatU, List.take_append]
  have h2 := Unt.cells_len (hU _ (List.getElem_mem hk))
  rw [List.take_of_length_le (by omega), h2]
  simp
theorem flatU_get {U : List Unt} (hU : okU U) {k j : Nat} (hk : k < U.length) (hj : j < 15) : (flatU U)[15 * k + j]? = U[k].cells[j]? := by
  rw [← flatU_at hU hk, List.getElem?_take, if_pos hj, List.getElem?_drop]

/-- A slice of units that begins where its block begins. -/
def SlU (h : H) (i c : Nat) (U : List Unt) : Prop := ∃ t own op, i < h.next ∧ h.get i = some (.cells (flatU U) t own op) ∧ U.length ≤ c ∧ okU U
theorem SlU.ext {h h' : H} {i c : Nat} {U : List Unt} (s : SlU h i c U) (e : Ext h h') : SlU h' i c U := by
  obtain ⟨t, own, op, hi, hg, hc, hU⟩ := s
  exact ⟨t, own, op, Nat.lt_of_lt_of_le hi e.1, by rw [e.2 i hi]; exact hg, hc, hU⟩
theorem SlU.rd {h h' : H} {i c : Nat} {U : List Unt} (s : SlU h i c U) (e : Ext h h') (z : Int) (k : Nat) (hz : z.toNat = k) (hk : k < U.length) : h'.rd i (0 + z.toNat * 15) 15 = some U[k].cells := by
  obtain ⟨t, own, op, hi, hg, hc, hU⟩ := s
  subst hz
  rw [H.rd_own (by rw [e.2 i hi]; exact hg) (by rw [flatU_len hU]; omega)]
  rw [show 0 + z.toNat * 15 = 15 * z.toNat by omega, flatU_at hU hk]
theorem SlU.cell {h h' : H} {i c : Nat} {U : List Unt} (s : SlU h i c U) (e : Ext h h') (z : Int) (k j : Nat) (hz : z.toNat = k) (hk : k < U.length) (hj : j < 15) : h'.cell i (0 + z.toNat * 15 + j) = U[k].cells[j]? := by
  obtain ⟨t, own, op, hi, hg, hc, hU⟩ := s
  subst hz
  simp only [H.cell, e.2 i hi, hg]
  rw [show 0 + z.toNat * 15 + j = 15 * z.toNat + j by omega, flatU_get hU hk hj]
theorem SlU.cell0 {h h' : H} {i c : Nat} {U : List Unt} (s : SlU h i c U) (e : Ext h h') (z : Int) (k : Nat) (hz : z.toNat = k) (hk : k < U.length) : h'.cell i (0 + z.toNat * 15 + 0) = some (.string (bs U[k].n)) := by
  rw [s.cell e z k 0 hz hk (by omega)]; rfl
theorem SlU.cell1 {h h' : H} {i c : Nat} {U : List Unt} (s : SlU h i c U) (e : Ext h h') (z : Int) (k : Nat) (hz : z.toNat = k) (hk : k < U.length) : h'.cell i (0 + z.toNat * 15 + 1) = some (.string (bs U[k].s)) := by
  rw [s.cell e z k 1 hz hk (by omega)]; rfl
theorem SlU.cap {h : H} {i c : Nat} {U : List Unt} (s : SlU h i c U) : U.length ≤ c := by obtain ⟨t, own, op, hi, hg, hc, hU⟩ := s; exact hc
theorem SlU.lt {h : H} {i c : Nat} {U : List Unt} (s : SlU h i c U) : i < h.next := by obtain ⟨t, own, op, hi, hg, hc, hU⟩ := s; exact hi
theorem SlU.ok {h : H} {i c : Nat} {U : List Unt} (s : SlU h i c U) : okU U := by obtain ⟨t, own, op, hi, hg, hc, hU⟩ := s; exact hU
theorem SlU.push (h : H) {U : List Unt} (hU : okU U) (t : TypeId) (op : Bool) {c : Nat} (hc : U.length ≤ c) : SlU (h.push (.cells (flatU U) t true op)) h.next c U :=
  ⟨t, true, op, by simp [H.push], H.get_push _ _, hc, hU⟩

/-- A call that answers a list of units, new. -/
def Units (C : FuncId → Option AFn) (base : Cl) (g : FuncId) (U : List Unt) : Prop :=
  ∀ m h K, (∀ h' i c, Ext h h' → SlU h' i c U → K (.slice (some ⟨i, 0, none⟩) U.length c) h') → acall C base (m + 1) g [] h K
/-! ### Finding -/
theorem find_at {U : List Unt} {s : List UInt8} : ∀ {k : Nat}, (∀ m (hm : m < U.length), m < k → U[m].hit s = false) → ∀ (hk : k < U.length), U[k].hit s = true → U.find? (fun u => u.hit s) = some U[k] := by
  intro k hlt hk hh
  rw [List.find?_eq_some_iff_getElem]
  refine ⟨hh, k, hk, rfl, fun j hj => ?_⟩
  rw [hlt j (by omega) hj]; rfl
theorem find_none {U : List Unt} {s : List UInt8} (h : ∀ m (hm : m < U.length), U[m].hit s = false) : U.find? (fun u => u.hit s) = none := by
  rw [List.find?_eq_none]
  intro u hu
  obtain ⟨m, hm, rfl⟩ := List.getElem_of_mem hu
  rw [h m hm]; simp
theorem foundU_at {U : List Unt} {s : List UInt8} {k : Nat} (hlt : ∀ m (hm : m < U.length), m < k → U[m].hit s = false) (hk : k < U.length) (hh : U[k].hit s = true) : foundU U s = .tuple #[.agg U[k].cells.toArray, .bool true] := by
  unfold foundU; rw [find_at hlt hk hh]
theorem foundU_none {U : List Unt} {s : List UInt8} (h : ∀ m (hm : m < U.length), U[m].hit s = false) : foundU U s = .tuple #[.agg noU.toArray, .bool false] := by
  unfold foundU; rw [find_none h]
theorem Own.rdAll {h : H} {j : Nat} {cs : List Value} {t : TypeId} {op : Bool} (o : Own h j cs t op) {n : Nat} (hn : cs.length = n) : h.rd j 0 n = some cs := by
  rw [o.rd 0 n (by omega)]; simp [← hn]
theorem res_cellN {f : Fr} {h : H} {a n t i : Nat} {cs : List Value} (hp : f a = .pointer (some ⟨i, 0, none⟩)) (hr : h.rd i 0 n = some cs) :
    resAll f h [.cellN a n, .tmp t] = some [.agg cs.toArray, f t] := by
  simp [resAll, resOne, hp, hr]
theorem s_eq {a b : List UInt8} : ((bs a).toList == (bs b).toList) = (a == b) := by rw [bs_toList, bs_toList]
/-- Of what kind cells are. -/
def kind1 : Leaf → Value → Bool
  | .n _, .int .i64 _ => true
  | .b _, .bool _ => true
  | .s _, .string _ => true
  | _, _ => false
def kinds (cs : List Value) : List Leaf → Bool
  | [] => true
  | l :: r => (match cs[l.off]? with | some v => kind1 l v | none => false) && kinds cs r
theorem bytes_self (s : ByteArray) : (s == s) = true := by
  show ByteArray.beq s s = true
  unfold ByteArray.beq
  cases s with | mk d => simp
theorem eqL_self {cs : List Value} : ∀ {l : List Leaf}, kinds cs l = true → eqL cs cs l = some true
  | [], _ => rfl
  | l :: r, h => by
    simp only [kinds, Bool.and_eq_true] at h
    obtain ⟨h1, h2⟩ := h
    simp only [eqL]
    cases hv : cs[l.off]? with
    | none => rw [hv] at h1; cases h1
    | some v =>
      rw [hv] at h1
      simp only at h1 ⊢
      have : leafEq l v v = some true := by
        unfold kind1 at h1
        split at h1 <;> first | (simp [leafEq]; done) | (simp only [leafEq]; rw [bytes_self]; done) | cases h1
      rw [this, eqL_self h2]
      rfl
def L15 : List Leaf := [.s 0, .s 1, .n 2, .n 3, .n 4, .n 5, .n 6, .n 7, .n 8, .n 9, .s 10, .s 11, .s 12, .s 13, .n 14]
/-- Units as they should be. -/
def wellU (U : List Unt) : Bool := U.all fun u => Nat.beq u.r.length 13 && kinds u.cells L15
theorem wellU_ok {U : List Unt} (h : wellU U = true) : okU U := fun u hu => by
  have := List.all_eq_true.1 h u hu
  simp only [Bool.and_eq_true] at this
  exact Nat.eq_of_beq_eq_true this.1
theorem foundU_form {U : List Unt} (h : wellU U = true) (s : List UInt8) : ∃ cs b, foundU U s = .tuple #[.agg cs.toArray, .bool b] ∧ cs.length = 15 ∧ kinds cs L15 = true := by
  unfold foundU
  split
  · rename_i u hu
    have hm := List.mem_of_find?_eq_some hu
    have := List.all_eq_true.1 h u hm
    simp only [Bool.and_eq_true] at this
    exact ⟨_, _, rfl, Unt.cells_len (wellU_ok h u hm), this.2⟩
  · exact ⟨_, _, rfl, rfl, rfl⟩
end Go.Proofs.YtemgddekbdifeaaGreat.Am

namespace Go.Proofs.YtemgddekbdifeaaGreat.Am
theorem units_known {C : FuncId → Option AFn} {L : List Entry} {g : FuncId} {U : List Unt} {t : TypeId} {op : Bool} {c : Nat} {e : Entry} (hg : C g = none) (he : e ∈ L)
    (hee : e = ⟨g, [], .sl (flatU U) t op U.length c⟩) (hc : U.length ≤ c) (hU : wellU U = true) : Units C (baseK L) g U := by
  intro m h K hk
  simp only [acall, hg]
  subst hee
  exact ⟨_, he, rfl, rfl, hk _ _ _ ((Ext.refl h).push _) (SlU.push h (wellU_ok hU) t op hc)⟩
end Go.Proofs.YtemgddekbdifeaaGreat.Am

namespace Go.Proofs.YtemgddekbdifeaaGreat.Am

/-- The document's own Find. -/
theorem refFind_ok {C : FuncId → Option AFn} {base : Cl} {n : Nat} (hf : C 20 = some F20) {h : H} {i c : Nat} {U : List Unt} {s : List UInt8} {K : Value → H → Prop}
    (sl : SlU h i c U) (hl : U.length ≤ 1000) (hk : ∀ h', Ext h h' → K (foundU U s) h') :
    acall C base (n + 1) 20 [.slice (some ⟨i, 0, none⟩) U.length c, .string (bs s)] h K := by
  refine acall_of hf ?_
  (conv => whnf)
  have e0 := (Ext.refl h).push (.cells noU 39 true false)
  have o0 := Own.push (h := h) noU 39 false
  refine loop_upd (X := Nat) (fun k => [(0, .slice (some ⟨i, 0, none⟩) U.length c), (1, .string (bs s)), (4, .pointer (some ⟨h.next, 0, none⟩)), (6, .int .i64 (k : Int))])
    (fun k h' => Ext h h' ∧ Own h' h.next noU 39 false ∧ k ≤ U.length ∧ ∀ m (hm : m < U.length), m < k → U[m].hit s = false) (fun k => U.length - k) ?_ 0 _ _ ⟨rfl, rfl, rfl, rfl, trivial⟩ ⟨e0, o0, Nat.zero_le _, fun m _ hm => absurd hm (Nat.not_lt_zero _)⟩
  intro m k f h1 ⟨e1, o1, hkl, hno⟩ ih
  (conv => whnf)
  (refine obool_intro (fun hlt => ?_) (fun hlt => ?_))
  · have hk1 : k < U.length := by have := of_decide_eq_true hlt; omega
    have hz : ((k : Nat) : Int).toNat = k := by simp
    (conv => whnf)
    refine ⟨⟨by omega, by omega⟩, ?_⟩
    (conv => whnf)
    refine ⟨_, sl.cell0 e1 (k : Int) k hz hk1, ?_⟩
    (conv => whnf)
    (refine obool_intro (fun hq => ?_) (fun hq => ?_))
    · repeat ((conv => whnf); refine obool_t hq ?_)
      (conv => whnf)
      refine ⟨⟨by omega, by omega⟩, ?_⟩
      (conv => whnf)
      refine ⟨_, sl.rd e1 (k : Int) k hz hk1, ?_⟩
      obtain ⟨h2, hw2, o2, f2, n2, g2⟩ := o1.wr0 U[k].cells (Unt.cells_len (sl.ok _ (List.getElem_mem hk1)))
      (dsimp only [force, steps]); (dsimp only [stepW, AOp.strict]); (dsimp only [sst]); (conv => whnf)
      refine ⟨_, rfl, Unt.cells_len (sl.ok _ (List.getElem_mem hk1)), h2, hw2, ?_⟩
      (conv => whnf)
      refine ⟨_, res_cellN rfl (o2.rdAll (Unt.cells_len (sl.ok _ (List.getElem_mem hk1)))), ?_⟩
      have := hk h2 (f2 h e1 (Nat.le_refl _))
      rw [foundU_at hno hk1 (by rw [s_eq] at hq; simp [Unt.hit, hq])] at this
      exact this
    · repeat ((conv => whnf); refine obool_f hq ?_)
      (conv => whnf)
      refine ⟨⟨by omega, by omega⟩, ?_⟩
      repeat ((conv => whnf); refine obool_f hq ?_)
      (conv => whnf)
      refine ⟨_, sl.cell1 e1 (k : Int) k hz hk1, ?_⟩
      repeat ((conv => whnf); refine obool_f hq ?_)
      (conv => whnf)
      (refine obool_intro (fun hq2 => ?_) (fun hq2 => ?_))
      · (conv => whnf)
        refine ⟨⟨by omega, by omega⟩, ?_⟩
        (conv => whnf)
        refine ⟨_, sl.rd e1 (k : Int) k hz hk1, ?_⟩
        obtain ⟨h2, hw2, o2, f2, n2, g2⟩ := o1.wr0 U[k].cells (Unt.cells_len (sl.ok _ (List.getElem_mem hk1)))
        (dsimp only [force, steps]); (dsimp only [stepW, AOp.strict]); (dsimp only [sst]); (conv => whnf)
        refine ⟨_, rfl, Unt.cells_len (sl.ok _ (List.getElem_mem hk1)), h2, hw2, ?_⟩
        (conv => whnf)
        refine ⟨_, res_cellN rfl (o2.rdAll (Unt.cells_len (sl.ok _ (List.getElem_mem hk1)))), ?_⟩
        have := hk h2 (f2 h e1 (Nat.le_refl _))
        rw [foundU_at hno hk1 (by rw [s_eq] at hq2; simp [Unt.hit, hq2])] at this
        exact this
      · (conv => whnf)
        refine ar_i64e (k + 1) (by omega) (by omega) ?_
        (conv => whnf)
        refine ih (k + 1) _ _ (by omega) ⟨rfl, rfl, rfl, rfl, trivial⟩ ⟨e1, o1, by omega, fun m hm hlt1 => ?_⟩
        by_cases hmk : m = k
        · subst hmk
          rw [s_eq] at hq hq2
          simp only [Unt.hit, hq, hq2, Bool.or_self]
        · exact hno m hm (by omega)
  · (conv => whnf)
    refine ⟨_, rfl, ?_⟩
    obtain ⟨h2, hw2, o2, f2, n2, g2⟩ := o1.wr0 noU rfl
    (dsimp only [force, steps]); (dsimp only [stepW, AOp.strict]); (dsimp only [sst]); (conv => whnf)
    refine ⟨_, rfl, rfl, h2, hw2, ?_⟩
    (conv => whnf)
    refine ⟨_, res_cellN rfl (o2.rdAll rfl), ?_⟩
    have := hk h2 (f2 h e1 (Nat.le_refl _))
    have hge : ¬ k < U.length := by have := of_decide_eq_false hlt; omega
    rw [foundU_none (fun m hm => hno m hm (by omega))] at this
    exact this
end Go.Proofs.YtemgddekbdifeaaGreat.Am

namespace Go.Proofs.YtemgddekbdifeaaGreat.Am
theorem tempsFind_ok {C : FuncId → Option AFn} {base : Cl} {n : Nat} (hf : C 35 = some F35) {U : List Unt} (hU : Units C base 109 U)
    {h : H} {s : List UInt8} {K : Value → H → Prop} (hl : U.length ≤ 1000) (hk : ∀ h', Ext h h' → K (foundU U s) h') :
    acall C base (n + 2) 35 [.string (bs s)] h K := by
  refine acall_of hf ?_
  have e0 := ((Ext.refl h).push (.cells noU 39 true false))
  have o0 := Own.push (h := h) noU 39 false
  (conv => whnf)
  refine hU _ _ _ (fun h0 i c e1 sl => ?_)
  (conv => whnf)
  refine loop_upd (X := Nat) (fun k => [(0, .string (bs s)), (2, .pointer (some ⟨h.next, 0, none⟩)), (6, .slice (some ⟨i, 0, none⟩) U.length c), (7, .int .i64 (U.length : Int)), (8, .int .i64 (k : Int))])
    (fun k h' => Ext h h' ∧ Ext h0 h' ∧ Own h' h.next noU 39 false ∧ k ≤ U.length ∧ ∀ m (hm : m < U.length), m < k → U[m].hit s = false) (fun k => U.length - k) ?_ 0 _ _ ⟨rfl, rfl, rfl, rfl, rfl, trivial⟩
    ⟨e0.trans e1, Ext.refl _, o0.ext e1, Nat.zero_le _, fun m _ hm => absurd hm (Nat.not_lt_zero _)⟩
  intro m k f h1 ⟨e2, e3, o1, hkl, hno⟩ ih
  (conv => whnf)
  (refine obool_intro (fun hlt => ?_) (fun hlt => ?_))
  · have hk1 : k < U.length := by have := of_decide_eq_true hlt; omega
    have hz : ((k : Nat) : Int).toNat = k := by simp
    have hlen : U[k].cells.length = 15 := Unt.cells_len (sl.ok _ (List.getElem_mem hk1))
    (conv => whnf)
    refine ⟨⟨by omega, by omega⟩, ?_⟩
    (conv => whnf)
    refine ⟨_, sl.rd e3 (k : Int) k hz hk1, ?_⟩
    obtain ⟨h2, hw2, o3, f2, n2, g2⟩ := (Own.push (h := h1) noU 39 false).wr0 U[k].cells hlen
    have x1 : Ext h1 h2 := f2 h1 ((Ext.refl _).push _) (Nat.le_refl _)
    have c0 : h2.cell h1.next (0 + 0) = some (.string (bs U[k].n)) := by simp only [H.cell, o3.2]; rfl
    have c1 : h2.cell h1.next (0 + 1) = some (.string (bs U[k].s)) := by simp only [H.cell, o3.2]; rfl
    (conv => whnf)
    refine ⟨_, rfl, hlen, h2, hw2, ?_⟩
    (conv => whnf)
    refine ⟨_, c0, ?_⟩
    (conv => whnf)
    (refine obool_intro (fun hq => ?_) (fun hq => ?_))
    · (conv => whnf)
      refine ⟨_, o3.rdAll hlen, ?_⟩
      obtain ⟨h4, hw4, o4, f4, n4, g4⟩ := (o1.ext x1).wr0 U[k].cells hlen
      (conv => whnf)
      refine ⟨_, rfl, hlen, h4, hw4, ?_⟩
      (conv => whnf)
      refine ⟨_, res_cellN rfl (o4.rdAll hlen), ?_⟩
      have := hk h4 (f4 h (e2.trans x1) (Nat.le_refl _))
      rw [foundU_at hno hk1 (by rw [s_eq] at hq; simp [Unt.hit, hq])] at this
      exact this
    · (conv => whnf)
      refine ⟨_, c1, ?_⟩
      (conv => whnf)
      (refine obool_intro (fun hq2 => ?_) (fun hq2 => ?_))
      · (conv => whnf)
        refine ⟨_, o3.rdAll hlen, ?_⟩
        obtain ⟨h4, hw4, o4, f4, n4, g4⟩ := (o1.ext x1).wr0 U[k].cells hlen
        (conv => whnf)
        refine ⟨_, rfl, hlen, h4, hw4, ?_⟩
        (conv => whnf)
        refine ⟨_, res_cellN rfl (o4.rdAll hlen), ?_⟩
        have := hk h4 (f4 h (e2.trans x1) (Nat.le_refl _))
        rw [foundU_at hno hk1 (by rw [s_eq] at hq2; simp [Unt.hit, hq2])] at this
        exact this
      · clear c0 c1 hw2 n2 g2
        (conv => whnf)
        refine ar_i64e (k + 1) (by omega) (by omega) ?_
        (conv => whnf)
        refine ih (k + 1) _ _ (by omega) ⟨rfl, rfl, rfl, rfl, rfl, trivial⟩ ⟨e2.trans x1, e3.trans x1, o1.ext x1, by omega, fun m hm hlt1 => ?_⟩
        by_cases hmk : m = k
        · subst hmk
          rw [s_eq] at hq hq2
          simp only [Unt.hit, hq, hq2, Bool.or_self]
        · exact hno m hm (by omega)
  · (conv => whnf)
    refine ⟨_, rfl, ?_⟩
    obtain ⟨h2, hw2, o3, f2, n2, g2⟩ := o1.wr0 noU rfl
    (conv => whnf)
    refine ⟨_, rfl, rfl, h2, hw2, ?_⟩
    (conv => whnf)
    refine ⟨_, res_cellN rfl (o3.rdAll rfl), ?_⟩
    have := hk h2 (f2 h e2 (Nat.le_refl _))
    have hge : ¬ k < U.length := by have := of_decide_eq_false hlt; omega
    rw [foundU_none (fun m hm => hno m hm (by omega))] at this
    exact this
end Go.Proofs.YtemgddekbdifeaaGreat.Am

namespace Go.Proofs.YtemgddekbdifeaaGreat.Am
theorem known_call {C : FuncId → Option AFn} {L : List Entry} {n g : Nat} {args : List Value} {h : H} {K : Value → H → Prop} (r : Res) (hg : C g = none) (he : (⟨g, args, r⟩ : Entry) ∈ L) (hk : r.run h K) : acall C (baseK L) (n + 1) g args h K := by
  simp only [acall, hg]
  exact ⟨_, he, rfl, rfl, hk⟩
theorem str_eqF {a b : List UInt8} (h : a ≠ b) : ((bs a).toList == (bs b).toList) = false := by rw [s_eq]; exact beq_false_of_ne h
theorem str_eqT {a b : List UInt8} (h : a = b) : ((bs a).toList == (bs b).toList) = true := by rw [s_eq, h]; exact beq_self_eq_true _
theorem str_neT {a b : List UInt8} (h : a ≠ b) : (!((bs a).toList == (bs b).toList)) = true := by rw [str_eqF h]; rfl
theorem str_neF {a b : List UInt8} (h : a = b) : (!((bs a).toList == (bs b).toList)) = false := by rw [str_eqT h]; rfl
/-- The unit of heat is found by its symbol. -/
def Kel (C : FuncId → Option AFn) (base : Cl) (u : Unt) : Prop := ∀ m h K, K (.tuple #[.agg u.cells.toArray, .bool true]) h → acall C base (m + 1) 128 [.string (bs [75])] h K

theorem of_none {C : FuncId → Option AFn} {base : Cl} {n : Nat} (hf : C 95 = some F95) (hff : C 35 = some F35) {U : List Unt} (hU : Units C base 109 U) (hl : U.length ≤ 1000)
    {u : Unt} (hu : u.r.length = 13) (hK : Kel C base u) {s : List UInt8} (h1 : s ≠ u.n) (h2 : s ≠ u.s) (hno : foundU U s = .tuple #[.agg noU.toArray, .bool false]) {h : H} {K : Value → H → Prop} (hk : ∀ h', Ext h h' → K (.tuple #[.agg noU.toArray, .bool false]) h') :
    acall C base (n + 3) 95 [.string (bs s)] h K := by
  refine acall_of hf ?_
  have hlen := Unt.cells_len hu
  (conv => whnf)
  refine hK _ _ _ ?_
  (conv => whnf)
  refine ⟨_, rfl, ?_⟩
  (conv => whnf)
  refine ⟨_, rfl, ?_⟩
  have e0 := ((Ext.refl h).push (.cells noU 39 true false))
  have o0 := Own.push (h := h) noU 39 false
  obtain ⟨h3, hw3, o3, f3, n3, g3⟩ := (Own.push (h := h.push (.cells noU 39 true false)) noU 39 false).wr0 u.cells hlen
  have x1 := f3 (h.push (.cells noU 39 true false)) ((Ext.refl _).push _) (Nat.le_refl _)
  have c0 : h3.cell (h.push (.cells noU 39 true false)).next (0 + 0) = some (.string (bs u.n)) := by simp only [H.cell, o3.2]; rfl
  have c1 : h3.cell (h.push (.cells noU 39 true false)).next (0 + 1) = some (.string (bs u.s)) := by simp only [H.cell, o3.2]; rfl
  (conv => whnf)
  refine ⟨_, rfl, hlen, h3, hw3, ?_⟩
  (conv => whnf)
  refine ⟨_, c0, ?_⟩
  (conv => whnf)
  refine obool_f (str_eqF h1) ?_
  (conv => whnf)
  refine ⟨_, c1, ?_⟩
  (conv => whnf)
  refine obool_f (str_eqF h2) ?_
  (conv => whnf)
  refine tempsFind_ok hff hU hl (fun h4 e4 => ?_)
  rw [hno]
  (conv => whnf)
  refine ⟨_, rfl, ?_⟩
  (conv => whnf)
  refine ⟨_, rfl, ?_⟩
  obtain ⟨h5, hw5, o5, f5, n5, g5⟩ := ((o0.ext x1).ext e4).wr0 noU rfl
  (conv => whnf)
  refine ⟨_, rfl, rfl, h5, hw5, ?_⟩
  (conv => whnf)
  exact ⟨_, res_cellN rfl (o5.rdAll rfl), hk _ (f5 h ((e0.trans x1).trans e4) (Nat.le_refl _))⟩
end Go.Proofs.YtemgddekbdifeaaGreat.Am

namespace Go.Proofs.YtemgddekbdifeaaGreat.Am
def pts : List (List UInt8) := [[97, 98, 115, 111, 108, 117, 116, 101], [105, 99, 101], [116, 114, 105, 112, 108, 101], [98, 111, 105, 108, 105, 110, 103]]
def noRat : List Value := [.string ⟨#[]⟩, .string ⟨#[]⟩]
theorem fixed_none {C : FuncId → Option AFn} {base : Cl} {n : Nat} (hf : C 37 = some F37) {p s : List UInt8}
    (hO : p ∈ pts → ∀ m h K, (∀ h', Ext h h' → K (.tuple #[.agg noU.toArray, .bool false]) h') → acall C base (m + 3) 95 [.string (bs s)] h K)
    {h : H} {K : Value → H → Prop} (hk1 : p ∈ pts → ∀ h', Ext h h' → K (.tuple #[.agg noRat.toArray, .int .i64 200]) h') (hk2 : p ∉ pts → ∀ h', Ext h h' → K (.tuple #[.agg noRat.toArray, .int .i64 201]) h') :
    acall C base (n + 4) 37 [.string (bs p), .string (bs s)] h K := by
  refine acall_of hf ?_
  have e0 := ((Ext.refl h).push (.cells noRat 23 true false))
  have o0 := Own.push (h := h) noRat 23 false
  (conv => whnf)
  refine ⟨_, rfl, ?_⟩
  (conv => whnf)
  refine ⟨5, ?_⟩
  (conv => whnf)
  refine ⟨⟨by omega, by omega⟩, _, rfl, ?_⟩
  (conv => whnf)
  by_cases hp : [97, 98, 115, 111, 108, 117, 116, 101] = p
  · refine obool_f (str_neF (a := [97, 98, 115, 111, 108, 117, 116, 101]) hp) ?_
    have hm : p ∈ pts := by rw [← hp]; simp [pts]
    (conv => whnf)
    refine hO hm _ _ _ (fun h1 e1 => ?_)
    (conv => whnf)
    refine ⟨_, rfl, ?_⟩
    (conv => whnf)
    refine ⟨_, rfl, ?_⟩
    obtain ⟨h2, hw2, o2, f2, n2, g2⟩ := (Own.push (h := h1) noU 39 false).wr0 noU rfl
    have x1 := f2 h1 ((Ext.refl _).push _) (Nat.le_refl _)
    (conv => whnf)
    refine ⟨_, rfl, rfl, h2, hw2, ?_⟩
    (conv => whnf)
    refine ⟨_, rfl, ?_⟩
    obtain ⟨h3, hw3, o3, f3, n3, g3⟩ := ((o0.ext e1).ext x1).wr0 noRat rfl
    (conv => whnf)
    refine ⟨_, rfl, rfl, h3, hw3, ?_⟩
    (conv => whnf)
    exact ⟨_, res_cellN rfl (o3.rdAll rfl), hk1 hm _ (f3 h ((e0.trans e1).trans x1) (Nat.le_refl _))⟩
  refine obool_t (str_neT (a := [97, 98, 115, 111, 108, 117, 116, 101]) hp) ?_
  have hp0 := hp
  clear hp
  (conv => whnf)
  refine ar_i64e 1 (by omega) (by omega) ?_
  (conv => whnf)
  refine ⟨⟨by omega, by omega⟩, _, rfl, ?_⟩
  (conv => whnf)
  by_cases hp : [105, 99, 101] = p
  · refine obool_f (str_neF (a := [105, 99, 101]) hp) ?_
    have hm : p ∈ pts := by rw [← hp]; simp [pts]
    (conv => whnf)
    refine hO hm _ _ _ (fun h1 e1 => ?_)
    (conv => whnf)
    refine ⟨_, rfl, ?_⟩
    (conv => whnf)
    refine ⟨_, rfl, ?_⟩
    obtain ⟨h2, hw2, o2, f2, n2, g2⟩ := (Own.push (h := h1) noU 39 false).wr0 noU rfl
    have x1 := f2 h1 ((Ext.refl _).push _) (Nat.le_refl _)
    (conv => whnf)
    refine ⟨_, rfl, rfl, h2, hw2, ?_⟩
    (conv => whnf)
    refine ⟨_, rfl, ?_⟩
    obtain ⟨h3, hw3, o3, f3, n3, g3⟩ := ((o0.ext e1).ext x1).wr0 noRat rfl
    (conv => whnf)
    refine ⟨_, rfl, rfl, h3, hw3, ?_⟩
    (conv => whnf)
    exact ⟨_, res_cellN rfl (o3.rdAll rfl), hk1 hm _ (f3 h ((e0.trans e1).trans x1) (Nat.le_refl _))⟩
  refine obool_t (str_neT (a := [105, 99, 101]) hp) ?_
  have hp1 := hp
  clear hp
  (conv => whnf)
  refine ar_i64e 2 (by omega) (by omega) ?_
  (conv => whnf)
  refine ⟨⟨by omega, by omega⟩, _, rfl, ?_⟩
  (conv => whnf)
  by_cases hp : [116, 114, 105, 112, 108, 101] = p
  · refine obool_f (str_neF (a := [116, 114, 105, 112, 108, 101]) hp) ?_
    have hm : p ∈ pts := by rw [← hp]; simp [pts]
    (conv => whnf)
    refine hO hm _ _ _ (fun h1 e1 => ?_)
    (conv => whnf)
    refine ⟨_, rfl, ?_⟩
    (conv => whnf)
    refine ⟨_, rfl, ?_⟩
    obtain ⟨h2, hw2, o2, f2, n2, g2⟩ := (Own.push (h := h1) noU 39 false).wr0 noU rfl
    have x1 := f2 h1 ((Ext.refl _).push _) (Nat.le_refl _)
    (conv => whnf)
    refine ⟨_, rfl, rfl, h2, hw2, ?_⟩
    (conv => whnf)
    refine ⟨_, rfl, ?_⟩
    obtain ⟨h3, hw3, o3, f3, n3, g3⟩ := ((o0.ext e1).ext x1).wr0 noRat rfl
    (conv => whnf)
    refine ⟨_, rfl, rfl, h3, hw3, ?_⟩
    (conv => whnf)
    exact ⟨_, res_cellN rfl (o3.rdAll rfl), hk1 hm _ (f3 h ((e0.trans e1).trans x1) (Nat.le_refl _))⟩
  refine obool_t (str_neT (a := [116, 114, 105, 112, 108, 101]) hp) ?_
  have hp2 := hp
  clear hp
  (conv => whnf)
  refine ar_i64e 3 (by omega) (by omega) ?_
  (conv => whnf)
  refine ⟨⟨by omega, by omega⟩, _, rfl, ?_⟩
  (conv => whnf)
  by_cases hp : [98, 111, 105, 108, 105, 110, 103] = p
  · refine obool_f (str_neF (a := [98, 111, 105, 108, 105, 110, 103]) hp) ?_
    have hm : p ∈ pts := by rw [← hp]; simp [pts]
    (conv => whnf)
    refine hO hm _ _ _ (fun h1 e1 => ?_)
    (conv => whnf)
    refine ⟨_, rfl, ?_⟩
    (conv => whnf)
    refine ⟨_, rfl, ?_⟩
    obtain ⟨h2, hw2, o2, f2, n2, g2⟩ := (Own.push (h := h1) noU 39 false).wr0 noU rfl
    have x1 := f2 h1 ((Ext.refl _).push _) (Nat.le_refl _)
    (conv => whnf)
    refine ⟨_, rfl, rfl, h2, hw2, ?_⟩
    (conv => whnf)
    refine ⟨_, rfl, ?_⟩
    obtain ⟨h3, hw3, o3, f3, n3, g3⟩ := ((o0.ext e1).ext x1).wr0 noRat rfl
    (conv => whnf)
    refine ⟨_, rfl, rfl, h3, hw3, ?_⟩
    (conv => whnf)
    exact ⟨_, res_cellN rfl (o3.rdAll rfl), hk1 hm _ (f3 h ((e0.trans e1).trans x1) (Nat.le_refl _))⟩
  refine obool_t (str_neT (a := [98, 111, 105, 108, 105, 110, 103]) hp) ?_
  have hp3 := hp
  clear hp
  (conv => whnf)
  refine ar_i64e 4 (by omega) (by omega) ?_
  (conv => whnf)
  refine ⟨_, rfl, ?_⟩
  obtain ⟨h3, hw3, o3, f3, n3, g3⟩ := o0.wr0 noRat rfl
  (conv => whnf)
  refine ⟨_, rfl, rfl, h3, hw3, ?_⟩
  (conv => whnf)
  exact ⟨_, res_cellN rfl (o3.rdAll rfl), hk2 (by simp only [pts, List.mem_cons, List.mem_nil_iff, or_false, not_or]; exact ⟨fun h => hp0 h.symm, fun h => hp1 h.symm, fun h => hp2 h.symm, fun h => hp3 h.symm⟩) _ (f3 h e0 (Nat.le_refl _))⟩
end Go.Proofs.YtemgddekbdifeaaGreat.Am

namespace Go.Proofs.YtemgddekbdifeaaGreat.Am
theorem res_cellN1 {f : Fr} {h : H} {a n i : Nat} {cs : List Value} (hp : f a = .pointer (some ⟨i, 0, none⟩)) (hr : h.rd i 0 n = some cs) :
    resAll f h [.cellN a n] = some [.agg cs.toArray] := by
  simp [resAll, resOne, hp, hr]
theorem rat12_ok {C : FuncId → Option AFn} {base : Cl} {n : Nat} (hf : C 110 = some F110) {a b : ByteArray} {h : H} {K : Value → H → Prop} (hk : ∀ h', Ext h h' → K (.agg #[.string a, .string b]) h') :
    acall C base (n + 1) 110 [.string a, .string b] h K := by
  refine acall_of hf ?_
  have o1 := Own.push (h := h) noRat 23 false
  obtain ⟨h3, hw3, o3, f3, n3, g3⟩ := o1.wr0 [.string a, .string b] rfl
  (conv => whnf)
  refine ⟨_, rfl, ?_⟩
  (conv => whnf)
  refine ⟨_, rfl, rfl, h3, hw3, ?_⟩
  (conv => whnf)
  exact ⟨_, res_cellN1 rfl (o3.rdAll rfl), hk _ (f3 h ((Ext.refl h).push _) (Nat.le_refl _))⟩
theorem ref12Find_none {C : FuncId → Option AFn} {base : Cl} {n : Nat} (hl : C 97 = some F97) {U : List Unt} (hU : Units C base 36 U)
    {h : H} {s : List UInt8} {K : Value → H → Prop} (hlen : U.length ≤ 1000) (h1 : s ≠ [107, 101, 108, 118, 105, 110]) (h2 : s ≠ [75]) (hno : ∀ m (hm : m < U.length), U[m].hit s = false) (hk : ∀ h', Ext h h' → K (.tuple #[.agg noU.toArray, .bool false]) h') :
    acall C base (n + 2) 97 [.string (bs s)] h K := by
  refine acall_of hl ?_
  have e0 := ((Ext.refl h).push (.cells noU 39 true false))
  have o0 := Own.push (h := h) noU 39 false
  (conv => whnf)
  refine obool_f (str_eqF (b := [107, 101, 108, 118, 105, 110]) h1) ?_
  (conv => whnf)
  refine obool_f (str_eqF (b := [75]) h2) ?_
  (conv => whnf)
  refine hU _ _ _ (fun h0 i c e1 sl => ?_)
  (conv => whnf)
  refine loop_upd (X := Nat) (fun k => [(0, .string (bs s)), (2, .pointer (some ⟨h.next, 0, none⟩)), (16, .slice (some ⟨i, 0, none⟩) U.length c), (17, .int .i64 (U.length : Int)), (18, .int .i64 (k : Int))])
    (fun k h' => Ext h0 h' ∧ k ≤ U.length) (fun k => U.length - k) ?_ 0 _ _ ⟨rfl, rfl, rfl, rfl, rfl, trivial⟩ ⟨Ext.refl _, Nat.zero_le _⟩
  intro m k f hh ⟨e3, hkl⟩ ih
  (conv => whnf)
  (refine obool_intro (fun hlt => ?_) (fun hlt => ?_))
  · have hk1 : k < U.length := by have := of_decide_eq_true hlt; omega
    have hz : ((k : Nat) : Int).toNat = k := by simp
    have hl15 : U[k].cells.length = 15 := Unt.cells_len (sl.ok _ (List.getElem_mem hk1))
    have hq := hno k hk1
    simp only [Unt.hit, Bool.or_eq_false_iff] at hq
    (conv => whnf)
    refine ⟨⟨by omega, by omega⟩, ?_⟩
    (conv => whnf)
    refine ⟨_, sl.rd e3 (k : Int) k hz hk1, ?_⟩
    obtain ⟨h2, hw2, o3, f2, n2, g2⟩ := (Own.push (h := hh) noU 39 false).wr0 U[k].cells hl15
    have x1 : Ext hh h2 := f2 hh ((Ext.refl _).push _) (Nat.le_refl _)
    have c0 : h2.cell hh.next (0 + 0) = some (.string (bs U[k].n)) := by simp only [H.cell, o3.2]; rfl
    have c1 : h2.cell hh.next (0 + 1) = some (.string (bs U[k].s)) := by simp only [H.cell, o3.2]; rfl
    have q0 : ((bs U[k].n).toList == (bs s).toList) = false := by rw [s_eq]; exact hq.1
    have q1 : ((bs U[k].s).toList == (bs s).toList) = false := by rw [s_eq]; exact hq.2
    (conv => whnf)
    refine ⟨_, rfl, hl15, h2, hw2, ?_⟩
    (conv => whnf)
    refine ⟨_, c0, ?_⟩
    (conv => whnf)
    refine obool_f q0 ?_
    (conv => whnf)
    refine ⟨_, c1, ?_⟩
    (conv => whnf)
    refine obool_f q1 ?_
    clear c0 c1 q0 q1 hw2 n2 g2 hq
    (conv => whnf)
    refine ar_i64e (k + 1) (by omega) (by omega) ?_
    (conv => whnf)
    exact ih (k + 1) _ _ (by omega) ⟨rfl, rfl, rfl, rfl, rfl, trivial⟩ ⟨e3.trans x1, by omega⟩
  · obtain ⟨h5, hw5, o5, f5, n5, g5⟩ := ((o0.ext e1).ext e3).wr0 noU rfl
    (conv => whnf)
    refine ⟨_, rfl, ?_⟩
    (conv => whnf)
    refine ⟨_, rfl, rfl, h5, hw5, ?_⟩
    (conv => whnf)
    exact ⟨_, res_cellN rfl (o5.rdAll rfl), hk _ (f5 h ((e0.trans e1).trans e3) (Nat.le_refl _))⟩
theorem refFixed_none {C : FuncId → Option AFn} {base : Cl} {n : Nat} (hf : C 38 = some F38) (hr : C 110 = some F110) {p s : List UInt8}
    (hO : p ∈ pts → ∀ m h K, (∀ h', Ext h h' → K (.tuple #[.agg noU.toArray, .bool false]) h') → acall C base (m + 2) 97 [.string (bs s)] h K)
    {h : H} {K : Value → H → Prop} (hk1 : p ∈ pts → ∀ h', Ext h h' → K (.tuple #[.agg noRat.toArray, .int .i64 200]) h') (hk2 : p ∉ pts → ∀ h', Ext h h' → K (.tuple #[.agg noRat.toArray, .int .i64 201]) h') :
    acall C base (n + 3) 38 [.string (bs p), .string (bs s)] h K := by
  refine acall_of hf ?_
  have e0 := ((Ext.refl h).push (.cells noRat 23 true false))
  have o0 := Own.push (h := h) noRat 23 false
  (conv => whnf)
  refine rat12_ok hr (fun h1 e1 => ?_)
  generalize ({ data := #[48] } : ByteArray) = z0
  generalize ({ data := #[49] } : ByteArray) = z1
  obtain ⟨h2, hw2, o2, f2, n2, g2⟩ := (Own.push (h := h1) noRat 23 false).wr0 [.string z0, .string z1] rfl
  have x2 := f2 h1 ((Ext.refl _).push _) (Nat.le_refl _)
  have oa := (o0.ext e1).ext x2
  have ea := (e0.trans e1).trans x2
  (dsimp only [force, steps]); (dsimp only [chkAll]); (conv => whnf)
  refine ⟨_, rfl, rfl, h2, hw2, ?_⟩
  clear hw2 f2 g2 n2
  (conv => whnf)
  by_cases hp : p = [97, 98, 115, 111, 108, 117, 116, 101]
  · have hm : p ∈ pts := by rw [hp]; simp [pts]
    refine obool_t (str_eqT hp) ?_
    (conv => whnf)
    refine hO hm _ _ _ (fun h4 e4 => ?_)
    (conv => whnf)
    refine ⟨_, rfl, ?_⟩
    (conv => whnf)
    refine ⟨_, rfl, ?_⟩
    obtain ⟨h5, hw5, o5, f5, n5, g5⟩ := (Own.push (h := h4) noU 39 false).wr0 noU rfl
    have x5 := f5 h4 ((Ext.refl _).push _) (Nat.le_refl _)
    (conv => whnf)
    refine ⟨_, rfl, rfl, h5, hw5, ?_⟩
    (conv => whnf)
    refine ⟨_, rfl, ?_⟩
    obtain ⟨h6, hw6, o6, f6, n6, g6⟩ := ((oa.ext e4).ext x5).wr0 noRat rfl
    (conv => whnf)
    refine ⟨_, rfl, rfl, h6, hw6, ?_⟩
    (conv => whnf)
    exact ⟨_, res_cellN rfl (o6.rdAll rfl), hk1 hm _ (f6 h ((ea.trans e4).trans x5) (Nat.le_refl _))⟩
  refine obool_f (str_eqF hp) ?_
  have hp0 := hp
  clear hp
  (conv => whnf)
  by_cases hp : p = [105, 99, 101]
  · have hm : p ∈ pts := by rw [hp]; simp [pts]
    refine obool_t (str_eqT hp) ?_
    (conv => whnf)
    refine rat12_ok hr (fun h7 e7 => ?_) 
    generalize ({ data := #[53, 52, 54, 51] } : ByteArray) = z2
    generalize ({ data := #[50, 48] } : ByteArray) = z3
    obtain ⟨h8, hw8, o8, f8, n8, g8⟩ := (o2.ext e7).wr0 [.string z2, .string z3] rfl
    have x8 : Ext h h8 := f8 h (ea.trans e7) (Nat.le_trans (Nat.le_succ _) (Nat.le_trans e1.1 (Nat.le_refl _)))
    have ob : Own h8 h.next noRat 23 false := (oa.ext e7).other n8 g8 (Nat.ne_of_lt (Nat.lt_of_lt_of_le (Nat.lt_succ_self _) e1.1))
    (dsimp only [force, steps]); (dsimp only [chkAll]); (conv => whnf)
    refine ⟨_, rfl, rfl, h8, hw8, ?_⟩
    (conv => whnf)
    refine hO hm _ _ _ (fun h4 e4 => ?_)
    (conv => whnf)
    refine ⟨_, rfl, ?_⟩
    (conv => whnf)
    refine ⟨_, rfl, ?_⟩
    obtain ⟨h5, hw5, o5, f5, n5, g5⟩ := (Own.push (h := h4) noU 39 false).wr0 noU rfl
    have x5 := f5 h4 ((Ext.refl _).push _) (Nat.le_refl _)
    (conv => whnf)
    refine ⟨_, rfl, rfl, h5, hw5, ?_⟩
    (conv => whnf)
    refine ⟨_, rfl, ?_⟩
    obtain ⟨h6, hw6, o6, f6, n6, g6⟩ := ((ob.ext e4).ext x5).wr0 noRat rfl
    (conv => whnf)
    refine ⟨_, rfl, rfl, h6, hw6, ?_⟩
    (conv => whnf)
    exact ⟨_, res_cellN rfl (o6.rdAll rfl), hk1 hm _ (f6 h ((x8.trans e4).trans x5) (Nat.le_refl _))⟩
  refine obool_f (str_eqF hp) ?_
  have hp1 := hp
  clear hp
  (conv => whnf)
  by_cases hp : p = [116, 114, 105, 112, 108, 101]
  · have hm : p ∈ pts := by rw [hp]; simp [pts]
    refine obool_t (str_eqT hp) ?_
    (conv => whnf)
    refine rat12_ok hr (fun h7 e7 => ?_) 
    generalize ({ data := #[54, 56, 50, 57] } : ByteArray) = z2
    generalize ({ data := #[50, 53] } : ByteArray) = z3
    obtain ⟨h8, hw8, o8, f8, n8, g8⟩ := (o2.ext e7).wr0 [.string z2, .string z3] rfl
    have x8 : Ext h h8 := f8 h (ea.trans e7) (Nat.le_trans (Nat.le_succ _) (Nat.le_trans e1.1 (Nat.le_refl _)))
    have ob : Own h8 h.next noRat 23 false := (oa.ext e7).other n8 g8 (Nat.ne_of_lt (Nat.lt_of_lt_of_le (Nat.lt_succ_self _) e1.1))
    (dsimp only [force, steps]); (dsimp only [chkAll]); (conv => whnf)
    refine ⟨_, rfl, rfl, h8, hw8, ?_⟩
    (conv => whnf)
    refine hO hm _ _ _ (fun h4 e4 => ?_)
    (conv => whnf)
    refine ⟨_, rfl, ?_⟩
    (conv => whnf)
    refine ⟨_, rfl, ?_⟩
    obtain ⟨h5, hw5, o5, f5, n5, g5⟩ := (Own.push (h := h4) noU 39 false).wr0 noU rfl
    have x5 := f5 h4 ((Ext.refl _).push _) (Nat.le_refl _)
    (conv => whnf)
    refine ⟨_, rfl, rfl, h5, hw5, ?_⟩
    (conv => whnf)
    refine ⟨_, rfl, ?_⟩
    obtain ⟨h6, hw6, o6, f6, n6, g6⟩ := ((ob.ext e4).ext x5).wr0 noRat rfl
    (conv => whnf)
    refine ⟨_, rfl, rfl, h6, hw6, ?_⟩
    (conv => whnf)
    exact ⟨_, res_cellN rfl (o6.rdAll rfl), hk1 hm _ (f6 h ((x8.trans e4).trans x5) (Nat.le_refl _))⟩
  refine obool_f (str_eqF hp) ?_
  have hp2 := hp
  clear hp
  (conv => whnf)
  by_cases hp : p = [98, 111, 105, 108, 105, 110, 103]
  · have hm : p ∈ pts := by rw [hp]; simp [pts]
    refine obool_t (str_eqT hp) ?_
    (conv => whnf)
    refine rat12_ok hr (fun h7 e7 => ?_) 
    generalize ({ data := #[55, 52, 54, 51] } : ByteArray) = z2
    generalize ({ data := #[50, 48] } : ByteArray) = z3
    obtain ⟨h8, hw8, o8, f8, n8, g8⟩ := (o2.ext e7).wr0 [.string z2, .string z3] rfl
    have x8 : Ext h h8 := f8 h (ea.trans e7) (Nat.le_trans (Nat.le_succ _) (Nat.le_trans e1.1 (Nat.le_refl _)))
    have ob : Own h8 h.next noRat 23 false := (oa.ext e7).other n8 g8 (Nat.ne_of_lt (Nat.lt_of_lt_of_le (Nat.lt_succ_self _) e1.1))
    (dsimp only [force, steps]); (dsimp only [chkAll]); (conv => whnf)
    refine ⟨_, rfl, rfl, h8, hw8, ?_⟩
    (conv => whnf)
    refine hO hm _ _ _ (fun h4 e4 => ?_)
    (conv => whnf)
    refine ⟨_, rfl, ?_⟩
    (conv => whnf)
    refine ⟨_, rfl, ?_⟩
    obtain ⟨h5, hw5, o5, f5, n5, g5⟩ := (Own.push (h := h4) noU 39 false).wr0 noU rfl
    have x5 := f5 h4 ((Ext.refl _).push _) (Nat.le_refl _)
    (conv => whnf)
    refine ⟨_, rfl, rfl, h5, hw5, ?_⟩
    (conv => whnf)
    refine ⟨_, rfl, ?_⟩
    obtain ⟨h6, hw6, o6, f6, n6, g6⟩ := ((ob.ext e4).ext x5).wr0 noRat rfl
    (conv => whnf)
    refine ⟨_, rfl, rfl, h6, hw6, ?_⟩
    (conv => whnf)
    exact ⟨_, res_cellN rfl (o6.rdAll rfl), hk1 hm _ (f6 h ((x8.trans e4).trans x5) (Nat.le_refl _))⟩
  refine obool_f (str_eqF hp) ?_
  have hp3 := hp
  clear hp
  (conv => whnf)
  refine ⟨_, rfl, ?_⟩
  obtain ⟨h3, hw3, o3, f3, n3, g3⟩ := oa.wr0 noRat rfl
  (conv => whnf)
  refine ⟨_, rfl, rfl, h3, hw3, ?_⟩
  (conv => whnf)
  exact ⟨_, res_cellN rfl (o3.rdAll rfl), hk2 (by simp only [pts, List.mem_cons, List.mem_nil_iff, or_false, not_or]; exact ⟨hp0, hp1, hp2, hp3⟩) _ (f3 h ea (Nat.le_refl _))⟩
end Go.Proofs.YtemgddekbdifeaaGreat.Am

namespace Go.Proofs.YtemgddekbdifeaaGreat.Am
theorem tempsFinds_ok {C : FuncId → Option AFn} {L : List Entry} {n : Nat} (hl : C 10 = some F10) (hf : C 35 = some F35) (hr : C 20 = some F20)
    (hx : C 37 = none) (hy : C 38 = none) (hz : C 23 = none) {U : List Unt} (hU : Units C (baseK L) 109 U) (hR : Units C (baseK L) 36 U) (hlen : U.length ≤ 1000) (hw : wellU U = true)
    {s p : List UInt8} {a b : ByteArray} {e : Int} (ex : (⟨37, [.string (bs p), .string (bs s)], .flat (.tuple #[.agg #[.string a, .string b], .int .i64 e])⟩ : Entry) ∈ L)
    (ey : (⟨38, [.string (bs p), .string (bs s)], .flat (.tuple #[.agg #[.string a, .string b], .int .i64 e])⟩ : Entry) ∈ L) (ez : (⟨23, [], .flat (.bool true)⟩ : Entry) ∈ L) {h : H} :
    acall C (baseK L) (n + 4) 10 [.string (bs s), .string (bs p)] h (fun v _ => v = .bool true) := by
  refine acall_of hl ?_
  obtain ⟨cs, b1, ha, hl15, hk⟩ := foundU_form hw s
  (conv => whnf)
  refine tempsFind_ok hf hU hlen (fun h1 e1 => ?_)
  rw [ha]
  (conv => whnf)
  refine ⟨_, rfl, ?_⟩
  (conv => whnf)
  refine ⟨_, rfl, ?_⟩
  (conv => whnf)
  obtain ⟨h2, hw2, oa, f2, n2, g2⟩ := (Own.push (h := h1) noU 39 false).wr0 cs hl15
  have x1 := f2 h1 ((Ext.refl _).push _) (Nat.le_refl _)
  refine ⟨_, rfl, hl15, h2, hw2, ?_⟩
  clear hw2 f2 n2 g2
  have xa := e1.trans x1
  clear e1 x1
  (conv => whnf)
  refine hR _ _ _ (fun h3 i c e3 sl => ?_)
  (conv => whnf)
  refine refFind_ok hr sl hlen (fun h4 e4 => ?_)
  rw [ha]
  (conv => whnf)
  refine ⟨_, rfl, ?_⟩
  (conv => whnf)
  refine ⟨_, rfl, ?_⟩
  (conv => whnf)
  obtain ⟨h5, hw2, ob, f2, n2, g2⟩ := (Own.push (h := h4) noU 39 false).wr0 cs hl15
  have x1 := f2 h4 ((Ext.refl _).push _) (Nat.le_refl _)
  refine ⟨_, rfl, hl15, h5, hw2, ?_⟩
  clear hw2 f2 n2 g2
  have xb := e4.trans x1
  clear e4 x1
  (conv => whnf)
  refine known_call _ hx ex ?_
  simp only [Res.run]
  (conv => whnf)
  refine ⟨_, rfl, ?_⟩
  (conv => whnf)
  refine ⟨_, rfl, ?_⟩
  obtain ⟨h6, hw2, oc, f2, n2, g2⟩ := (Own.push (h := h5) noRat 23 false).wr0 [.string a, .string b] rfl
  have xc : Ext h5 h6 := f2 h5 ((Ext.refl _).push _) (Nat.le_refl _)
  (conv => whnf)
  refine ⟨_, rfl, rfl, h6, hw2, ?_⟩
  clear hw2 f2 n2 g2
  (conv => whnf)
  refine known_call _ hy ey ?_
  simp only [Res.run]
  (conv => whnf)
  refine ⟨_, rfl, ?_⟩
  (conv => whnf)
  refine ⟨_, rfl, ?_⟩
  obtain ⟨h7, hw2, od, f2, n2, g2⟩ := (Own.push (h := h6) noRat 23 false).wr0 [.string a, .string b] rfl
  have xd : Ext h6 h7 := f2 h6 ((Ext.refl _).push _) (Nat.le_refl _)
  (conv => whnf)
  refine ⟨_, rfl, rfl, h7, hw2, ?_⟩
  clear hw2 f2 n2 g2
  have oa' := (((oa.ext e3).ext xb).ext xc).ext xd
  have ob' := (ob.ext xc).ext xd
  have oc' := oc.ext xd
  (conv => whnf)
  refine ⟨_, oa'.rdAll hl15, ?_⟩
  (conv => whnf)
  refine ⟨_, ob'.rdAll hl15, ?_⟩
  (conv => whnf)
  refine ⟨true, eqL_self hk, ?_⟩
  have hq : eqL [.string a, .string b] [.string a, .string b] [.s 0, .s 1] = some true := eqL_self rfl
  cases b1
  · (conv => whnf)
    refine ⟨_, oc'.rdAll rfl, ?_⟩
    (conv => whnf)
    refine ⟨_, od.rdAll rfl, ?_⟩
    (conv => whnf)
    refine ⟨true, hq, ?_⟩
    (conv => whnf)
    refine obool_t (beq_self_eq_true e) ?_
    (conv => whnf)
    refine known_call _ hz ez ?_
    simp only [Res.run]
    (conv => whnf)
    exact ⟨_, rfl, rfl⟩
  · (conv => whnf)
    refine ⟨_, oc'.rdAll rfl, ?_⟩
    (conv => whnf)
    refine ⟨_, od.rdAll rfl, ?_⟩
    (conv => whnf)
    refine ⟨true, hq, ?_⟩
    (conv => whnf)
    refine obool_t (beq_self_eq_true e) ?_
    (conv => whnf)
    refine known_call _ hz ez ?_
    simp only [Res.run]
    (conv => whnf)
    exact ⟨_, rfl, rfl⟩
end Go.Proofs.YtemgddekbdifeaaGreat.Am

namespace Go.Proofs.YtemgddekbdifeaaGreat.Am
def namesOf : List Unt → List (List UInt8)
  | [] => []
  | u :: U => u.n :: u.s :: namesOf U
theorem hit_cases (s : List UInt8) : ∀ (U : List Unt), s ∈ namesOf U ∨ ∀ m (hm : m < U.length), U[m].hit s = false
  | [] => .inr fun m hm => absurd hm (Nat.not_lt_zero _)
  | u :: U => by
    cases hu : u.hit s with
    | true =>
      simp only [Unt.hit, Bool.or_eq_true, beq_iff_eq] at hu
      left
      rcases hu with rfl | rfl
      · exact List.mem_cons_self ..
      · exact List.mem_cons_of_mem _ (List.mem_cons_self ..)
    | false =>
      rcases hit_cases s U with h | h
      · exact .inl (List.mem_cons_of_mem _ (List.mem_cons_of_mem _ h))
      · right
        intro m hm
        cases m with
        | zero => exact hu
        | succ m => exact h m (by simpa using hm)
end Go.Proofs.YtemgddekbdifeaaGreat.Am

namespace Go.Proofs.YtemgddekbdifeaaGreat.Am
def tempsL : List Unt := [⟨[114, 97, 110, 107, 105, 110, 101], [194, 176, 82], [(.int .i64 0), (.int .i64 0), (.int .i64 0), (.int .i64 0), (.int .i64 1), (.int .i64 0), (.int .i64 0), (.int .i64 0), (.string ⟨#[53]⟩), (.string ⟨#[57]⟩), (.string ⟨#[48]⟩), (.string ⟨#[49]⟩), (.int .i64 0)]⟩,
  ⟨[99, 101, 108, 115, 105, 117, 115], [194, 176, 67], [(.int .i64 0), (.int .i64 0), (.int .i64 0), (.int .i64 0), (.int .i64 1), (.int .i64 0), (.int .i64 0), (.int .i64 0), (.string ⟨#[49]⟩), (.string ⟨#[49]⟩), (.string ⟨#[53, 52, 54, 51]⟩), (.string ⟨#[50, 48]⟩), (.int .i64 0)]⟩,
  ⟨[102, 97, 104, 114, 101, 110, 104, 101, 105, 116], [194, 176, 70], [(.int .i64 0), (.int .i64 0), (.int .i64 0), (.int .i64 0), (.int .i64 1), (.int .i64 0), (.int .i64 0), (.int .i64 0), (.string ⟨#[53]⟩), (.string ⟨#[57]⟩), (.string ⟨#[52, 53, 57, 54, 55]⟩), (.string ⟨#[49, 56, 48]⟩), (.int .i64 0)]⟩]
theorem tempsL_well : wellU tempsL = true := by kernel_rfl
theorem tempsL_p : e23 = ⟨109, [], .sl (flatU tempsL) 39 false tempsL.length 3⟩ := by kernel_rfl
theorem tempsL_r : e29 = ⟨36, [], .sl (flatU tempsL) 39 false tempsL.length 3⟩ := by kernel_rfl
def kel : Unt := ⟨[107, 101, 108, 118, 105, 110], [75], [(.int .i64 0), (.int .i64 0), (.int .i64 0), (.int .i64 0), (.int .i64 1), (.int .i64 0), (.int .i64 0), (.int .i64 0), (.string ⟨#[49]⟩), (.string ⟨#[49]⟩), (.string ⟨#[48]⟩), (.string ⟨#[49]⟩), (.int .i64 1)]⟩
theorem kel_p : e6 = ⟨128, [.string (bs [75])], .flat (.tuple #[.agg kel.cells.toArray, .bool true])⟩ := by kernel_rfl
def scales : List (List UInt8) := [[114, 97, 110, 107, 105, 110, 101], [194, 176, 82], [99, 101, 108, 115, 105, 117, 115], [194, 176, 67], [102, 97, 104, 114, 101, 110, 104, 101, 105, 116], [194, 176, 70], [107, 101, 108, 118, 105, 110], [75]]
theorem scales_eq : scales = namesOf tempsL ++ [[107, 101, 108, 118, 105, 110], [75]] := rfl
theorem scale_cases (s : List UInt8) : s ∈ scales ∨ ((∀ m (hm : m < tempsL.length), tempsL[m].hit s = false) ∧ s ≠ [107, 101, 108, 118, 105, 110] ∧ s ≠ [75]) := by
  by_cases hs : s ∈ scales
  · exact .inl hs
  · right
    rw [scales_eq, List.mem_append, not_or] at hs
    simp only [List.mem_cons, List.mem_nil_iff, or_false, not_or] at hs
    exact ⟨(hit_cases s tempsL).resolve_left hs.1, hs.2.1, hs.2.2⟩
def tabFx : List (Nat × AFn) := [(37, F37), (95, F95), (35, F35)]
theorem tabFx_ok : ∀ p ∈ tabFx, FnOK Tryz.prog p := by
  unfold tabFx
  simp only [List.forall_mem_cons]
  exact ⟨ok37, ok95, ok35, fun _ h => by cases h⟩
def lFx : List Entry := [e23, e6]
theorem lFx_ok : ∀ e ∈ lFx, EntryOK Tryz.prog e := by
  unfold lFx
  simp only [List.forall_mem_cons]
  exact ⟨k23, k6, fun _ h => by cases h⟩
def tabRx : List (Nat × AFn) := [(38, F38), (97, F97), (110, F110)]
theorem tabRx_ok : ∀ p ∈ tabRx, FnOK Tryz.prog p := by
  unfold tabRx
  simp only [List.forall_mem_cons]
  exact ⟨ok38, ok97, ok110, fun _ h => by cases h⟩
def lRx : List Entry := [e29]
theorem lRx_ok : ∀ e ∈ lRx, EntryOK Tryz.prog e := by
  unfold lRx
  simp only [List.forall_mem_cons]
  exact ⟨k29, fun _ h => by cases h⟩
def fxE (p s : List UInt8) (a b : ByteArray) (c : Int) : Entry := ⟨37, [.string (bs p), .string (bs s)], .flat (.tuple #[.agg #[.string a, .string b], .int .i64 c])⟩
def ryE (p s : List UInt8) (a b : ByteArray) (c : Int) : Entry := ⟨38, [.string (bs p), .string (bs s)], .flat (.tuple #[.agg #[.string a, .string b], .int .i64 c])⟩
theorem fx_none (p s : List UInt8) (c : Int) (h1 : p ∈ pts → c = 200 ∧ s ∉ scales) (h2 : p ∉ pts → c = 201) : EntryOK Tryz.prog (fxE p s ⟨#[]⟩ ⟨#[]⟩ c) :=
  known_of (C := acall (tabC tabFx) (baseK lFx) 40) (fun B w0 => acall_sound (pok _) (tabOK tabFx_ok) (baseK_ok lFx_ok) 40) rfl
    (fixed_none (n := 36) (by kernel_rfl) (fun hp m h K hk => by
      obtain ⟨hno, hk1, hk2⟩ := (scale_cases s).resolve_left (h1 hp).2
      exact of_none (by kernel_rfl) (by kernel_rfl) (U := tempsL) (units_known (by kernel_rfl) (List.mem_cons_self ..) tempsL_p (of_decide_eq_true (by kernel_rfl)) tempsL_well) (of_decide_eq_true (by kernel_rfl)) (u := kel) rfl
        (fun m h K hk => known_call (.flat (.tuple #[.agg kel.cells.toArray, .bool true])) (by kernel_rfl) (by rw [← kel_p]; exact List.mem_cons_of_mem _ (List.mem_cons_self ..)) hk) hk1 hk2 (foundU_none hno) hk)
      (fun hp h' _ => by obtain ⟨rfl, _⟩ := h1 hp; exact ⟨rfl, rfl⟩) (fun hp h' _ => by obtain rfl := h2 hp; exact ⟨rfl, rfl⟩))
theorem ry_none (p s : List UInt8) (c : Int) (h1 : p ∈ pts → c = 200 ∧ s ∉ scales) (h2 : p ∉ pts → c = 201) : EntryOK Tryz.prog (ryE p s ⟨#[]⟩ ⟨#[]⟩ c) :=
  known_of (C := acall (tabC tabRx) (baseK lRx) 40) (fun B w0 => acall_sound (pok _) (tabOK tabRx_ok) (baseK_ok lRx_ok) 40) rfl
    (refFixed_none (n := 37) (by kernel_rfl) (by kernel_rfl) (fun hp m h K hk => by
      obtain ⟨hno, hk1, hk2⟩ := (scale_cases s).resolve_left (h1 hp).2
      exact ref12Find_none (by kernel_rfl) (U := tempsL) (units_known (by kernel_rfl) (List.mem_cons_self ..) tempsL_r (of_decide_eq_true (by kernel_rfl)) tempsL_well) (of_decide_eq_true (by kernel_rfl)) hk1 hk2 hno hk)
      (fun hp h' _ => by obtain ⟨rfl, _⟩ := h1 hp; exact ⟨rfl, rfl⟩) (fun hp h' _ => by obtain rfl := h2 hp; exact ⟨rfl, rfl⟩))
theorem fx_all (p s : List UInt8) (hp : p ∈ pts) (hs : s ∈ scales) : ∃ a b c, EntryOK Tryz.prog (fxE p s a b c) ∧ EntryOK Tryz.prog (ryE p s a b c) := by
  simp only [pts, List.mem_cons, List.mem_nil_iff, or_false] at hp
  simp only [scales, List.mem_cons, List.mem_nil_iff, or_false] at hs
  rcases hp with rfl | rfl | rfl | rfl
  · rcases hs with rfl | rfl | rfl | rfl | rfl | rfl | rfl | rfl
    · exact ⟨_, _, _, k31, k33⟩
    · exact ⟨_, _, _, k35, k36⟩
    · exact ⟨_, _, _, k37, k39⟩
    · exact ⟨_, _, _, k40, k41⟩
    · exact ⟨_, _, _, k42, k44⟩
    · exact ⟨_, _, _, k45, k46⟩
    · exact ⟨_, _, _, k47, k49⟩
    · exact ⟨_, _, _, k50, k51⟩
  · rcases hs with rfl | rfl | rfl | rfl | rfl | rfl | rfl | rfl
    · exact ⟨_, _, _, k52, k54⟩
    · exact ⟨_, _, _, k55, k56⟩
    · exact ⟨_, _, _, k57, k59⟩
    · exact ⟨_, _, _, k60, k61⟩
    · exact ⟨_, _, _, k62, k64⟩
    · exact ⟨_, _, _, k65, k66⟩
    · exact ⟨_, _, _, k67, k69⟩
    · exact ⟨_, _, _, k70, k71⟩
  · rcases hs with rfl | rfl | rfl | rfl | rfl | rfl | rfl | rfl
    · exact ⟨_, _, _, k76, k79⟩
    · exact ⟨_, _, _, k80, k81⟩
    · exact ⟨_, _, _, k82, k84⟩
    · exact ⟨_, _, _, k85, k86⟩
    · exact ⟨_, _, _, k87, k89⟩
    · exact ⟨_, _, _, k90, k91⟩
    · exact ⟨_, _, _, k92, k94⟩
    · exact ⟨_, _, _, k95, k96⟩
  · rcases hs with rfl | rfl | rfl | rfl | rfl | rfl | rfl | rfl
    · exact ⟨_, _, _, k100, k103⟩
    · exact ⟨_, _, _, k104, k105⟩
    · exact ⟨_, _, _, k106, k108⟩
    · exact ⟨_, _, _, k109, k110⟩
    · exact ⟨_, _, _, k111, k113⟩
    · exact ⟨_, _, _, k114, k115⟩
    · exact ⟨_, _, _, k116, k118⟩
    · exact ⟨_, _, _, k119, k120⟩
end Go.Proofs.YtemgddekbdifeaaGreat.Am
