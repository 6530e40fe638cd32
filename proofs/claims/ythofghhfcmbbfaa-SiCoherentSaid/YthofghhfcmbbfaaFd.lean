/- Finding in lists of units: what the functions answer. -/
import Derived.Test.YthofghhfcmbbfaaMt
import Derived.Test.YthofghhfcmbbfaaKe4
set_option linter.unusedVariables false
set_option linter.unusedSimpArgs false
set_option maxRecDepth 100000
namespace Go.Proofs.Ythofghhfcmbbfaa.Am

/-- A unit: its name, its symbol, the thirteen cells behind them. -/
structure Unt where
  n : List UInt8
  s : List UInt8
  r : List Value

def Unt.cells (u : Unt) : List Value := .string (bs u.n) :: .string (bs u.s) :: u.r
def flatU : List Unt → List Value
  | [] => []
  | u :: U => u.cells ++ flatU U
def Unt.hit (u : Unt) (s : List UInt8) : Bool := u.n == s || u.s == s
/-- The cells of no unit. -/
def noU : List Value := [.string ⟨#[]⟩, .string ⟨#[]⟩, .int .i64 0, .int .i64 0, .int .i64 0, .int .i64 0, .int .i64 0, .int .i64 0, .int .i64 0, .int .i64 0, .string ⟨#[]⟩, .string ⟨#[]⟩, .string ⟨#[]⟩, .string ⟨#[]⟩, .int .i64 0]
def foundU (U : List Unt) (s : List UInt8) : Value :=
  match U.find? (fun u => u.hit s) with
  | some u => .tuple #[.agg u.cells.toArray, .bool true]
  | none => .tuple #[.agg noU.toArray, .bool false]

def okU (U : List Unt) : Prop := ∀ u ∈ U, u.r.length = 13
theorem Unt.cells_len {u : Unt} (h : u.r.length = 13) : u.cells.length = 15 := by simp [Unt.cells, h]
theorem flatU_len : ∀ {U : List Unt}, okU U → (flatU U).length = 15 * U.length
  | [], _ => rfl
  | u :: U, h => by
    have h1 := flatU_len (U := U) fun v hv => h v (List.mem_cons_of_mem _ hv)
    have h2 := Unt.cells_len (h u (List.mem_cons_self ..))
    simp only [flatU, List.length_append, h1, h2, List.length_cons]; omega
theorem flatU_drop : ∀ {U : List Unt} (k : Nat), okU U → (flatU U).drop (15 * k) = flatU (U.drop k)
  | U, 0, _ => by simp
  | [], k + 1, _ => by simp [flatU]
  | u :: U, k + 1, h => by
    have h1 := flatU_drop (U := U) k fun v hv => h v (List.mem_cons_of_mem _ hv)
    have h2 := Unt.cells_len (h u (List.mem_cons_self ..))
    have : 15 * (k + 1) = u.cells.length + 15 * k := by omega
    simp only [flatU, List.drop_succ_cons]
    rw [this, List.drop_append, List.drop_eq_nil_of_le (by omega), List.nil_append, Nat.add_sub_cancel_left, h1]
theorem flatU_at {U : List Unt} (hU : okU U) {k : Nat} (hk : k < U.length) : ((flatU U).drop (15 * k)).take 15 = U[k].cells := by
  rw [flatU_drop k hU, List.drop_eq_getElem_cons hk, flatU, List.take_append]
  have h2 := Unt.cells_len (hU _ (List.getElem_mem hk))
  rw [List.take_of_length_le (by omega), h2]
  simp
theorem flatU_get {U : List Unt} (hU : okU U) {k j : Nat} (hk : k < U.length) (hj : j < 15) : (flatU U)[15 * k + j]? = U[k].cells[j]? := by
  rw [← flatU_at hU hk, List.getElem?_take, if_pos hj, List.getElem?_drop]

/-- A slice of units that begins where its block begins. -/
def SlU (h : H) (i c : Nat) (U : List Unt) : Prop := ∃ t own op, i < h.next ∧ h.get i = some (.cells (flatU U) t own op) ∧ U.length ≤ c ∧ okU U
theorem SlU.ext {h h' : H} {i c : Nat} {U : List Unt} (s : SlU h i c U) (e : Ext h h') : SlU h' i c U := by
  obtain ⟨t, own, op, hi, hg, hc, hU⟩ := s
  exact ⟨t, own, op, Nat.lt_of_lt_of_le hi e.1, by rw [e.2 i hi]; exact hg, hc, hU⟩
theorem SlU.rd {h h' : H} {i c : Nat} {U : List Unt} (s : SlU h i c U) (e : Ext h h') (z : Int) (k : Nat) (hz : z.toNat = k) (hk : k < U.length) : h'.rd i (0 + z.toNat * 15) 15 = some U[k].cells := by
  obtain ⟨t, own, op, hi, hg, hc, hU⟩ := s
  subst hz
  rw [H.rd_own (by rw [e.2 i hi]; exact hg) (by rw [flatU_len hU]; omega)]
  rw [show 0 + z.toNat * 15 = 15 * z.toNat by omega, flatU_at hU hk]
theorem SlU.cell {h h' : H} {i c : Nat} {U : List Unt} (s : SlU h i c U) (e : Ext h h') (z : Int) (k j : Nat) (hz : z.toNat = k) (hk : k < U.length) (hj : j < 15) : h'.cell i (0 + z.toNat * 15 + j) = U[k].cells[j]? := by
  obtain ⟨t, own, op, hi, hg, hc, hU⟩ := s
  subst hz
  simp only [H.cell, e.2 i hi, hg]
  rw [show 0 + z.toNat * 15 + j = 15 * z.toNat + j by omega, flatU_get hU hk hj]
theorem SlU.cell0 {h h' : H} {i c : Nat} {U : List Unt} (s : SlU h i c U) (e : Ext h h') (z : Int) (k : Nat) (hz : z.toNat = k) (hk : k < U.length) : h'.cell i (0 + z.toNat * 15 + 0) = some (.string (bs U[k].n)) := by
  rw [s.cell e z k 0 hz hk (by omega)]; rfl
theorem SlU.cell1 {h h' : H} {i c : Nat} {U : List Unt} (s : SlU h i c U) (e : Ext h h') (z : Int) (k : Nat) (hz : z.toNat = k) (hk : k < U.length) : h'.cell i (0 + z.toNat * 15 + 1) = some (.string (bs U[k].s)) := by
  rw [s.cell e z k 1 hz hk (by omega)]; rfl
theorem SlU.cap {h : H} {i c : Nat} {U : List Unt} (s : SlU h i c U) : U.length ≤ c := by obtain ⟨t, own, op, hi, hg, hc, hU⟩ := s; exact hc
theorem SlU.lt {h : H} {i c : Nat} {U : List Unt} (s : SlU h i c U) : i < h.next := by obtain ⟨t, own, op, hi, hg, hc, hU⟩ := s; exact hi
theorem SlU.ok {h : H} {i c : Nat} {U : List Unt} (s : SlU h i c U) : okU U := by obtain ⟨t, own, op, hi, hg, hc, hU⟩ := s; exact hU
theorem SlU.push (h : H) {U : List Unt} (hU : okU U) (t : TypeId) (op : Bool) {c : Nat} (hc : U.length ≤ c) : SlU (h.push (.cells (flatU U) t true op)) h.next c U :=
  ⟨t, true, op, by simp [H.push], H.get_push _ _, hc, hU⟩

/-- A call that answers a list of units, new. -/
def Units (C : FuncId → Option AFn) (base : Cl) (g : FuncId) (U : List Unt) : Prop :=
  ∀ m h K, (∀ h' i c, Ext h h' → SlU h' i c U → K (.slice (some ⟨i, 0, none⟩) U.length c) h') → acall C base (m + 1) g [] h K
/-! ### Finding -/
theorem find_at {U : List Unt} {s : List UInt8} : ∀ {k : Nat}, (∀ m (hm : m < U.length), m < k → U[m].hit s = false) → ∀ (hk : k < U.length), U[k].hit s = true → U.find? (fun u => u.hit s) = some U[k] := by
  intro k hlt hk hh
  rw [List.find?_eq_some_iff_getElem]
  refine ⟨hh, k, hk, rfl, fun j hj => ?_⟩
  rw [hlt j (by omega) hj]; rfl
theorem find_none {U : List Unt} {s : List UInt8} (h : ∀ m (hm : m < U.length), U[m].hit s = false) : U.find? (fun u => u.hit s) = none := by
  rw [List.find?_eq_none]
  intro u hu
  obtain ⟨m, hm, rfl⟩ := List.getElem_of_mem hu
  rw [h m hm]; simp
theorem foundU_at {U : List Unt} {s : List UInt8} {k : Nat} (hlt : ∀ m (hm : m < U.length), m < k → U[m].hit s = false) (hk : k < U.length) (hh : U[k].hit s = true) : foundU U s = .tuple #[.agg U[k].cells.toArray, .bool true] := by
  unfold foundU; rw [find_at hlt hk hh]
theorem foundU_none {U : List Unt} {s : List UInt8} (h : ∀ m (hm : m < U.length), U[m].hit s = false) : foundU U s = .tuple #[.agg noU.toArray, .bool false] := by
  unfold foundU; rw [find_none h]
theorem Own.rdAll {h : H} {j : Nat} {cs : List Value} {t : TypeId} {op : Bool} (o : Own h j cs t op) {n : Nat} (hn : cs.length = n) : h.rd j 0 n = some cs := by
  rw [o.rd 0 n (by omega)]; simp [← hn]
theorem res_cellN {f : Fr} {h : H} {a n t i : Nat} {cs : List Value} (hp : f a = .pointer (some ⟨i, 0, none⟩)) (hr : h.rd i 0 n = some cs) :
    resAll f h [.cellN a n, .tmp t] = some [.agg cs.toArray, f t] := by
  simp [resAll, resOne, hp, hr]
theorem s_eq {a b : List UInt8} : ((bs a).toList == (bs b).toList) = (a == b) := by rw [bs_toList, bs_toList]
/-- Of what kind cells are. -/
def kind1 : Leaf → Value → Bool
  | .n _, .int .i64 _ => true
  | .b _, .bool _ => true
  | .s _, .string _ => true
  | _, _ => false
def kinds (cs : List Value) : List Leaf → Bool
  | [] => true
  | l :: r => (match cs[l.off]? with | some v => kind1 l v | none => false) && kinds cs r
theorem bytes_self (s : ByteArray) : (s == s) = true := by
  show ByteArray.beq s s = true
  unfold ByteArray.beq
  cases s with | mk d => simp
theorem eqL_self {cs : List Value} : ∀ {l : List Leaf}, kinds cs l = true → eqL cs cs l = some true
  | [], _ => rfl
  | l :: r, h => by
    simp only [kinds, Bool.and_eq_true] at h
    obtain ⟨h1, h2⟩ := h
    simp only [eqL]
    cases hv : cs[l.off]? with
    | none => rw [hv] at h1; cases h1
    | some v =>
      rw [hv] at h1
      simp only at h1 ⊢
      have : leafEq l v v = some true := by
        unfold kind1 at h1
        split at h1 <;> first | (simp [leafEq]; done) | (simp only [leafEq]; rw [bytes_self]; done) | cases h1
      rw [this, eqL_self h2]
      rfl
def L15 : List Leaf := [.s 0, .s 1, .n 2, .n 3, .n 4, .n 5, .n 6, .n 7, .n 8, .n 9, .s 10, .s 11, .s 12, .s 13, .n 14]
/-- Units as they should be. -/
def wellU (U : List Unt) : Bool := U.all fun u => Nat.beq u.r.length 13 && kinds u.cells L15
theorem wellU_ok {U : List Unt} (h : wellU U = true) : okU U := fun u hu => by
  have := List.all_eq_true.1 h u hu
  simp only [Bool.and_eq_true] at this
  exact Nat.eq_of_beq_eq_true this.1
theorem foundU_form {U : List Unt} (h : wellU U = true) (s : List UInt8) : ∃ cs b, foundU U s = .tuple #[.agg cs.toArray, .bool b] ∧ cs.length = 15 ∧ kinds cs L15 = true := by
  unfold foundU
  split
  · rename_i u hu
    have hm := List.mem_of_find?_eq_some hu
    have := List.all_eq_true.1 h u hm
    simp only [Bool.and_eq_true] at this
    exact ⟨_, _, rfl, Unt.cells_len (wellU_ok h u hm), this.2⟩
  · exact ⟨_, _, rfl, rfl, rfl⟩
end Go.Proofs.Ythofghhfcmbbfaa.Am

namespace Go.Proofs.Ythofghhfcmbbfaa.Am
theorem units_known {C : FuncId → Option AFn} {L : List Entry} {g : FuncId} {U : List Unt} {t : TypeId} {op : Bool} {c : Nat} {e : Entry} (hg : C g = none) (he : e ∈ L)
    (hee : e = ⟨g, [], .sl (flatU U) t op U.length c⟩) (hc : U.length ≤ c) (hU : wellU U = true) : Units C (baseK L) g U := by
  intro m h K hk
  simp only [acall, hg]
  subst hee
  exact ⟨_, he, rfl, rfl, hk _ _ _ ((Ext.refl h).push _) (SlU.push h (wellU_ok hU) t op hc)⟩
end Go.Proofs.Ythofghhfcmbbfaa.Am

namespace Go.Proofs.Ythofghhfcmbbfaa.Am

/-- The document's own Find. -/
theorem refFind_ok {C : FuncId → Option AFn} {base : Cl} {n : Nat} (hf : C 16 = some F16) {h : H} {i c : Nat} {U : List Unt} {s : List UInt8} {K : Value → H → Prop}
    (sl : SlU h i c U) (hl : U.length ≤ 1000) (hk : ∀ h', Ext h h' → K (foundU U s) h') :
    acall C base (n + 1) 16 [.slice (some ⟨i, 0, none⟩) U.length c, .string (bs s)] h K := by
  refine acall_of hf ?_
  (conv => whnf)
  have e0 := (Ext.refl h).push (.cells noU 30 true false)
  have o0 := Own.push (h := h) noU 30 false
  refine loop_upd (X := Nat) (fun k => [(0, .slice (some ⟨i, 0, none⟩) U.length c), (1, .string (bs s)), (4, .pointer (some ⟨h.next, 0, none⟩)), (6, .int .i64 (k : Int))])
    (fun k h' => Ext h h' ∧ Own h' h.next noU 30 false ∧ k ≤ U.length ∧ ∀ m (hm : m < U.length), m < k → U[m].hit s = false) (fun k => U.length - k) ?_ 0 _ _ ⟨rfl, rfl, rfl, rfl, trivial⟩ ⟨e0, o0, Nat.zero_le _, fun m _ hm => absurd hm (Nat.not_lt_zero _)⟩
  intro m k f h1 ⟨e1, o1, hkl, hno⟩ ih
  (conv => whnf)
  (refine obool_intro (fun hlt => ?_) (fun hlt => ?_))
  · have hk1 : k < U.length := by have := of_decide_eq_true hlt; omega
    have hz : ((k : Nat) : Int).toNat = k := by simp
    (conv => whnf)
    refine ⟨⟨by omega, by omega⟩, ?_⟩
    (conv => whnf)
    refine ⟨_, sl.cell0 e1 (k : Int) k hz hk1, ?_⟩
    (conv => whnf)
    (refine obool_intro (fun hq => ?_) (fun hq => ?_))
    · repeat ((conv => whnf); refine obool_t hq ?_)
      (conv => whnf)
      refine ⟨⟨by omega, by omega⟩, ?_⟩
      (conv => whnf)
      refine ⟨_, sl.rd e1 (k : Int) k hz hk1, ?_⟩
      obtain ⟨h2, hw2, o2, f2, n2, g2⟩ := o1.wr0 U[k].cells (Unt.cells_len (sl.ok _ (List.getElem_mem hk1)))
      (dsimp only [force, steps]); (dsimp only [stepW, AOp.strict]); (dsimp only [sst]); (conv => whnf)
      refine ⟨_, rfl, Unt.cells_len (sl.ok _ (List.getElem_mem hk1)), h2, hw2, ?_⟩
      (conv => whnf)
      refine ⟨_, res_cellN rfl (o2.rdAll (Unt.cells_len (sl.ok _ (List.getElem_mem hk1)))), ?_⟩
      have := hk h2 (f2 h e1 (Nat.le_refl _))
      rw [foundU_at hno hk1 (by rw [s_eq] at hq; simp [Unt.hit, hq])] at this
      exact this
    · repeat ((conv => whnf); refine obool_f hq ?_)
      (conv => whnf)
      refine ⟨⟨by omega, by omega⟩, ?_⟩
      repeat ((conv => whnf); refine obool_f hq ?_)
      (conv => whnf)
      refine ⟨_, sl.cell1 e1 (k : Int) k hz hk1, ?_⟩
      repeat ((conv => whnf); refine obool_f hq ?_)
      (conv => whnf)
      (refine obool_intro (fun hq2 => ?_) (fun hq2 => ?_))
      · (conv => whnf)
        refine ⟨⟨by omega, by omega⟩, ?_⟩
        (conv => whnf)
        refine ⟨_, sl.rd e1 (k : Int) k hz hk1, ?_⟩
        obtain ⟨h2, hw2, o2, f2, n2, g2⟩ := o1.wr0 U[k].cells (Unt.cells_len (sl.ok _ (List.getElem_mem hk1)))
        (dsimp only [force, steps]); (dsimp only [stepW, AOp.strict]); (dsimp only [sst]); (conv => whnf)
        refine ⟨_, rfl, Unt.cells_len (sl.ok _ (List.getElem_mem hk1)), h2, hw2, ?_⟩
        (conv => whnf)
        refine ⟨_, res_cellN rfl (o2.rdAll (Unt.cells_len (sl.ok _ (List.getElem_mem hk1)))), ?_⟩
        have := hk h2 (f2 h e1 (Nat.le_refl _))
        rw [foundU_at hno hk1 (by rw [s_eq] at hq2; simp [Unt.hit, hq2])] at this
        exact this
      · (conv => whnf)
        refine ar_i64e (k + 1) (by omega) (by omega) ?_
        (conv => whnf)
        refine ih (k + 1) _ _ (by omega) ⟨rfl, rfl, rfl, rfl, trivial⟩ ⟨e1, o1, by omega, fun m hm hlt1 => ?_⟩
        by_cases hmk : m = k
        · subst hmk
          rw [s_eq] at hq hq2
          simp only [Unt.hit, hq, hq2, Bool.or_self]
        · exact hno m hm (by omega)
  · (conv => whnf)
    refine ⟨_, rfl, ?_⟩
    obtain ⟨h2, hw2, o2, f2, n2, g2⟩ := o1.wr0 noU rfl
    (dsimp only [force, steps]); (dsimp only [stepW, AOp.strict]); (dsimp only [sst]); (conv => whnf)
    refine ⟨_, rfl, rfl, h2, hw2, ?_⟩
    (conv => whnf)
    refine ⟨_, res_cellN rfl (o2.rdAll rfl), ?_⟩
    have := hk h2 (f2 h e1 (Nat.le_refl _))
    have hge : ¬ k < U.length := by have := of_decide_eq_false hlt; omega
    rw [foundU_none (fun m hm => hno m hm (by omega))] at this
    exact this
end Go.Proofs.Ythofghhfcmbbfaa.Am

namespace Go.Proofs.Ythofghhfcmbbfaa.Am

theorem siIs_ok {C : FuncId → Option AFn} {base : Cl} {n : Nat} (hf : C 41 = some F41) {h : H} {j : Nat} {u : Unt} {s : List UInt8} {K : Value → H → Prop}
    (hu : u.r.length = 13) (hj : h.cell j 0 = some (.string (bs s))) (hjl : j < h.next) (hk : ∀ h', Ext h h' → K (.bool (u.hit s)) h') :
    acall C base (n + 1) 41 [.agg u.cells.toArray, .pointer (some ⟨j, 0, none⟩)] h K := by
  refine acall_of hf ?_
  have e1 := (Ext.refl h).push (.cells u.cells 30 true false)
  have hj1 : (h.push (.cells u.cells 30 true false)).cell j 0 = some (.string (bs s)) := by
    simp only [H.cell, H.get_push_ne h _ (Nat.ne_of_lt hjl)]; exact hj
  have c0 : (h.push (.cells u.cells 30 true false)).cell h.next (0 + 0) = some (.string (bs u.n)) := by
    simp only [H.cell, H.get_push]; rfl
  have c1 : (h.push (.cells u.cells 30 true false)).cell h.next (0 + 1) = some (.string (bs u.s)) := by
    simp only [H.cell, H.get_push]; rfl
  (conv => whnf)
  refine ⟨_, rfl, ?_⟩
  (conv => whnf)
  refine ⟨_, c0, ?_⟩
  (conv => whnf)
  refine ⟨_, hj1, ?_⟩
  (conv => whnf)
  (refine obool_intro (fun hq => ?_) (fun hq => ?_))
  · repeat ((conv => whnf); refine obool_t hq ?_)
    (conv => whnf)
    (refine ⟨_, rfl, ?_⟩)
    have := hk _ e1
    rw [s_eq] at hq
    rw [show u.hit s = true by simp [Unt.hit, hq]] at this
    exact this
  · repeat ((conv => whnf); refine obool_f hq ?_)
    (conv => whnf)
    refine ⟨_, c1, ?_⟩
    repeat ((conv => whnf); refine obool_f hq ?_)
    (conv => whnf)
    refine ⟨_, hj1, ?_⟩
    repeat ((conv => whnf); refine obool_f hq ?_)
    (conv => whnf)
    (refine ⟨_, rfl, ?_⟩)
    have := hk _ e1
    rw [s_eq] at hq
    rw [show u.hit s = ((bs u.s).toList == (bs s).toList) by simp [Unt.hit, hq, s_eq]] at this
    exact this
theorem baseIs_ok {C : FuncId → Option AFn} {base : Cl} {n : Nat} (hf : C 35 = some F35) {h : H} {j : Nat} {u : Unt} {s : List UInt8} {K : Value → H → Prop}
    (hu : u.r.length = 13) (hj : h.cell j 0 = some (.string (bs s))) (hjl : j < h.next) (hk : ∀ h', Ext h h' → K (.bool (u.hit s)) h') :
    acall C base (n + 1) 35 [.agg u.cells.toArray, .pointer (some ⟨j, 0, none⟩)] h K := by
  refine acall_of hf ?_
  have e1 := (Ext.refl h).push (.cells u.cells 30 true false)
  have hj1 : (h.push (.cells u.cells 30 true false)).cell j 0 = some (.string (bs s)) := by
    simp only [H.cell, H.get_push_ne h _ (Nat.ne_of_lt hjl)]; exact hj
  have c0 : (h.push (.cells u.cells 30 true false)).cell h.next (0 + 0) = some (.string (bs u.n)) := by
    simp only [H.cell, H.get_push]; rfl
  have c1 : (h.push (.cells u.cells 30 true false)).cell h.next (0 + 1) = some (.string (bs u.s)) := by
    simp only [H.cell, H.get_push]; rfl
  (conv => whnf)
  refine ⟨_, rfl, ?_⟩
  (conv => whnf)
  refine ⟨_, c0, ?_⟩
  (conv => whnf)
  refine ⟨_, hj1, ?_⟩
  (conv => whnf)
  (refine obool_intro (fun hq => ?_) (fun hq => ?_))
  · repeat ((conv => whnf); refine obool_t hq ?_)
    (conv => whnf)
    (refine ⟨_, rfl, ?_⟩)
    have := hk _ e1
    rw [s_eq] at hq
    rw [show u.hit s = true by simp [Unt.hit, hq]] at this
    exact this
  · repeat ((conv => whnf); refine obool_f hq ?_)
    (conv => whnf)
    refine ⟨_, c1, ?_⟩
    repeat ((conv => whnf); refine obool_f hq ?_)
    (conv => whnf)
    refine ⟨_, hj1, ?_⟩
    repeat ((conv => whnf); refine obool_f hq ?_)
    (conv => whnf)
    (refine ⟨_, rfl, ?_⟩)
    have := hk _ e1
    rw [s_eq] at hq
    rw [show u.hit s = ((bs u.s).toList == (bs s).toList) by simp [Unt.hit, hq, s_eq]] at this
    exact this
end Go.Proofs.Ythofghhfcmbbfaa.Am

namespace Go.Proofs.Ythofghhfcmbbfaa.Am

theorem siFind_ok {C : FuncId → Option AFn} {base : Cl} {n : Nat} (hf : C 19 = some F19) (hf1 : C 41 = some F41) {U : List Unt} (hU : Units C base 17 U)
    {h : H} {s : List UInt8} {K : Value → H → Prop} (hl : U.length ≤ 1000) (hk : ∀ h', Ext h h' → K (foundU U s) h') :
    acall C base (n + 2) 19 [.string (bs s)] h K := by
  refine acall_of hf ?_
  have e0 := ((Ext.refl h).push (.cells [.string (bs s)] 9 true false)).push (.cells noU 30 true false)
  have o0 := Own.push (h := h.push (.cells [.string (bs s)] 9 true false)) noU 30 false
  have ob := (Own.push (h := h) [.string (bs s)] 9 false).ext ((Ext.refl _).push (.cells noU 30 true false))
  (conv => whnf)
  refine ⟨_, rfl, ?_⟩
  (conv => whnf)
  refine hU _ _ _ (fun h0 i c e1 sl => ?_)
  (conv => whnf)
  refine loop_upd (X := Nat) (fun k => [(1, .pointer (some ⟨h.next, 0, none⟩)), (2, .pointer (some ⟨h.next + 1, 0, none⟩)), (4, .func (.func 41) #[] #[.pointer (some ⟨h.next, 0, none⟩)]), (8, .slice (some ⟨i, 0, none⟩) U.length c), (9, .int .i64 (U.length : Int)), (10, .int .i64 (k : Int))])
    (fun k h' => Ext h h' ∧ Ext h0 h' ∧ Own h' (h.next + 1) noU 30 false ∧ Own h' h.next [.string (bs s)] 9 false ∧ k ≤ U.length ∧ ∀ m (hm : m < U.length), m < k → U[m].hit s = false) (fun k => U.length - k) ?_ 0 _ _ ⟨rfl, rfl, rfl, rfl, rfl, rfl, trivial⟩
    ⟨e0.trans e1, Ext.refl _, o0.ext e1, ob.ext e1, Nat.zero_le _, fun m _ hm => absurd hm (Nat.not_lt_zero _)⟩
  intro m k f h1 ⟨e2, e3, o1, o2, hkl, hno⟩ ih
  (conv => whnf)
  (refine obool_intro (fun hlt => ?_) (fun hlt => ?_))
  · have hk1 : k < U.length := by have := of_decide_eq_true hlt; omega
    have hz : ((k : Nat) : Int).toNat = k := by simp
    have hlen : U[k].cells.length = 15 := Unt.cells_len (sl.ok _ (List.getElem_mem hk1))
    (conv => whnf)
    refine ⟨⟨by omega, by omega⟩, ?_⟩
    (conv => whnf)
    refine ⟨_, sl.rd e3 (k : Int) k hz hk1, ?_⟩
    obtain ⟨h2, hw2, o3, f2, n2, g2⟩ := (Own.push (h := h1) noU 30 false).wr0 U[k].cells hlen
    have x1 : Ext h1 h2 := f2 h1 ((Ext.refl _).push _) (Nat.le_refl _)
    (dsimp only [force, steps]); (dsimp only [stepW, AOp.strict]); (dsimp only [sst]); (conv => whnf)
    refine ⟨_, rfl, hlen, h2, hw2, ?_⟩
    (conv => whnf)
    refine ⟨_, o3.rdAll hlen, ?_⟩
    have oj := (o2.ext x1)
    (conv => whnf)
    refine siIs_ok hf1 (u := U[k]) (s := s) (sl.ok _ (List.getElem_mem hk1)) (H.cell_own oj.2 (by simp)) oj.1 (fun h3 e4 => ?_)
    (conv => whnf)
    (refine obool_intro (fun hq => ?_) (fun hq => ?_))
    · (conv => whnf)
      refine ⟨_, (o3.ext e4).rdAll hlen, ?_⟩
      obtain ⟨h4, hw4, o4, f4, n4, g4⟩ := ((o1.ext x1).ext e4).wr0 U[k].cells hlen
      (dsimp only [force, steps]); (dsimp only [stepW, AOp.strict]); (dsimp only [sst]); (conv => whnf)
      refine ⟨_, rfl, hlen, h4, hw4, ?_⟩
      (conv => whnf)
      refine ⟨_, res_cellN rfl (o4.rdAll hlen), ?_⟩
      have := hk h4 (f4 h ((e2.trans x1).trans e4) (Nat.le_succ _))
      rw [foundU_at hno hk1 hq] at this
      exact this
    · (conv => whnf)
      refine ar_i64e (k + 1) (by omega) (by omega) ?_
      (conv => whnf)
      refine ih (k + 1) _ _ (by omega) ⟨rfl, rfl, rfl, rfl, rfl, rfl, trivial⟩ ⟨(e2.trans x1).trans e4, (e3.trans x1).trans e4, (o1.ext x1).ext e4, (o2.ext x1).ext e4, by omega, fun m hm hlt1 => ?_⟩
      by_cases hmk : m = k
      · subst hmk; exact hq
      · exact hno m hm (by omega)
  · (conv => whnf)
    refine ⟨_, rfl, ?_⟩
    obtain ⟨h2, hw2, o3, f2, n2, g2⟩ := o1.wr0 noU rfl
    (dsimp only [force, steps]); (dsimp only [stepW, AOp.strict]); (dsimp only [sst]); (conv => whnf)
    refine ⟨_, rfl, rfl, h2, hw2, ?_⟩
    (conv => whnf)
    refine ⟨_, res_cellN rfl (o3.rdAll rfl), ?_⟩
    have := hk h2 (f2 h e2 (Nat.le_succ _))
    have hge : ¬ k < U.length := by have := of_decide_eq_false hlt; omega
    rw [foundU_none (fun m hm => hno m hm (by omega))] at this
    exact this
end Go.Proofs.Ythofghhfcmbbfaa.Am

namespace Go.Proofs.Ythofghhfcmbbfaa.Am

theorem index_ok {C : FuncId → Option AFn} {base : Cl} {n : Nat} (hf : C 34 = some F34) (hf1 : C 35 = some F35)
    {h : H} {i c j : Nat} {U : List Unt} {s : List UInt8} {K : Value → H → Prop} (sl : SlU h i c U) (hl : U.length ≤ 1000) (oj : Own h j [.string (bs s)] 9 false)
    (hk1 : ∀ h' (k : Nat) (hk : k < U.length), Ext h h' → (∀ m (hm : m < U.length), m < k → U[m].hit s = false) → U[k].hit s = true → K (.int .i64 (k : Int)) h')
    (hk2 : ∀ h', Ext h h' → (∀ m (hm : m < U.length), U[m].hit s = false) → K (.int .i64 (-1)) h') :
    acall C base (n + 2) 34 [.slice (some ⟨i, 0, none⟩) U.length c, .func (.func 35) #[] #[.pointer (some ⟨j, 0, none⟩)]] h K := by
  refine acall_of hf ?_
  (conv => whnf)
  refine loop_upd (X := Nat) (fun k => [(0, .slice (some ⟨i, 0, none⟩) U.length c), (1, .func (.func 35) #[] #[.pointer (some ⟨j, 0, none⟩)]), (7, .int .i64 (U.length : Int)), (8, .int .i64 (k : Int))])
    (fun k h' => Ext h h' ∧ k ≤ U.length ∧ ∀ m (hm : m < U.length), m < k → U[m].hit s = false) (fun k => U.length - k) ?_ 0 _ _ ⟨rfl, rfl, rfl, rfl, trivial⟩
    ⟨Ext.refl _, Nat.zero_le _, fun m _ hm => absurd hm (Nat.not_lt_zero _)⟩
  intro m k f h1 ⟨e1, hkl, hno⟩ ih
  (conv => whnf)
  (refine obool_intro (fun hlt => ?_) (fun hlt => ?_))
  · have hkk : k < U.length := by have := of_decide_eq_true hlt; omega
    have hz : ((k : Nat) : Int).toNat = k := by simp
    have o1 := oj.ext e1
    (conv => whnf)
    refine ⟨⟨by omega, by omega⟩, ?_⟩
    (conv => whnf)
    refine ⟨_, sl.rd e1 (k : Int) k hz hkk, ?_⟩
    (conv => whnf)
    refine baseIs_ok hf1 (u := U[k]) (s := s) (sl.ok _ (List.getElem_mem hkk)) (H.cell_own o1.2 (by simp)) o1.1 (fun h3 e4 => ?_)
    (conv => whnf)
    (refine obool_intro (fun hq => ?_) (fun hq => ?_))
    · (conv => whnf)
      (refine ⟨_, rfl, ?_⟩)
      exact hk1 h3 k hkk (e1.trans e4) hno hq
    · (conv => whnf)
      refine ar_i64e (k + 1) (by omega) (by omega) ?_
      (conv => whnf)
      refine ih (k + 1) _ _ (by omega) ⟨rfl, rfl, rfl, rfl, trivial⟩ ⟨e1.trans e4, by omega, fun m hm hlt1 => ?_⟩
      by_cases hmk : m = k
      · subst hmk; exact hq
      · exact hno m hm (by omega)
  · (conv => whnf)
    (refine ⟨_, rfl, ?_⟩)
    have hge : ¬ k < U.length := by have := of_decide_eq_false hlt; omega
    exact hk2 h1 e1 (fun m hm => hno m hm (by omega))

theorem baseFind_ok {C : FuncId → Option AFn} {base : Cl} {n : Nat} (hf : C 15 = some F15) (hf2 : C 34 = some F34) (hf1 : C 35 = some F35) {U : List Unt} (hU : Units C base 12 U)
    {h : H} {s : List UInt8} {K : Value → H → Prop} (hl : U.length ≤ 1000) (hk : ∀ h', Ext h h' → K (foundU U s) h') :
    acall C base (n + 3) 15 [.string (bs s)] h K := by
  refine acall_of hf ?_
  have e0 := ((Ext.refl h).push (.cells [.string (bs s)] 9 true false)).push (.cells noU 30 true false)
  have o0 := Own.push (h := h.push (.cells [.string (bs s)] 9 true false)) noU 30 false
  have ob := (Own.push (h := h) [.string (bs s)] 9 false).ext ((Ext.refl _).push (.cells noU 30 true false))
  (conv => whnf)
  refine ⟨_, rfl, ?_⟩
  (conv => whnf)
  refine hU _ _ _ (fun h0 i c e1 sl => ?_)
  (conv => whnf)
  refine index_ok hf2 hf1 sl hl (ob.ext e1) (fun h1 k hkk e2 hno hq => ?_) (fun h1 e2 hno => ?_)
  · have hz : ((k : Nat) : Int).toNat = k := by simp
    have hlen : U[k].cells.length = 15 := Unt.cells_len (sl.ok _ (List.getElem_mem hkk))
    (conv => whnf)
    refine ⟨⟨by omega, by omega⟩, ?_⟩
    (conv => whnf)
    refine ⟨_, sl.rd e2 (k : Int) k hz hkk, ?_⟩
    obtain ⟨h2, hw2, o3, f2, n2, g2⟩ := ((o0.ext e1).ext e2).wr0 U[k].cells hlen
    (dsimp only [force, steps]); (dsimp only [stepW, AOp.strict]); (dsimp only [sst]); (conv => whnf)
    refine ⟨_, rfl, hlen, h2, hw2, ?_⟩
    (conv => whnf)
    refine ⟨_, res_cellN rfl (o3.rdAll hlen), ?_⟩
    have := hk h2 (f2 h ((e0.trans e1).trans e2) (Nat.le_succ _))
    rw [foundU_at hno hkk hq] at this
    exact this
  · (conv => whnf)
    refine ⟨_, rfl, ?_⟩
    obtain ⟨h2, hw2, o3, f2, n2, g2⟩ := ((o0.ext e1).ext e2).wr0 noU rfl
    (dsimp only [force, steps]); (dsimp only [stepW, AOp.strict]); (dsimp only [sst]); (conv => whnf)
    refine ⟨_, rfl, rfl, h2, hw2, ?_⟩
    (conv => whnf)
    refine ⟨_, res_cellN rfl (o3.rdAll rfl), ?_⟩
    have := hk h2 (f2 h ((e0.trans e1).trans e2) (Nat.le_succ _))
    rw [foundU_none hno] at this
    exact this
end Go.Proofs.Ythofghhfcmbbfaa.Am

namespace Go.Proofs.Ythofghhfcmbbfaa.Am
theorem baseFinds_ok {C : FuncId → Option AFn} {base : Cl} {n : Nat} (hl : C 5 = some F5)
    (hf : C 15 = some F15) (hf2 : C 34 = some F34) (hf1 : C 35 = some F35) (hr : C 16 = some F16)
    {U : List Unt} (hU : Units C base 12 U) (hR : Units C base 14 U) (hlen : U.length ≤ 1000) (hw : wellU U = true)
    (hkel : ∃ cs : List Value, foundU U [107, 101, 108, 118, 105, 110] = .tuple #[.agg cs.toArray, .bool true] ∧ cs.length = 15) {h : H} (s : List UInt8) :
    acall C base (n + 4) 5 [.string (bs s)] h (fun v _ => v = .bool true) := by
  refine acall_of hl ?_
  obtain ⟨cs, b, ha, hl15, hk⟩ := foundU_form hw s
  obtain ⟨ck, hkel, hlk⟩ := hkel
  (conv => whnf)
  refine baseFind_ok hf hf2 hf1 hU hlen (fun h1 e1 => ?_)
  rw [ha]
  (conv => whnf)
  refine ⟨_, rfl, ?_⟩
  (conv => whnf)
  refine ⟨_, rfl, ?_⟩
  (conv => whnf)
  obtain ⟨h2, hw2, oa, f2, n2, g2⟩ := (Own.push (h := h1) noU 30 false).wr0 cs hl15
  have x1 := f2 h1 ((Ext.refl _).push _) (Nat.le_refl _)
  refine ⟨_, rfl, hl15, h2, hw2, ?_⟩
  clear hw2 f2 n2 g2
  have xa := e1.trans x1
  clear e1 x1
  (conv => whnf)
  refine hR _ _ _ (fun h3 i c e3 sl => ?_)
  (conv => whnf)
  refine refFind_ok hr sl hlen (fun h4 e4 => ?_)
  rw [ha]
  (conv => whnf)
  refine ⟨_, rfl, ?_⟩
  (conv => whnf)
  refine ⟨_, rfl, ?_⟩
  (conv => whnf)
  obtain ⟨h5, hw2, ob, f2, n2, g2⟩ := (Own.push (h := h4) noU 30 false).wr0 cs hl15
  have x1 := f2 h4 ((Ext.refl _).push _) (Nat.le_refl _)
  refine ⟨_, rfl, hl15, h5, hw2, ?_⟩
  clear hw2 f2 n2 g2
  have xb := e4.trans x1
  clear e4 x1
  (conv => whnf)
  refine baseFind_ok hf hf2 hf1 hU hlen (s := [107, 101, 108, 118, 105, 110]) (fun h6 e6 => ?_)
  rw [hkel]
  (conv => whnf)
  refine ⟨_, rfl, ?_⟩
  (conv => whnf)
  refine ⟨_, rfl, ?_⟩
  (conv => whnf)
  obtain ⟨h7, hw2, oc, f2, n2, g2⟩ := (Own.push (h := h6) noU 30 false).wr0 ck hlk
  have x1 := f2 h6 ((Ext.refl _).push _) (Nat.le_refl _)
  refine ⟨_, rfl, hlk, h7, hw2, ?_⟩
  clear hw2 f2 n2 g2
  have xc := e6.trans x1
  clear e6 x1
  have oa' := ((oa.ext e3).ext xb).ext xc
  have ob' := ob.ext xc
  (conv => whnf)
  refine ⟨_, oa'.rdAll hl15, ?_⟩
  (conv => whnf)
  refine ⟨_, ob'.rdAll hl15, ?_⟩
  (conv => whnf)
  refine ⟨true, eqL_self hk, ?_⟩
  cases b
  · (conv => whnf)
    exact ⟨_, rfl, rfl⟩
  · (conv => whnf)
    exact ⟨_, rfl, rfl⟩
theorem siFinds_ok {C : FuncId → Option AFn} {base : Cl} {n : Nat} (hl : C 7 = some F7)
    (hf : C 19 = some F19) (hf1 : C 41 = some F41) (hr : C 16 = some F16)
    {U : List Unt} (hU : Units C base 17 U) (hR : Units C base 18 U) (hlen : U.length ≤ 1000) (hw : wellU U = true)
    (hkel : ∃ cs : List Value, foundU U [106, 111, 117, 108, 101] = .tuple #[.agg cs.toArray, .bool true] ∧ cs.length = 15 ∧ cs[1]? = some (.string (bs [74]))) {h : H} (s : List UInt8) :
    acall C base (n + 4) 7 [.string (bs s)] h (fun v _ => v = .bool true) := by
  refine acall_of hl ?_
  obtain ⟨cs, b, ha, hl15, hk⟩ := foundU_form hw s
  obtain ⟨p, hp⟩ : ∃ p : List UInt8, p = [74] := ⟨_, rfl⟩
  rw [← hp] at hkel
  obtain ⟨ck, hkel, hlk, hjj⟩ := hkel
  (conv => whnf)
  refine siFind_ok hf hf1 hU hlen (fun h1 e1 => ?_)
  rw [ha]
  (conv => whnf)
  refine ⟨_, rfl, ?_⟩
  (conv => whnf)
  refine ⟨_, rfl, ?_⟩
  (conv => whnf)
  obtain ⟨h2, hw2, oa, f2, n2, g2⟩ := (Own.push (h := h1) noU 30 false).wr0 cs hl15
  have x1 := f2 h1 ((Ext.refl _).push _) (Nat.le_refl _)
  refine ⟨_, rfl, hl15, h2, hw2, ?_⟩
  clear hw2 f2 n2 g2
  have xa := e1.trans x1
  clear e1 x1
  (conv => whnf)
  refine hR _ _ _ (fun h3 i c e3 sl => ?_)
  (conv => whnf)
  refine refFind_ok hr sl hlen (fun h4 e4 => ?_)
  rw [ha]
  (conv => whnf)
  refine ⟨_, rfl, ?_⟩
  (conv => whnf)
  refine ⟨_, rfl, ?_⟩
  (conv => whnf)
  obtain ⟨h5, hw2, ob, f2, n2, g2⟩ := (Own.push (h := h4) noU 30 false).wr0 cs hl15
  have x1 := f2 h4 ((Ext.refl _).push _) (Nat.le_refl _)
  refine ⟨_, rfl, hl15, h5, hw2, ?_⟩
  clear hw2 f2 n2 g2
  have xb := e4.trans x1
  clear e4 x1
  (conv => whnf)
  refine siFind_ok hf hf1 hU hlen (s := [106, 111, 117, 108, 101]) (fun h6 e6 => ?_)
  rw [hkel]
  (conv => whnf)
  refine ⟨_, rfl, ?_⟩
  (conv => whnf)
  refine ⟨_, rfl, ?_⟩
  (conv => whnf)
  obtain ⟨h7, hw2, oc, f2, n2, g2⟩ := (Own.push (h := h6) noU 30 false).wr0 ck hlk
  have x1 := f2 h6 ((Ext.refl _).push _) (Nat.le_refl _)
  refine ⟨_, rfl, hlk, h7, hw2, ?_⟩
  clear hw2 f2 n2 g2
  have xc := e6.trans x1
  clear e6 x1
  have oa' := ((oa.ext e3).ext xb).ext xc
  have ob' := ob.ext xc
  (conv => whnf)
  refine ⟨_, oa'.rdAll hl15, ?_⟩
  (conv => whnf)
  refine ⟨_, ob'.rdAll hl15, ?_⟩
  (conv => whnf)
  refine ⟨true, eqL_self hk, ?_⟩
  have hc : h7.cell h6.next (0 + 1) = some (.string (bs p)) := by simp only [H.cell, oc.2]; exact hjj
  have he : ((bs p).toList == (bs [74]).toList) = true := by rw [s_eq, hp]; rfl
  cases b
  · (conv => whnf)
    refine ⟨_, hc, ?_⟩
    (conv => whnf)
    refine ⟨_, rfl, ?_⟩
    show Value.bool ((bs p).toList == (bs [74]).toList) = .bool true
    rw [he]
  · (conv => whnf)
    refine ⟨_, hc, ?_⟩
    (conv => whnf)
    refine ⟨_, rfl, ?_⟩
    show Value.bool ((bs p).toList == (bs [74]).toList) = .bool true
    rw [he]
end Go.Proofs.Ythofghhfcmbbfaa.Am
namespace Go.Proofs.Ythofghhfcmbbfaa.Am
def baseL : List Unt := [⟨[98, 105, 116], [98], [(.int .i64 0), (.int .i64 0), (.int .i64 0), (.int .i64 0), (.int .i64 0), (.int .i64 0), (.int .i64 0), (.int .i64 1), (.string ⟨#[49]⟩), (.string ⟨#[49]⟩), (.string ⟨#[48]⟩), (.string ⟨#[49]⟩), (.int .i64 3)]⟩,
  ⟨[109, 111, 108, 101], [109, 111, 108], [(.int .i64 0), (.int .i64 0), (.int .i64 0), (.int .i64 0), (.int .i64 0), (.int .i64 1), (.int .i64 0), (.int .i64 0), (.string ⟨#[49]⟩), (.string ⟨#[49]⟩), (.string ⟨#[48]⟩), (.string ⟨#[49]⟩), (.int .i64 1)]⟩,
  ⟨[115, 101, 99, 111, 110, 100], [115], [(.int .i64 0), (.int .i64 0), (.int .i64 1), (.int .i64 0), (.int .i64 0), (.int .i64 0), (.int .i64 0), (.int .i64 0), (.string ⟨#[49]⟩), (.string ⟨#[49]⟩), (.string ⟨#[48]⟩), (.string ⟨#[49]⟩), (.int .i64 1)]⟩,
  ⟨[97, 109, 112, 101, 114, 101], [65], [(.int .i64 0), (.int .i64 0), (.int .i64 0), (.int .i64 1), (.int .i64 0), (.int .i64 0), (.int .i64 0), (.int .i64 0), (.string ⟨#[49]⟩), (.string ⟨#[49]⟩), (.string ⟨#[48]⟩), (.string ⟨#[49]⟩), (.int .i64 1)]⟩,
  ⟨[109, 101, 116, 114, 101], [109], [(.int .i64 1), (.int .i64 0), (.int .i64 0), (.int .i64 0), (.int .i64 0), (.int .i64 0), (.int .i64 0), (.int .i64 0), (.string ⟨#[49]⟩), (.string ⟨#[49]⟩), (.string ⟨#[48]⟩), (.string ⟨#[49]⟩), (.int .i64 1)]⟩,
  ⟨[103, 114, 97, 109], [103], [(.int .i64 0), (.int .i64 1), (.int .i64 0), (.int .i64 0), (.int .i64 0), (.int .i64 0), (.int .i64 0), (.int .i64 0), (.string ⟨#[49]⟩), (.string ⟨#[49, 48, 48, 48]⟩), (.string ⟨#[48]⟩), (.string ⟨#[49]⟩), (.int .i64 1)]⟩,
  ⟨[99, 97, 110, 100, 101, 108, 97], [99, 100], [(.int .i64 0), (.int .i64 0), (.int .i64 0), (.int .i64 0), (.int .i64 0), (.int .i64 0), (.int .i64 1), (.int .i64 0), (.string ⟨#[49]⟩), (.string ⟨#[49]⟩), (.string ⟨#[48]⟩), (.string ⟨#[49]⟩), (.int .i64 1)]⟩,
  ⟨[107, 101, 108, 118, 105, 110], [75], [(.int .i64 0), (.int .i64 0), (.int .i64 0), (.int .i64 0), (.int .i64 1), (.int .i64 0), (.int .i64 0), (.int .i64 0), (.string ⟨#[49]⟩), (.string ⟨#[49]⟩), (.string ⟨#[48]⟩), (.string ⟨#[49]⟩), (.int .i64 1)]⟩]
theorem baseL_well : wellU baseL = true := by kernel_rfl
theorem baseL_p : e32 = ⟨12, [], .sl (flatU baseL) 30 false baseL.length 8⟩ := by kernel_rfl
theorem baseL_r : e34 = ⟨14, [], .sl (flatU baseL) 30 false baseL.length 8⟩ := by kernel_rfl
def siL : List Unt := [⟨[110, 101, 119, 116, 111, 110], [78], [(.int .i64 1), (.int .i64 1), (.int .i64 (-2)), (.int .i64 0), (.int .i64 0), (.int .i64 0), (.int .i64 0), (.int .i64 0), (.string ⟨#[49]⟩), (.string ⟨#[49]⟩), (.string ⟨#[48]⟩), (.string ⟨#[49]⟩), (.int .i64 1)]⟩,
  ⟨[112, 97, 115, 99, 97, 108], [80, 97], [(.int .i64 (-1)), (.int .i64 1), (.int .i64 (-2)), (.int .i64 0), (.int .i64 0), (.int .i64 0), (.int .i64 0), (.int .i64 0), (.string ⟨#[49]⟩), (.string ⟨#[49]⟩), (.string ⟨#[48]⟩), (.string ⟨#[49]⟩), (.int .i64 1)]⟩,
  ⟨[106, 111, 117, 108, 101], [74], [(.int .i64 2), (.int .i64 1), (.int .i64 (-2)), (.int .i64 0), (.int .i64 0), (.int .i64 0), (.int .i64 0), (.int .i64 0), (.string ⟨#[49]⟩), (.string ⟨#[49]⟩), (.string ⟨#[48]⟩), (.string ⟨#[49]⟩), (.int .i64 1)]⟩,
  ⟨[119, 97, 116, 116], [87], [(.int .i64 2), (.int .i64 1), (.int .i64 (-3)), (.int .i64 0), (.int .i64 0), (.int .i64 0), (.int .i64 0), (.int .i64 0), (.string ⟨#[49]⟩), (.string ⟨#[49]⟩), (.string ⟨#[48]⟩), (.string ⟨#[49]⟩), (.int .i64 1)]⟩,
  ⟨[99, 111, 117, 108, 111, 109, 98], [67], [(.int .i64 0), (.int .i64 0), (.int .i64 1), (.int .i64 1), (.int .i64 0), (.int .i64 0), (.int .i64 0), (.int .i64 0), (.string ⟨#[49]⟩), (.string ⟨#[49]⟩), (.string ⟨#[48]⟩), (.string ⟨#[49]⟩), (.int .i64 1)]⟩,
  ⟨[118, 111, 108, 116], [86], [(.int .i64 2), (.int .i64 1), (.int .i64 (-3)), (.int .i64 (-1)), (.int .i64 0), (.int .i64 0), (.int .i64 0), (.int .i64 0), (.string ⟨#[49]⟩), (.string ⟨#[49]⟩), (.string ⟨#[48]⟩), (.string ⟨#[49]⟩), (.int .i64 1)]⟩,
  ⟨[102, 97, 114, 97, 100], [70], [(.int .i64 (-2)), (.int .i64 (-1)), (.int .i64 4), (.int .i64 2), (.int .i64 0), (.int .i64 0), (.int .i64 0), (.int .i64 0), (.string ⟨#[49]⟩), (.string ⟨#[49]⟩), (.string ⟨#[48]⟩), (.string ⟨#[49]⟩), (.int .i64 1)]⟩,
  ⟨[111, 104, 109], [206, 169], [(.int .i64 2), (.int .i64 1), (.int .i64 (-3)), (.int .i64 (-2)), (.int .i64 0), (.int .i64 0), (.int .i64 0), (.int .i64 0), (.string ⟨#[49]⟩), (.string ⟨#[49]⟩), (.string ⟨#[48]⟩), (.string ⟨#[49]⟩), (.int .i64 1)]⟩,
  ⟨[115, 105, 101, 109, 101, 110, 115], [83], [(.int .i64 (-2)), (.int .i64 (-1)), (.int .i64 3), (.int .i64 2), (.int .i64 0), (.int .i64 0), (.int .i64 0), (.int .i64 0), (.string ⟨#[49]⟩), (.string ⟨#[49]⟩), (.string ⟨#[48]⟩), (.string ⟨#[49]⟩), (.int .i64 1)]⟩,
  ⟨[119, 101, 98, 101, 114], [87, 98], [(.int .i64 2), (.int .i64 1), (.int .i64 (-2)), (.int .i64 (-1)), (.int .i64 0), (.int .i64 0), (.int .i64 0), (.int .i64 0), (.string ⟨#[49]⟩), (.string ⟨#[49]⟩), (.string ⟨#[48]⟩), (.string ⟨#[49]⟩), (.int .i64 1)]⟩,
  ⟨[116, 101, 115, 108, 97], [84], [(.int .i64 0), (.int .i64 1), (.int .i64 (-2)), (.int .i64 (-1)), (.int .i64 0), (.int .i64 0), (.int .i64 0), (.int .i64 0), (.string ⟨#[49]⟩), (.string ⟨#[49]⟩), (.string ⟨#[48]⟩), (.string ⟨#[49]⟩), (.int .i64 1)]⟩,
  ⟨[104, 101, 110, 114, 121], [72], [(.int .i64 2), (.int .i64 1), (.int .i64 (-2)), (.int .i64 (-2)), (.int .i64 0), (.int .i64 0), (.int .i64 0), (.int .i64 0), (.string ⟨#[49]⟩), (.string ⟨#[49]⟩), (.string ⟨#[48]⟩), (.string ⟨#[49]⟩), (.int .i64 1)]⟩,
  ⟨[104, 101, 114, 116, 122], [72, 122], [(.int .i64 0), (.int .i64 0), (.int .i64 (-1)), (.int .i64 0), (.int .i64 0), (.int .i64 0), (.int .i64 0), (.int .i64 0), (.string ⟨#[49]⟩), (.string ⟨#[49]⟩), (.string ⟨#[48]⟩), (.string ⟨#[49]⟩), (.int .i64 1)]⟩,
  ⟨[98, 101, 99, 113, 117, 101, 114, 101, 108], [66, 113], [(.int .i64 0), (.int .i64 0), (.int .i64 (-1)), (.int .i64 0), (.int .i64 0), (.int .i64 0), (.int .i64 0), (.int .i64 0), (.string ⟨#[49]⟩), (.string ⟨#[49]⟩), (.string ⟨#[48]⟩), (.string ⟨#[49]⟩), (.int .i64 1)]⟩,
  ⟨[103, 114, 97, 121], [71, 121], [(.int .i64 2), (.int .i64 0), (.int .i64 (-2)), (.int .i64 0), (.int .i64 0), (.int .i64 0), (.int .i64 0), (.int .i64 0), (.string ⟨#[49]⟩), (.string ⟨#[49]⟩), (.string ⟨#[48]⟩), (.string ⟨#[49]⟩), (.int .i64 1)]⟩,
  ⟨[115, 105, 101, 118, 101, 114, 116], [83, 118], [(.int .i64 2), (.int .i64 0), (.int .i64 (-2)), (.int .i64 0), (.int .i64 0), (.int .i64 0), (.int .i64 0), (.int .i64 0), (.string ⟨#[49]⟩), (.string ⟨#[49]⟩), (.string ⟨#[48]⟩), (.string ⟨#[49]⟩), (.int .i64 1)]⟩,
  ⟨[107, 97, 116, 97, 108], [107, 97, 116], [(.int .i64 0), (.int .i64 0), (.int .i64 (-1)), (.int .i64 0), (.int .i64 0), (.int .i64 1), (.int .i64 0), (.int .i64 0), (.string ⟨#[49]⟩), (.string ⟨#[49]⟩), (.string ⟨#[48]⟩), (.string ⟨#[49]⟩), (.int .i64 1)]⟩,
  ⟨[114, 97, 100, 105, 97, 110], [114, 97, 100], [(.int .i64 0), (.int .i64 0), (.int .i64 0), (.int .i64 0), (.int .i64 0), (.int .i64 0), (.int .i64 0), (.int .i64 0), (.string ⟨#[49]⟩), (.string ⟨#[49]⟩), (.string ⟨#[48]⟩), (.string ⟨#[49]⟩), (.int .i64 1)]⟩,
  ⟨[115, 116, 101, 114, 97, 100, 105, 97, 110], [115, 114], [(.int .i64 0), (.int .i64 0), (.int .i64 0), (.int .i64 0), (.int .i64 0), (.int .i64 0), (.int .i64 0), (.int .i64 0), (.string ⟨#[49]⟩), (.string ⟨#[49]⟩), (.string ⟨#[48]⟩), (.string ⟨#[49]⟩), (.int .i64 1)]⟩,
  ⟨[108, 117, 109, 101, 110], [108, 109], [(.int .i64 0), (.int .i64 0), (.int .i64 0), (.int .i64 0), (.int .i64 0), (.int .i64 0), (.int .i64 1), (.int .i64 0), (.string ⟨#[49]⟩), (.string ⟨#[49]⟩), (.string ⟨#[48]⟩), (.string ⟨#[49]⟩), (.int .i64 1)]⟩,
  ⟨[108, 117, 120], [108, 120], [(.int .i64 (-2)), (.int .i64 0), (.int .i64 0), (.int .i64 0), (.int .i64 0), (.int .i64 0), (.int .i64 1), (.int .i64 0), (.string ⟨#[49]⟩), (.string ⟨#[49]⟩), (.string ⟨#[48]⟩), (.string ⟨#[49]⟩), (.int .i64 1)]⟩,
  ⟨[109, 105, 110, 117, 116, 101], [109, 105, 110], [(.int .i64 0), (.int .i64 0), (.int .i64 1), (.int .i64 0), (.int .i64 0), (.int .i64 0), (.int .i64 0), (.int .i64 0), (.string ⟨#[54, 48]⟩), (.string ⟨#[49]⟩), (.string ⟨#[48]⟩), (.string ⟨#[49]⟩), (.int .i64 0)]⟩,
  ⟨[104, 111, 117, 114], [104], [(.int .i64 0), (.int .i64 0), (.int .i64 1), (.int .i64 0), (.int .i64 0), (.int .i64 0), (.int .i64 0), (.int .i64 0), (.string ⟨#[51, 54, 48, 48]⟩), (.string ⟨#[49]⟩), (.string ⟨#[48]⟩), (.string ⟨#[49]⟩), (.int .i64 0)]⟩,
  ⟨[100, 97, 121], [100], [(.int .i64 0), (.int .i64 0), (.int .i64 1), (.int .i64 0), (.int .i64 0), (.int .i64 0), (.int .i64 0), (.int .i64 0), (.string ⟨#[56, 54, 52, 48, 48]⟩), (.string ⟨#[49]⟩), (.string ⟨#[48]⟩), (.string ⟨#[49]⟩), (.int .i64 0)]⟩,
  ⟨[108, 105, 116, 114, 101], [76], [(.int .i64 3), (.int .i64 0), (.int .i64 0), (.int .i64 0), (.int .i64 0), (.int .i64 0), (.int .i64 0), (.int .i64 0), (.string ⟨#[49]⟩), (.string ⟨#[49, 48, 48, 48]⟩), (.string ⟨#[48]⟩), (.string ⟨#[49]⟩), (.int .i64 1)]⟩,
  ⟨[116, 111, 110, 110, 101], [116], [(.int .i64 0), (.int .i64 1), (.int .i64 0), (.int .i64 0), (.int .i64 0), (.int .i64 0), (.int .i64 0), (.int .i64 0), (.string ⟨#[49, 48, 48, 48]⟩), (.string ⟨#[49]⟩), (.string ⟨#[48]⟩), (.string ⟨#[49]⟩), (.int .i64 1)]⟩,
  ⟨[98, 97, 114], [98, 97, 114], [(.int .i64 (-1)), (.int .i64 1), (.int .i64 (-2)), (.int .i64 0), (.int .i64 0), (.int .i64 0), (.int .i64 0), (.int .i64 0), (.string ⟨#[49, 48, 48, 48, 48, 48]⟩), (.string ⟨#[49]⟩), (.string ⟨#[48]⟩), (.string ⟨#[49]⟩), (.int .i64 1)]⟩,
  ⟨[104, 101, 99, 116, 97, 114, 101], [104, 97], [(.int .i64 2), (.int .i64 0), (.int .i64 0), (.int .i64 0), (.int .i64 0), (.int .i64 0), (.int .i64 0), (.int .i64 0), (.string ⟨#[49, 48, 48, 48, 48]⟩), (.string ⟨#[49]⟩), (.string ⟨#[48]⟩), (.string ⟨#[49]⟩), (.int .i64 0)]⟩,
  ⟨[98, 121, 116, 101], [66], [(.int .i64 0), (.int .i64 0), (.int .i64 0), (.int .i64 0), (.int .i64 0), (.int .i64 0), (.int .i64 0), (.int .i64 1), (.string ⟨#[56]⟩), (.string ⟨#[49]⟩), (.string ⟨#[48]⟩), (.string ⟨#[49]⟩), (.int .i64 3)]⟩]
theorem siL_well : wellU siL = true := by kernel_rfl
theorem siL_p : e28 = ⟨17, [], .sl (flatU siL) 30 true siL.length 29⟩ := by kernel_rfl
theorem siL_r : e29 = ⟨18, [], .sl (flatU siL) 30 false siL.length 29⟩ := by kernel_rfl
end Go.Proofs.Ythofghhfcmbbfaa.Am
