/- Finding and making: known at each name, and at none. -/
import Derived.Test.YthofghhfcmbbfaaFd
import Derived.KernelRfl
set_option linter.unusedVariables false
set_option linter.unusedSimpArgs false
set_option maxRecDepth 1000000

namespace Go.Proofs.Ythofghhfcmbbfaa.Am
theorem known_call {C : FuncId → Option AFn} {L : List Entry} {n g : Nat} {args : List Value} {h : H} {K : Value → H → Prop} (r : Res) (hg : C g = none) (he : (⟨g, args, r⟩ : Entry) ∈ L) (hk : r.run h K) : acall C (baseK L) (n + 1) g args h K := by
  simp only [acall, hg]
  exact ⟨_, he, rfl, rfl, hk⟩
def noParts : Value := .tuple #[.slice none 0 0, .bool false]
theorem siMade_none {C : FuncId → Option AFn} {base : Cl} {n : Nat} (hl : C 20 = some F20) (hf : C 19 = some F19) (hf1 : C 41 = some F41)
    {U : List Unt} (hU : Units C base 17 U) (hlen : U.length ≤ 1000) {s : List UInt8} (hno : foundU U s = .tuple #[.agg noU.toArray, .bool false]) {h : H} {K : Value → H → Prop} (hk : ∀ h', Ext h h' → K noParts h') :
    acall C base (n + 4) 20 [.string (bs s)] h K := by
  refine acall_of hl ?_
  (conv => whnf)
  refine siFind_ok hf hf1 hU hlen (fun h1 e1 => ?_)
  rw [hno]
  (conv => whnf)
  refine ⟨_, rfl, ?_⟩
  (conv => whnf)
  refine ⟨_, rfl, ?_⟩
  (conv => whnf)
  obtain ⟨h2, hw2, o2, f2, n2, g2⟩ := (Own.push (h := h1) noU 30 false).wr0 noU rfl
  have x1 := f2 h1 ((Ext.refl _).push _) (Nat.le_refl _)
  refine ⟨_, rfl, rfl, h2, hw2, ?_⟩
  (conv => whnf)
  exact ⟨_, rfl, hk _ (e1.trans x1)⟩

theorem refMade_none {C : FuncId → Option AFn} {base : Cl} {n : Nat} (hl : C 21 = some F21) {U : List Unt} (hU : Units C base 18 U)
    {h : H} {s : List UInt8} {K : Value → H → Prop} (hlen : U.length ≤ 1000) (hno : ∀ m (hm : m < U.length), U[m].hit s = false) (hk : ∀ h', Ext h h' → K noParts h') :
    acall C base (n + 2) 21 [.string (bs s)] h K := by
  refine acall_of hl ?_
  (conv => whnf)
  refine hU _ _ _ (fun h0 i c e1 sl => ?_)
  (conv => whnf)
  refine loop_upd (X := Nat) (fun k => [(0, .string (bs s)), (6, .slice (some ⟨i, 0, none⟩) U.length c), (7, .int .i64 (U.length : Int)), (8, .int .i64 (k : Int))])
    (fun k h' => Ext h0 h' ∧ k ≤ U.length) (fun k => U.length - k) ?_ 0 _ _ ⟨rfl, rfl, rfl, rfl, trivial⟩ ⟨Ext.refl _, Nat.zero_le _⟩
  intro m k f h1 ⟨e3, hkl⟩ ih
  (conv => whnf)
  (refine obool_intro (fun hlt => ?_) (fun hlt => ?_))
  · have hk1 : k < U.length := by have := of_decide_eq_true hlt; omega
    have hz : ((k : Nat) : Int).toNat = k := by simp
    have hl15 : U[k].cells.length = 15 := Unt.cells_len (sl.ok _ (List.getElem_mem hk1))
    have hh := hno k hk1
    simp only [Unt.hit, Bool.or_eq_false_iff] at hh
    (conv => whnf)
    refine ⟨⟨by omega, by omega⟩, ?_⟩
    (conv => whnf)
    refine ⟨_, sl.rd e3 (k : Int) k hz hk1, ?_⟩
    obtain ⟨h2, hw2, o3, f2, n2, g2⟩ := (Own.push (h := h1) noU 30 false).wr0 U[k].cells hl15
    have x1 : Ext h1 h2 := f2 h1 ((Ext.refl _).push _) (Nat.le_refl _)
    (conv => whnf)
    refine ⟨_, rfl, hl15, h2, hw2, ?_⟩
    have c0 : h2.cell h1.next (0 + 0) = some (.string (bs U[k].n)) := by simp only [H.cell, o3.2]; rfl
    have c1 : h2.cell h1.next (0 + 1) = some (.string (bs U[k].s)) := by simp only [H.cell, o3.2]; rfl
    have q0 : ((bs U[k].n).toList == (bs s).toList) = false := by rw [s_eq]; exact hh.1
    have q1 : ((bs U[k].s).toList == (bs s).toList) = false := by rw [s_eq]; exact hh.2
    (conv => whnf)
    refine ⟨_, c0, ?_⟩
    (conv => whnf)
    refine obool_f q0 ?_
    (conv => whnf)
    refine ⟨_, c1, ?_⟩
    (conv => whnf)
    refine obool_f q1 ?_
    clear c0 c1 q0 q1 hw2 n2 g2 hh
    (conv => whnf)
    refine ar_i64e (k + 1) (by omega) (by omega) ?_
    (conv => whnf)
    refine ih (k + 1) _ _ ?_ ?_ ?_
    · omega
    · exact ⟨rfl, rfl, rfl, rfl, trivial⟩
    · exact ⟨e3.trans x1, by omega⟩
  · (conv => whnf)
    exact ⟨_, rfl, hk _ (e1.trans e3)⟩

theorem siMadeLaw_none {C : FuncId → Option AFn} {L : List Entry} {n : Nat} (hl : C 8 = some F8) (hr : C 21 = some F21) (hm : C 20 = none)
    {U : List Unt} (hU : Units C (baseK L) 18 U) (hlen : U.length ≤ 1000) {s : List UInt8} (hno : ∀ m (hm : m < U.length), U[m].hit s = false)
    (he : (⟨20, [.string (bs s)], .flat noParts⟩ : Entry) ∈ L) {cs : List Value} {t c : Nat} {op : Bool} (hV : (⟨20, [.string (bs [86])], .slt cs t op 4 c (.bool true)⟩ : Entry) ∈ L) {h : H} :
    acall C (baseK L) (n + 4) 8 [.string (bs s)] h (fun v _ => v = .bool true) := by
  refine acall_of hl ?_
  (conv => whnf)
  refine known_call _ hm he ?_
  simp only [Res.run]
  (conv => whnf)
  refine ⟨_, rfl, ?_⟩
  (conv => whnf)
  refine ⟨_, rfl, ?_⟩
  (conv => whnf)
  refine refMade_none hr hU hlen hno (fun h1 e1 => ?_)
  (conv => whnf)
  refine ⟨_, rfl, ?_⟩
  (conv => whnf)
  refine ⟨_, rfl, ?_⟩
  (conv => whnf)
  refine ⟨1, ?_⟩
  (conv => whnf)
  refine known_call _ hm he ?_
  simp only [Res.run]
  (conv => whnf)
  refine ⟨_, rfl, ?_⟩
  (conv => whnf)
  refine ⟨_, rfl, ?_⟩
  (conv => whnf)
  refine ⟨1, ?_⟩
  (conv => whnf)
  refine known_call _ hm hV ?_
  simp only [Res.run]
  (conv => whnf)
  refine ⟨_, rfl, ?_⟩
  (conv => whnf)
  refine ⟨_, rfl, ?_⟩
  (conv => whnf)
  exact ⟨_, rfl, rfl⟩
end Go.Proofs.Ythofghhfcmbbfaa.Am

namespace Go.Proofs.Ythofghhfcmbbfaa.Am
def namesOf : List Unt → List (List UInt8)
  | [] => []
  | u :: U => u.n :: u.s :: namesOf U
theorem hit_cases (s : List UInt8) : ∀ (U : List Unt), s ∈ namesOf U ∨ ∀ m (hm : m < U.length), U[m].hit s = false
  | [] => .inr fun m hm => absurd hm (Nat.not_lt_zero _)
  | u :: U => by
    cases hu : u.hit s with
    | true =>
      simp only [Unt.hit, Bool.or_eq_true, beq_iff_eq] at hu
      left
      rcases hu with rfl | rfl
      · exact List.mem_cons_self ..
      · exact List.mem_cons_of_mem _ (List.mem_cons_self ..)
    | false =>
      rcases hit_cases s U with h | h
      · exact .inl (List.mem_cons_of_mem _ (List.mem_cons_of_mem _ h))
      · right
        intro m hm
        cases m with
        | zero => exact hu
        | succ m => exact h m (by simpa using hm)
def flatsU (U : List Unt) : Bool := U.all fun u => u.cells.all flat1
theorem foundU_flat {U : List Unt} (h : flatsU U = true) (s : List UInt8) : flat2 (foundU U s) = true := by
  unfold foundU
  split
  · rename_i u hu
    have := List.all_eq_true.1 h u (List.mem_of_find?_eq_some hu)
    simp only [flat2, flat, flat1, List.all_cons, List.all_nil, Bool.and_true, this]
  · rfl
theorem str_flat (s : List UInt8) : ([Value.string (bs s)]).all flat = true := rfl
theorem run_true {C : FuncId → Option AFn} {L : List Entry} {fuel n g : Nat} {args : List Value} (h : isTrue (acallE C (baseKE L) fuel n g args ⟨0, .leaf⟩) = true) :
    acall C (baseK L) n g args ⟨0, fun _ => none⟩ (fun v _ => v = .bool true) := by
  obtain ⟨x, hx⟩ := isTrue_ok h
  have := acallE_ok (C := C) (baseKE_ok L) n g args _ _ _ hx (fun v _ => v = .bool true) rfl
  rw [empty_toH] at this
  exact this

def syms : List (List UInt8) := [[109], [107, 103], [115], [65], [75], [109, 111, 108], [99, 100], [98]]
def parts : List Value → List (List UInt8) → List Value
  | .int k z :: r, y :: ys => (match decide (z = 0) with | true => parts r ys | false => .string (bs y) :: .int k z :: parts r ys)
  | _, _ => []
def madeR (U : List Unt) (s : List UInt8) : Res :=
  match U.find? (fun u => u.hit s) with
  | none => .flat noParts
  | some u => match parts u.r syms with
    | [] => .flat (.tuple #[.slice none 0 0, .bool true])
    | l => .slt l 40 true (l.length / 2) (l.length / 2) (.bool true)

/-! ### A run that goes on from the middle -/
theorem steps_append {cl : Cl} (l : List AStep) (K : Fr → H → Prop) : ∀ (p : List AStep) (f : Fr) (h : H), steps cl (p ++ l) f h K = steps cl p f h (fun f' h' => steps cl l f' h' K)
  | [], f, h => rfl
  | s :: p, f, h => by
    simp only [List.cons_append, steps, steps_append l K p]
theorem coherent_none {C : FuncId → Option AFn} {L L0 : List Entry} (hl : C 10 = some F10) (hm : C 19 = none) {s : List UInt8}
    (he : (⟨19, [.string (bs s)], .flat (.tuple #[.agg noU.toArray, .bool false])⟩ : Entry) ∈ L) (hsub : ∀ e ∈ L0, e ∈ L)
    {A l : List AStep} {s1 s2 : AStep} {R : ACode} (hb : F10.body = .seq (.reg A) (.seq (.reg (s1 :: s2 :: l)) R))
    (hA : A = [{ dst := some 2, op := .mv (.const (.bool false)) }]) (h1 : s1 = { dst := some 19, op := .mv (.tmp 0) }) (h2 : s2 = { dst := some 20, op := .call 19 [.tmp 19] })
    (hrun : (match wpE (acallE C (baseKE L0) 100000 60) 100000 (.seq (.reg l) R) (FT.put (FT.put (FT.put (initE 0 [.string (bs s)]) (some 2) (.bool false)) (some 19) (.string (bs s))) (some 20) (.tuple #[.agg noU.toArray, .bool false])) ⟨0, .leaf⟩ with
      | some (.ret, f, _) => veq ((FT.fr f) 2) (.bool true)
      | _ => false) = true) (hres : F10.res = [.tmp 2]) :
    acall C (baseK L) 61 10 [.string (bs s)] ⟨0, fun _ => none⟩ (fun v _ => v = .bool true) := by
  refine acall_of hl ?_
  rw [hb, hA, h1, h2, hres]
  have go : wp (acall C (baseK L) 60) (.seq (.reg l) R) ((((initFr [.string (bs s)]).put (some 2) (.bool false)).put (some 19) (.string (bs s))).put (some 20) (.tuple #[.agg noU.toArray, .bool false])) ⟨0, fun _ => none⟩
      (fun o f h' => match o with
        | .exit _ => False
        | _ => ∃ vs, resAll f h' [.tmp 2] = some vs ∧ resVal vs = .bool true) := by
    rw [← initE_fr, ← FT.put_eq, ← FT.put_eq, ← FT.put_eq, ← empty_toH]
    split at hrun
    · rename_i f x hx
      refine wpE_ok (clE := acallE C (baseKE L0) 100000 60) (acallE_ok (base := baseK L) ?_ 60) hx ?_
      · intro g args x v x' h K hk
        obtain ⟨e, h1, h2, h3, h4⟩ := baseKE_ok L0 g args x v x' h K hk
        exact ⟨e, hsub e h1, h2, h3, h4⟩
      · exact ⟨_, rfl, veq_ok hrun⟩
    · cases hrun
  (conv => whnf)
  refine known_call _ hm he ?_
  simp only [Res.run]
  exact go
end Go.Proofs.Ythofghhfcmbbfaa.Am

namespace Go.Proofs.Ythofghhfcmbbfaa.Am
def tabFind : List (Nat × AFn) := [(19, F19), (41, F41)]
theorem tabFind_ok : ∀ p ∈ tabFind, FnOK Try.prog p := by
  unfold tabFind
  simp only [List.forall_mem_cons]
  exact ⟨ok19, ok41, fun _ h => by cases h⟩
def lFind : List Entry := [e28]
theorem lFind_ok : ∀ e ∈ lFind, EntryOK Try.prog e := by
  unfold lFind
  simp only [List.forall_mem_cons]
  exact ⟨k28, fun _ h => by cases h⟩
theorem siUnits : Units (tabC tabFind) (baseK lFind) 17 siL := units_known (by kernel_rfl) (List.mem_cons_self ..) siL_p (of_decide_eq_true (by kernel_rfl)) siL_well
theorem siL_flat : flatsU siL = true := by kernel_rfl
theorem baseL_flat : flatsU baseL = true := by kernel_rfl
def findE (s : List UInt8) : Entry := ⟨19, [.string (bs s)], .flat (foundU siL s)⟩
theorem findE_ok (s : List UInt8) : EntryOK Try.prog (findE s) := known_of (C := acall (tabC tabFind) (baseK lFind) 40) (fun B w0 => acall_sound (pok _) (tabOK tabFind_ok) (baseK_ok lFind_ok) 40) (str_flat s)
  (siFind_ok (n := 38) (by kernel_rfl) (by kernel_rfl) siUnits (of_decide_eq_true (by kernel_rfl)) (fun h e => ⟨foundU_flat siL_flat s, rfl⟩))
def tabBFind : List (Nat × AFn) := [(15, F15), (34, F34), (35, F35)]
theorem tabBFind_ok : ∀ p ∈ tabBFind, FnOK Try.prog p := by
  unfold tabBFind
  simp only [List.forall_mem_cons]
  exact ⟨ok15, ok34, ok35, fun _ h => by cases h⟩
def lBFind : List Entry := [e32]
theorem lBFind_ok : ∀ e ∈ lBFind, EntryOK Try.prog e := by
  unfold lBFind
  simp only [List.forall_mem_cons]
  exact ⟨k32, fun _ h => by cases h⟩
theorem baseUnits : Units (tabC tabBFind) (baseK lBFind) 12 baseL := units_known (by kernel_rfl) (List.mem_cons_self ..) baseL_p (of_decide_eq_true (by kernel_rfl)) baseL_well
def bfindE (s : List UInt8) : Entry := ⟨15, [.string (bs s)], .flat (foundU baseL s)⟩
theorem bfindE_ok (s : List UInt8) : EntryOK Try.prog (bfindE s) := known_of (C := acall (tabC tabBFind) (baseK lBFind) 40) (fun B w0 => acall_sound (pok _) (tabOK tabBFind_ok) (baseK_ok lBFind_ok) 40) (str_flat s)
  (baseFind_ok (n := 37) (by kernel_rfl) (by kernel_rfl) (by kernel_rfl) baseUnits (of_decide_eq_true (by kernel_rfl)) (fun h e => ⟨foundU_flat baseL_flat s, rfl⟩))
def tabMade : List (Nat × AFn) := [(20, F20)]
theorem tabMade_ok : ∀ p ∈ tabMade, FnOK Try.prog p := by
  unfold tabMade
  simp only [List.forall_mem_cons]
  exact ⟨ok20, fun _ h => by cases h⟩
def madeE (s : List UInt8) : Entry := ⟨20, [.string (bs s)], madeR siL s⟩
theorem madeAll : ((namesOf siL).all fun s => (madeE s).res.fits (acallE (tabC tabMade) (baseKE [findE s]) 100000 60 20 [.string (bs s)] ⟨0, .leaf⟩)) = true := by kernel_rfl
theorem madeE_ok (s : List UInt8) (hs : s ∈ namesOf siL) : EntryOK Try.prog (madeE s) := known_run tabMade_ok (L := [findE s]) (by simp only [List.forall_mem_cons]; exact ⟨findE_ok s, fun _ h => by cases h⟩) (str_flat s) (List.all_eq_true.1 madeAll s hs)
def tabMadeF : List (Nat × AFn) := [(20, F20), (19, F19), (41, F41)]
theorem tabMadeF_ok : ∀ p ∈ tabMadeF, FnOK Try.prog p := by
  unfold tabMadeF
  simp only [List.forall_mem_cons]
  exact ⟨ok20, ok19, ok41, fun _ h => by cases h⟩
theorem made_none (s : List UInt8) (hno : ∀ m (hm : m < siL.length), siL[m].hit s = false) : EntryOK Try.prog ⟨20, [.string (bs s)], .flat noParts⟩ := known_of (C := acall (tabC tabMadeF) (baseK lFind) 40) (fun B w0 => acall_sound (pok _) (tabOK tabMadeF_ok) (baseK_ok lFind_ok) 40) (str_flat s)
  (siMade_none (n := 36) (by kernel_rfl) (by kernel_rfl) (by kernel_rfl) (U := siL) (units_known (by kernel_rfl) (List.mem_cons_self ..) siL_p (of_decide_eq_true (by kernel_rfl)) siL_well) (of_decide_eq_true (by kernel_rfl)) (foundU_none hno) (fun h e => ⟨rfl, rfl⟩))
theorem madeV : madeE [86] = ⟨20, [.string (bs [86])], .slt (parts (siL[5]).r syms) 40 true 4 4 (.bool true)⟩ := by kernel_rfl
theorem memV : [86] ∈ namesOf siL := of_decide_eq_true (by kernel_rfl)
theorem memW : [119, 97, 116, 116] ∈ namesOf siL := of_decide_eq_true (by kernel_rfl)
end Go.Proofs.Ythofghhfcmbbfaa.Am
