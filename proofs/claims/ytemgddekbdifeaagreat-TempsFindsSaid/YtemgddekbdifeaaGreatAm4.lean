/- Step by step: frames, operands, one operation. -/
import Derived.Test.YtemgddekbdifeaaGreatAm3
set_option linter.unusedVariables false
set_option linter.unusedSimpArgs false
namespace Go.Proofs.YtemgddekbdifeaaGreat.Am
open Go.RowKit

theorem force_eq (v : Value) (K : Value → Prop) : force v K = K v := by cases v <;> rfl

/-- The slots of a frame; those at which the two may differ. -/
structure FR (nt : Nat) (D : Nat → Prop) (μ : Mu) (f : Fr) (tmps : Array Value) : Prop where
  size : nt ≤ tmps.size
  val : ∀ t, ¬ D t → VR μ (f t) (tmps.getD t undef)

theorem FR.mono {nt : Nat} {D : Nat → Prop} {μ μ' : Mu} {f : Fr} {tmps : Array Value} (h : FR nt D μ f tmps) (hm : ∀ i e, μ i = some e → μ' i = some e) : FR nt D μ' f tmps :=
  ⟨h.size, fun t ht => (h.val t ht).mono hm⟩
theorem FR.weaken {nt : Nat} {D D' : Nat → Prop} {μ : Mu} {f : Fr} {tmps : Array Value} (h : FR nt D μ f tmps) (hd : ∀ t, D t → D' t) : FR nt D' μ f tmps :=
  ⟨h.size, fun t ht => h.val t (fun hh => ht (hd t hh))⟩

theorem getD_set_self {tmps : Array Value} {d : Nat} {v u : Value} (h : d < tmps.size) : (tmps.setIfInBounds d v).getD d u = v := by
  simp [Array.getD, h]
theorem getD_set_other {tmps : Array Value} {d t : Nat} {v u : Value} (h : d ≠ t) : (tmps.setIfInBounds d v).getD t u = tmps.getD t u := by
  simp [Array.getD_eq_getD_getElem?, Array.getElem?_setIfInBounds_ne h]

/-- Both set the same slot. -/
theorem FR.put {nt : Nat} {D D' : Nat → Prop} {μ : Mu} {f : Fr} {tmps : Array Value} (h : FR nt D μ f tmps) {d : Nat} (hd : d < nt) {v v' : Value} (hv : VR μ v v') (hD : ∀ t, D t → t ≠ d → D' t) :
    FR nt D' μ (f.put (some d) v) (tmps.setIfInBounds d v') := by
  refine ⟨by simpa using h.size, fun t ht => ?_⟩
  simp only [Fr.put]
  by_cases htd : t = d
  · subst htd
    rw [if_pos rfl, getD_set_self (Nat.lt_of_lt_of_le hd h.size)]
    exact hv
  · rw [if_neg htd, getD_set_other (fun e => htd e.symm)]
    exact h.val t (fun hh => ht (hD t hh htd))

/-- The plain machine alone sets a slot. -/
theorem FR.ahead {nt : Nat} {D : Nat → Prop} {μ : Mu} {f : Fr} {tmps : Array Value} (h : FR nt D μ f tmps) {d : Nat} {v : Value} :
    FR nt (fun t => D t ∨ t = d) μ (f.put (some d) v) tmps := by
  refine ⟨h.size, fun t ht => ?_⟩
  simp only [Fr.put]
  rw [if_neg (fun e => ht (.inr e))]
  exact h.val t (fun hh => ht (.inl hh))

/-- The model alone sets a slot: the plain machine had it already. -/
theorem FR.behind {nt : Nat} {D D' : Nat → Prop} {μ : Mu} {f : Fr} {tmps : Array Value} (h : FR nt D μ f tmps) {d : Nat} (hd : d < nt) {v' : Value} (hv : VR μ (f d) v') (hD : ∀ t, D t → t ≠ d → D' t) :
    FR nt D' μ f (tmps.setIfInBounds d v') := by
  refine ⟨by simpa using h.size, fun t ht => ?_⟩
  by_cases htd : t = d
  · subst htd
    rw [getD_set_self (Nat.lt_of_lt_of_le hd h.size)]
    exact hv
  · rw [getD_set_other (fun e => htd e.symm)]
    exact h.val t (fun hh => ht (hD t hh htd))

theorem undef_VR (μ : Mu) : VR μ undef undef := .tuple (by simpa [undef] using VRL.nil)

theorem ev_VR {nt : Nat} {D : Nat → Prop} {μ : Mu} {f : Fr} {a : Act} (h : FR nt D μ f a.tmps) {x : Operand} (hx : okO x = true) (hD : ∀ t, x = .tmp t → ¬ D t) : VR μ (ev f x) (a.eval x) := by
  cases x with
  | tmp t => exact h.val t (hD t rfl)
  | const v => exact flat_VR μ hx
  | func g => exact .func .nil .nil
  | global g => cases hx

theorem ev_put {f : Fr} {d : Option Nat} {v : Value} {x : Operand} (h : ∀ e, d = some e → x ≠ .tmp e) : ev (f.put d v) x = ev f x := by
  cases d with
  | none => rfl
  | some e =>
    cases x with
    | tmp t =>
      have : t ≠ e := fun he => h e rfl (by rw [he])
      simp [ev, Fr.put, this]
    | _ => rfl

theorem put_same {f : Fr} {t : Nat} {v : Value} (h : f t = v) : f.put (some t) v = f := by
  funext i
  simp only [Fr.put]
  split
  · rename_i hi; rw [hi]; exact h.symm
  · rfl

section
variable {P : Program} {B : Nat} {w0 : World} {cl : Cl}

/-- May a call enter here? -/
def callable (P : Program) (g : FuncId) : Prop := ∃ fn c, P.funcs[g]? = some fn ∧ fn.body = some c ∧ (fn.name == "runtime.NumGoroutine") = false

def ClOK (P : Program) (B : Nat) (w0 : World) (cl : Cl) : Prop :=
  ∀ g args h K, cl g args h K → ∀ (μ : Mu) (w : World) (args' : Array Value), Rel P B w0 μ h w → VRL μ args args'.toList →
    callable P g ∧ ∀ R : Ending → World → Prop,
      (∀ v h' μ' v' w', K v h' → Rel P B w0 μ' h' w' → VR μ' v v' → Tr μ h w μ' h' w' → R (.returned v') w') → Calls P g args' w R

theorem call_run {g : FuncId} (h : callable P g) (args : Array Value) (w : World) : (callFunc g args).run P w = .ok (.enter g args) w := by
  obtain ⟨fn, c, hf, hb, hn⟩ := h
  have hi : fn.body.isNone = false := by rw [hb]; rfl
  have h1 : (program : Sem Program).run P w = .ok P w := rfl
  unfold callFunc
  rw [Sem.run_bind, h1]
  simp only [Result.andThen, hf, hn, hi, Bool.false_eq_true, if_false]
  rfl

/-- One strict operation. -/
theorem strict_sound (hcl : ClOK P B w0 cl) {o : Oper} {aop : AOp} (hc : compOp P o.op = some aop) (hst : aop.strict = true) {μ : Mu} {h : H} {w : World} (R : Rel P B w0 μ h w)
    {ρ : Operand → Value} {a : Act} (hρ : ∀ x ∈ o.op.operands.toList, VR μ (ρ x) (a.eval x)) {K : Value → H → Prop} (hk : sst cl ρ h aop K)
    {next : Act → World → Prop} {Q : Exit → Act → World → Prop}
    (hn : ∀ v h' v' μ' w', K v h' → Rel P B w0 μ' h' w' → VR μ' v v' → Tr μ h w μ' h' w' → next (a.put o.dst v') w') : o.wp P a w next Q := by
  by_cases hcall : (∃ g as, aop = .call g as) ∨ ∃ g as, aop = .callv g as
  case neg =>
    obtain ⟨v, h', v', μ', w', hK, hR, hV, hT, hrun⟩ := sst_write hc hst ⟨fun g as e => hcall (.inl ⟨g, as, e⟩), fun g as e => hcall (.inr ⟨g, as, e⟩)⟩ R hρ hk
    unfold Oper.wp
    rcases hrun with hrun | ⟨rfl, hrun⟩
    · rw [hrun]; exact hn _ _ _ _ _ hK hR hV hT
    · rw [hrun]; exact hn _ _ _ _ _ hK hR hV hT
  obtain ⟨dst, op, ty, pos, after, guard⟩ := o
  simp only at hc hρ hn
  have hop : ∃ c, op = .call c ∧ compCall P c = some aop := by
    by_cases hop : ∃ c, op = .call c
    · obtain ⟨c, rfl⟩ := hop; exact ⟨c, rfl, hc⟩
    exfalso
    cases op <;> simp only [compOp] at hc
    case call c => exact hop ⟨c, rfl⟩
    all_goals
      rcases hcall with ⟨g, as, rfl⟩ | ⟨g, as, rfl⟩
    all_goals first
      | (simp only [Option.some.injEq, reduceCtorEq] at hc; done)
      | (try simp only [compBuild, compBSlice, compLoad, compStore, compBin, compConv, compMks, compSlice, compSlA, compFad, compFld, compIad, compIx, compEqA, compEqB, compEqN] at hc
         repeat' split at hc
         all_goals first
          | (cases hc; done)
          | (obtain ⟨_, _, hh⟩ := Option.map_eq_some_iff.1 hc; cases hh; done)
          | (simp only [Option.some.injEq, reduceCtorEq] at hc; done)
          | (rename_i hq; cases hq; done)
          | (rename_i hq _; cases hq; done))
  obtain ⟨c, rfl, hcc⟩ := hop
  obtain ⟨callee, args, argTypes⟩ := c
  simp only [Op.operands, Call.operands] at hρ
  have hargs : VRL μ (args.toList.map ρ) (args.map a.eval).toList := by
    rw [Array.toList_map]
    exact VRL.map _ fun x hx => hρ x (by simp only [Array.toList_append, List.mem_append]; exact .inr hx)
  unfold compCall at hcc
  simp only at hcc
  split at hcc
  · rename_i g
    simp only [Option.some.injEq] at hcc
    subst hcc
    obtain ⟨hcb, hcalls⟩ := hcl _ _ _ _ hk μ w (args.map a.eval) R hargs
    unfold Oper.wp
    have hrun : (execOp a.eval ⟨dst, .call ⟨.value (.func g), args, argTypes⟩, ty, pos, after, guard⟩).run P w = .ok (.enter g (args.map a.eval)) w := by
      simp [execOp, resolve, Deferred.ofValue, invoke, Act.eval, call_run hcb]
    rw [hrun]
    exact hcalls _ fun v h' μ' v' w' h1 h2 h3 h4 => hn v h' v' μ' w' h1 h2 h3 h4
  · rename_i t
    simp only [Option.some.injEq] at hcc
    subst hcc
    have hx := hρ (.tmp t) (by simp)
    simp only [sst] at hk
    split at hk
    · rename_i g first cap hv
      rw [hv] at hx
      generalize hv' : a.eval (.tmp t) = v' at hx
      cases hx with
      | func hf hcp =>
        rename_i f' c'
        obtain ⟨hcb, hcalls⟩ := hcl _ _ _ _ hk μ w (f' ++ args.map a.eval ++ c') R (by
          simp only [Array.toList_append]
          exact (hf.append hargs).append hcp)
        unfold Oper.wp
        have hrun : (execOp a.eval ⟨dst, .call ⟨.value (.tmp t), args, argTypes⟩, ty, pos, after, guard⟩).run P w = .ok (.enter g (f' ++ args.map a.eval ++ c')) w := by
          simp [execOp, resolve, Deferred.ofValue, hv', invoke, call_run hcb]
        rw [hrun]
        exact hcalls _ fun v h' μ' v' w' h1 h2 h3 h4 => hn v h' v' μ' w' h1 h2 h3 h4
    · exact hk.elim
  all_goals
    exfalso
    try simp only [compLen, compApp, compCpy, compMM] at hcc
    repeat' split at hcc
    all_goals first
      | (cases hcc; done)
      | (obtain ⟨_, _, hh⟩ := Option.map_eq_some_iff.1 hcc; subst hh; rcases hcall with ⟨g, as, hh⟩ | ⟨g, as, hh⟩ <;> cases hh; done)
      | (simp only [Option.some.injEq] at hcc; subst hcc; rcases hcall with ⟨g, as, hh⟩ | ⟨g, as, hh⟩ <;> cases hh; done)
end
end Go.Proofs.YtemgddekbdifeaaGreat.Am

namespace Go.Proofs.YtemgddekbdifeaaGreat.Am

theorem intB_is {op : BinOp} {k : IntKind} {a b : Int} {K : Value → Prop} (h : intB op k a b K) : ∃ v, ∀ K' : Value → Prop, intB op k a b K' ↔ K' v := by
  have ar : ∀ (k : IntKind) (z : Int), ∃ v, ∀ K' : Value → Prop, Ar k z K' ↔ K' v := fun k z => ⟨.int k (k.wrap z), fun K' => ⟨fun h => h.1, fun h => ⟨h⟩⟩⟩
  cases op <;> simp only [intB] at h ⊢ <;> first
    | exact ar _ _
    | exact ⟨_, fun _ => Iff.rfl⟩
    | exact h.elim
    | (obtain ⟨v, hv⟩ := ar k (a.tdiv b); exact ⟨v, fun K' => ⟨fun hh => (hv K').1 hh.2, fun hh => ⟨h.1, (hv K').2 hh⟩⟩⟩)
    | exact ⟨_, fun K' => ⟨fun hh => hh.2, fun hh => ⟨h.1, hh⟩⟩⟩
theorem strB_is {op : BinOp} {a b : ByteArray} {K : Value → Prop} (h : strB op a b K) : ∃ v, ∀ K' : Value → Prop, strB op a b K' ↔ K' v := by
  cases op <;> simp only [strB] at h ⊢ <;> first
    | exact ⟨_, fun _ => Iff.rfl⟩
    | exact h.elim
    | exact ⟨_, fun K' => ⟨fun hh => hh.2, fun hh => ⟨h.1, hh⟩⟩⟩
theorem binF_is {op : BinOp} {x y : Value} {K : Value → Prop} (h : binF op x y K) : ∃ v, ∀ K' : Value → Prop, binF op x y K' ↔ K' v := by
  unfold binF at h ⊢
  split at h
  · split at h
    · rename_i k a k' b _
      exact ⟨.int k (k.wrap (a * 2 ^ (min b.toNat k.bits))), fun K' => ⟨fun hh => hh.2.1, fun hh => ⟨h.1, ⟨hh⟩⟩⟩⟩
    · exact ⟨_, fun K' => ⟨fun hh => hh.2, fun hh => ⟨h.1, hh⟩⟩⟩
    · split at h
      · rename_i hk
        obtain ⟨v, hv⟩ := intB_is h
        refine ⟨v, fun K' => ?_⟩
        rw [if_pos hk]
        exact hv K'
      · exact h.elim
  · exact strB_is h
  · exact h.elim
theorem unF_is {op : UnOp} {x : Value} {K : Value → Prop} (h : unF op x K) : ∃ v, ∀ K' : Value → Prop, unF op x K' ↔ K' v := by
  unfold unF at h ⊢
  split at h
  · exact ⟨_, fun K' => ⟨fun h => h.1, fun h => ⟨h⟩⟩⟩
  · exact ⟨_, fun _ => Iff.rfl⟩
  · exact ⟨_, fun K' => ⟨fun h => h.1, fun h => ⟨h⟩⟩⟩
  · exact h.elim
theorem mnx_is {mx : Bool} {k : IntKind} : ∀ {l : List Value} {x : Int} {K : Value → Prop}, mnx mx k x l K → ∃ v, ∀ K' : Value → Prop, mnx mx k x l K' ↔ K' v
  | [], x, K, h => ⟨_, fun _ => Iff.rfl⟩
  | y :: r, x, K, h => by
    cases y <;> simp only [mnx] at h ⊢ <;> first
      | exact mnx_is h
      | exact h.elim
theorem bnd_is {ρ : Operand → Value} {len cap : Nat} {lo hi : Option Operand} {K : Nat → Nat → Prop} (h : bnd ρ len cap lo hi K) : ∃ l u, ∀ K' : Nat → Nat → Prop, bnd ρ len cap lo hi K' ↔ K' l u := by
  unfold bnd at h ⊢
  cases hi with
  | none =>
    cases lo with
    | none => exact ⟨_, _, fun _ => Iff.rfl⟩
    | some l =>
      simp only at h ⊢
      cases hv : ρ l <;> simp only [hv] at h ⊢
      case int k n => exact ⟨_, _, fun K' => ⟨fun hh => hh.2, fun hh => ⟨h.1, hh⟩⟩⟩
  | some u =>
    simp only at h ⊢
    cases hu : ρ u <;> simp only [hu] at h ⊢
    case int k n =>
      cases lo with
      | none => exact ⟨_, _, fun K' => ⟨fun hh => hh.2, fun hh => ⟨h.1, hh⟩⟩⟩
      | some l =>
        simp only at h ⊢
        cases hv : ρ l <;> simp only [hv] at h ⊢
        case int k n => exact ⟨_, _, fun K' => ⟨fun hh => hh.2.2, fun hh => ⟨h.1, h.2.1, hh⟩⟩⟩
        all_goals exact h.2.elim

/-- The one value and block that an operation tells. -/
def Is (ρ : Operand → Value) (h : H) (op : AOp) (v : Value) (b : Option Blk) : Prop := ∀ K : Value → Option Blk → Prop, nst ρ h op K ↔ K v b

theorem nst_is {ρ : Operand → Value} {h : H} {op : AOp} {K : Value → Option Blk → Prop} (hk : nst ρ h op K) : ∃ v b, (op.alc = false → b = none) ∧ Is ρ h op v b := by
  unfold Is
  cases op <;> simp only [nst] at hk ⊢
  case mv => exact ⟨_, _, fun _ => rfl, fun _ => Iff.rfl⟩
  case pick c a b =>
    cases hv : ρ c <;> simp only [hv] at hk ⊢
    case bool c => cases c <;> exact ⟨_, _, fun _ => rfl, fun _ => Iff.rfl⟩
  case alloc => exact ⟨_, _, fun h => (by cases h), fun _ => Iff.rfl⟩
  case box t x => obtain ⟨l, hl, _⟩ := hk; exact ⟨_, _, fun h => (by cases h), fun K' => ⟨fun ⟨l', hl', hh⟩ => (by rw [hl] at hl'; cases hl'; exact hh), fun hh => ⟨l, hl, hh⟩⟩⟩
  case build ps => obtain ⟨l, hl, _⟩ := hk; exact ⟨_, _, fun _ => rfl, fun K' => ⟨fun ⟨l', hl', hh⟩ => (by rw [hl] at hl'; cases hl'; exact hh), fun hh => ⟨l, hl, hh⟩⟩⟩
  case bslice t n ps => obtain ⟨l, hl, _⟩ := hk; exact ⟨_, _, fun h => (by cases h), fun K' => ⟨fun ⟨l', hl', hh⟩ => (by rw [hl] at hl'; cases hl'; exact hh), fun hh => ⟨l, hl, hh⟩⟩⟩
  case ld1 x =>
    split at hk
    · obtain ⟨l, hl, _⟩ := hk; exact ⟨_, _, fun _ => rfl, fun K' => ⟨fun ⟨l', hl', hh⟩ => (by rw [hl] at hl'; cases hl'; exact hh), fun hh => ⟨l, hl, hh⟩⟩⟩
    · exact hk.elim
  case ldN n x =>
    split at hk
    · obtain ⟨l, hl, _⟩ := hk; exact ⟨_, _, fun _ => rfl, fun K' => ⟨fun ⟨l', hl', hh⟩ => (by rw [hl] at hl'; cases hl'; exact hh), fun hh => ⟨l, hl, hh⟩⟩⟩
    · exact hk.elim
  case nilc x =>
    split at hk
    · exact ⟨_, _, fun _ => rfl, fun _ => Iff.rfl⟩
    · exact hk.elim
  case bin op x y => obtain ⟨v, hv⟩ := binF_is hk; exact ⟨v, none, fun _ => rfl, fun K' => hv _⟩
  case eqB neg x y =>
    split at hk
    · exact ⟨_, _, fun _ => rfl, fun _ => Iff.rfl⟩
    · exact hk.elim
  case eqA offs neg x y =>
    split at hk
    · obtain ⟨l, hl, _⟩ := hk; exact ⟨_, _, fun _ => rfl, fun K' => ⟨fun ⟨l', hl', hh⟩ => (by rw [hl] at hl'; cases hl'; exact hh), fun hh => ⟨l, hl, hh⟩⟩⟩
    · exact hk.elim
  case eqN k neg x y => obtain ⟨l, hl, _⟩ := hk; exact ⟨_, _, fun _ => rfl, fun K' => ⟨fun ⟨l', hl', hh⟩ => (by rw [hl] at hl'; cases hl'; exact hh), fun hh => ⟨l, hl, hh⟩⟩⟩
  case un op x => obtain ⟨v, hv⟩ := unF_is hk; exact ⟨v, none, fun _ => rfl, fun K' => hv _⟩
  case cvI k x =>
    split at hk
    · exact ⟨_, _, fun _ => rfl, fun K' => ⟨fun h => h.1, fun h => ⟨h⟩⟩⟩
    · exact hk.elim
  case cvStr x =>
    split at hk
    · exact ⟨_, _, fun _ => rfl, fun _ => Iff.rfl⟩
    · obtain ⟨l, hl, m, hm, _⟩ := hk
      exact ⟨_, _, fun _ => rfl, fun K' => ⟨fun ⟨l', hl', m', hm', hh⟩ => (by rw [hl] at hl'; cases hl'; rw [hm] at hm'; cases hm'; exact hh), fun hh => ⟨l, hl, m, hm, hh⟩⟩⟩
    · exact hk.elim
  case cvBytes t x =>
    split at hk
    · exact ⟨_, _, fun h => (by cases h), fun _ => Iff.rfl⟩
    · exact hk.elim
  case fad off x =>
    split at hk
    · exact ⟨_, _, fun _ => rfl, fun _ => Iff.rfl⟩
    · exact hk.elim
  case iadA len sz x i =>
    split at hk
    · exact ⟨_, _, fun _ => rfl, fun K' => ⟨fun hh => hh.2, fun hh => ⟨hk.1, hh⟩⟩⟩
    · exact hk.elim
  case iadS sz x i =>
    split at hk
    · exact ⟨_, _, fun _ => rfl, fun K' => ⟨fun hh => hh.2, fun hh => ⟨hk.1, hh⟩⟩⟩
    · exact hk.elim
  case fld1 off x =>
    split at hk
    · obtain ⟨l, hl, _⟩ := hk; exact ⟨_, _, fun _ => rfl, fun K' => ⟨fun ⟨l', hl', hh⟩ => (by rw [hl] at hl'; cases hl'; exact hh), fun hh => ⟨l, hl, hh⟩⟩⟩
    · exact hk.elim
  case fldN off n x =>
    split at hk
    · exact ⟨_, _, fun _ => rfl, fun _ => Iff.rfl⟩
    · exact hk.elim
  case ix1 len sz x i =>
    split at hk
    · obtain ⟨hb, l, hl, _⟩ := hk; exact ⟨_, _, fun _ => rfl, fun K' => ⟨fun ⟨_, l', hl', hh⟩ => (by rw [hl] at hl'; cases hl'; exact hh), fun hh => ⟨hb, l, hl, hh⟩⟩⟩
    · exact hk.elim
  case ixN len sz x i =>
    split at hk
    · exact ⟨_, _, fun _ => rfl, fun K' => ⟨fun hh => hh.2, fun hh => ⟨hk.1, hh⟩⟩⟩
    · exact hk.elim
  case ixS x i =>
    split at hk
    · exact ⟨_, _, fun _ => rfl, fun K' => ⟨fun hh => hh.2, fun hh => ⟨hk.1, hh⟩⟩⟩
    · exact hk.elim
  case slS x lo hi =>
    split at hk
    · obtain ⟨l, u, hlu⟩ := bnd_is hk; exact ⟨_, _, fun _ => rfl, fun K' => hlu _⟩
    · exact hk.elim
  case slL t sz x lo hi =>
    split at hk
    · obtain ⟨l, u, hlu⟩ := bnd_is hk; exact ⟨_, _, fun _ => rfl, fun K' => hlu _⟩
    · rename_i i o n c hv
      obtain ⟨l, u, hlu⟩ := bnd_is hk
      have hk' := (hlu _).1 hk
      cases lo with
      | none => exact ⟨_, _, fun _ => rfl, fun K' => hlu _⟩
      | some x =>
        simp only at hk'
        by_cases hlc : l < c
        · refine ⟨.slice (some ⟨i, o + l * sz, none⟩) (u - l) (c - l), none, fun _ => rfl, fun K' => ?_⟩
          rw [hlu]
          simp only
          exact ⟨fun hh => (hh.1 hlc).2, fun hh => ⟨fun _ => ⟨(hk'.1 hlc).1, hh⟩, fun hcl => absurd hcl (by omega)⟩⟩
        · refine ⟨.slice (some ⟨i, o, none⟩) (u - l) (c - l), none, fun _ => rfl, fun K' => ?_⟩
          rw [hlu]
          simp only
          exact ⟨fun hh => (hh.2 (by omega)).2, fun hh => ⟨fun hcl => absurd hcl hlc, fun _ => ⟨(hk'.2 (by omega)).1, hh⟩⟩⟩
    · exact hk.elim
  case slA n sz x lo hi =>
    split at hk
    · rename_i i o hv
      obtain ⟨l, u, hlu⟩ := bnd_is hk
      have hk' := (hlu _).1 hk
      cases lo with
      | none =>
        refine ⟨.slice (some ⟨i, o, none⟩) u n, none, fun _ => rfl, fun K' => ?_⟩
        rw [hlu]
        exact ⟨fun hh => hh.2, fun hh => ⟨hk'.1, hh⟩⟩
      | some x =>
        simp only at hk'
        by_cases hlc : l < n
        · refine ⟨.slice (some ⟨i, o + l * sz, none⟩) (u - l) (n - l), none, fun _ => rfl, fun K' => ?_⟩
          rw [hlu]
          simp only
          exact ⟨fun hh => hh.2.1 hlc, fun hh => ⟨hk'.1, fun _ => hh, fun hcl => absurd hcl (by omega)⟩⟩
        · refine ⟨.slice (some ⟨i, o, none⟩) (u - l) (n - l), none, fun _ => rfl, fun K' => ?_⟩
          rw [hlu]
          simp only
          exact ⟨fun hh => hh.2.2 (by omega), fun hh => ⟨hk'.1, fun hcl => absurd hcl hlc, fun _ => hh⟩⟩
    · exact hk.elim
  case slZ t x =>
    split at hk
    · exact ⟨_, _, fun h => (by cases h), fun _ => Iff.rfl⟩
    · exact ⟨_, _, fun h => (by cases h), fun _ => Iff.rfl⟩
    · exact hk.elim
  case mks t bytes z n c =>
    split at hk
    · exact ⟨_, _, fun h => (by cases h), fun K' => ⟨fun hh => hh.2, fun hh => ⟨hk.1, hh⟩⟩⟩
    · exact hk.elim
  case mkf => exact ⟨_, _, fun _ => rfl, fun _ => Iff.rfl⟩
  case ext x i =>
    split at hk
    · obtain ⟨l, hl, _⟩ := hk; exact ⟨_, _, fun _ => rfl, fun K' => ⟨fun ⟨l', hl', hh⟩ => (by rw [hl] at hl'; cases hl'; exact hh), fun hh => ⟨l, hl, hh⟩⟩⟩
    · exact hk.elim
  case lenS x =>
    split at hk
    · exact ⟨_, _, fun _ => rfl, fun _ => Iff.rfl⟩
    · exact hk.elim
  case lenL x =>
    split at hk
    · exact ⟨_, _, fun _ => rfl, fun _ => Iff.rfl⟩
    · exact hk.elim
  case cst => exact ⟨_, _, fun _ => rfl, fun _ => Iff.rfl⟩
  case minmax mx x xs =>
    split at hk
    · obtain ⟨v, hv⟩ := mnx_is hk; exact ⟨v, none, fun _ => rfl, fun K' => hv _⟩
    · exact hk.elim

/-- What makes a block tells a block that hangs on no heap, and a place that is the next number. -/
theorem alc_is {ρ : Operand → Value} {h : H} {op : AOp} (ha : op.alc = true) {K : Value → Option Blk → Prop} (hk : nst ρ h op K) :
    (∃ v, K v none ∧ ∀ h', Is ρ h' op v none) ∨ ∃ (s : Shp) (blk : Blk), K (s.val h.next) (some blk) ∧ ∀ h', Is ρ h' op (s.val h'.next) (some blk) := by
  unfold Is
  cases op <;> simp only [AOp.alc, Bool.false_eq_true] at ha <;> simp only [nst] at hk ⊢
  case alloc t z => exact .inr ⟨.ptr, _, hk, fun h' K' => Iff.rfl⟩
  case box t x =>
    obtain ⟨l, hl, hk⟩ := hk
    exact .inr ⟨.ptr, _, hk, fun h' K' => ⟨fun ⟨l', hl', hh⟩ => (by rw [hl] at hl'; cases hl'; exact hh), fun hh => ⟨l, hl, hh⟩⟩⟩
  case bslice t n ps =>
    obtain ⟨l, hl, hk⟩ := hk
    exact .inr ⟨.slc n n, _, hk, fun h' K' => ⟨fun ⟨l', hl', hh⟩ => (by rw [hl] at hl'; cases hl'; exact hh), fun hh => ⟨l, hl, hh⟩⟩⟩
  case cvBytes t x =>
    split at hk
    · rename_i s hs
      exact .inr ⟨.slc s.size s.size, _, hk, fun h' K' => Iff.rfl⟩
    · exact hk.elim
  case slZ t x =>
    split at hk
    · exact .inl ⟨_, hk, fun h' K' => Iff.rfl⟩
    · exact .inr ⟨.slc 0 0, _, hk, fun h' K' => Iff.rfl⟩
    · exact hk.elim
  case mks t bytes z n c =>
    split at hk
    · rename_i n' _ c' hn hc
      exact .inr ⟨.slc n'.toNat c'.toNat, _, hk.2, fun h' K' => ⟨fun hh => hh.2, fun hh => ⟨hk.1, hh⟩⟩⟩
    · exact hk.elim

/-- What reads no heap tells the same of any. -/
theorem Is.heap {ρ : Operand → Value} {h h' : H} {op : AOp} {v : Value} {b : Option Blk} (hr : op.reads = false) (hi : Is ρ h op v b) : Is ρ h' op v b := by
  unfold Is at *
  cases op <;> simp only [AOp.reads, Bool.true_eq_false] at hr <;> exact hi

theorem segs_congr {ρ ρ' : Operand → Value} : ∀ {ps : List Seg}, (∀ x ∈ segOpds ps, ρ x = ρ' x) → segs ρ ps = segs ρ' ps
  | [], _ => rfl
  | .lit vs :: r, h => by simp only [segs]; rw [segs_congr (ps := r) h]
  | .opd n x :: r, h => by
    simp only [segs]
    rw [h x (by simp [segOpds]), segs_congr (ps := r) (fun y hy => h y (by simp [segOpds, hy]))]
theorem bnd_congr {ρ ρ' : Operand → Value} {len cap : Nat} {lo hi : Option Operand} (h : ∀ x ∈ oo lo ++ oo hi, ρ x = ρ' x) : bnd ρ len cap lo hi = bnd ρ' len cap lo hi := by
  funext K; cases lo <;> cases hi <;> simp [oo] at h <;> simp [bnd, h]

theorem nst_congr {ρ ρ' : Operand → Value} {h : H} {op : AOp} {K : Value → Option Blk → Prop} (hh : ∀ x ∈ op.opds, ρ x = ρ' x) : nst ρ h op K ↔ nst ρ' h op K := by
  cases op <;> (unfold AOp.opds at hh; try simp only at hh) <;> (try simp only [List.mem_cons, List.mem_append, List.not_mem_nil, or_false, forall_eq_or_imp, forall_eq] at hh) <;> (try simp only [nst]) <;> try first
    | (simp only [hh]; done)
    | exact Iff.rfl
  case build ps => rw [segs_congr hh]
  case bslice t n ps => rw [segs_congr hh]
  case slS x lo hi => rw [hh.1]; simp only [bnd_congr (len := _) (cap := _) (fun y hy => hh.2 y (by simpa using hy) : ∀ y ∈ oo lo ++ oo hi, ρ y = ρ' y)]
  case slL t sz x lo hi => rw [hh.1]; simp only [bnd_congr (len := _) (cap := _) (fun y hy => hh.2 y (by simpa using hy) : ∀ y ∈ oo lo ++ oo hi, ρ y = ρ' y)]
  case slA n sz x lo hi => rw [hh.1]; simp only [bnd_congr (len := _) (cap := _) (fun y hy => hh.2 y (by simpa using hy) : ∀ y ∈ oo lo ++ oo hi, ρ y = ρ' y)]
  case mkf fn a b =>
    rw [List.map_congr_left (l := a) (fun x hx => hh x (.inl hx)), List.map_congr_left (l := b) (fun x hx => hh x (.inr hx))]
  case minmax mx x xs => rw [hh.1, List.map_congr_left (l := xs) (fun x hx => hh.2 x hx)]

theorem Is.congr {ρ ρ' : Operand → Value} {h : H} {op : AOp} {v : Value} {b : Option Blk} (hh : ∀ x ∈ op.opds, ρ x = ρ' x) (hi : Is ρ h op v b) : Is ρ' h op v b :=
  fun K => (nst_congr (fun x hx => (hh x hx).symm)).trans (hi K)
end Go.Proofs.YtemgddekbdifeaaGreat.Am

namespace Go.Proofs.YtemgddekbdifeaaGreat.Am
open Go.RowKit

theorem Is.of {ρ : Operand → Value} {h : H} {op : AOp} {v : Value} {b : Option Blk} (hk : nst ρ h op (fun v1 b1 => v1 = v ∧ b1 = b)) : Is ρ h op v b := by
  obtain ⟨v1, b1, _, hi⟩ := nst_is hk
  obtain ⟨rfl, rfl⟩ := (hi _).1 hk
  exact hi
theorem Is.self {ρ : Operand → Value} {h : H} {op : AOp} {v : Value} {b : Option Blk} (hi : Is ρ h op v b) : nst ρ h op (fun v1 b1 => v1 = v ∧ b1 = b) := (hi _).2 ⟨rfl, rfl⟩
theorem Is.alc_none {ρ : Operand → Value} {h : H} {op : AOp} {v : Value} (ha : op.alc = true) (hi : Is ρ h op v none) (h' : H) : Is ρ h' op v none := by
  rcases alc_is ha hi.self with ⟨v1, ⟨rfl, _⟩, hh⟩ | ⟨s, blk, ⟨_, hb⟩, _⟩
  · exact hh h'
  · cases hb

theorem nst_more {ρ : Operand → Value} {h h' : H} {op : AOp} {K : Value → Option Blk → Prop} (ha : op.alc = false) (hg : ∀ i b, h.get i = some b → h'.get i = some b) (hk : nst ρ h op K) : nst ρ h' op K := by
  have hcell : ∀ i o v, h.cell i o = some v → h'.cell i o = some v := by
    intro i o v hc
    unfold H.cell at *
    cases hb : h.get i with
    | none => rw [hb] at hc; cases hc
    | some b => rw [hg i b hb]; rw [hb] at hc; exact hc
  have hrd : ∀ i o n v, h.rd i o n = some v → h'.rd i o n = some v := by
    intro i o n v hc
    unfold H.rd at *
    cases hb : h.get i with
    | none => rw [hb] at hc; cases hc
    | some b => rw [hg i b hb]; rw [hb] at hc; exact hc
  have hcl : ∀ i, closedAt h i → closedAt h' i := fun i ⟨cs, t, own, hb⟩ => ⟨cs, t, own, hg _ _ hb⟩
  have htag : ∀ i t, tagAt h i t → tagAt h' i t := fun i t ⟨cs, t', own, op, hb, ht⟩ => ⟨cs, t', own, op, hg _ _ hb, ht⟩
  have hbnd : ∀ {len cap : Nat} {lo hi : Option Operand} {K K' : Nat → Nat → Prop}, (∀ l u, K l u → K' l u) → bnd ρ len cap lo hi K → bnd ρ len cap lo hi K' := by
    intro len cap lo hi K K' hKK hb
    obtain ⟨l, u, hlu⟩ := bnd_is hb
    exact (hlu _).2 (hKK _ _ ((hlu _).1 hb))
  cases op <;> simp only [AOp.alc, Bool.true_eq_false] at ha <;> try exact hk
  case ld1 x =>
    simp only [nst] at hk ⊢
    split at hk
    · obtain ⟨v, hv, hk⟩ := hk; exact ⟨v, hcell _ _ _ hv, hk⟩
    · exact hk.elim
  case ldN n x =>
    simp only [nst] at hk ⊢
    split at hk
    · obtain ⟨v, hv, hk⟩ := hk; exact ⟨v, hrd _ _ _ _ hv, hk⟩
    · exact hk.elim
  case cvStr x =>
    simp only [nst] at hk ⊢
    split at hk
    · exact hk
    · obtain ⟨v, hv, hk⟩ := hk; exact ⟨v, hrd _ _ _ _ hv, hk⟩
    · exact hk.elim
  case slL t sz x lo hi =>
    simp only [nst] at hk ⊢
    split at hk
    · exact hk
    · refine hbnd ?_ hk
      intro l u hh
      cases lo with
      | none => exact hh
      | some y => exact ⟨fun hl => ⟨(hh.1 hl).1.imp id (htag _ _), (hh.1 hl).2⟩, fun hl => ⟨(hh.2 hl).1.imp id (hcl _), (hh.2 hl).2⟩⟩
    · exact hk.elim
  case slA n sz x lo hi =>
    simp only [nst] at hk ⊢
    split at hk
    · refine hbnd ?_ hk
      intro l u hh
      cases lo with
      | none => exact ⟨hcl _ hh.1, hh.2⟩
      | some y => exact ⟨hcl _ hh.1, hh.2⟩
    · exact hk.elim

/-- An operation that stands under a test: what holds if it is wanted. -/
def gate (g : Option (Nat × Bool)) (f : Fr) (d : Option Nat) (X : Prop) : Prop :=
  match g with
  | none => X
  | some (t, want) => (f t = .bool want → X) ∧ (f t ≠ .bool want → ∀ e, d = some e → f e = undef)

theorem steps_cons {cl : Cl} {s : AStep} {r : List AStep} {f : Fr} {h : H} {K : Fr → H → Prop} (hs : steps cl (s :: r) f h K) :
    match s.guard with
    | none => stepW cl s f h fun f' h' => steps cl r f' h' K
    | some (t, want) => (f t = .bool want → stepW cl s f h fun f' h' => steps cl r f' h' K) ∧ (f t ≠ .bool want → steps cl r (f.put s.dst undef) h K) := by
  simp only [steps] at hs
  split at hs
  · rename_i hg; simp only [hg]; exact hs
  · rename_i t want hg
    simp only [hg]
    split at hs
    · rename_i b hb
      rw [hb]
      cases b <;> cases want <;> simp only [obool, put_same hb] at hs <;> simp [hs]
    · rename_i hne
      exact ⟨fun h => absurd h (hne want), fun _ => hs⟩

/-- What an operation that waits keeps. -/
def PX (h0 : Nat) (s : AStep) (id : Option Nat) (f : Fr) (h : H) (μ : Mu) : Prop :=
  match id with
  | none => ∃ v, Is (ev f) h s.op v none ∧ ∀ d, s.dst = some d → f d = v
  | some id => s.op.alc = true ∧ ∃ (p : Shp) (blk : Blk), (∀ h', Is (ev f) h' s.op (p.val h'.next) (some blk)) ∧ (∀ d, s.dst = some d → f d = p.val id) ∧
      h0 ≤ id ∧ id < h.next ∧ h.get id = some blk ∧ μ id = none

theorem ev_same {f f' : Fr} {l : List Nat} (hf : ∀ t ∈ l, f' t = f t) {xs : List Operand} (hx : xs.all (tmpIn l) = true) : ∀ x ∈ xs, ev f x = ev f' x := by
  intro x hm
  cases x with
  | tmp t =>
    have := List.all_eq_true.1 hx _ hm
    simp only [tmpIn, List.contains_iff_mem] at this
    exact (hf t this).symm
  | _ => rfl

theorem PX.frame {h0 : Nat} {s : AStep} {id : Option Nat} {f f' : Fr} {h : H} {μ : Mu} {l : List Nat} (hp : PX h0 s id f h μ) (hl : s.op.opds.all (tmpIn l) = true)
    (hf : ∀ t ∈ l, f' t = f t) (hd : ∀ d, s.dst = some d → f' d = f d) : PX h0 s id f' h μ := by
  have he := ev_same hf hl
  cases id with
  | none =>
    obtain ⟨v, hi, hv⟩ := hp
    exact ⟨v, hi.congr he, fun d hs => (hd d hs).trans (hv d hs)⟩
  | some id =>
    obtain ⟨ha, p, blk, hi, hv, h1, h2, h3, h4⟩ := hp
    exact ⟨ha, p, blk, fun h' => (hi h').congr he, fun d hs => (hd d hs).trans (hv d hs), h1, h2, h3, h4⟩

theorem PX.push {h0 : Nat} {s : AStep} {id : Option Nat} {f : Fr} {h : H} {μ : Mu} (hp : PX h0 s id f h μ) (hn : h.get h.next = none) (b : Blk) : PX h0 s id f (h.push b) μ := by
  have hg : ∀ i x, h.get i = some x → (h.push b).get i = some x := by
    intro i x hi
    show (if i = h.next then some b else h.get i) = _
    rw [if_neg]
    · exact hi
    · rintro rfl; rw [hn] at hi; cases hi
  cases id with
  | none =>
    obtain ⟨v, hi, hv⟩ := hp
    refine ⟨v, ?_, hv⟩
    by_cases ha : s.op.alc = true
    · exact hi.alc_none ha _
    · exact Is.of (nst_more (by simpa using ha) hg hi.self)
  | some id =>
    obtain ⟨ha, p, blk, hi, hv, h1, h2, h3, h4⟩ := hp
    exact ⟨ha, p, blk, hi, hv, h1, Nat.lt_succ_of_lt h2, hg _ _ h3, h4⟩

theorem PX.mu {h0 : Nat} {s : AStep} {id : Option Nat} {f : Fr} {h : H} {μ μ' : Mu} (hp : PX h0 s id f h μ) (hm : ∀ k, id = some k → μ' k = μ k) : PX h0 s id f h μ' := by
  cases id with
  | none => exact hp
  | some id =>
    obtain ⟨ha, p, blk, hi, hv, h1, h2, h3, h4⟩ := hp
    exact ⟨ha, p, blk, hi, hv, h1, h2, h3, (hm _ rfl).trans h4⟩

/-- A call is passed by: what was read before it reads the same behind it. -/
theorem PX.over {h0 : Nat} {s : AStep} {id : Option Nat} {f : Fr} {h h' : H} {μ μ' : Mu} (hp : PX h0 s id f h μ) (hn : h.next ≤ h'.next) (hm : ∀ i, i < h.next → μ' i = μ i)
    (hd : s.op.alc = true → s.dst.isSome = true) (hc : s.op.reads = true → chkOne f h' (s.dst, s.op)) (hr : s.op.alc = true → s.op.reads = true) : PX h0 s id f h' μ' := by
  cases id with
  | none =>
    obtain ⟨v, hi, hv⟩ := hp
    by_cases ha : s.op.alc = true
    · exact ⟨v, hi.alc_none ha _, hv⟩
    by_cases hrd : s.op.reads = true
    · have hck := hc hrd
      unfold chkOne at hck
      cases hsd : s.dst with
      | none =>
        simp only [hsd] at hck
        obtain ⟨v1, b1, hb1, hi1⟩ := nst_is hck
        have hb := hb1 (by simpa using ha)
        subst hb
        exact ⟨v1, hi1, fun d hd => by rw [hsd] at hd; cases hd⟩
      | some d =>
        refine ⟨v, ?_, hv⟩
        simp only [hsd] at hck
        obtain ⟨v1, b1, hb1, hi1⟩ := nst_is hck
        have hb := hb1 (by simpa using ha)
        subst hb
        have := (hi1 _).1 hck
        simp only at this
        rw [hv d hsd] at this
        subst this
        exact hi1
    · exact ⟨v, hi.heap (by simpa using hrd), hv⟩
  | some id =>
    obtain ⟨ha, p, blk, hi, hv, h1, h2, h3, h4⟩ := hp
    refine ⟨ha, p, blk, hi, hv, h1, Nat.lt_of_lt_of_le h2 hn, ?_, (hm _ h2).trans h4⟩
    have hck := hc (hr ha)
    obtain ⟨d, hsd⟩ := Option.isSome_iff_exists.1 (hd ha)
    unfold chkOne at hck
    simp only [hsd] at hck
    have := (hi h' _).1 hck
    simp only [hv d hsd] at this
    cases p <;> exact this

theorem AOp.reads_of_alc {op : AOp} (h : op.alc = true) : op.reads = true := by cases op <;> first | rfl | cases h

/-- A block of the plain machine is made in the model's world later than in its own. -/
theorem Tr.late {P : Program} {B : Nat} {w0 : World} {μ0 : Mu} {h0 : H} {wr : World} {μ : Mu} {h : H} {w w' : World} {id : Nat} {e : Ent} {cs : List Value} {t : TypeId} {own op : Bool}
    (T : Tr μ0 h0 wr μ h w) (hid : h0.next ≤ id) (hg : h.get id = some (.cells cs t own op)) (hμ : μ id = none) (N : NewAt P B (μ.set id e) w e cs t own op w') :
    Tr μ0 h0 wr (μ.set id e) h w' := by
  refine ⟨fun i hi => by unfold Mu.set; rw [if_neg (by omega)]; exact T.mu i hi, T.next, T.live, ?_, ?_, Nat.le_trans T.size N.size⟩
  · intro b hb hne
    rw [N.old b (Nat.lt_of_lt_of_le hb T.size)]
    exact T.keep b hb hne
  · intro i x c t' op' hi hx hgi
    unfold Mu.set at hx
    split at hx
    · rename_i hii
      subst hii
      simp only [Option.some.injEq] at hx
      subst hx
      rw [hg] at hgi
      simp only [Option.some.injEq, Blk.cells.injEq] at hgi
      obtain ⟨_, _, rfl, _⟩ := hgi
      exact .inl (Nat.le_trans T.size (N.here rfl))
    · exact T.new i x c t' op' hi hx hgi

theorem Tr.push {P : Program} {B : Nat} {w0 : World} {μ0 : Mu} {h0 : H} {wr : World} {μ : Mu} {h : H} {w : World} (R : Rel P B w0 μ h w) (T : Tr μ0 h0 wr μ h w) (b : Blk) : Tr μ0 h0 wr μ (h.push b) w := by
  have hget : ∀ j, (h.push b).get j = if j = h.next then some b else h.get j := fun j => rfl
  refine ⟨T.mu, Nat.le_succ_of_le T.next, ?_, T.keep, ?_, T.size⟩
  · intro i cs t op hi hg
    rw [hget, if_neg (by have := T.next; omega)] at hg
    exact T.live i cs t op hi hg
  · intro i x c t op hi hx hg
    rw [hget] at hg
    split at hg
    · rename_i hin
      rw [hin, (R.fresh h.next (Nat.le_refl _)).1] at hx
      cases hx
    · exact T.new i x c t op hi hx hg

/-! ### Cards -/

theorem mapM_mem {α β : Type} {f : α → Option β} : ∀ {l : List α} {r : List β}, l.mapM f = some r → ∀ {y : β} {i : Nat}, r[i]? = some y → ∃ x, l[i]? = some x ∧ f x = some y
  | [], r, h, y, i, hy => by simp at h; subst h; simp at hy
  | x :: l, r, h, y, i, hy => by
    rw [List.mapM_cons] at h
    cases hx : f x with
    | none => rw [hx] at h; cases h
    | some x' =>
      cases hl : l.mapM f with
      | none => rw [hx, hl] at h; cases h
      | some l' =>
        rw [hx, hl] at h
        cases h
        cases i with
        | zero => simp at hy; subst hy; exact ⟨x, rfl, hx⟩
        | succ i => simpa using mapM_mem hl (by simpa using hy)
theorem mapM_len {α β : Type} {f : α → Option β} : ∀ {l : List α} {r : List β}, l.mapM f = some r → r.length = l.length
  | [], r, h => by simp at h; subst h; rfl
  | x :: l, r, h => by
    rw [List.mapM_cons] at h
    cases hx : f x with
    | none => rw [hx] at h; cases h
    | some x' =>
      cases hl : l.mapM f with
      | none => rw [hx, hl] at h; cases h
      | some l' => rw [hx, hl] at h; cases h; simp [mapM_len hl]

/-- What is known of a step that was compiled. -/
structure StepOf (P : Program) (nt : Nat) (ops : Array Oper) (o : Oper) (s : AStep) : Prop where
  op : ∃ a, compOp P o.op = some a ∧ (s.op = a ∧ isMvS a = false ∨ ∃ x, a = .mv x ∧ s.op = .mvS x)
  guard : guardOf ops o.guard = some s.guard
  dst : s.dst = o.dst
  ok : ∀ x ∈ o.op.operands.toList, okO x = true
  okd : ∀ d, o.dst = some d → d < nt
  opds : s.op.opds.all (tmpIn (o.looksAt ops)) = true

theorem stepOf {P : Program} {nt : Nat} {ops : Array Oper} {o : Oper} {s : AStep} (h : compStep P nt ops o = some s) : StepOf P nt ops o s ∧ s.chk = [] ∧ compOp P o.op = some s.op ∧ isMvS s.op = false := by
  unfold compStep at h
  split at h
  · cases h
  · rename_i a ha
    split at h
    · cases h
    · rename_i g hg
      split at h
      · rename_i hok
        simp only [Option.some.injEq] at h
        subst h
        simp only [Bool.and_eq_true, Bool.not_eq_true'] at hok
        refine ⟨⟨⟨a, ha, .inl ⟨rfl, hok.2⟩⟩, hg, rfl, fun x hx => List.all_eq_true.1 hok.1.1.1 x hx, fun d hd => ?_, hok.1.2⟩, rfl, ha, hok.2⟩
        have := hok.1.1.2
        rw [hd] at this
        simpa [okD] using this
      · cases h

structure CardAt (P : Program) (nt : Nat) (ops : Array Oper) (c : Card × Nat) (o : Oper) : Prop where
  at_ : ops[c.2]? = some o
  step : StepOf P nt ops o c.1.step
  dst : c.1.dst = o.dst
  looks : c.1.looks = o.looksAt ops
  bits : (Region.before ops).toList[c.2]? = some c.1.bits

theorem strictAs_cases {w : Bool} {a b : AOp} (h : strictAs w a = some b) : b = a ∨ ∃ x, a = .mv x ∧ b = .mvS x := by
  unfold strictAs at h
  split at h
  · split at h
    · simp only [Option.some.injEq] at h; exact .inr ⟨_, rfl, h.symm⟩
    · split at h
      · simp only [Option.some.injEq] at h; exact .inl h.symm
      · cases h
  · simp only [Option.some.injEq] at h; exact .inl h.symm

theorem cardAt {P : Program} {nt : Nat} {ops : Array Oper} {cs : List Card} (h : cards P nt ops = some cs) {c : Card × Nat} (hc : c ∈ cs.zipIdx) : ∃ o, CardAt P nt ops c o := by
  obtain ⟨c, i⟩ := c
  have hci : cs[i]? = some c := by
    have := List.mem_zipIdx_iff_getElem?.1 hc
    simpa using this
  unfold cards at h
  obtain ⟨⟨⟨o, d, l, b⟩, j⟩, hx, hy⟩ := mapM_mem h hci
  simp only [List.getElem?_zipIdx, Option.map_eq_some_iff, Prod.mk.injEq, Nat.zero_add] at hx
  obtain ⟨⟨o1, d1, l1, b1⟩, hz, ⟨rfl, rfl, rfl, rfl⟩, rfl⟩ := hx
  rw [List.getElem?_zip_eq_some] at hz
  obtain ⟨ho, hm⟩ := hz
  simp only [List.getElem?_map, Option.map_eq_some_iff, Prod.mk.injEq, Prod.exists] at hm
  obtain ⟨o2, b2, hz2, rfl, rfl, rfl⟩ := hm
  rw [List.getElem?_zip_eq_some] at hz2
  obtain ⟨ho2, hb2⟩ := hz2
  simp only at ho ho2 hb2
  rw [ho] at ho2
  simp only [Option.some.injEq] at ho2
  subst ho2
  refine ⟨o, ?_⟩
  simp only at hy
  split at hy
  · cases hy
  · rename_i s hs
    obtain ⟨a, ha, rfl⟩ := Option.map_eq_some_iff.1 hy
    obtain ⟨S, _, ha0, hnm⟩ := stepOf hs
    obtain ⟨_, hg, hd, hok, hokd, hopds⟩ := S
    refine ⟨by simpa using ho, ⟨?_, hg, hd, hok, hokd, ?_⟩, rfl, rfl, hb2⟩
    · rcases strictAs_cases ha with h1 | ⟨x, h1, h2⟩
      · exact ⟨_, ha0, .inl ⟨h1, hnm⟩⟩
      · exact ⟨_, ha0, .inr ⟨x, h1, h2⟩⟩
    · rcases strictAs_cases ha with h1 | ⟨x, h1, h2⟩
      · rw [h1]; exact hopds
      · rw [h2]; rw [h1] at hopds; exact hopds
end Go.Proofs.YtemgddekbdifeaaGreat.Am

namespace Go.Proofs.YtemgddekbdifeaaGreat.Am
open Go.RowKit

theorem chkAll_all {f : Fr} {h : H} : ∀ {l : List (Option Nat × AOp)} {Q : Prop}, chkAll f h l Q → (∀ c ∈ l, chkOne f h c) ∧ Q
  | [], Q, hh => ⟨by simp, hh⟩
  | c :: r, Q, hh => by
    obtain ⟨h1, h2⟩ := hh
    obtain ⟨h3, h4⟩ := chkAll_all h2
    refine ⟨fun x hx => ?_, h4⟩
    simp only [List.mem_cons] at hx
    rcases hx with rfl | hx
    · exact h1
    · exact h3 x hx

def POk (P : Program) : Prop := ∀ e, isU8 P e = true → szT P e = some 1
def noD : Nat → Prop := fun _ => False

section
variable {P : Program} {B : Nat} {w0 : World} {cl : Cl} {nt : Nat} {ops : Array Oper}

theorem Act.put_tmps (a : Act) (d : Option Tmp) (v : Value) : (a.put d v).tmps = match d with | some d => a.tmps.setIfInBounds d v | none => a.tmps := by cases d <;> rfl
theorem Act.put_defers' (a : Act) (d : Option Tmp) (v : Value) : (a.put d v).defers = a.defers := by cases d <;> rfl

theorem FR.putA {D D' : Nat → Prop} {μ : Mu} {f : Fr} {a : Act} (h : FR nt D μ f a.tmps) {d : Option Nat} (hd : ∀ e, d = some e → e < nt) {v v' : Value} (hv : VR μ v v') (hD : ∀ t, D t → d ≠ some t → D' t) :
    FR nt D' μ (f.put d v) (a.put d v').tmps := by
  cases d with
  | none => exact h.weaken fun t ht => hD t ht (by simp)
  | some d => exact h.put (hd d rfl) hv fun t ht hne => hD t ht (fun e => hne (by cases e; rfl))

theorem ops_VR {D : Nat → Prop} {μ : Mu} {f : Fr} {a : Act} {o : Oper} {s : AStep} (S : StepOf P nt ops o s) (F : FR nt D μ f a.tmps) (hD : ∀ t ∈ o.looksAt ops, ¬ D t) :
    ∀ x ∈ o.op.operands.toList, VR μ (ev f x) (a.eval x) := by
  intro x hx
  refine ev_VR F (S.ok x hx) fun t ht => hD t ?_
  subst ht
  exact List.mem_append_left _ (List.mem_filterMap.2 ⟨.tmp t, hx, rfl⟩)

/-- The test ahead of an operation is the same for both. -/
theorem wanted_same {D : Nat → Prop} {μ : Mu} {f : Fr} {a : Act} {o : Oper} {s : AStep} (S : StepOf P nt ops o s) (F : FR nt D μ f a.tmps) (hD : ∀ t ∈ o.looksAt ops, ¬ D t) :
    match s.guard with
    | none => Region.wanted o (yielded ops a.tmps) = true
    | some (t, want) => t ∈ o.looksAt ops ∧ (f t = .bool want → Region.wanted o (yielded ops a.tmps) = true) ∧ (f t ≠ .bool want → Region.wanted o (yielded ops a.tmps) = false) := by
  have hg := S.guard
  unfold guardOf at hg
  split at hg
  · rename_i hog
    simp only [Option.some.injEq] at hg
    rw [← hg]
    simp [Region.wanted, hog]
  · rename_i j want hog
    obtain ⟨t, ht, hgs⟩ := Option.map_eq_some_iff.1 hg
    rw [← hgs]
    have htl : t ∈ o.looksAt ops := by
      refine List.mem_append_right _ ?_
      simp [hog, ht]
    have hv := F.val t (hD t htl)
    refine ⟨htl, fun hb => ?_, fun hne => ?_⟩
    · rw [hb] at hv
      have hb' : a.tmps.getD t undef = .bool want := by
        generalize a.tmps.getD t undef = v' at hv
        cases hv; rfl
      have hb2 : a.tmps[t]? = some (.bool want) := by
        rw [Array.getD_eq_getD_getElem?] at hb'
        cases hq : a.tmps[t]? with
        | none => rw [hq] at hb'; simp [undef] at hb'
        | some x => rw [hq] at hb'; simp at hb'; rw [hb']
      simp only [Region.wanted, hog, yielded, ht, Option.bind_some, hb2]
      cases want <;> rfl
    · simp only [Region.wanted, hog, yielded, ht, Option.bind_some]
      split
      · rename_i b hq
        rw [Array.getD_eq_getD_getElem?, hq] at hv
        simp only [Option.getD_some] at hv
        have hfb : f t = .bool b := by
          generalize f t = u at hv
          cases hv; rfl
        have : b ≠ want := fun e => hne (by rw [hfb, e])
        cases b <;> cases want <;> first | rfl | exact absurd rfl this
      · cases want <;> rfl

/-- A strict operation. -/
theorem strict_step (hcl : ClOK P B w0 cl) {D : Nat → Prop} {μ : Mu} {f : Fr} {h : H} {w : World} {a : Act} {o : Oper} {s : AStep} (S : StepOf P nt ops o s) (F : FR nt D μ f a.tmps) (hD : ∀ t ∈ o.looksAt ops, ¬ D t)
    (R : Rel P B w0 μ h w) (hst : s.op.strict = true) {s' : AStep} (hs : s'.op = s.op ∧ s'.dst = s.dst) {K : Fr → H → Prop} (hk : stepW cl s' f h K) {next : Act → World → Prop} {Q : Exit → Act → World → Prop}
    (hn : ∀ v h' v' μ' w', (∀ c ∈ s'.chk, chkOne f h' c) → K (f.put o.dst v) h' → Rel P B w0 μ' h' w' → VR μ' v v' → Tr μ h w μ' h' w' → (isMvS s.op = true → h' = h ∧ μ' = μ) → next (a.put o.dst v') w') : o.wp P a w next Q := by
  have hst' : s'.op.strict = true := by rw [hs.1]; exact hst
  unfold stepW at hk
  rw [hst'] at hk
  simp only [force_eq, hs.1, hs.2, S.dst] at hk
  obtain ⟨op, hc, hop⟩ := S.op
  rcases hop with ⟨hop, hnm⟩ | ⟨x, rfl, hop⟩
  · rw [hop] at hk hst
    refine strict_sound hcl hc hst R (ops_VR S F hD) hk ?_
    intro v h' v' μ' w' hK hR hV hT
    obtain ⟨h1, h2⟩ := chkAll_all hK
    refine hn v h' v' μ' w' h1 h2 hR hV hT fun hm => ?_
    rw [hop, hnm] at hm
    cases hm
  · rw [hop] at hk
    simp only [sst] at hk
    obtain ⟨h1, h2⟩ := chkAll_all hk
    obtain ⟨v, v', hv, hV, hrun⟩ := nst_pure (K := fun v _ => v = ev f x) hc rfl rfl R (ops_VR S F hD) rfl
    subst hv
    unfold Oper.wp
    rw [hrun]
    exact hn _ h _ μ w h1 h2 R hV (Tr.refl μ h w fun i hi => (R.fresh i hi).1) fun _ => ⟨rfl, rfl⟩

/-- An operation that reads, reckons or makes a block, at once. -/
theorem weak_step (hP : POk P) {D : Nat → Prop} {μ : Mu} {f : Fr} {h : H} {w : World} {a : Act} {o : Oper} {s : AStep} (S : StepOf P nt ops o s) (F : FR nt D μ f a.tmps) (hD : ∀ t ∈ o.looksAt ops, ¬ D t)
    (R : Rel P B w0 μ h w) (hst : s.op.strict = false) {K : Fr → H → Prop} (hk : stepW cl s f h K) {next : Act → World → Prop} {Q : Exit → Act → World → Prop}
    (hn : ∀ v h' v' μ' w', K (f.put o.dst v) h' → Rel P B w0 μ' h' w' → VR μ' v v' → Tr μ h w μ' h' w' → next (a.put o.dst v') w') : o.wp P a w next Q := by
  unfold stepW at hk
  rw [hst] at hk
  simp only [force_eq, S.dst] at hk
  obtain ⟨op, hc, hop⟩ := S.op
  have hop' : s.op = op := by
    rcases hop with ⟨hop, _⟩ | ⟨x, _, hop⟩
    · exact hop
    · rw [hop] at hst; cases hst
  rw [hop'] at hk hst
  unfold Oper.wp
  by_cases ha : op.alc = true
  · rcases nst_alloc hc ha R (ops_VR S F hD) (fun v => rfl) hP hk with ⟨v, v', hK, hV, hrun⟩ | ⟨p, cs, t, own, opn, hK, v', w', e, hrun, hN, hV⟩
    · rw [hrun]
      exact hn v h v' μ w hK R hV (Tr.refl μ h w fun i hi => (R.fresh i hi).1)
    · have hμ := (R.fresh h.next (Nat.le_refl _)).1
      have N := hN _ hμ
      rw [hrun]
      refine hn _ _ _ _ _ hK ((R.push (.cells cs t own opn)).new (i := h.next) (e := e) (Nat.lt_succ_self _) hμ (if_pos rfl) N) (hV _) (Tr.fresh R rfl N.size N.old fun cs' t' op' he => ?_)
      cases he
      exact N.here rfl
  · obtain ⟨v, v', hK, hV, hrun⟩ := nst_pure hc (by simpa using ha) hst R (ops_VR S F hD) hk
    rw [hrun]
    exact hn v h v' μ w hK R hV (Tr.refl μ h w fun i hi => (R.fresh i hi).1)

/-- What a piece of code hands on. -/
def exitOf : Out → Exit
  | .normal => .normal
  | .exit i => .exit i
  | .ret => .ret
def QOK (P : Program) (B : Nat) (w0 : World) (nt : Nat) (μ0 : Mu) (h0 : H) (wr : World) (ds : List Deferred) (K : Out → Fr → H → Prop) (Q : Exit → Act → World → Prop) : Prop :=
  ∀ o f h μ a w, K o f h → Rel P B w0 μ h w → Tr μ0 h0 wr μ h w → FR nt noD μ f a.tmps → a.defers = ds → Q (exitOf o) a w

theorem QOK.trans {μ0 : Mu} {h0 : H} {wr : World} {μ : Mu} {h : H} {w : World} {ds : List Deferred} {K : Out → Fr → H → Prop} {Q : Exit → Act → World → Prop}
    (q : QOK P B w0 nt μ0 h0 wr ds K Q) (T : Tr μ0 h0 wr μ h w) : QOK P B w0 nt μ h w ds K Q :=
  fun o f h' μ' a w' hK R T' F hd => q o f h' μ' a w' hK R (T.trans T') F hd

theorem no_D {x : List Nat} : ∀ t ∈ x, ¬ noD t := fun _ _ h => h

/-- The operations of a region one after another. -/
theorem ops_sound (hP : POk P) (hcl : ClOK P B w0 cl) {K : Out → Fr → H → Prop} {Q : Exit → Act → World → Prop} : ∀ (l : List Oper) (r : List AStep) (k : Nat), l.mapM (compStep P nt ops) = some r →
    (∀ j, l[j]? = ops[k + j]? ∨ l[j]? = none) → ∀ (f : Fr) (h : H) (μ : Mu) (a : Act) (w : World), steps cl r f h (K .normal) → Rel P B w0 μ h w → FR nt noD μ f a.tmps → QOK P B w0 nt μ h w a.defers K Q →
    wpOps P ops Q (List.range' k l.length) a w
  | [], r, k, hm, hat, f, h, μ, a, w, hs, R, F, q => by
    simp at hm
    subst hm
    exact q .normal f h μ a w hs R (Tr.refl μ h w fun i hi => (R.fresh i hi).1) F rfl
  | o :: l, r, k, hm, hat, f, h, μ, a, w, hs, R, F, q => by
    rw [List.mapM_cons] at hm
    cases hx : compStep P nt ops o with
    | none => rw [hx] at hm; cases hm
    | some s =>
      cases hl : l.mapM (compStep P nt ops) with
      | none => rw [hx, hl] at hm; cases hm
      | some r' =>
        rw [hx, hl] at hm
        cases hm
        obtain ⟨S, hchk, _, _⟩ := stepOf hx
        have ho : ops[k]? = some o := by
          have := hat 0
          have h1 := this.resolve_right (by simp)
          simpa using h1.symm
        have hat' : ∀ j, l[j]? = ops[k + 1 + j]? ∨ l[j]? = none := by
          intro j
          have := hat (j + 1)
          rw [show k + 1 + j = k + (j + 1) by omega]
          simpa using this
        have hw := wanted_same S F no_D
        have hs' := steps_cons hs
        rw [List.length_cons, List.range'_succ, wpOps_cons]
        unfold wpOp
        simp only [ho]
        have skip : steps cl r' (f.put s.dst undef) h (K .normal) → wpOps P ops Q (List.range' (k + 1) l.length) (a.put o.dst undef) w := by
          intro hsk
          refine ops_sound hP hcl l r' (k + 1) hl hat' _ h μ _ w hsk R ?_ ?_
          · rw [S.dst]; exact F.putA S.okd (undef_VR μ) fun t ht _ => ht
          · rw [Act.put_defers']; exact q
        have go : stepW cl s f h (fun f' h' => steps cl r' f' h' (K .normal)) → o.wp P a w (wpOps P ops Q (List.range' (k + 1) l.length)) Q := by
          intro hk
          have fin : ∀ v h' v' μ' w', steps cl r' (f.put o.dst v) h' (K .normal) → Rel P B w0 μ' h' w' → VR μ' v v' → Tr μ h w μ' h' w' → wpOps P ops Q (List.range' (k + 1) l.length) (a.put o.dst v') w' := by
            intro v h' v' μ' w' hk hR hV hT
            have hm : ∀ i e, μ i = some e → μ' i = some e := by
              intro i e he
              have hi : i < h.next := by
                rcases Nat.lt_or_ge i h.next with h1 | h1
                · exact h1
                · rw [(R.fresh i h1).1] at he; cases he
              rw [hT.mu i hi]; exact he
            refine ops_sound hP hcl l r' (k + 1) hl hat' _ h' μ' _ w' hk hR ((F.mono hm).putA S.okd hV fun t ht _ => ht) ?_
            rw [Act.put_defers']
            exact q.trans hT
          cases hst : s.op.strict with
          | true => exact strict_step hcl S F no_D R hst ⟨rfl, rfl⟩ hk fun v h' v' μ' w' _ h1 h2 h3 h4 _ => fin v h' v' μ' w' h1 h2 h3 h4
          | false => exact weak_step hP S F no_D R hst hk fin
        cases hg : s.guard with
        | none =>
          rw [hg] at hw hs'
          simp only at hw hs'
          rw [if_pos hw]
          exact .inl (go hs')
        | some tw =>
          obtain ⟨t, want⟩ := tw
          rw [hg] at hw hs'
          simp only at hw hs'
          obtain ⟨h1, h2⟩ := hs'
          by_cases hbw : f t = .bool want
          · rw [hw.2.1 hbw, if_pos rfl]
            exact .inl (go (h1 hbw))
          · rw [hw.2.2 hbw, if_neg (by simp)]
            exact skip (h2 hbw)

theorem region_sound (hP : POk P) (hcl : ClOK P B w0 cl) {K : Out → Fr → H → Prop} {Q : Exit → Act → World → Prop} {r : List AStep} {id : Nat} (hm : ops.toList.mapM (compStep P nt ops) = some r)
    {f : Fr} {h : H} {μ : Mu} {a : Act} {w : World} (hs : steps cl r f h (K .normal)) (R : Rel P B w0 μ h w) (F : FR nt noD μ f a.tmps) (q : QOK P B w0 nt μ h w a.defers K Q) :
    (Code.region id ops false).wp P Q a w := by
  refine wp_region ?_
  have := ops_sound (ops := ops) hP hcl ops.toList r 0 hm (fun j => .inl (by simp)) f h μ a w hs R F q
  rw [List.range_eq_range']
  simpa using this
end
end Go.Proofs.YtemgddekbdifeaaGreat.Am
