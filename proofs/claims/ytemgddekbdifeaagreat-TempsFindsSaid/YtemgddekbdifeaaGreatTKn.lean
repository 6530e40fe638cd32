/- Calls whose answers are known: a closed run from nothing holds wherever it is called. -/
import Derived.Test.YtemgddekbdifeaaGreatAm6
set_option linter.unusedVariables false
set_option linter.unusedSimpArgs false
set_option maxRecDepth 100000
namespace Go.Proofs.YtemgddekbdifeaaGreat.Am
open Go.RowKit

/-! ### Flat values -/
theorem flatL_eq {μ : Mu} : ∀ {l l' : List Value}, VRL μ l l' → l.all flat1 = true → l' = l
  | [], _, h, _ => by cases h; rfl
  | v :: l, _, h, hf => by
    simp only [List.all_cons, Bool.and_eq_true] at hf
    cases h with
    | cons h t => rw [flat1_eq h hf.1, flatL_eq t hf.2]
theorem flat_eq {μ : Mu} {v v' : Value} (h : VR μ v v') (hf : flat v = true) : v' = v := by
  unfold flat at hf
  split at hf
  · cases h with
    | agg h _ => congr 1; exact Array.ext' (flatL_eq h hf)
  · cases h with
    | tuple h => congr 1; exact Array.ext' (flatL_eq h hf)
  · exact flat1_eq h hf
theorem flatA_eq {μ : Mu} : ∀ {l l' : List Value}, VRL μ l l' → l.all flat = true → l' = l
  | [], _, h, _ => by cases h; rfl
  | v :: l, _, h, hf => by
    simp only [List.all_cons, Bool.and_eq_true] at hf
    cases h with
    | cons h t => rw [flat_eq h hf.1, flatA_eq t hf.2]
theorem flatA_VRL (μ : Mu) : ∀ (l : List Value), l.all flat = true → VRL μ l l
  | [], _ => .nil
  | v :: l, h => by simp only [List.all_cons, Bool.and_eq_true] at h; exact .cons (flat_VR μ h.1) (flatA_VRL μ l h.2)
/-- A flat value, or some of them. -/
def flat2 : Value → Bool
  | .tuple cs => cs.toList.all flat
  | v => flat v
theorem flat2_VR (μ : Mu) {v : Value} (h : flat2 v = true) : VR μ v v := by
  unfold flat2 at h
  split at h
  · exact .tuple (flatA_VRL μ _ h)
  · exact flat_VR μ h
theorem flat2_eq {μ : Mu} {v v' : Value} (h : VR μ v v') (hf : flat2 v = true) : v' = v := by
  unfold flat2 at hf
  split at hf
  · cases h with
    | tuple h => congr 1; exact Array.ext' (flatA_eq h hf)
  · exact flat_eq h hf

def veqA : List Value → List Value → Bool
  | [], [] => true
  | a :: l, b :: r => veq a b && veqA l r
  | _, _ => false
theorem veqA_ok : ∀ {a b : List Value}, veqA a b = true → a = b
  | [], [], _ => rfl
  | a :: l, b :: r, h => by
    simp only [veqA, Bool.and_eq_true] at h
    rw [veq_ok h.1, veqA_ok h.2]
  | [], _ :: _, h => by cases h
  | _ :: _, [], h => by cases h
def veq2 (a b : Value) : Bool :=
  match a with
  | .tuple cs => match b with
    | .tuple ds => veqA cs.toList ds.toList
    | _ => false
  | a => veq a b
theorem veq2_ok {a b : Value} (h : veq2 a b = true) : a = b := by
  unfold veq2 at h
  split at h
  · split at h
    · congr 1; exact Array.ext' (veqA_ok h)
    · cases h
  · exact veq_ok h

/-! ### What is known -/
abbrev flatZ (v : Value) : Bool := flat v
inductive Res where
  | flat (v : Value)
  | sl (cs : List Value) (t : TypeId) (op : Bool) (n c : Nat)
  | slt (cs : List Value) (t : TypeId) (op : Bool) (n c : Nat) (w : Value)

structure Entry where
  g : FuncId
  args : List Value
  res : Res

def Res.run (r : Res) (h : H) (K : Value → H → Prop) : Prop :=
  match r with
  | .flat v => K v h
  | .sl cs t op n c => K (.slice (some ⟨h.next, 0, none⟩) n c) (h.push (.cells cs t true op))
  | .slt cs t op n c w => K (.tuple #[.slice (some ⟨h.next, 0, none⟩) n c, w]) (h.push (.cells cs t true op))
noncomputable def Res.runE (r : Res) (x : XH) : Value × XH :=
  match r with
  | .flat v => (v, x)
  | .sl cs t op n c => (.slice (some ⟨x.next, 0, none⟩) n c, x.push (.cells cs t true op))
  | .slt cs t op n c w => (.tuple #[.slice (some ⟨x.next, 0, none⟩) n c, w], x.push (.cells cs t true op))
theorem Res.runE_ok (r : Res) (x : XH) {K : Value → H → Prop} (hk : K (r.runE x).1 (r.runE x).2.toH) : r.run x.toH K := by
  cases r with
  | flat v => exact hk
  | sl cs t op n c => simp only [Res.runE, XH.push_eq] at hk; exact hk
  | slt cs t op n c w => simp only [Res.runE, XH.push_eq] at hk; exact hk

def baseK (L : List Entry) : Cl := fun g args h K => ∃ e ∈ L, e.g = g ∧ e.args = args ∧ e.res.run h K
noncomputable def baseKE (L : List Entry) : ClE := fun g args x =>
  List.rec none (fun e _ ih => match Nat.beq e.g g with
    | true => (match veqA e.args args with
      | true => some (e.res.runE x)
      | false => ih)
    | false => ih) L
theorem baseKE_ok : ∀ (L : List Entry), ClEOK (baseKE L) (baseK L)
  | [], g, args, x, v, x', h, K, hk => by cases h
  | e :: L, g, args, x, v, x', h, K, hk => by
    have ih := baseKE_ok L g args x v x'
    have h' : (match Nat.beq e.g g with
      | true => (match veqA e.args args with
        | true => some (e.res.runE x)
        | false => baseKE L g args x)
      | false => baseKE L g args x) = some (v, x') := h
    have rest : baseKE L g args x = some (v, x') → baseK (e :: L) g args x.toH K := fun hr => by
      obtain ⟨d, hd, h1, h2, h3⟩ := ih hr K hk
      exact ⟨d, List.mem_cons_of_mem _ hd, h1, h2, h3⟩
    split at h'
    · rename_i hg
      split at h'
      · rename_i ha
        simp only [Option.some.injEq] at h'
        refine ⟨e, List.mem_cons_self .., Nat.eq_of_beq_eq_true hg, veqA_ok ha, e.res.runE_ok x ?_⟩
        rw [h']; exact hk
      · exact rest h'
    · exact rest h'

def EntryOK (P : Program) (e : Entry) : Prop := ∀ (B : Nat) (w0 : World), ClOK P B w0 (fun g args h K => e.g = g ∧ e.args = args ∧ e.res.run h K)
theorem baseK_ok {P : Program} {L : List Entry} (hL : ∀ e ∈ L, EntryOK P e) {B : Nat} {w0 : World} : ClOK P B w0 (baseK L) := by
  intro g args h K ⟨e, he, hr⟩
  exact hL e he B w0 g args h K hr

theorem Rel.later {P : Program} {B : Nat} {w0 : World} {μ : Mu} {h : H} {w w' : World} (R : Rel P B w0 μ h w) (hb : Below w.heap.size w w') : Rel P B w0 μ h w' := by
  refine ⟨R.below.trans (hb.mono R.size), Nat.le_trans R.size hb.size, R.fresh, ?_, R.inj⟩
  intro i e cs t own op hm hg
  obtain ⟨h1, h2, h3⟩ := R.blk i e cs t own op hm hg
  refine ⟨h1, h2, ?_⟩
  rcases h3 with h3 | ⟨cs', fr, hw, hr⟩
  · exact .inl h3
  · refine .inr ⟨cs', fr, ?_, hr⟩
    have hlt : e.b < w.heap.size := by
      rcases Nat.lt_or_ge e.b w.heap.size with h | h
      · exact h
      · rw [Array.getElem?_eq_none h] at hw; cases hw
    rw [hb.block _ hlt, hw]
theorem Tr.later {μ : Mu} {h : H} {w w' : World} (hf : ∀ i, h.next ≤ i → μ i = none) (hb : Below w.heap.size w w') : Tr μ h w μ h w' :=
  ⟨fun _ _ => rfl, Nat.le_refl _, fun i cs t op _ hg => ⟨cs, t, op, hg⟩, fun b hlt _ => hb.block b hlt, (fun i e _ _ _ hi he _ => by rw [hf i hi] at he; cases he), hb.size⟩

/-- Does a run end so? -/
noncomputable def Res.fits (r : Res) (o : Option (Value × XH)) : Bool :=
  match o with
  | none => false
  | some (v, x) => match r with
    | .flat u => flat2 u && veq2 v u
    | .sl cs t op n c => match v with
      | .slice (some ⟨i, o, none⟩) n' c' => Nat.beq o 0 && Nat.beq n n' && Nat.beq c c' && blkEq (x.t.get i) (.cells cs t true op) && cs.all flat1
      | _ => false
    | .slt cs t op n c w => match v with
      | .tuple a => match a.toList with
        | [.slice (some ⟨i, o, none⟩) n' c', u] => Nat.beq o 0 && Nat.beq n n' && Nat.beq c c' && blkEq (x.t.get i) (.cells cs t true op) && cs.all flat1 && veq u w && flatZ w
        | _ => false
      | _ => false
def Res.fit (r : Res) (v : Value) (h : H) : Prop :=
  match r with
  | .flat u => flat2 u = true ∧ v = u
  | .sl cs t op n c => ∃ i, v = .slice (some ⟨i, 0, none⟩) n c ∧ h.get i = some (.cells cs t true op) ∧ cs.all flat1 = true
  | .slt cs t op n c w => ∃ i, v = .tuple #[.slice (some ⟨i, 0, none⟩) n c, w] ∧ h.get i = some (.cells cs t true op) ∧ cs.all flat1 = true ∧ flatZ w = true
theorem Res.fits_ok {r : Res} {v : Value} {x : XH} (h : r.fits (some (v, x)) = true) : r.fit v x.toH := by
  cases r with
  | flat u =>
    simp only [Res.fits, Bool.and_eq_true] at h
    exact ⟨h.1, veq2_ok h.2⟩
  | sl cs t op n c =>
    simp only [Res.fits] at h
    split at h
    · rename_i i o n' c'
      simp only [Bool.and_eq_true] at h
      obtain ⟨⟨⟨⟨h1, h2⟩, h3⟩, h4⟩, h5⟩ := h
      have := Nat.eq_of_beq_eq_true h1
      subst this
      have := Nat.eq_of_beq_eq_true h2
      subst this
      have := Nat.eq_of_beq_eq_true h3
      subst this
      exact ⟨i, rfl, blkEq_ok h4, h5⟩
    · cases h
  | slt cs t op n c w =>
    simp only [Res.fits] at h
    split at h
    · rename_i a
      split at h
      · rename_i i o n' c' u ha
        simp only [Bool.and_eq_true] at h
        obtain ⟨⟨⟨⟨⟨⟨h1, h2⟩, h3⟩, h4⟩, h5⟩, h6⟩, h7⟩ := h
        have := Nat.eq_of_beq_eq_true h1
        subst this
        have := Nat.eq_of_beq_eq_true h2
        subst this
        have := Nat.eq_of_beq_eq_true h3
        subst this
        have := veq_ok h6
        subst this
        refine ⟨i, ?_, blkEq_ok h4, h5, h7⟩
        congr 1
        exact Array.ext' ha
      · cases h
    · cases h

theorem fresh_ok {P : Program} {B : Nat} {w0 : World} {μ μ' : Mu} {hh h' : H} {w w' : World} {cs : List Value} {t : TypeId} {op : Bool} {i : Nat} {ent : Ent}
    (R : Rel P B w0 μ hh w) (hb : Below w.heap.size w w') (hR : Rel P w.heap.size w μ' h' w') (hm : μ' i = some ent) (hg : h'.get i = some (.cells cs t true op)) (hfl : cs.all flat1 = true) :
    Rel P B w0 (fun j => if j = hh.next then some ent else μ j) (hh.push (.cells cs t true op)) w' ∧ Tr μ hh w (fun j => if j = hh.next then some ent else μ j) (hh.push (.cells cs t true op)) w' := by
      have fresh0 : ∀ i, hh.next ≤ i → μ i = none := fun i hi => (R.fresh i hi).1
      obtain ⟨b1, b2, b3⟩ := hR.blk i ent cs t true op hm hg
      rcases b3 with ⟨_, h3, _⟩ | ⟨cs', fr, hw, hlen, hcells, hown, hsz, _⟩
      · cases h3
      obtain ⟨hB, hfr, hEq⟩ := hown rfl
      have hcs : (cs'.toList.drop ent.o).take cs.length = cs := flatL_eq hcells hfl
      have hnext : μ hh.next = none := fresh0 _ (Nat.le_refl _)
      have old : ∀ j e' cs1 t1 own1 op1, j ≠ hh.next → μ j = some e' → hh.get j = some (.cells cs1 t1 own1 op1) → own1 = true → e'.b < w.heap.size ∨ (cs1 = [] ∧ own1 = false ∧ op1 = false) := by
        intro j e' cs1 t1 own1 op1 _ hj hgj ho
        obtain ⟨_, _, q3⟩ := R.blk j e' cs1 t1 own1 op1 hj hgj
        rcases q3 with q3 | ⟨c1, f1, q4, _⟩
        · exact .inr q3
        · left
          rcases Nat.lt_or_ge e'.b w.heap.size with h | h
          · exact h
          · rw [Array.getElem?_eq_none h] at q4; cases q4
      have R2 := R.later hb
      constructor
      · refine ⟨R2.below, R2.size, ?_, ?_, ?_⟩
        · intro j hj
          have hj' : hh.next + 1 ≤ j := hj
          have hne : j ≠ hh.next := by omega
          constructor
          · show (if j = hh.next then some ent else μ j) = none
            rw [if_neg hne]; exact fresh0 j (by omega)
          · show (hh.push _).get j = none
            unfold H.push
            simp only
            rw [if_neg hne]
            exact (R.fresh j (by omega)).2
        · intro j e' cs1 t1 own1 op1 hj hgj
          by_cases hne : j = hh.next
          · subst hne
            simp only [if_true, Option.some.injEq] at hj
            subst hj
            have hgj' : (some (Blk.cells cs t true op)) = some (.cells cs1 t1 own1 op1) := by
              have : (hh.push (.cells cs t true op)).get hh.next = some (.cells cs t true op) := by unfold H.push; simp
              rw [this] at hgj; exact hgj
            cases hgj'
            refine ⟨b1, b2, .inr ⟨cs', fr, hw, hlen, ?_, fun _ => ⟨Nat.le_trans R.size hB, hfr, hEq⟩, hsz, fun hf => by cases hf⟩⟩
            rw [hcs]
            exact flatL_VRL _ _ hfl
          · rw [if_neg hne] at hj
            have hgj' : hh.get j = some (.cells cs1 t1 own1 op1) := by
              have : (hh.push (.cells cs t true op)).get j = hh.get j := by unfold H.push; simp only; rw [if_neg hne]
              rw [this] at hgj; exact hgj
            obtain ⟨q1, q2, q3⟩ := R2.blk j e' cs1 t1 own1 op1 hj hgj'
            refine ⟨q1, q2, ?_⟩
            rcases q3 with q3 | ⟨c1, f1, q4, q5, q6, q7⟩
            · exact .inl q3
            · refine .inr ⟨c1, f1, q4, q5, q6.mono ?_, q7⟩
              intro k ek hk
              by_cases hk2 : k = hh.next
              · subst hk2; rw [hnext] at hk; cases hk
              · rw [if_neg hk2]; exact hk
        · intro a b e1 e2 cs1 t1 op1 cs2 t2 op2 hab ha1 hb1 ga gb
          have geto : ∀ k, k ≠ hh.next → (hh.push (.cells cs t true op)).get k = hh.get k := fun k hk => by unfold H.push; simp only; rw [if_neg hk]
          by_cases hna : a = hh.next
          · subst hna
            simp only [if_true, Option.some.injEq] at ha1
            subst ha1
            have hnb : b ≠ hh.next := fun h => hab h.symm
            rw [if_neg hnb] at hb1
            rw [geto b hnb] at gb
            rcases old b e2 cs2 t2 true op2 hnb hb1 gb rfl with h | ⟨_, h, _⟩
            · omega
            · cases h
          · rw [if_neg hna] at ha1
            rw [geto a hna] at ga
            by_cases hnb : b = hh.next
            · subst hnb
              simp only [if_true, Option.some.injEq] at hb1
              subst hb1
              rcases old a e1 cs1 t1 true op1 hna ha1 ga rfl with h | ⟨_, h, _⟩
              · omega
              · cases h
            · rw [if_neg hnb] at hb1
              rw [geto b hnb] at gb
              exact R2.inj a b e1 e2 cs1 t1 op1 cs2 t2 op2 hab ha1 hb1 ga gb
      · refine ⟨?_, Nat.le_succ _, ?_, fun b hlt _ => hb.block b hlt, ?_, hb.size⟩
        · intro j hj
          show (if j = hh.next then some ent else μ j) = μ j
          rw [if_neg (by omega)]
        · intro j cs1 t1 op1 hj hgj
          have : (hh.push (.cells cs t true op)).get j = hh.get j := by unfold H.push; simp only; rw [if_neg (by omega)]
          rw [this] at hgj
          exact ⟨cs1, t1, op1, hgj⟩
        · intro j e' cs1 t1 op1 hj he hgj
          by_cases hne : j = hh.next
          · subst hne
            simp only [if_true, Option.some.injEq] at he
            subst he
            exact .inl hB
          · rw [if_neg hne, fresh0 j hj] at he; cases he

theorem known_of {P : Program} {e : Entry} {C : Cl} (hC : ∀ B w0, ClOK P B w0 C) (ha : e.args.all flat = true)
    (h : C e.g e.args ⟨0, fun _ => none⟩ (fun v h' => e.res.fit v h')) : EntryOK P e := by
  intro B w0 g args hh K ⟨hg, hargs, hK⟩ μ w args' R hv
  subst hg
  subst hargs
  have hae : args'.toList = e.args := flatA_eq hv ha
  obtain ⟨hc, hr⟩ := hC w.heap.size w e.g e.args _ _ h (fun _ => none) w args' (by
    exact ⟨⟨rfl, rfl, rfl, Nat.le_refl _, fun _ _ => rfl⟩, Nat.le_refl _, fun _ _ => ⟨rfl, rfl⟩, (fun i e _ _ _ _ hi => by cases hi), fun i j e _ _ _ _ _ _ _ _ hi => by cases hi⟩) (by rw [hae]; exact flatA_VRL _ _ ha)
  refine ⟨hc, fun Q hQ => hr Q ?_⟩
  intro v h' μ' v' w' hfit hR hV hT
  have hb : Below w.heap.size w w' := hR.below
  have fresh0 : ∀ i, hh.next ≤ i → μ i = none := fun i hi => (R.fresh i hi).1
  cases hres : e.res with
  | flat u =>
    rw [hres] at hfit hK
    obtain ⟨hf, rfl⟩ := hfit
    have := flat2_eq hV hf
    subst this
    exact hQ _ hh μ _ w' hK (R.later hb) (flat2_VR μ hf) (Tr.later fresh0 hb)
  | sl cs t op n c =>
    rw [hres] at hfit hK
    obtain ⟨i, rfl, hg, hfl⟩ := hfit
    cases hV with
    | sl hm hn hcc hx hE =>
      rename_i c' ent
      obtain ⟨f1, f2⟩ := fresh_ok R hb hR hm hg hfl
      exact hQ _ _ _ _ w' hK f1 (.sl (by simp) hn hcc hx hE) f2
  | slt cs t op n c u =>
    rw [hres] at hfit hK
    obtain ⟨i, rfl, hg, hfl, hfu⟩ := hfit
    cases hV with
    | tuple hl =>
      rename_i arr
      obtain ⟨l⟩ := arr
      simp only at hl
      cases hl with
      | cons h1 h2 =>
        cases h1 with
        | sl hm hn hcc hx hE =>
          rename_i c' ent
          cases h2 with
          | cons h3 h4 =>
            cases h4
            have := flat_eq h3 hfu
            subst this
            obtain ⟨f1, f2⟩ := fresh_ok R hb hR hm hg hfl
            exact hQ _ _ _ _ w' hK f1 (.tuple (.cons (.sl (by simp) hn hcc hx hE) (.cons (flat_VR _ hfu) .nil))) f2

theorem known_run {P : Program} {l : List (Nat × AFn)} (hl : ∀ p ∈ l, FnOK P p) {L : List Entry} (hL : ∀ e ∈ L, EntryOK P e) {fuel n : Nat} {e : Entry}
    (ha : e.args.all flat = true) (h : e.res.fits (acallE (tabC l) (baseKE L) fuel n e.g e.args ⟨0, .leaf⟩) = true) : EntryOK P e := by
  refine known_of (C := acall (tabC l) (baseK L) n) (fun B w0 => acall_sound (pok P) (tabOK hl) (baseK_ok hL) n) ha ?_
  generalize hr : acallE (tabC l) (baseKE L) fuel n e.g e.args ⟨0, .leaf⟩ = r at h
  cases r with
  | none => cases h
  | some p =>
    obtain ⟨v, x⟩ := p
    have := acallE_ok (C := tabC l) (baseKE_ok L) n e.g e.args _ _ _ hr (fun v h' => e.res.fit v h') (Res.fits_ok h)
    rw [empty_toH] at this
    exact this

/-- A law at arguments that are flat. -/
theorem flatK_holds {P : Program} {l : List (Nat × AFn)} (hl : ∀ p ∈ l, FnOK P p) {L : List Entry} (hL : ∀ e ∈ L, EntryOK P e) {n g : Nat} {args : List Value} (hv : VRL (fun _ => none) args args)
    (h : acall (tabC l) (baseK L) n g args ⟨0, fun _ => none⟩ (fun v _ => v = .bool true)) (w : World) :
    Calls P g args.toArray w fun e w' => e = .returned (.bool true) ∧ Below w.heap.size w w' := by
  refine (acall_sound (B := w.heap.size) (w0 := w) (pok P) (tabOK hl) (baseK_ok hL) n g args _ _ h (fun _ => none) w args.toArray ?_ (by simpa using hv)).2 _ ?_
  · exact ⟨⟨rfl, rfl, rfl, Nat.le_refl _, fun _ _ => rfl⟩, Nat.le_refl _, fun _ _ => ⟨rfl, rfl⟩, (fun i e _ _ _ _ hi => by cases hi), fun i j e _ _ _ _ _ _ _ _ hi => by cases hi⟩
  · intro v h' μ' v' w' hv hR hV _
    subst hv
    cases hV
    exact ⟨rfl, hR.below⟩
theorem closedK_run {P : Program} {l : List (Nat × AFn)} (hl : ∀ p ∈ l, FnOK P p) {L : List Entry} (hL : ∀ e ∈ L, EntryOK P e) {fuel n g : Nat} (h : isTrue (acallE (tabC l) (baseKE L) fuel n g [] ⟨0, .leaf⟩) = true) (w : World) :
    Calls P g #[] w fun e w' => e = .returned (.bool true) ∧ Below w.heap.size w w' := by
  obtain ⟨x, hx⟩ := isTrue_ok h
  have := acallE_ok (C := tabC l) (baseKE_ok L) n g [] _ _ _ hx (fun v _ => v = .bool true) rfl
  rw [empty_toH] at this
  exact flatK_holds hl hL .nil this w
end Go.Proofs.YtemgddekbdifeaaGreat.Am
