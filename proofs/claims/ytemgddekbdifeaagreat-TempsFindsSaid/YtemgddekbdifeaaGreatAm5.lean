/- Regions that draw their order. -/
import Derived.Test.YtemgddekbdifeaaGreatAm4
import Derived.Laws.Sem
set_option linter.unusedVariables false
set_option linter.unusedSimpArgs false
namespace Go.Proofs.YtemgddekbdifeaaGreat.Am
open Go.RowKit

abbrev CN := Card × Nat

theorem gate_keep {g : Option (Nat × Bool)} {f f' : Fr} {d : Option Nat} {X X' : Prop} (h : gate g f d X) (hg : ∀ t w, g = some (t, w) → f' t = f t) (hd : ∀ e, d = some e → f' e = f e) (hx : X → X') : gate g f' d X' := by
  cases g with
  | none => exact hx h
  | some tw =>
    obtain ⟨t, want⟩ := tw
    obtain ⟨h1, h2⟩ := h
    exact ⟨fun e => hx (h1 ((hg t want rfl) ▸ e)), fun e x hx => (hd x hx).trans (h2 (fun e' => e ((hg t want rfl).trans e')) x hx)⟩

/-- What is known of a region's operations in the order in which the plain machine takes them. -/
structure DrawFacts (P : Program) (nt : Nat) (ops : Array Oper) (ord : List CN) (md : Region.Mode) : Prop where
  card : ∀ x ∈ ord, ∃ o, CardAt P nt ops x o
  pw : ord.Pairwise (fun i j => pairOk i j = true)
  self : ∀ x ∈ ord, cardOk x = true
  all : ∀ j, j < ops.size → ∃ c, (c, j) ∈ ord
  bits : ∀ listed : Array Bool, (∀ j o, ops[j]? = some o → listed.getD j false = true → ∀ e ∈ o.after, Region.binds md e = true → listed.getD e.on false = true) →
    ∀ x ∈ ord, ∀ o, ops[x.2]? = some o → (∀ e ∈ o.after, Region.binds md e = true → listed.getD e.on false = true) → ∀ j, x.1.bits.testBit j = true → listed.getD j false = true
  acy : ∀ listed : Array Bool, (∃ j, j < ops.size ∧ listed.getD j false = false) → listed.size = ops.size → Region.ready md ops listed ≠ []

section
variable {P : Program} {B : Nat} {w0 : World} {cl : Cl} {nt : Nat} {ops : Array Oper} {md : Region.Mode} {ord : List CN} {μ0 : Mu} {h0 : H} {wr : World} {ds : List Deferred}

def Pend (h0 : H) (idf : Nat → Option Nat) (f : Fr) (h : H) (μ : Mu) (x : CN) : Prop :=
  gate x.1.step.guard f x.1.step.dst (PX h0.next x.1.step (idf x.2) f h μ)
def upId (idf : Nat → Option Nat) (i : Nat) (v : Option Nat) : Nat → Option Nat := fun j => if j = i then v else idf j
theorem upId_self {idf : Nat → Option Nat} {i : Nat} {v : Option Nat} : upId idf i v i = v := if_pos rfl
theorem upId_ne {idf : Nat → Option Nat} {i j : Nat} {v : Option Nat} (h : j ≠ i) : upId idf i v j = idf j := if_neg h
def off (listed : Array Bool) (x : CN) : Prop := listed.getD x.2 false = false

structure Inv (P : Program) (B : Nat) (w0 : World) (nt : Nat) (ops : Array Oper) (md : Region.Mode) (ord : List CN) (μ0 : Mu) (h0 : H) (wr : World) (ds : List Deferred)
    (listed : Array Bool) (done rest : List CN) (idf : Nat → Option Nat) (f : Fr) (h : H) (μ : Mu) (a : Act) (w : World) : Prop where
  split : ord = done ++ rest
  sub : ∀ j, listed.getD j false = true → ∃ c, (c, j) ∈ done
  str : ∀ x ∈ done, x.1.step.op.strict = true → listed.getD x.2 false = true
  closed : ∀ j o, ops[j]? = some o → listed.getD j false = true → ∀ e ∈ o.after, Region.binds md e = true → listed.getD e.on false = true
  rel : Rel P B w0 μ h w
  tr : Tr μ0 h0 wr μ h w
  fr : FR nt (fun t => ∃ x ∈ done, off listed x ∧ x.1.dst = some t) μ f a.tmps
  pend : ∀ x ∈ done, off listed x → Pend h0 idf f h μ x
  ids : ∀ x ∈ done, ∀ y ∈ done, x.2 ≠ y.2 → off listed x → off listed y → ∀ k, idf x.2 = some k → idf y.2 ≠ some k
  idlt : ∀ x ∈ done, off listed x → ∀ k, idf x.2 = some k → k < h.next
  lsz : listed.size = ops.size
  dfr : a.defers = ds

theorem guard_looks {o : Oper} {s : AStep} (S : StepOf P nt ops o s) {t : Nat} {want : Bool} (hg : s.guard = some (t, want)) : t ∈ o.looksAt ops := by
  have h := S.guard
  rw [hg] at h
  unfold guardOf at h
  split at h
  · cases h
  · rename_i j want' hog
    obtain ⟨t', ht, hgs⟩ := Option.map_eq_some_iff.1 h
    cases hgs
    refine List.mem_append_right _ ?_
    simp [hog, ht]

theorem pairOk_spec {i j : CN} (h : pairOk i j = true) : i.2 ≠ j.2 ∧ (i.1.step.op.strict = true → j.1.bits.testBit i.2 = true) ∧
    (∀ d, j.1.dst = some d → (i.1.dst = some d ∨ d ∈ i.1.looks) → j.1.bits.testBit i.2 = true ∧ (i.1.step.op.strict = true ∨ j.1.step.op.strict = true)) ∧
    (∀ d, i.1.dst = some d → (j.1.dst = some d ∨ d ∈ j.1.looks) → j.1.bits.testBit i.2 = true) := by
  unfold pairOk at h
  simp only [Bool.and_eq_true] at h
  obtain ⟨⟨⟨⟨h1, h2⟩, h3⟩, h4⟩, _⟩ := h
  refine ⟨by simpa using h1, ?_, ?_, ?_⟩
  · intro hs; simpa [hs] using h2
  · intro d hd hc
    rw [hd] at h3
    have : (i.1.dst == some d || i.1.looks.contains d) = true := by
      rcases hc with hc | hc
      · simp [hc]
      · simp [hc]
    simp only [this, Bool.not_true, Bool.false_or, Bool.and_eq_true, Bool.or_eq_true] at h3
    exact h3
  · intro d hd hc
    rw [hd] at h4
    have : (j.1.dst == some d || j.1.looks.contains d) = true := by
      rcases hc with hc | hc
      · simp [hc]
      · simp [hc]
    simpa only [this, Bool.not_true, Bool.false_or] using h4

theorem cardOk_spec {i : CN} (h : cardOk i = true) : (i.1.step.op.strict = false → ∀ d, i.1.dst = some d → d ∉ i.1.looks) ∧ (i.1.step.op.alc = true → i.1.dst.isSome = true) := by
  unfold cardOk at h
  simp only [Bool.and_eq_true] at h
  refine ⟨fun hs d hd => ?_, fun ha => by simpa [ha] using h.2⟩
  have := h.1
  rw [hs, hd] at this
  simpa using this

theorem pw_both {α : Type} {R : α → α → Prop} : ∀ {l : List α}, l.Pairwise R → ∀ {x y : α}, x ∈ l → y ∈ l → x ≠ y → R x y ∨ R y x
  | [], _, x, _, hx, _, _ => by cases hx
  | z :: l, hp, x, y, hx, hy, hne => by
    rw [List.pairwise_cons] at hp
    simp only [List.mem_cons] at hx hy
    rcases hx with rfl | hx
    · rcases hy with rfl | hy
      · exact absurd rfl hne
      · exact .inl (hp.1 y hy)
    · rcases hy with rfl | hy
      · exact .inr (hp.1 x hx)
      · exact pw_both hp.2 hx hy hne

variable (DF : DrawFacts P nt ops ord md)

include DF in
theorem Inv.later {listed : Array Bool} {done rest : List CN} {idf : Nat → Option Nat} {f : Fr} {h : H} {μ : Mu} {a : Act} {w : World}
    (I : Inv P B w0 nt ops md ord μ0 h0 wr ds listed done rest idf f h μ a w) {x : CN} (hx : x ∈ rest) : off listed x := by
  unfold off
  cases hl : listed.getD x.2 false with
  | false => rfl
  | true =>
    obtain ⟨c, hc⟩ := I.sub _ hl
    have := DF.pw
    rw [I.split, List.pairwise_append] at this
    have := (pairOk_spec (this.2.2 _ hc _ hx)).1
    exact absurd rfl this

include DF in
/-- The plain machine goes ahead, up to the next operation that writes or calls. -/
theorem advance : ∀ (n : Nat) {listed : Array Bool} {done rest : List CN} {idf : Nat → Option Nat} {f : Fr} {h : H} {μ : Mu} {a : Act} {w : World} {K : Fr → H → Prop}, rest.length ≤ n →
    Inv P B w0 nt ops md ord μ0 h0 wr ds listed done rest idf f h μ a w → steps cl (rest.map (withChk ord)) f h K →
    ∃ done' rest' idf' f' h', Inv P B w0 nt ops md ord μ0 h0 wr ds listed done' rest' idf' f' h' μ a w ∧ (∀ s r, rest' = s :: r → s.1.step.op.strict = true) ∧ steps cl (rest'.map (withChk ord)) f' h' K
  | n, listed, done, [], idf, f, h, μ, a, w, K, _, I, hs => ⟨done, [], idf, f, h, I, (fun _ _ h => by cases h), hs⟩
  | n, listed, done, x :: r, idf, f, h, μ, a, w, K, hn, I, hs => by
    cases hst : x.1.step.op.strict with
    | true => exact ⟨done, x :: r, idf, f, h, I, (fun s r' he => by cases he; exact hst), hs⟩
    | false =>
      obtain ⟨n, rfl⟩ : ∃ m, n = m + 1 := ⟨n - 1, by simp at hn; omega⟩
      have hxo : x ∈ ord := by rw [I.split]; simp
      obtain ⟨o, C⟩ := DF.card x hxo
      have hself := cardOk_spec (DF.self x hxo)
      have hns := hself.1 hst
      have hwc : withChk ord x = x.1.step := by unfold withChk; rw [hst]; rfl
      have hoff := I.later DF (x := x) (by simp)
      have hpw : ∀ y ∈ done, pairOk y x = true := by
        have := DF.pw
        rw [I.split, List.pairwise_append] at this
        exact fun y hy => this.2.2 y hy x (by simp)
      rw [List.map_cons, hwc] at hs
      have hs' := steps_cons hs
      have hsd : x.1.step.dst = x.1.dst := by rw [C.step.dst, C.dst]
      -- the frames that come of it
      have next : ∀ (v : Value) (h' : H) (id : Option Nat), (h' = h ∧ id = none ∨ ∃ b, h' = h.push b ∧ id = some h.next) → Pend h0 (upId idf x.2 id) (f.put x.1.step.dst v) h' μ x →
          steps cl (r.map (withChk ord)) (f.put x.1.step.dst v) h' K →
          ∃ done' rest' idf' f' h', Inv P B w0 nt ops md ord μ0 h0 wr ds listed done' rest' idf' f' h' μ a w ∧ (∀ s r, rest' = s :: r → s.1.step.op.strict = true) ∧ steps cl (rest'.map (withChk ord)) f' h' K := by
        intro v h' id hh hp hk
        refine advance n (by simp at hn; exact hn) (idf := upId idf x.2 id) (done := done ++ [x]) (rest := r) ?_ hk
        have hne : ∀ y ∈ done, y.2 ≠ x.2 := fun y hy => (pairOk_spec (hpw y hy)).1
        refine ⟨by rw [I.split]; simp, fun j hj => ?_, ?_, I.closed, ?_, ?_, ?_, ?_, ?_, ?_, I.lsz, I.dfr⟩
        · obtain ⟨c, hc⟩ := I.sub j hj
          exact ⟨c, by simp [hc]⟩
        · intro y hy hys
          simp only [List.mem_append, List.mem_singleton] at hy
          rcases hy with hy | rfl
          · exact I.str y hy hys
          · rw [hst] at hys; cases hys
        · rcases hh with ⟨rfl, _⟩ | ⟨b, rfl, _⟩
          · exact I.rel
          · exact I.rel.push b
        · rcases hh with ⟨rfl, _⟩ | ⟨b, rfl, _⟩
          · exact I.tr
          · exact I.tr.push I.rel b
        · cases hd : x.1.step.dst with
          | none =>
            exact I.fr.weaken fun t ⟨y, hy, h1, h2⟩ => ⟨y, by simp [hy], h1, h2⟩
          | some d =>
            refine I.fr.ahead.weaken fun t ht => ?_
            rcases ht with ⟨y, hy, h1, h2⟩ | rfl
            · exact ⟨y, by simp [hy], h1, h2⟩
            · exact ⟨x, by simp, hoff, by rw [← hsd, hd]⟩
        · intro y hy hyo
          simp only [List.mem_append, List.mem_singleton] at hy
          rcases hy with hy | rfl
          · have hyord : y ∈ ord := by rw [I.split]; simp [hy]
            obtain ⟨oy, Cy⟩ := DF.card y hyord
            have hyst : y.1.step.op.strict = false := by
              cases hq : y.1.step.op.strict with
              | false => rfl
              | true => have := I.str y hy hq; unfold off at hyo; rw [this] at hyo; cases hyo
            have hapart : ∀ d, x.1.dst = some d → ¬ (y.1.dst = some d ∨ d ∈ y.1.looks) := by
              intro d hd hc
              rcases ((pairOk_spec (hpw y hy)).2.2.1 d hd hc).2 with h1 | h1
              · rw [hyst] at h1; cases h1
              · rw [hst] at h1; cases h1
            have hfr : ∀ t, (y.1.dst = some t ∨ t ∈ y.1.looks) → (f.put x.1.step.dst v) t = f t := by
              intro t ht
              cases hd : x.1.step.dst with
              | none => rfl
              | some d =>
                simp only [Fr.put]
                rw [if_neg]
                rintro rfl
                exact hapart t (by rw [← hsd, hd]) ht
            have hyd : y.1.step.dst = y.1.dst := by rw [Cy.step.dst, Cy.dst]
            refine gate_keep (I.pend y hy hyo) ?_ ?_ ?_
            · intro t want hg
              exact hfr t (.inr (by rw [Cy.looks]; exact guard_looks Cy.step hg))
            · intro e he
              exact hfr e (.inl (by rw [← hyd]; exact he))
            · intro hpx
              rw [upId_ne (hne y hy)]
              have h1 : PX h0.next y.1.step (idf y.2) f h' μ := by
                rcases hh with ⟨rfl, _⟩ | ⟨b, rfl, _⟩
                · exact hpx
                · exact hpx.push (I.rel.fresh h.next (Nat.le_refl _)).2 b
              exact h1.frame Cy.step.opds (fun t ht => hfr t (.inr (by rw [Cy.looks]; exact ht))) (fun d hd => hfr d (.inl (by rw [← hyd]; exact hd)))
          · exact hp
        · intro y hy z hz hyz hyo hzo k hk hk2
          simp only [List.mem_append, List.mem_singleton] at hy hz
          rcases hy with hy | rfl
          · rcases hz with hz | rfl
            · rw [upId_ne (hne y hy)] at hk
              rw [upId_ne (hne z hz)] at hk2
              exact I.ids y hy z hz hyz hyo hzo k hk hk2
            · rw [upId_ne (hne y hy)] at hk
              rw [upId_self] at hk2
              have := I.idlt y hy hyo k hk
              rcases hh with ⟨_, rfl⟩ | ⟨b, _, rfl⟩
              · cases hk2
              · cases hk2; omega
          · rcases hz with hz | rfl
            · rw [upId_self] at hk
              rw [upId_ne (hne z hz)] at hk2
              have := I.idlt z hz hzo k hk2
              rcases hh with ⟨_, rfl⟩ | ⟨b, _, rfl⟩
              · cases hk
              · cases hk; omega
            · exact absurd rfl hyz
        · intro y hy hyo k hk
          simp only [List.mem_append, List.mem_singleton] at hy
          have hle : h.next ≤ h'.next := by
            rcases hh with ⟨rfl, _⟩ | ⟨b, rfl, _⟩
            · exact Nat.le_refl _
            · exact Nat.le_succ _
          rcases hy with hy | rfl
          · rw [upId_ne (hne y hy)] at hk
            exact Nat.lt_of_lt_of_le (I.idlt y hy hyo k hk) hle
          · rw [upId_self] at hk
            rcases hh with ⟨_, rfl⟩ | ⟨b, rfl, rfl⟩
            · cases hk
            · cases hk; exact Nat.lt_succ_self _
      have hnx : ∀ (v : Value) t, t ∈ x.1.looks → (f.put x.1.step.dst v) t = f t := by
        intro v t ht
        cases hd : x.1.step.dst with
        | none => rfl
        | some d =>
          simp only [Fr.put]
          rw [if_neg]
          rintro rfl
          exact hns t (by rw [← hsd, hd]) ht
      have hev : ∀ (v : Value), ∀ y ∈ x.1.step.op.opds, ev f y = ev (f.put x.1.step.dst v) y := fun v => ev_same (fun t ht => hnx v t (by rw [C.looks]; exact ht)) C.step.opds
      have hself' : ∀ (v : Value) d, x.1.step.dst = some d → (f.put x.1.step.dst v) d = v := by
        intro v d hd; rw [hd]; simp [Fr.put]
      have go : stepW cl x.1.step f h (fun f' h' => steps cl (r.map (withChk ord)) f' h' K) → ∃ (v : Value) (h' : H) (id : Option Nat), (h' = h ∧ id = none ∨ ∃ b, h' = h.push b ∧ id = some h.next) ∧
          PX h0.next x.1.step id (f.put x.1.step.dst v) h' μ ∧ steps cl (r.map (withChk ord)) (f.put x.1.step.dst v) h' K := by
        intro hk
        unfold stepW at hk
        rw [hst] at hk
        simp only [force_eq] at hk
        have hnone : ∀ v, Is (ev f) h x.1.step.op v none → PX h0.next x.1.step none (f.put x.1.step.dst v) h μ := fun v hi => ⟨v, hi.congr (hev v), fun d hd => hself' v d hd⟩
        by_cases ha : x.1.step.op.alc = true
        · rcases alc_is ha hk with ⟨v, hK, hi⟩ | ⟨p, blk, hK, hi⟩
          · exact ⟨v, h, none, .inl ⟨rfl, rfl⟩, hnone v (hi h), hK⟩
          · refine ⟨p.val h.next, h.push blk, some h.next, .inr ⟨blk, rfl, rfl⟩, ⟨ha, p, blk, fun h' => (hi h').congr (hev _), fun d hd => hself' _ d hd, I.tr.next, Nat.lt_succ_self _, if_pos rfl, (I.rel.fresh h.next (Nat.le_refl _)).1⟩, hK⟩
        · obtain ⟨v, b, hb, hi⟩ := nst_is hk
          have hbn := hb (by simpa using ha)
          subst hbn
          exact ⟨v, h, none, .inl ⟨rfl, rfl⟩, hnone v hi, (hi _).1 hk⟩
      cases hg : x.1.step.guard with
      | none =>
        rw [hg] at hs'
        obtain ⟨v, h', id, hh, hp, hk⟩ := go hs'
        refine next v h' id hh ?_ hk
        unfold Pend
        rw [hg, upId_self]
        exact hp
      | some tw =>
        obtain ⟨t, want⟩ := tw
        rw [hg] at hs'
        obtain ⟨h1, h2⟩ := hs'
        have htl : t ∈ x.1.looks := by rw [C.looks]; exact guard_looks C.step hg
        by_cases hbw : f t = .bool want
        · obtain ⟨v, h', id, hh, hp, hk⟩ := go (h1 hbw)
          refine next v h' id hh ?_ hk
          unfold Pend
          rw [hg, upId_self]
          exact ⟨fun _ => hp, fun hne => absurd ((hnx v t htl).trans hbw) hne⟩
        · refine next undef h none (.inl ⟨rfl, rfl⟩) ?_ (h2 hbw)
          unfold Pend
          rw [hg]
          exact ⟨fun he => absurd ((hnx undef t htl).symm.trans he) hbw, fun _ e he => hself' undef e he⟩
end
end Go.Proofs.YtemgddekbdifeaaGreat.Am

namespace Go.Proofs.YtemgddekbdifeaaGreat.Am
open Go.RowKit

theorem setL_self {listed : Array Bool} {i : Nat} (h : i < listed.size) (d : Bool) : (listed.setIfInBounds i true).getD i d = true := by
  simp [Array.getD, h]
theorem setL_off {listed : Array Bool} {i j : Nat} (hi : i < listed.size) : (listed.setIfInBounds i true).getD j false = false ↔ j ≠ i ∧ listed.getD j false = false := by
  by_cases h : i = j
  · subst h
    rw [setL_self hi]
    simp
  · rw [getD_set_ne false h]
    simp [Ne.symm h]
theorem setL_on {listed : Array Bool} {i j : Nat} (hi : i < listed.size) (h : (listed.setIfInBounds i true).getD j false = true) : j = i ∨ listed.getD j false = true := by
  by_cases hij : i = j
  · exact .inl hij.symm
  · rw [getD_set_ne false hij] at h; exact .inr h

theorem idx_lt : ∀ {l r : List Nat} {a b : Nat}, a ∈ l → b ∉ l → (l ++ b :: r).idxOf a < (l ++ b :: r).idxOf b
  | [], r, a, b, ha, hb => by cases ha
  | c :: l, r, a, b, ha, hb => by
    simp only [List.mem_cons, not_or] at hb
    simp only [List.cons_append, List.idxOf_cons]
    have hcb : (c == b) = false := by simpa using fun e => hb.1 e.symm
    rw [hcb]
    by_cases hca : c = a
    · simp [hca]
    · have h1 : (c == a) = false := by simpa using hca
      rw [h1]
      simp only [cond_false]
      have := idx_lt (r := r) ((List.mem_cons.1 ha).resolve_left (fun e => hca e.symm)) hb.2
      omega

section
variable {P : Program} {B : Nat} {w0 : World} {cl : Cl} {nt : Nat} {ops : Array Oper} {md : Region.Mode} {ord : List CN} {μ0 : Mu} {h0 : H} {wr : World} {ds : List Deferred}
variable (DF : DrawFacts P nt ops ord md)
variable {listed : Array Bool} {done rest : List CN} {idf : Nat → Option Nat} {f : Fr} {h : H} {μ : Mu} {a : Act} {w : World}

theorem ready_at {x : CN} {o : Oper} (C : CardAt P nt ops x o) (hr : x.2 ∈ Region.ready md ops listed) : listed.getD x.2 false = false ∧ x.2 < ops.size ∧ ∀ e ∈ o.after, Region.binds md e = true → listed.getD e.on false = true := by
  obtain ⟨h1, o', ho, h2⟩ := mem_ready.1 hr
  rw [C.at_] at ho
  cases ho
  refine ⟨?_, (Array.getElem?_eq_some_iff.1 C.at_).1, h2⟩
  rcases Nat.lt_or_ge x.2 listed.size with hlt | hge
  · simpa [Array.getD, hlt] using h1
  · simp [Array.getD, Nat.not_lt.2 hge] at h1

theorem Inv.closed_set (I : Inv P B w0 nt ops md ord μ0 h0 wr ds listed done rest idf f h μ a w) {x : CN} {o : Oper} (C : CardAt P nt ops x o) (hr : x.2 ∈ Region.ready md ops listed) :
    ∀ j o, ops[j]? = some o → (listed.setIfInBounds x.2 true).getD j false = true → ∀ e ∈ o.after, Region.binds md e = true → (listed.setIfInBounds x.2 true).getD e.on false = true := by
  obtain ⟨h1, h2, h3⟩ := ready_at C hr
  intro j oj hoj hl e he hb
  rcases setL_on (by rw [I.lsz]; exact h2) hl with rfl | hl
  · rw [C.at_] at hoj
    cases hoj
    exact getD_set_true (h3 e he hb)
  · exact getD_set_true (I.closed j oj hoj hl e he hb)

theorem Inv.mem_done (I : Inv P B w0 nt ops md ord μ0 h0 wr ds listed done rest idf f h μ a w) {x : CN} (h : x ∈ done) : x ∈ ord := by rw [I.split]; exact List.mem_append_left _ h
theorem Inv.mem_rest (I : Inv P B w0 nt ops md ord μ0 h0 wr ds listed done rest idf f h μ a w) {x : CN} (h : x ∈ rest) : x ∈ ord := by rw [I.split]; exact List.mem_append_right _ h
theorem Inv.weak_of_off (I : Inv P B w0 nt ops md ord μ0 h0 wr ds listed done rest idf f h μ a w) {x : CN} (h : x ∈ done) (ho : off listed x) : x.1.step.op.strict = false := by
  cases hq : x.1.step.op.strict with
  | false => rfl
  | true => have := I.str x h hq; unfold off at ho; rw [this] at ho; cases ho

include DF in
/-- The model takes an operation that the plain machine has taken already. -/
theorem Inv.pending (hP : POk P) (I : Inv P B w0 nt ops md ord μ0 h0 wr ds listed done rest idf f h μ a w) {x : CN} (hx : x ∈ done) (hoff : off listed x) (hr : x.2 ∈ Region.ready md ops listed)
    {next : Act → World → Prop} {Q : Exit → Act → World → Prop}
    (hn : ∀ μ' a' w', Inv P B w0 nt ops md ord μ0 h0 wr ds (listed.setIfInBounds x.2 true) done rest idf f h μ' a' w' → next a' w') : wpOp P ops Q x.2 next a w := by
  have hxo := I.mem_done hx
  obtain ⟨o, C⟩ := DF.card x hxo
  obtain ⟨h1, h2, h3⟩ := ready_at C hr
  have hbits := DF.bits listed I.closed x hxo o C.at_ h3
  have hst := I.weak_of_off hx hoff
  have hlz : x.2 < listed.size := by rw [I.lsz]; exact h2
  have hsd : x.1.step.dst = x.1.dst := by rw [C.step.dst, C.dst]
  -- nobody who waits too holds a slot that this one touches
  have hfree : ∀ y ∈ done, off listed y → y.2 ≠ x.2 → ∀ t, y.1.dst = some t → ¬ (x.1.dst = some t ∨ t ∈ x.1.looks) := by
    intro y hy hyo hne t ht hc
    have hyst := I.weak_of_off hy hyo
    rcases pw_both DF.pw (I.mem_done hy) hxo (fun e => hne (by rw [e])) with hp | hp
    · have := (pairOk_spec hp).2.2.2 t ht hc
      have := hbits _ this
      unfold off at hyo
      rw [this] at hyo; cases hyo
    · rcases ((pairOk_spec hp).2.2.1 t ht hc).2 with hq | hq
      · rw [hst] at hq; cases hq
      · rw [hyst] at hq; cases hq
  have hself := (cardOk_spec (DF.self x hxo)).1 hst
  have hD : ∀ t ∈ o.looksAt ops, ¬ ∃ y ∈ done, off listed y ∧ y.1.dst = some t := by
    rintro t ht ⟨y, hy, hyo, hyd⟩
    by_cases hyx : y.2 = x.2
    · -- the same operation
      have : y = x := by
        by_cases he : y = x
        · exact he
        · rcases pw_both DF.pw (I.mem_done hy) hxo he with hp | hp
          · exact absurd hyx (pairOk_spec hp).1
          · exact absurd hyx.symm (pairOk_spec hp).1
      subst this
      exact hself t hyd (by rw [C.looks]; exact ht)
    · exact hfree y hy hyo hyx t hyd (.inr (by rw [C.looks]; exact ht))
  have hsame : ∀ y ∈ done, y.2 = x.2 → y = x := by
    intro y hy hyx
    by_cases he : y = x
    · exact he
    · rcases pw_both DF.pw (I.mem_done hy) hxo he with hp | hp
      · exact absurd hyx (pairOk_spec hp).1
      · exact absurd hyx.symm (pairOk_spec hp).1
  have hw := wanted_same C.step I.fr hD
  have hpd := I.pend x hx hoff
  -- what the model's value does to the invariant
  have fin : ∀ (v' : Value) (μ' : Mu) (w' : World), Rel P B w0 μ' h w' → Tr μ0 h0 wr μ' h w' → (∀ i e, μ i = some e → μ' i = some e) → (∀ d, x.1.step.dst = some d → VR μ' (f d) v') →
      (∀ y ∈ done, y.2 ≠ x.2 → off listed y → ∀ k, idf y.2 = some k → μ' k = μ k) → next (a.put o.dst v') w' := by
    intro v' μ' w' hR hT hm hV hids
    refine hn μ' _ w' ⟨I.split, ?_, ?_, I.closed_set C hr, hR, hT, ?_, ?_, ?_, ?_, by simpa using I.lsz, by rw [Act.put_defers']; exact I.dfr⟩
    · intro j hj
      rcases setL_on hlz hj with rfl | hj
      · exact ⟨x.1, hx⟩
      · exact I.sub j hj
    · intro y hy hys
      exact getD_set_true (I.str y hy hys)
    · have hfm := I.fr.mono hm
      cases hd : o.dst with
      | none =>
        refine hfm.weaken ?_
        rintro t ⟨y, hy, hyo, hyd⟩
        refine ⟨y, hy, (setL_off hlz).2 ⟨fun e => ?_, hyo⟩, hyd⟩
        have := hsame y hy e
        subst this
        rw [C.dst, hd] at hyd
        cases hyd
      | some d =>
        refine hfm.behind (C.step.okd d hd) (hV d (by rw [C.step.dst, hd])) ?_
        rintro t ⟨y, hy, hyo, hyd⟩ hne
        refine ⟨y, hy, (setL_off hlz).2 ⟨fun e => ?_, hyo⟩, hyd⟩
        have := hsame y hy e
        subst this
        rw [C.dst, hd] at hyd
        cases hyd
        exact hne rfl
    · intro y hy hyo
      obtain ⟨hyx, hyo⟩ := (setL_off hlz).1 hyo
      exact gate_keep (I.pend y hy hyo) (fun _ _ _ => rfl) (fun _ _ => rfl) fun hpx => hpx.mu (hids y hy hyx hyo)
    · intro y hy z hz hyz hyo hzo
      exact I.ids y hy z hz hyz ((setL_off hlz).1 hyo).2 ((setL_off hlz).1 hzo).2
    · intro y hy hyo
      exact I.idlt y hy ((setL_off hlz).1 hyo).2
  have go : PX h0.next x.1.step (idf x.2) f h μ → o.wp P a w next Q := by
    intro hpx
    obtain ⟨op, hc, hop⟩ := C.step.op
    have hop' : x.1.step.op = op := by
      rcases hop with ⟨hop, _⟩ | ⟨y, _, hop⟩
      · exact hop
      · rw [hop] at hst; cases hst
    have hops := ops_VR C.step I.fr hD
    unfold Oper.wp
    cases hid : idf x.2 with
    | none =>
      rw [hid] at hpx
      obtain ⟨v, hi, hv⟩ := hpx
      have hk := hi.self
      rw [hop'] at hk hst
      have fin' : ∀ v1 v', v1 = v → VR μ v1 v' → next (a.put o.dst v') w := by
        rintro v1 v' rfl hV
        exact fin v' μ w I.rel I.tr (fun _ _ h => h) (fun d hd => by rw [hv d hd]; exact hV) (fun _ _ _ _ _ _ => rfl)
      by_cases ha : op.alc = true
      · rcases nst_alloc hc ha I.rel hops (fun v => rfl) hP hk with ⟨v1, v', hK, hV, hrun⟩ | ⟨p, cs, t, own, opn, hK, _⟩
        · rw [hrun]; exact fin' v1 v' hK.1 hV
        · cases hK.2
      · obtain ⟨v1, v', hK, hV, hrun⟩ := nst_pure hc (by simpa using ha) hst I.rel hops hk
        rw [hrun]; exact fin' v1 v' hK.1 hV
    | some id =>
      rw [hid] at hpx
      obtain ⟨ha, p, blk, hi, hv, hp1, hp2, hp3, hp4⟩ := hpx
      have hk := (hi h).self
      rw [hop'] at hk ha
      rcases nst_alloc hc ha I.rel hops (fun v => rfl) hP hk with ⟨v1, v', hK, hV, hrun⟩ | ⟨p', cs, t, own, opn, hK, v', w', e, hrun, hN, hV⟩
      · cases hK.2
      · obtain ⟨hpp, hbb⟩ := hK
        have hpe : p' = p := by
          cases p <;> cases p' <;> simp [Shp.val] at hpp <;> first
            | rfl
            | (obtain ⟨rfl, rfl⟩ := hpp; rfl)
        subst hpe
        cases hbb
        rw [hrun]
        have N := hN id hp4
        refine fin v' (μ.set id e) w' (I.rel.new hp2 hp4 hp3 N) (Tr.late (w0 := w0) I.tr hp1 hp3 hp4 N) (Mu.set_mono hp4) (fun d hd => by rw [hv d hd]; exact hV id) ?_
        intro y hy hyx hyo k hk
        unfold Mu.set
        rw [if_neg]
        rintro rfl
        exact I.ids y hy x hx hyx hyo hoff k hk hid
  unfold wpOp
  simp only [C.at_]
  unfold Pend at hpd
  cases hg : x.1.step.guard with
  | none =>
    rw [hg] at hw hpd
    rw [if_pos hw]
    exact .inl (go hpd)
  | some tw =>
    obtain ⟨t, want⟩ := tw
    rw [hg] at hw hpd
    obtain ⟨hp1, hp2⟩ := hpd
    by_cases hbw : f t = .bool want
    · rw [hw.2.1 hbw, if_pos rfl]
      exact .inl (go (hp1 hbw))
    · rw [hw.2.2 hbw, if_neg (by simp)]
      refine fin undef μ w I.rel I.tr (fun _ _ h => h) (fun d hd => ?_) (fun _ _ _ _ _ _ => rfl)
      rw [hp2 hbw d hd]
      exact undef_VR μ

include DF in
/-- The model takes an operation that writes or calls: the plain machine takes it now. -/
theorem Inv.strict (hcl : ClOK P B w0 cl) {x : CN} {r : List CN} (I : Inv P B w0 nt ops md ord μ0 h0 wr ds listed done (x :: r) idf f h μ a w) (hst : x.1.step.op.strict = true) (hr : x.2 ∈ Region.ready md ops listed)
    {K : Fr → H → Prop} (hs : steps cl ((x :: r).map (withChk ord)) f h K) {next : Act → World → Prop} {Q : Exit → Act → World → Prop}
    (hn : ∀ f' h' μ' a' w', Inv P B w0 nt ops md ord μ0 h0 wr ds (listed.setIfInBounds x.2 true) (done ++ [x]) r idf f' h' μ' a' w' → steps cl (r.map (withChk ord)) f' h' K → next a' w') : wpOp P ops Q x.2 next a w := by
  have hxo := I.mem_rest (x := x) (by simp)
  obtain ⟨o, C⟩ := DF.card x hxo
  obtain ⟨h1, h2, h3⟩ := ready_at C hr
  have hbits := DF.bits listed I.closed x hxo o C.at_ h3
  have hlz : x.2 < listed.size := by rw [I.lsz]; exact h2
  have hsd : x.1.step.dst = x.1.dst := by rw [C.step.dst, C.dst]
  have hpwd : ord.Pairwise (fun i j => pairOk i j = true) := DF.pw
  have hpw : ∀ y ∈ done, pairOk y x = true := by
    have := hpwd
    rw [I.split, List.pairwise_append] at this
    exact fun y hy => this.2.2 y hy x (by simp)
  have hfree : ∀ y ∈ done, off listed y → ∀ t, y.1.dst = some t → ¬ (x.1.dst = some t ∨ t ∈ x.1.looks) := by
    intro y hy hyo t ht hc
    have := hbits _ ((pairOk_spec (hpw y hy)).2.2.2 t ht hc)
    unfold off at hyo
    rw [this] at hyo; cases hyo
  have hfree' : ∀ y ∈ done, off listed y → ∀ t, x.1.dst = some t → ¬ (y.1.dst = some t ∨ t ∈ y.1.looks) := by
    intro y hy hyo t ht hc
    have := hbits _ ((pairOk_spec (hpw y hy)).2.2.1 t ht hc).1
    unfold off at hyo
    rw [this] at hyo; cases hyo
  have hD : ∀ t ∈ o.looksAt ops, ¬ ∃ y ∈ done, off listed y ∧ y.1.dst = some t := by
    rintro t ht ⟨y, hy, hyo, hyd⟩
    exact hfree y hy hyo t hyd (.inr (by rw [C.looks]; exact ht))
  have hw := wanted_same C.step I.fr hD
  have hwop : (withChk ord x).op = x.1.step.op ∧ (withChk ord x).dst = x.1.step.dst ∧ (withChk ord x).guard = x.1.step.guard := by
    unfold withChk; split <;> exact ⟨rfl, rfl, rfl⟩
  have hs' := steps_cons (by simpa using hs : steps cl (withChk ord x :: r.map (withChk ord)) f h K)
  rw [hwop.2.2] at hs'
  have fin : ∀ (v : Value) (h' : H) (v' : Value) (μ' : Mu) (w' : World), steps cl (r.map (withChk ord)) (f.put o.dst v) h' K → Rel P B w0 μ' h' w' → VR μ' v v' → Tr μ h w μ' h' w' →
      (∀ y ∈ done, off listed y → PX h0.next y.1.step (idf y.2) f h μ → PX h0.next y.1.step (idf y.2) f h' μ') → next (a.put o.dst v') w' := by
    intro v h' v' μ' w' hk hR hV hT hpx
    have hm : ∀ i e, μ i = some e → μ' i = some e := by
      intro i e he
      have hi : i < h.next := by
        rcases Nat.lt_or_ge i h.next with h1 | h1
        · exact h1
        · rw [(I.rel.fresh i h1).1] at he; cases he
      rw [hT.mu i hi]; exact he
    refine hn _ h' μ' _ w' ⟨by rw [I.split]; simp, ?_, ?_, I.closed_set C hr, hR, I.tr.trans hT, ?_, ?_, ?_, ?_, by simpa using I.lsz, by rw [Act.put_defers']; exact I.dfr⟩ hk
    · intro j hj
      rcases setL_on hlz hj with rfl | hj
      · exact ⟨x.1, by simp⟩
      · obtain ⟨c, hc⟩ := I.sub j hj
        exact ⟨c, by simp [hc]⟩
    · intro y hy hys
      simp only [List.mem_append, List.mem_singleton] at hy
      rcases hy with hy | rfl
      · exact getD_set_true (I.str y hy hys)
      · exact setL_self hlz _
    · refine (I.fr.mono hm).putA C.step.okd hV ?_
      rintro t ⟨y, hy, hyo, hyd⟩ hne
      exact ⟨y, by simp [hy], (setL_off hlz).2 ⟨(pairOk_spec (hpw y hy)).1, hyo⟩, hyd⟩
    · intro y hy hyo
      obtain ⟨hyx, hyo⟩ := (setL_off hlz).1 hyo
      simp only [List.mem_append, List.mem_singleton] at hy
      rcases hy with hy | rfl
      · obtain ⟨oy, Cy⟩ := DF.card y (I.mem_done hy)
        have hyd : y.1.step.dst = y.1.dst := by rw [Cy.step.dst, Cy.dst]
        have hfr : ∀ t, (y.1.dst = some t ∨ t ∈ y.1.looks) → (f.put o.dst v) t = f t := by
          intro t ht
          cases hd : o.dst with
          | none => rfl
          | some d =>
            simp only [Fr.put]
            rw [if_neg]
            rintro rfl
            exact hfree' y hy hyo t (by rw [C.dst, hd]) ht
        refine gate_keep (I.pend y hy hyo) ?_ ?_ fun hp => ?_
        · intro t want hg
          exact hfr t (.inr (by rw [Cy.looks]; exact guard_looks Cy.step hg))
        · intro e he
          exact hfr e (.inl (by rw [← hyd]; exact he))
        · exact (hpx y hy hyo hp).frame Cy.step.opds (fun t ht => hfr t (.inr (by rw [Cy.looks]; exact ht))) (fun d hd => hfr d (.inl (by rw [← hyd]; exact hd)))
      · exact absurd rfl hyx
    · intro y hy z hz hyz hyo hzo
      obtain ⟨hyx, hyo⟩ := (setL_off hlz).1 hyo
      obtain ⟨hzx, hzo⟩ := (setL_off hlz).1 hzo
      simp only [List.mem_append, List.mem_singleton] at hy hz
      rcases hy with hy | rfl
      · rcases hz with hz | rfl
        · exact I.ids y hy z hz hyz hyo hzo
        · exact absurd rfl hzx
      · exact absurd rfl hyx
    · intro y hy hyo k hk
      obtain ⟨hyx, hyo⟩ := (setL_off hlz).1 hyo
      simp only [List.mem_append, List.mem_singleton] at hy
      rcases hy with hy | rfl
      · exact Nat.lt_of_lt_of_le (I.idlt y hy hyo k hk) hT.next
      · exact absurd rfl hyx
  have go : stepW cl (withChk ord x) f h (fun f' h' => steps cl (r.map (withChk ord)) f' h' K) → o.wp P a w next Q := by
    intro hk
    refine strict_step hcl C.step I.fr hD I.rel hst ⟨hwop.1, hwop.2.1⟩ hk ?_
    intro v h' v' μ' w' hchk hK hR hV hT hmv
    refine fin v h' v' μ' w' hK hR hV hT fun y hy hyo hp => ?_
    by_cases hm : isMvS x.1.step.op = true
    · obtain ⟨rfl, rfl⟩ := hmv hm
      exact hp
    · have hyst := I.weak_of_off hy hyo
      refine hp.over hT.next hT.mu (fun ha => ?_) (fun hrd => ?_) AOp.reads_of_alc
      · obtain ⟨oy, Cy⟩ := DF.card y (I.mem_done hy)
        rw [Cy.step.dst, ← Cy.dst]
        exact (cardOk_spec (DF.self y (I.mem_done hy))).2 ha
      · refine hchk _ ?_
        unfold withChk
        rw [hst]
        simp only [hm, Bool.not_false, Bool.and_self, if_true, Bool.true_and]
        refine List.mem_map.2 ⟨y, List.mem_filter.2 ⟨I.mem_done hy, ?_⟩, rfl⟩
        simp only [Bool.and_eq_true, decide_eq_true_eq]
        refine ⟨?_, ?_⟩
        · unfold needChk
          simp only [hst, hm, hyst, hrd, Bool.not_false, Bool.and_self, Bool.true_and, Bool.not_eq_true']
          cases hb : x.1.bits.testBit y.2 with
          | false => rfl
          | true => have := hbits _ hb; unfold off at hyo; rw [this] at hyo; cases hyo
        · rw [I.split, List.map_append, List.map_cons]
          refine idx_lt (List.mem_map_of_mem hy) fun hm => ?_
          obtain ⟨z, hz, hzx⟩ := List.mem_map.1 hm
          exact (pairOk_spec (hpw z hz)).1 hzx
  unfold wpOp
  simp only [C.at_]
  cases hg : x.1.step.guard with
  | none =>
    rw [hg] at hw hs'
    rw [if_pos hw]
    exact .inl (go hs')
  | some tw =>
    obtain ⟨t, want⟩ := tw
    rw [hg] at hw hs'
    obtain ⟨hp1, hp2⟩ := hs'
    by_cases hbw : f t = .bool want
    · rw [hw.2.1 hbw, if_pos rfl]
      exact .inl (go (hp1 hbw))
    · rw [hw.2.2 hbw, if_neg (by simp)]
      have hk := hp2 hbw
      rw [hwop.2.1, C.step.dst] at hk
      exact fin undef h undef μ w hk I.rel (undef_VR μ) (Tr.refl μ h w fun i hi => (I.rel.fresh i hi).1) (fun _ _ _ hp => hp)
end
end Go.Proofs.YtemgddekbdifeaaGreat.Am

namespace Go.Proofs.YtemgddekbdifeaaGreat.Am
open Go.RowKit

theorem countP_lt {α : Type} {p q : α → Bool} : ∀ {l : List α} {x : α}, x ∈ l → p x = true → q x = false → (∀ y, q y = true → p y = true) → l.countP q < l.countP p
  | [], x, h, _, _, _ => by cases h
  | y :: l, x, h, hp, hq, hh => by
    have hle : l.countP q ≤ l.countP p := List.countP_mono_left fun z _ hz => hh z hz
    simp only [List.countP_cons]
    by_cases hxy : x = y
    · subst hxy
      simp only [hp, hq, if_true, Bool.false_eq_true, if_false]
      omega
    · have := countP_lt ((List.mem_cons.1 h).resolve_left hxy) hp hq hh
      by_cases hy : q y = true
      · simp only [hy, hh y hy, if_true]; omega
      · simp only [hy, Bool.false_eq_true, if_false]; split <;> omega

def unl (ops : Array Oper) (listed : Array Bool) : Nat := (List.range ops.size).countP fun j => !listed.getD j false

section
variable {P : Program} {B : Nat} {w0 : World} {cl : Cl} {nt : Nat} {ops : Array Oper} {md : Region.Mode} {ord : List CN} {μ0 : Mu} {h0 : H} {wr : World} {ds : List Deferred}
variable (DF : DrawFacts P nt ops ord md)

include DF in
theorem draw_any (hP : POk P) (hcl : ClOK P B w0 cl) {K : Out → Fr → H → Prop} {Q : Exit → Act → World → Prop} (q : QOK P B w0 nt μ0 h0 wr ds K Q) :
    ∀ (fuel : Nat) (listed : Array Bool) (done rest : List CN) (idf : Nat → Option Nat) (f : Fr) (h : H) (μ : Mu) (a : Act) (w : World), unl ops listed ≤ fuel →
      Inv P B w0 nt ops md ord μ0 h0 wr ds listed done rest idf f h μ a w → (∀ s r, rest = s :: r → s.1.step.op.strict = true) → steps cl (rest.map (withChk ord)) f h (K .normal) →
      wpAny P md ops Q fuel listed a w := by
  have fin : ∀ (listed : Array Bool) (done rest : List CN) (idf : Nat → Option Nat) (f : Fr) (h : H) (μ : Mu) (a : Act) (w : World), (∀ j, j < ops.size → listed.getD j false = true) →
      Inv P B w0 nt ops md ord μ0 h0 wr ds listed done rest idf f h μ a w → steps cl (rest.map (withChk ord)) f h (K .normal) → Q .normal a w := by
    intro listed done rest idf f h μ a w hall I hs
    have hidx : ∀ x ∈ ord, x.2 < ops.size := fun x hx => by
      obtain ⟨o, C⟩ := DF.card x hx
      exact (Array.getElem?_eq_some_iff.1 C.at_).1
    cases rest with
    | cons x r =>
      have := I.later DF (x := x) (by simp)
      unfold off at this
      rw [hall _ (hidx x (I.mem_rest (by simp)))] at this
      cases this
    | nil =>
      refine q .normal f h μ a w hs I.rel I.tr (I.fr.weaken ?_) I.dfr
      rintro t ⟨y, hy, hyo, _⟩
      unfold off at hyo
      rw [hall _ (hidx y (I.mem_done hy))] at hyo
      cases hyo
  intro fuel
  induction fuel with
  | zero =>
    intro listed done rest idf f h μ a w hu I hhd hs
    have hall : ∀ j, j < ops.size → listed.getD j false = true := by
      intro j hj
      have hz : unl ops listed = 0 := Nat.le_zero.1 hu
      have := List.countP_eq_zero.1 hz j (List.mem_range.2 hj)
      simpa using this
    refine ⟨?_, fin listed done rest idf f h μ a w hall I hs⟩
    cases hr : Region.ready md ops listed with
    | nil => rfl
    | cons j l =>
      have hj : j ∈ Region.ready md ops listed := by rw [hr]; simp
      obtain ⟨h1, o, ho, _⟩ := mem_ready.1 hj
      have hlt : j < ops.size := (Array.getElem?_eq_some_iff.1 ho).1
      have h2 := hall j hlt
      have hlz : j < listed.size := by rw [I.lsz]; exact hlt
      simp [Array.getD, hlz] at h1 h2
      rw [h1] at h2; cases h2
  | succ fuel ih =>
    intro listed done rest idf f h μ a w hu I hhd hs
    refine ⟨fun hr => ?_, fun i hi => ?_⟩
    · refine fin listed done rest idf f h μ a w (fun j hj => ?_) I hs
      cases hl : listed.getD j false with
      | true => rfl
      | false => exact absurd hr (DF.acy listed ⟨j, hj, hl⟩ I.lsz)
    · obtain ⟨h1, o, ho, h2⟩ := mem_ready.1 hi
      have hlt : i < ops.size := (Array.getElem?_eq_some_iff.1 ho).1
      have hlz : i < listed.size := by rw [I.lsz]; exact hlt
      have hoff : listed.getD i false = false := by simpa [Array.getD, hlz] using h1
      have hu' : unl ops (listed.setIfInBounds i true) ≤ fuel := by
        have : unl ops (listed.setIfInBounds i true) < unl ops listed := by
          refine countP_lt (x := i) (List.mem_range.2 hlt) (by simpa using hoff) (by rw [setL_self hlz]; rfl) fun y hy => ?_
          have hy' : (listed.setIfInBounds i true).getD y false = false := by simpa using hy
          have := ((setL_off hlz).1 hy').2
          rw [this]; rfl
        omega
      obtain ⟨c, hc⟩ := DF.all i hlt
      have hc' := hc
      rw [I.split, List.mem_append] at hc'
      obtain ⟨oc, C⟩ := DF.card _ hc
      obtain ⟨_, _, hpre⟩ := ready_at C hi
      have hbits := DF.bits listed I.closed _ hc _ C.at_ hpre
      rcases hc' with hd | hrest
      · exact I.pending DF hP hd hoff hi fun μ' a' w' I' => ih _ _ _ _ _ _ _ _ _ hu' I' hhd hs
      · -- it must stand at the head, and be strict
        cases rest with
        | nil => cases hrest
        | cons s r =>
          have hss := hhd s r rfl
          have hsi : s = (c, i) := by
            by_cases he : s = (c, i)
            · exact he
            · have hp : pairOk s (c, i) = true := by
                have := DF.pw
                rw [I.split, List.pairwise_append, List.pairwise_cons] at this
                exact this.2.1.1 _ ((List.mem_cons.1 hrest).resolve_left fun e => he e.symm)
              have := hbits _ ((pairOk_spec hp).2.1 hss)
              have hl := I.later DF (x := s) (by simp)
              unfold off at hl
              rw [this] at hl
              cases hl
          subst hsi
          refine I.strict DF hcl hss hi hs fun f' h' μ' a' w' I' hs' => ?_
          obtain ⟨done', rest', idf', f'', h'', I'', hhd', hs''⟩ := advance DF r.length (Nat.le_refl _) I' hs'
          exact ih _ _ _ _ _ _ _ _ _ hu' I'' hhd' hs''

include DF in
theorem draw_sound (hP : POk P) (hcl : ClOK P B w0 cl) {K : Out → Fr → H → Prop} {Q : Exit → Act → World → Prop}
    {f : Fr} {h : H} {μ : Mu} {a : Act} {w : World} (hs : steps cl (ord.map (withChk ord)) f h (K .normal)) (R : Rel P B w0 μ h w) (F : FR nt noD μ f a.tmps) (q : QOK P B w0 nt μ h w a.defers K Q) :
    wpAny P md ops Q ops.size (Array.replicate ops.size false) a w := by
  have hoff : ∀ j, (Array.replicate ops.size false).getD j false = false := by
    intro j
    simp only [Array.getD]
    split <;> simp
  have I : Inv P B w0 nt ops md ord μ h w a.defers (Array.replicate ops.size false) [] ord (fun _ => none) f h μ a w := by
    refine ⟨rfl, ?_, by simp, ?_, R, Tr.refl μ h w fun i hi => (R.fresh i hi).1, F.weaken (fun _ hf => hf.elim), by simp, by simp, by simp, by simp, rfl⟩
    · intro j hj; rw [hoff] at hj; cases hj
    · intro j o _ hj; rw [hoff] at hj; cases hj
  obtain ⟨done', rest', idf', f', h', I', hhd, hs'⟩ := advance DF ord.length (Nat.le_refl _) I hs
  refine draw_any DF hP hcl q ops.size _ _ _ _ _ _ _ _ _ ?_ I' hhd hs'
  unfold unl
  exact Nat.le_trans List.countP_le_length (by simp)
end

/-! ### What the checks say -/

theorem pairOf_pw {α : Type} {R : α → α → Bool} : ∀ {l : List α}, pairOf R l = true → l.Pairwise (fun a b => R a b = true)
  | [], _ => .nil
  | x :: l, h => by
    simp only [pairOf, Bool.and_eq_true, List.all_eq_true] at h
    exact .cons h.1 (pairOf_pw h.2)

theorem drawOrd_mem {l : List CN} {x : CN} (h : x ∈ drawOrd l) : x ∈ l := by
  unfold drawOrd at h
  simp only [List.mem_flatMap, List.mem_append, List.mem_map, List.mem_filter, Option.mem_toList] at h
  obtain ⟨p, _, h | h⟩ := h
  · obtain ⟨y, ⟨⟨z, ⟨hz, _⟩, rfl⟩, _⟩, rfl⟩ := h
    exact hz
  · exact (List.mem_filter.1 (List.mem_of_getElem? h)).1

theorem acyc_spec {md : Region.Mode} {ops : Array Oper} (h : acyc md ops = true) (listed : Array Bool) (hu : ∃ j, j < ops.size ∧ listed.getD j false = false) (hl : listed.size = ops.size) : Region.ready md ops listed ≠ [] := by
  unfold acyc at h
  simp only [Bool.and_eq_true, List.all_eq_true] at h
  obtain ⟨_, h2⟩ := h
  -- an unlisted one that stands first
  have first : ∀ (n j : Nat), j < ops.size → listed.getD j false = false → (Region.linearise md ops 0).idxOf j ≤ n → ∃ j, j < ops.size ∧ listed.getD j false = false ∧ ∀ i, i < ops.size → listed.getD i false = false → (Region.linearise md ops 0).idxOf j ≤ (Region.linearise md ops 0).idxOf i := by
    intro n
    induction n with
    | zero => intro j hj hlj hn; exact ⟨j, hj, hlj, fun i _ _ => by omega⟩
    | succ n ih =>
      intro j hj hlj hn
      by_cases hex : ∃ i, i < ops.size ∧ listed.getD i false = false ∧ (Region.linearise md ops 0).idxOf i < (Region.linearise md ops 0).idxOf j
      · obtain ⟨i, hi, hli, hlt⟩ := hex
        exact ih i hi hli (by omega)
      · refine ⟨j, hj, hlj, fun i hi hli => ?_⟩
        rcases Nat.lt_or_ge ((Region.linearise md ops 0).idxOf i) ((Region.linearise md ops 0).idxOf j) with hc | hc
        · exact absurd ⟨i, hi, hli, hc⟩ hex
        · exact hc
  obtain ⟨j0, hj0, hlj0⟩ := hu
  obtain ⟨j, hj, hlj, hmin⟩ := first _ j0 hj0 hlj0 (Nat.le_refl _)
  intro hnil
  have : j ∈ Region.ready md ops listed := by
    have hoj : ops[j]? = some ops[j] := Array.getElem?_eq_getElem hj
    refine mem_ready.2 ⟨by simpa [Array.getD, hl, hj] using hlj, ops[j], hoj, fun e he hb => ?_⟩
    have := h2 (ops[j], j) (by rw [List.mem_zipIdx_iff_getElem?]; simp [hj])
    simp only [Array.all_eq_true_iff_forall_mem] at this
    have h3 := this e he
    simp only [hb, Bool.not_true, Bool.false_or, Bool.and_eq_true, decide_eq_true_eq] at h3
    cases hle : listed.getD e.on false with
    | true => rfl
    | false => have := hmin e.on h3.1 hle; omega
  rw [hnil] at this
  cases this

theorem bitsOk_spec {md : Region.Mode} {ops : List Oper} {b : List Nat} (h : bitsOk ops b = true) (listed : Array Bool)
    (hc : ∀ j o, ops[j]? = some o → listed.getD j false = true → ∀ e ∈ o.after, Region.binds md e = true → listed.getD e.on false = true) :
    ∀ (i : Nat) (o : Oper) (x : Nat), ops[i]? = some o → b[i]? = some x → (∀ e ∈ o.after, Region.binds md e = true → listed.getD e.on false = true) → ∀ j, x.testBit j = true → listed.getD j false = true := by
  intro i
  induction i using Nat.strongRecOn with
  | _ i ih =>
    intro o x ho hx hpre j ht
    unfold bitsOk at h
    simp only [List.all_eq_true] at h
    have h1 := h ((o, x), i) (by rw [List.mem_zipIdx_iff_getElem?]; simp [List.getElem?_zip_eq_some, ho, hx])
    simp only [Bool.and_eq_true, decide_eq_true_eq, List.all_eq_true] at h1
    have hj : j < b.length := by
      rcases Nat.lt_or_ge j b.length with hlt | hge
      · exact hlt
      · have := Nat.testBit_lt_two_pow (Nat.lt_of_lt_of_le h1.1 (Nat.pow_le_pow_right (by omega) hge))
        rw [this] at ht; cases ht
    have h2 := h1.2 j (List.mem_range.2 hj)
    simp only [ht, Bool.not_true, Bool.false_or, Array.any_eq_true'] at h2
    obtain ⟨e, he, h3⟩ := h2
    simp only [Bool.and_eq_true, decide_eq_true_eq, Bool.or_eq_true, beq_iff_eq] at h3
    obtain ⟨⟨hb, hlt⟩, h4⟩ := h3
    have hbm : Region.binds md e = true := by
      unfold Region.binds at hb ⊢
      cases hg : e.ground <;> simp only [hg] at hb ⊢ <;> cases hb
    have hle := hpre e he hbm
    rcases h4 with rfl | h4
    · exact hle
    · rw [List.getD_eq_getElem?_getD] at h4
      cases hbe : b[e.on]? with
      | none => rw [hbe] at h4; simp at h4
      | some y =>
        rw [hbe] at h4
        have hoe : ∃ oe, ops[e.on]? = some oe := by
          have := (List.getElem?_eq_some_iff.1 ho).1
          exact ⟨_, List.getElem?_eq_getElem (by omega)⟩
        obtain ⟨oe, hoe⟩ := hoe
        exact ih e.on hlt oe y hoe hbe (hc e.on oe hoe hle) j h4

theorem drawFacts {P : Program} {nt : Nat} {ops : Array Oper} {r : List AStep} (h : compDraw P nt ops = some r) :
    ∃ ord : List CN, r = ord.map (withChk ord) ∧ DrawFacts P nt ops ord .any ∧ (Region.departs ops = true → DrawFacts P nt ops ord .text ∧ DrawFacts P nt ops ord .gc) := by
  unfold compDraw at h
  split at h
  · cases h
  · rename_i cs hcs
    simp only at h
    split at h
    · rename_i hck
      simp only [Option.some.injEq] at h
      simp only [Bool.and_eq_true] at hck
      obtain ⟨⟨⟨⟨⟨⟨h1, h2⟩, h3⟩, h4⟩, h5⟩, h6⟩, h7⟩ := hck
      have key : ∀ md, acyc md ops = true → DrawFacts P nt ops (drawOrd cs.zipIdx) md := by
        intro md hmd
        refine ⟨fun x hx => cardAt hcs (drawOrd_mem hx), pairOf_pw h1, fun x hx => List.all_eq_true.1 h2 x hx, ?_, ?_, fun listed hu hl => acyc_spec hmd listed hu hl⟩
        · intro j hj
          have := List.all_eq_true.1 h3 j (List.mem_range.2 hj)
          simp only [List.contains_iff_mem, List.mem_map] at this
          obtain ⟨⟨c, j'⟩, hc, rfl⟩ := this
          exact ⟨c, hc⟩
        · intro listed hc x hx o ho hpre j hj
          obtain ⟨o', C⟩ := cardAt hcs (drawOrd_mem hx)
          have hoe : o' = o := by
            have := C.at_
            rw [ho] at this
            exact (Option.some.inj this).symm
          subst hoe
          exact bitsOk_spec h5 listed (fun j o hjo => hc j o (by simpa using hjo)) x.2 o' _ (by simpa using C.at_) C.bits hpre j hj
      refine ⟨_, h.symm, key _ h6, fun hd => ?_⟩
      rw [hd] at h7
      simp only [Bool.not_true, Bool.false_or, Bool.and_eq_true] at h7
      exact ⟨key _ h7.1, key _ h7.2⟩
    · cases h

section
variable {P : Program} {B : Nat} {w0 : World} {cl : Cl} {nt : Nat} {ops : Array Oper} {md : Region.Mode}
theorem region_draw_sound (hP : POk P) (hcl : ClOK P B w0 cl) {K : Out → Fr → H → Prop} {Q : Exit → Act → World → Prop} {r : List AStep} {id : Nat} (hm : compDraw P nt ops = some r)
    {f : Fr} {h : H} {μ : Mu} {a : Act} {w : World} (hs : steps cl r f h (K .normal)) (R : Rel P B w0 μ h w) (F : FR nt noD μ f a.tmps) (q : QOK P B w0 nt μ h w a.defers K Q) :
    (Code.region id ops true).wp P Q a w := by
  obtain ⟨ord, rfl, D1, D2⟩ := drawFacts hm
  refine wp_region_draw fun t => ?_
  have R' : Rel P B w0 μ h { w with drawn := w.drawn + 1 } := R.drawn _
  have q' : QOK P B w0 nt μ h { w with drawn := w.drawn + 1 } a.defers K Q := fun o f' h' μ' a' w' hK hR hT hF hd => q o f' h' μ' a' w' hK hR ⟨hT.mu, hT.next, hT.live, hT.keep, hT.new, hT.size⟩ hF hd
  unfold Region.schedule
  split
  · exact wpAny_sound _ _ _ _ _ (draw_sound D1 hP hcl hs R' F q')
  · rename_i hd
    have hdep : Region.departs ops = true := by
      cases hq : Region.departs ops with
      | true => rfl
      | false => rw [hq] at hd; simp at hd
    obtain ⟨D3, D4⟩ := D2 hdep
    split
    · exact wpAny_sound _ _ _ _ _ (draw_sound D3 hP hcl hs R' F q')
    · exact wpAny_sound _ _ _ _ _ (draw_sound D4 hP hcl hs R' F q')
end
end Go.Proofs.YtemgddekbdifeaaGreat.Am

namespace Go.Proofs.YtemgddekbdifeaaGreat.Am
open Go.RowKit

section
variable {P : Program} {B : Nat} {w0 : World} {cl : Cl} {nt : Nat}

theorem comp_cond {c : Operand} {t e : Code} {A : ACode} (h : comp P nt (.cond c t e) = some A) : okO c = true ∧ ∃ t' e', comp P nt t = some t' ∧ comp P nt e = some e' ∧ A = .cond c t' e' := by
  simp only [comp] at h
  split at h
  · rename_i hc
    split at h
    · rename_i t' e' ht he
      exact ⟨hc, t', e', ht, he, (Option.some.inj h).symm⟩
    · cases h
  · cases h

theorem wp_sound (hP : POk P) (hcl : ClOK P B w0 cl) : ∀ (c : Code) (A : ACode), comp P nt c = some A → ∀ (f : Fr) (h : H) (μ : Mu) (a : Act) (w : World) (K : Out → Fr → H → Prop) (Q : Exit → Act → World → Prop),
    wp cl A f h K → Rel P B w0 μ h w → FR nt noD μ f a.tmps → QOK P B w0 nt μ h w a.defers K Q → c.wp P Q a w
  | .skip, A, hc, f, h, μ, a, w, K, Q, hw, R, F, q => by
    simp only [comp, Option.some.injEq] at hc; subst hc
    exact wp_skip (q .normal f h μ a w hw R (Tr.refl μ h w fun i hi => (R.fresh i hi).1) F rfl)
  | .label l, A, hc, f, h, μ, a, w, K, Q, hw, R, F, q => by
    simp only [comp, Option.some.injEq] at hc; subst hc
    exact wp_label (q .normal f h μ a w hw R (Tr.refl μ h w fun i hi => (R.fresh i hi).1) F rfl)
  | .exit id, A, hc, f, h, μ, a, w, K, Q, hw, R, F, q => by
    simp only [comp, Option.some.injEq] at hc; subst hc
    exact wp_exit (q (.exit id) f h μ a w hw R (Tr.refl μ h w fun i hi => (R.fresh i hi).1) F rfl)
  | .ret, A, hc, f, h, μ, a, w, K, Q, hw, R, F, q => by
    simp only [comp, Option.some.injEq] at hc; subst hc
    exact wp_ret (q .ret f h μ a w hw R (Tr.refl μ h w fun i hi => (R.fresh i hi).1) F rfl)
  | .scope c, A, hc, f, h, μ, a, w, K, Q, hw, R, F, q => by
    simp only [comp] at hc
    refine wp_scope_straight (wp_sound hP hcl c A hc f h μ a w K _ hw R F ?_)
    intro o f' h' μ' a' w' hK hR hT hF hd
    have := q o f' h' μ' a' w' hK hR hT hF hd
    cases o <;> exact this
  | .region id ops draw, A, hc, f, h, μ, a, w, K, Q, hw, R, F, q => by
    simp only [comp] at hc
    obtain ⟨r, hr, rfl⟩ := Option.map_eq_some_iff.1 hc
    unfold compRegion at hr
    cases draw with
    | true => exact region_draw_sound hP hcl (by simpa using hr) hw R F q
    | false => exact region_sound hP hcl (by simpa using hr) hw R F q
  | .seq x y, A, hc, f, h, μ, a, w, K, Q, hw, R, F, q => by
    simp only [comp] at hc
    split at hc
    · rename_i x' y' hx hy
      simp only [Option.some.injEq] at hc; subst hc
      refine wp_seq (wp_sound hP hcl x x' hx f h μ a w _ _ hw R F ?_)
      intro o f' h' μ' a' w' hK hR hT hF hd
      cases o with
      | normal => exact wp_sound hP hcl y y' hy f' h' μ' a' w' K Q hK hR hF (by rw [hd]; exact q.trans hT)
      | exit i => exact q (.exit i) f' h' μ' a' w' hK hR hT hF hd
      | ret => exact q .ret f' h' μ' a' w' hK hR hT hF hd
    · cases hc
  | .cond x t e, A, hc, f, h, μ, a, w, K, Q, hw, R, F, q => by
    obtain ⟨hx, t', e', ht, he, rfl⟩ := comp_cond hc
    simp only [wp] at hw
    split at hw
    · rename_i b hb
      have hv := ev_VR F hx (fun _ _ hf => hf)
      rw [hb] at hv
      have hb' : a.eval x = .bool b := by
        generalize a.eval x = v' at hv
        cases hv; rfl
      cases b with
      | true => exact wp_cond hb' (wp_sound hP hcl t t' ht f h μ a w K Q hw R F q)
      | false => exact wp_cond hb' (wp_sound hP hcl e e' he f h μ a w K Q hw R F q)
    · exact hw.elim
  | .block id c, A, hc, f, h, μ, a, w, K, Q, hw, R, F, q => by
    simp only [comp] at hc
    obtain ⟨c', hc', rfl⟩ := Option.map_eq_some_iff.1 hc
    refine wp_block (wp_sound hP hcl c c' hc' f h μ a w _ _ hw R F ?_)
    intro o f' h' μ' a' w' hK hR hT hF hd
    cases o with
    | normal => exact q .normal f' h' μ' a' w' hK hR hT hF hd
    | exit i =>
      simp only [exitOf, Exit.inBlock]
      simp only at hK
      split at hK
      · rename_i hi
        rw [if_pos hi]
        exact q .normal f' h' μ' a' w' hK hR hT hF hd
      · rename_i hi
        rw [if_neg hi]
        exact q (.exit i) f' h' μ' a' w' hK hR hT hF hd
    | ret => exact q .ret f' h' μ' a' w' hK hR hT hF hd
  | .loop c, A, hc, f, h, μ, a, w, K, Q, hw, R, F, q => by
    simp only [comp] at hc
    obtain ⟨c', hc', rfl⟩ := Option.map_eq_some_iff.1 hc
    obtain ⟨m, hm⟩ := hw
    refine wp_loop_rounds m ?_
    have key : ∀ (m : Nat) (f : Fr) (h : H) (μ : Mu) (a : Act) (w : World), loopN (wp cl c') K m f h → Rel P B w0 μ h w → FR nt noD μ f a.tmps → QOK P B w0 nt μ h w a.defers K Q → Code.rounds P c Q m a w := by
      intro m
      induction m with
      | zero => intro f h μ a w hm; exact hm.elim
      | succ m ih =>
        intro f h μ a w hm R F q
        rw [rounds_succ]
        refine wp_sound hP hcl c c' hc' f h μ a w _ _ hm R F ?_
        intro o f' h' μ' a' w' hK hR hT hF hd
        cases o with
        | normal => exact ih f' h' μ' a' w' hK hR hF (by rw [hd]; exact q.trans hT)
        | exit i => exact q (.exit i) f' h' μ' a' w' hK hR hT hF hd
        | ret => exact q .ret f' h' μ' a' w' hK hR hT hF hd
    exact key m f h μ a w hm R F q
  | .goto _, A, hc, f, h, μ, a, w, K, Q, hw, R, F, q => by simp [comp] at hc
  | .refuse _, A, hc, f, h, μ, a, w, K, Q, hw, R, F, q => by simp [comp] at hc
  | .rangeFunc .., A, hc, f, h, μ, a, w, K, Q, hw, R, F, q => by simp [comp] at hc

def resM (tmps : Array Value) : ResultVar → Sem Value
  | .tmp t => pure (tmps.getD t undef)
  | .cell a t => do loadVar t (← asAddr (tmps.getD a undef))
theorem res_run {μ : Mu} {h : H} {w : World} {f : Fr} {tmps : Array Value} (R : Rel P B w0 μ h w) (F : FR nt noD μ f tmps) :
    ∀ (l : List ResultVar) (r : List RV) (vs : List Value), l.mapM (compRes P) = some r → resAll f h r = some vs →
    ∃ vs', VRL μ vs vs' ∧ (l.mapM (m := Sem) (resM tmps)).run P w = .ok vs' w
  | [], r, vs, hm, hr => by
    simp at hm; subst hm
    simp only [resAll, Option.some.injEq] at hr; subst hr
    exact ⟨[], .nil, by simp⟩
  | x :: l, r, vs, hm, hr => by
    rw [List.mapM_cons] at hm
    cases hx : compRes P x with
    | none => rw [hx] at hm; cases hm
    | some y =>
      cases hl : l.mapM (compRes P) with
      | none => rw [hx, hl] at hm; cases hm
      | some r' =>
        rw [hx, hl] at hm
        cases hm
        simp only [resAll] at hr
        obtain ⟨v, hv, hr2⟩ := Option.bind_eq_some_iff.1 hr
        obtain ⟨vs2, hr3, rfl⟩ := Option.map_eq_some_iff.1 hr2
        obtain ⟨vs', hvr, hrun⟩ := res_run R F l r' vs2 hl hr3
        have one : ∃ v', VR μ v v' ∧ (resM tmps x).run P w = .ok v' w := by
          cases x with
          | tmp t =>
            simp only [compRes, Option.some.injEq] at hx; subst hx
            simp only [resOne, Option.some.injEq] at hv; subst hv
            exact ⟨_, F.val t (fun hf => hf), by simp [resM]⟩
          | cell a t =>
            simp only [compRes] at hx
            split at hx
            · rename_i n hag hsz
              simp only [Option.some.injEq] at hx; subst hx
              simp only [resOne] at hv
              split at hv
              · rename_i i o hfa
                obtain ⟨cs, hcs, rfl⟩ := Option.map_eq_some_iff.1 hv
                have hp := F.val a (fun hf => hf)
                rw [hfa] at hp
                cases hp' : tmps.getD a undef <;> rw [hp'] at hp <;> cases hp
                obtain ⟨vs', hvr, h1, hlen, hrun⟩ := R.loadCells (P := P) (by assumption) hcs
                exact ⟨.agg vs'.toArray, .agg (by simpa using hvr) (by simpa using h1), by simp only [resM]; rw [hp']; simp [asAddr, loadVar, r_agg hag, r_sz hsz, hrun]⟩
              · cases hv
            · rename_i m hag
              simp only [Option.some.injEq] at hx; subst hx
              simp only [resOne] at hv
              split at hv
              · rename_i i o hfa
                have hp := F.val a (fun hf => hf)
                rw [hfa] at hp
                cases hp' : tmps.getD a undef <;> rw [hp'] at hp <;> cases hp
                obtain ⟨v', hw, hvr, h1⟩ := R.cell (by assumption) hv
                exact ⟨v', hvr, by simp only [resM]; rw [hp']; simp [asAddr, loadVar, r_agg hag, hw]⟩
              · cases hv
            · cases hx
        obtain ⟨v', hvv, hrun1⟩ := one
        refine ⟨v' :: vs', .cons hvv hvr, ?_⟩
        rw [List.mapM_cons, Sem.run_bind, hrun1]
        simp only [Result.andThen]
        rw [Sem.run_bind, hrun]
        rfl

theorem resVal_VR {μ : Mu} {vs vs' : List Value} (h : VRL μ vs vs') : VR μ (resVal vs) (if hs : vs'.toArray.size = 1 then vs'.toArray[0] else .tuple vs'.toArray) := by
  cases h with
  | nil => exact .tuple (by simpa using VRL.nil)
  | cons h t =>
    cases t with
    | nil => simpa [resVal] using h
    | cons h2 t2 =>
      have : VRL μ _ _ := .cons h (.cons h2 t2)
      simp only [resVal]
      rw [dif_neg (by simp)]
      exact .tuple (by simpa using this)

/-- A table of the program's functions as the plain machine has them. -/
def TabOK (P : Program) (C : FuncId → Option AFn) : Prop :=
  ∀ g A, C g = some A → ∃ fn, P.funcs[g]? = some fn ∧ compFn P fn = some A ∧ (fn.name == "runtime.NumGoroutine") = false

theorem noBase_ok : ClOK P B w0 noBase := fun _ _ _ _ h => h.elim

theorem acall_sound (hP : POk P) {C : FuncId → Option AFn} (hC : TabOK P C) {base : Cl} (hbase : ClOK P B w0 base) : ∀ n, ClOK P B w0 (acall C base n)
  | 0 => fun g args h K hk => hk.elim
  | n + 1 => by
    intro g args h K hk μ w args' R hargs
    simp only [acall] at hk
    cases hg : C g with
    | none => rw [hg] at hk; exact hbase g args h K hk μ w args' R hargs
    | some A =>
      rw [hg] at hk
      obtain ⟨fn, hf, hcf, hname⟩ := hC g A hg
      unfold compFn at hcf
      split at hcf
      · cases hcf
      · rename_i c hb
        split at hcf
        · rename_i b r hcb hcr
          simp only [Option.some.injEq] at hcf
          subst hcf
          refine ⟨⟨fn, c, hf, hb, hname⟩, fun R' hR' => ?_⟩
          refine calls_of_wp hf hb ?_
          refine wp_sound (nt := fn.ntmps) hP (acall_sound hP hC hbase n) c b hcb (initFr args) h μ _ w _ _ hk R ?_ ?_
          · refine ⟨by simp; omega, fun t _ => ?_⟩
            unfold initFr
            rw [Array.getD_eq_getD_getElem?]
            by_cases ht : t < args.length
            · obtain ⟨v', hv', hvr⟩ := hargs.get t (List.getElem?_eq_getElem ht)
              have hlt : t < args'.size := by
                have := hargs.length
                simp at this; omega
              rw [Array.getElem?_append_left hlt]
              simp only [Array.getElem?_toList] at hv'
              rw [hv', List.getElem?_eq_getElem ht]
              exact hvr
            · have hge : args'.size ≤ t := by
                have := hargs.length
                simp at this; omega
              rw [List.getElem?_eq_none (by omega), Array.getElem?_append_right hge]
              simp only [Option.getD_none, Array.getElem?_replicate]
              split
              · exact undef_VR μ
              · exact undef_VR μ
          · intro o f' h' μ' a' w' hK hR hT hF hd
            have fin : (∃ vs, resAll f' h' r = some vs ∧ K (resVal vs) h') → a'.defers = [] ∧ ∃ v, (results fn a'.tmps).run P w' = .ok v w' ∧ R' (.returned v) w' := by
              rintro ⟨vs, hvs, hKv⟩
              obtain ⟨vs', hvr, hrun⟩ := res_run hR hF fn.results.toList r vs hcr hvs
              refine ⟨hd, _, ?_, hR' _ h' μ' _ w' hKv hR (resVal_VR hvr) hT⟩
              have hfn : results fn a'.tmps = (do
                  let vs ← fn.results.mapM (resM a'.tmps)
                  pure (if h : vs.size = 1 then vs[0] else .tuple vs)) := by
                unfold results
                congr 1
              rw [hfn, Array.mapM_eq_mapM_toList]
              simp only [Sem.run_bind, map_eq_pure_bind]
              rw [hrun]
              rfl
            cases o with
            | normal => exact fin hK
            | ret => exact fin hK
            | exit i => exact hK.elim
        · cases hcf
end
end Go.Proofs.YtemgddekbdifeaaGreat.Am
