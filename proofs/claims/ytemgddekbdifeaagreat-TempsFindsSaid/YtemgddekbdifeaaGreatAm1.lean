/- The plain machine's operations that read, reckon or make a block: the model's operation does the same. -/
import Derived.Test.YtemgddekbdifeaaGreatAm0
set_option linter.unusedVariables false
set_option linter.unusedSimpArgs false
namespace Go.Proofs.YtemgddekbdifeaaGreat.Am
open Go.RowKit

section runs
variable {P : Program} {w : World}
theorem r_und {t : TypeId} {d : TypeDesc} (h : P.underlying t = some d) : (underlying t).run P w = .ok d w := by
  simp [underlying, h]
theorem r_inf {t : TypeId} {i : TypeInfo} (h : P.info? t = some i) : (typeInfo t).run P w = .ok i w := by
  simp [typeInfo, h]
theorem r_sz {t : TypeId} {n : Nat} (h : szT P t = some n) : (sizeOf t).run P w = .ok n w := by
  unfold szT at h
  cases hi : P.info? t with
  | none => simp [hi] at h
  | some i => simp [hi] at h; simp [sizeOf, r_inf hi, h]
theorem r_byt {t : TypeId} {n : Nat} (h : byT P t = some n) : ∃ i, P.info? t = some i ∧ i.bytes = n := by
  unfold byT at h
  cases hi : P.info? t with
  | none => simp [hi] at h
  | some i => simp [hi] at h; exact ⟨i, rfl, h⟩
theorem r_zero {t : TypeId} {z : List Value} (h : zeroT P t = some z) : ∃ v : Value, (∀ w, (zeroValue t).run P w = .ok v w) ∧ v.cells.toList = z ∧ z.all flat1 = true := by
  unfold zeroT at h
  cases hi : P.info? t with
  | none => simp [hi] at h
  | some i =>
    cases hz : i.zero with
    | none => simp [hi, hz] at h
    | some v =>
      simp only [hi, hz, Option.bind_some] at h
      split at h
      · simp only [Option.some.injEq] at h
        rename_i hf
        exact ⟨v, fun w => by simp [zeroValue, r_inf hi, hz], h, by rw [← h]; exact hf⟩
      · cases h
theorem r_agg {t : TypeId} {b : Bool} (h : isAggT P t = some b) : (isAgg t).run P w = .ok b w := by
  unfold isAggT at h
  cases hu : P.underlying t with
  | none => simp [hu] at h
  | some d =>
    simp only [hu, Option.map_some, Option.some.injEq] at h
    subst h
    simp only [isAgg, Sem.run_bind, r_und hu, Result.andThen_ok]
    split <;> first | rfl | (split <;> first | rfl | simp_all)
end runs

theorem add_at (b o n : Nat) : (⟨b, o, none⟩ : Addr).add n = ⟨b, o + n, none⟩ := by unfold Addr.add; split <;> simp_all

section
variable {P : Program} {B : Nat} {w0 : World} {μ : Mu} {h : H} {w : World}

theorem Rel.cell (R : Rel P B w0 μ h w) {i o : Nat} {e : Ent} {v : Value} (he : μ i = some e) (hc : h.cell i o = some v) :
    ∃ v', w.cell? ⟨e.b, e.o + o, none⟩ = some v' ∧ VR μ v v' ∧ one v = true := by
  unfold H.cell at hc
  split at hc
  · rename_i cs t own op hg
    obtain ⟨_, h1, hb | ⟨cs', fr, hw, hl, hv, _, _, _⟩⟩ := R.blk i e cs t own op he hg
    · rw [hb.1] at hc; simp at hc
    · obtain ⟨v', hv', hvr⟩ := hv.get o hc
      refine ⟨v', ?_, hvr, h1 v (List.mem_of_getElem? hc)⟩
      have ho : o < cs.length := (List.getElem?_eq_some_iff.1 hc).1
      rw [List.getElem?_take, if_pos ho, List.getElem?_drop] at hv'
      simp only [World.cell?, hw]
      simpa using hv'
  · cases hc

theorem Rel.rd (R : Rel P B w0 μ h w) {i o n : Nat} {e : Ent} {vs : List Value} (he : μ i = some e) (hr : h.rd i o n = some vs) :
    ∃ vs', VRL μ vs vs' ∧ (∀ v ∈ vs, one v = true) ∧ vs.length = n ∧ (∀ j v, vs'[j]? = some v → w.cell? ((⟨e.b, e.o + o, none⟩ : Addr).add j) = some v) := by
  unfold H.rd at hr
  split at hr
  · rename_i cs t own op hg
    split at hr
    · rename_i hle
      simp only [Option.some.injEq] at hr
      subst hr
      obtain ⟨_, h1, hb | ⟨cs', fr, hw, hl, hv, _, _, _⟩⟩ := R.blk i e cs t own op he hg
      · rw [hb.1] at hle ⊢
        simp at hle
        exact ⟨[], by simpa using VRL.nil, by simp, by simp [hle.2], by simp⟩
      · refine ⟨_, (hv.drop o).take n, fun v hv => h1 v (List.mem_of_mem_drop (List.mem_of_mem_take hv)), by simp; omega, ?_⟩
        intro j v hj
        rw [add_at]
        simp only [World.cell?, hw]
        rw [List.getElem?_take] at hj
        split at hj
        · rw [List.getElem?_drop, List.getElem?_take] at hj
          split at hj
          · rw [List.getElem?_drop] at hj
            simpa [Nat.add_assoc] using hj
          · cases hj
        · cases hj
    · cases hr
  · cases hr

theorem Rel.loadCells (R : Rel P B w0 μ h w) {i o n : Nat} {e : Ent} {vs : List Value} (he : μ i = some e) (hr : h.rd i o n = some vs) :
    ∃ vs', VRL μ vs vs' ∧ (∀ v ∈ vs, one v = true) ∧ vs.length = n ∧ (Go.loadCells ⟨e.b, e.o + o, none⟩ n).run P w = .ok vs'.toArray w := by
  obtain ⟨vs', hv, h1, hl, hc⟩ := R.rd he hr
  refine ⟨vs', hv, h1, hl, ?_⟩
  have := run_loadCells_list (P := P) w ⟨e.b, e.o + o, none⟩ vs' hc
  rwa [← hv.length, hl] at this
end

/-- What a new block of the plain machine finds in the model's world. -/
structure NewAt (P : Program) (B : Nat) (μ : Mu) (w : World) (e : Ent) (cs : List Value) (t : TypeId) (own op : Bool) (w' : World) : Prop where
  br : BR P B μ w' e cs t own op
  os : w'.os = w.os
  tape : w'.tape = w.tape
  output : w'.output = w.output
  size : w.heap.size ≤ w'.heap.size
  old : ∀ k, k < w.heap.size → w'.heap[k]? = w.heap[k]?
  here : own = true → w.heap.size ≤ e.b

def Mu.set (μ : Mu) (i : Nat) (e : Ent) : Mu := fun j => if j = i then some e else μ j
theorem Mu.set_mono {μ : Mu} {i : Nat} {e : Ent} (h : μ i = none) : ∀ j x, μ j = some x → μ.set i e j = some x := by
  intro j x hj
  unfold Mu.set
  split
  · rename_i hji; rw [hji, h] at hj; cases hj
  · exact hj

theorem BR.mono {P : Program} {B : Nat} {μ μ' : Mu} {w w' : World} {e : Ent} {cs : List Value} {t : TypeId} {own op : Bool}
    (hb : BR P B μ w e cs t own op) (hm : ∀ i e, μ i = some e → μ' i = some e) (hw : w'.heap[e.b]? = w.heap[e.b]?) : BR P B μ' w' e cs t own op := by
  obtain ⟨h1, h2, h3⟩ := hb
  refine ⟨h1, h2, ?_⟩
  rcases h3 with h3 | ⟨cs', fr, h4, h5, h6, h7, h8, h9⟩
  · exact .inl h3
  · exact .inr ⟨cs', fr, by rw [hw]; exact h4, h5, h6.mono hm, h7, h8, h9⟩

theorem BR.lt {P : Program} {B : Nat} {μ : Mu} {w : World} {e : Ent} {cs : List Value} {t : TypeId} {own op : Bool} (hb : BR P B μ w e cs t own op) :
    (cs = [] ∧ own = false ∧ op = false) ∨ e.b < w.heap.size := by
  obtain ⟨h1, h2, h3⟩ := hb
  rcases h3 with h3 | ⟨cs', fr, h4, _⟩
  · exact .inl h3
  · exact .inr (Array.getElem?_eq_some_iff.1 h4).1

theorem BR.keep {P : Program} {B : Nat} {μ μ' : Mu} {w w' : World} {e : Ent} {cs : List Value} {t : TypeId} {own op : Bool}
    (hb : BR P B μ w e cs t own op) (hm : ∀ i e, μ i = some e → μ' i = some e) (hw : ∀ k, k < w.heap.size → w'.heap[k]? = w.heap[k]?) : BR P B μ' w' e cs t own op := by
  rcases hb.lt with hl | hl
  · obtain ⟨h1, h2, h3⟩ := hb
    exact ⟨h1, h2, .inl hl⟩
  · exact hb.mono hm (hw _ hl)

/-- The block i of the plain machine, of which the model's world knew nothing yet, is made there. -/
theorem Rel.new {P : Program} {B : Nat} {w0 : World} {μ : Mu} {h : H} {w w' : World} {i : Nat} {e : Ent} {cs : List Value} {t : TypeId} {own op : Bool}
    (R : Rel P B w0 μ h w) (hi : i < h.next) (hn : μ i = none) (hg : h.get i = some (.cells cs t own op)) (N : NewAt P B (μ.set i e) w e cs t own op w') :
    Rel P B w0 (μ.set i e) h w' := by
  have hm := Mu.set_mono (e := e) hn
  refine ⟨⟨N.os.trans R.below.os, N.tape.trans R.below.tape, N.output.trans R.below.output, Nat.le_trans R.below.size N.size, fun k hk => (N.old k (Nat.lt_of_lt_of_le hk R.size)).trans (R.below.block k hk)⟩,
    Nat.le_trans R.size N.size, ?_, ?_, ?_⟩
  · intro j hj
    refine ⟨?_, (R.fresh j hj).2⟩
    unfold Mu.set
    rw [if_neg (by omega)]
    exact (R.fresh j hj).1
  · intro j x cs' t' own' op' hj hgj
    unfold Mu.set at hj
    split at hj
    · rename_i hji
      subst hji
      simp only [Option.some.injEq] at hj
      subst hj
      rw [hg] at hgj
      simp only [Option.some.injEq, Blk.cells.injEq] at hgj
      obtain ⟨rfl, rfl, rfl, rfl⟩ := hgj
      exact N.br
    · exact (R.blk j x cs' t' own' op' hj hgj).keep hm N.old
  · intro j l x y cs1 t1 op1 cs2 t2 op2 hjl hj hl hgj hgl
    unfold Mu.set at hj hl
    split at hj
    · rename_i hji
      subst hji
      simp only [Option.some.injEq] at hj
      subst hj
      rw [if_neg (fun e => hjl e.symm)] at hl
      rw [hg] at hgj
      simp only [Option.some.injEq, Blk.cells.injEq] at hgj
      obtain ⟨rfl, rfl, rfl, rfl⟩ := hgj
      have h1 := N.here rfl
      rcases (R.blk l y _ _ _ _ hl hgl).lt with h2 | h2
      · exact absurd h2.2.1 (by simp)
      · omega
    · split at hl
      · rename_i hji hli
        subst hli
        simp only [Option.some.injEq] at hl
        subst hl
        rw [hg] at hgl
        simp only [Option.some.injEq, Blk.cells.injEq] at hgl
        obtain ⟨rfl, rfl, rfl, rfl⟩ := hgl
        have h1 := N.here rfl
        rcases (R.blk j x _ _ _ _ hj hgj).lt with h2 | h2
        · exact absurd h2.2.1 (by simp)
        · omega
      · exact R.inj j l x y cs1 t1 op1 cs2 t2 op2 hjl hj hl hgj hgl

/-- A block more of the plain machine: the model's world need not know it. -/
theorem Rel.push {P : Program} {B : Nat} {w0 : World} {μ : Mu} {h : H} {w : World} (R : Rel P B w0 μ h w) (b : Blk) : Rel P B w0 μ (h.push b) w := by
  have hn := (R.fresh h.next (Nat.le_refl _)).1
  refine ⟨R.below, R.size, ?_, ?_, ?_⟩
  · intro i hi
    have hi' : h.next + 1 ≤ i := hi
    refine ⟨(R.fresh i (by omega)).1, ?_⟩
    show (if i = h.next then some b else h.get i) = none
    rw [if_neg (by omega)]
    exact (R.fresh i (by omega)).2
  · intro i e cs t own op hi hg
    have hne : i ≠ h.next := fun e' => by rw [e', hn] at hi; cases hi
    refine R.blk i e cs t own op hi ?_
    have hg' : (if i = h.next then some b else h.get i) = some (.cells cs t own op) := hg
    rwa [if_neg hne] at hg'
  · intro i j e e' cs t op cs' t' op' hij hi hj hgi hgj
    have hne : i ≠ h.next := fun e' => by rw [e', hn] at hi; cases hi
    have hne' : j ≠ h.next := fun e' => by rw [e', hn] at hj; cases hj
    have hgi' : (if i = h.next then some b else h.get i) = some (.cells cs t true op) := hgi
    have hgj' : (if j = h.next then some b else h.get j) = some (.cells cs' t' true op') := hgj
    rw [if_neg hne] at hgi'
    rw [if_neg hne'] at hgj'
    exact R.inj i j e e' cs t op cs' t' op' hij hi hj hgi' hgj'

end Go.Proofs.YtemgddekbdifeaaGreat.Am

namespace Go.Proofs.YtemgddekbdifeaaGreat.Am
open Go.RowKit

theorem splice_set (L : List Value) (o : Nat) (v : Value) (l : List Value) (h : o < L.length) : splice (L.set o v) (o + 1) l = splice L o (v :: l) := by
  unfold splice
  have h1 : (L.set o v).take (o + 1) = L.take o ++ [v] := by
    rw [List.take_succ_eq_append_getElem (by simpa using h), List.take_set, List.set_eq_of_length_le (by rw [List.length_take]; exact Nat.min_le_left _ _)]
    simp
  have h2 : (L.set o v).drop (o + 1 + l.length) = L.drop (o + (v :: l).length) := by
    rw [List.drop_set, if_pos (by omega)]
    congr 1
    simp
    omega
  rw [h1, h2]
  simp

theorem foldl_set (off : Nat) : ∀ (l : List Value) (k : Nat) (cs : Array Value), off + k + l.length ≤ cs.size →
    ((l.zipIdx k).foldl (fun (cs : Array Value) (x : Value × Nat) => cs.setIfInBounds (off + x.2) x.1) cs).toList = splice cs.toList (off + k) l
  | [], k, cs, _ => by simp [splice]
  | v :: l, k, cs, h => by
    simp only [List.zipIdx_cons, List.foldl_cons]
    rw [foldl_set off l (k + 1) _ (by simp at h ⊢; omega)]
    rw [Array.toList_setIfInBounds, ← splice_set _ _ _ _ (by simp at h ⊢; omega)]
    rfl

section
variable {P : Program} {B : Nat} {w0 : World} {μ : Mu} {h : H} {w : World} {ρ ρ' : Operand → Value}

/-- What is built out of pieces. -/
theorem fill_segs (place : Nat → Option (Nat × Nat)) (z : List Value) (hz : z.all flat1 = true) : ∀ (parts : List (Nat × Operand)) (ps : List (Nat × Nat × Operand)),
    parts.mapM (fun x => (place x.1).map fun p => (p.1, p.2, x.2)) = some ps → (∀ x ∈ parts, VR μ (ρ x.2) (ρ' x.2)) →
    ∀ (pre pre' : List Value) (sg : List Seg) (vs : List Value) (Z : Array Value), mkSegs z pre.length ps = some sg → segs ρ sg = some vs → pre.length ≤ z.length →
      VRL μ pre pre' → (∀ v ∈ pre, one v = true) → Z.toList = pre' ++ z.drop pre.length →
      ∃ Z', Instr.fill place Z (parts.map fun x => (x.1, ρ' x.2)) = some Z' ∧ VRL μ (pre ++ vs) Z'.toList ∧ (∀ v ∈ pre ++ vs, one v = true)
  | [], ps, hp, hρ, pre, pre', sg, vs, Z, hs, hv, hle, hpre, h1, hZ => by
    simp at hp
    subst hp
    have hzd : (z.drop pre.length).all flat1 = true := List.all_eq_true.2 fun v hv => List.all_eq_true.1 hz v (List.mem_of_mem_drop hv)
    have hvs : vs = z.drop pre.length := by
      simp only [mkSegs, Option.some.injEq] at hs
      subst hs
      split at hv
      · simpa [segs] using hv.symm
      · rename_i hlt
        simp [segs] at hv
        rw [List.drop_of_length_le (by omega)]
        exact hv
    subst hvs
    refine ⟨Z, rfl, ?_, ?_⟩
    · rw [hZ]; exact hpre.append (flatL_VRL μ _ hzd)
    · intro v hv
      simp only [List.mem_append] at hv
      rcases hv with hv | hv
      · exact h1 v hv
      · exact flat1_one (List.all_eq_true.1 hzd v hv)
  | (i, x) :: parts, ps, hp, hρ, pre, pre', sg, vs, Z, hs, hv, hle, hpre, h1, hZ => by
    cases hpl : place i with
    | none => simp [List.mapM_cons, hpl] at hp
    | some p =>
      obtain ⟨off, sz⟩ := p
      cases hr : parts.mapM (fun x => (place x.1).map fun p => (p.1, p.2, x.2)) with
      | none => simp [List.mapM_cons, hpl, hr] at hp
      | some ps0 =>
        simp [List.mapM_cons, hpl, hr] at hp
        subst hp
        simp only [mkSegs] at hs
        split at hs
        case isFalse => cases hs
        case isTrue hle2 =>
          cases hs0 : mkSegs z (off + sz) ps0 with
          | none => simp [hs0] at hs
          | some sg0 =>
            simp only [hs0, Option.map_some, Option.some.injEq] at hs
            -- the piece itself
            have key : ∃ l vs0, cellsOf (ρ x) = some l ∧ l.length = sz ∧ segs ρ sg0 = some vs0 ∧ vs = (z.drop pre.length).take (off - pre.length) ++ l ++ vs0 := by
              subst hs
              split at hv
              · simp only [segs] at hv
                cases hcx : cellsOf (ρ x) with
                | none => simp [hcx] at hv
                | some l =>
                  simp only [hcx] at hv
                  by_cases hll : l.length = sz
                  · rw [if_pos hll] at hv
                    cases hv0 : segs ρ sg0 with
                    | none => simp [hv0] at hv
                    | some vs0 => simp [hv0] at hv; exact ⟨l, vs0, rfl, hll, rfl, by simp [← hv]⟩
                  · rw [if_neg hll] at hv; simp at hv
              · rename_i hge
                simp only [segs] at hv
                cases hcx : cellsOf (ρ x) with
                | none => simp [hcx] at hv
                | some l =>
                  simp only [hcx] at hv
                  by_cases hll : l.length = sz
                  · rw [if_pos hll] at hv
                    cases hv0 : segs ρ sg0 with
                    | none => simp [hv0] at hv
                    | some vs0 => simp [hv0] at hv; exact ⟨l, vs0, rfl, hll, rfl, by rw [show off - pre.length = 0 by omega]; simp [← hv]⟩
                  · rw [if_neg hll] at hv; simp at hv
            obtain ⟨l, vs0, hcx, hll, hv0, rfl⟩ := key
            obtain ⟨hlv, hl1⟩ := cellsOf_VR (hρ (i, x) (by simp)) hcx
            have hlsz : (ρ' x).cells.size = sz := by rw [← Array.length_toList, ← hlv.length, hll]
            have hzz : ∀ v ∈ (z.drop pre.length).take (off - pre.length), flat1 v = true := fun v hv => List.all_eq_true.1 hz v (List.mem_of_mem_drop (List.mem_of_mem_take hv))
            have hlen' : pre'.length = pre.length := hpre.length.symm
            have hZs : Z.size = z.length := by rw [← Array.length_toList, hZ]; simp; omega
            have hfold := foldl_set off (ρ' x).cells.toList 0 Z (by rw [Array.length_toList]; omega)
            -- the rest
            have hnew : (List.foldl (fun (cs : Array Value) (y : Value × Nat) => cs.setIfInBounds (off + y.2) y.1) Z (ρ' x).cells.toList.zipIdx).toList =
                (pre' ++ (z.drop pre.length).take (off - pre.length) ++ (ρ' x).cells.toList) ++ z.drop (off + sz) := by
              rw [hfold, splice, hZ]
              simp only [Nat.add_zero, Array.length_toList, hlsz]
              rw [List.take_append, List.take_of_length_le (by omega), List.drop_append, List.drop_of_length_le (l := pre') (by omega), hlen']
              simp [List.drop_drop]
              rw [show pre.length + (off + sz - pre.length) = off + sz by omega]
            have hplen : (pre ++ (z.drop pre.length).take (off - pre.length) ++ l).length = off + sz := by simp [hll]; omega
            obtain ⟨Z', hf, hr1, hr2⟩ := fill_segs place z hz parts ps0 hr (fun y hy => hρ y (by simp [hy]))
              (pre ++ (z.drop pre.length).take (off - pre.length) ++ l) (pre' ++ (z.drop pre.length).take (off - pre.length) ++ (ρ' x).cells.toList) sg0 vs0
              (List.foldl (fun (cs : Array Value) (y : Value × Nat) => cs.setIfInBounds (off + y.2) y.1) Z (ρ' x).cells.toList.zipIdx)
              (by rw [hplen]; exact hs0) hv0 (by rw [hplen]; omega)
              ((hpre.append (flatL_VRL μ _ (List.all_eq_true.2 hzz))).append hlv)
              (by
                intro v hv
                simp only [List.mem_append] at hv
                rcases hv with (hv | hv) | hv
                · exact h1 v hv
                · exact flat1_one (hzz v hv)
                · exact hl1 v hv)
              (by rw [hnew, hplen])
            refine ⟨Z', ?_, by simpa using hr1, by simpa using hr2⟩
            simp only [List.map_cons, Instr.fill, hpl]
            rw [if_neg (by have := hle2.2; simp only [Bool.or_eq_true, decide_eq_true_eq]; omega)]
            rw [← hf]
            congr 1
            rw [← Array.foldl_toList, Array.toList_zipIdx]
end
end Go.Proofs.YtemgddekbdifeaaGreat.Am

namespace Go.Proofs.YtemgddekbdifeaaGreat.Am
open Go.RowKit

theorem ar_inv {k : IntKind} {z : Int} {K : Value → Prop} (h : Ar k z K) : K (.int k (k.wrap z)) := by cases h; assumption

theorem i64_max : IntKind.i64.max = 9223372036854775807 := by decide

section
variable (P : Program) (w : World) {K : Value → Prop} (t : TypeId) (x y : Operand)

theorem intB_run {op : BinOp} {k : IntKind} {a b : Int} (h : intB op k a b K) (hs : op ≠ .shl ∧ op ≠ .shr) :
    ∃ v, K v ∧ (do eqGuard op t x y (.int k a) (.int k b); binOp op t (.int k a) (.int k b) : Sem Value).run P w = .ok v w ∧ flat1 v = true := by
  cases op <;> simp only [intB] at h <;> try exact h.elim
  case add => exact ⟨_, ar_inv h, by simp [eqGuard, binOp, Op.intArith], rfl⟩
  case sub => exact ⟨_, ar_inv h, by simp [eqGuard, binOp, Op.intArith], rfl⟩
  case mul => exact ⟨_, ar_inv h, by simp [eqGuard, binOp, Op.intArith], rfl⟩
  case quo => exact ⟨_, ar_inv h.2, by simp [eqGuard, binOp, Op.intDiv, h.1], rfl⟩
  case rem => exact ⟨_, h.2, by simp [eqGuard, binOp, Op.intDiv, h.1], rfl⟩
  case and => exact ⟨_, ar_inv h, by simp [eqGuard, binOp, Op.intBits], rfl⟩
  case or => exact ⟨_, ar_inv h, by simp [eqGuard, binOp, Op.intBits], rfl⟩
  case xor => exact ⟨_, ar_inv h, by simp [eqGuard, binOp, Op.intBits], rfl⟩
  case andNot => exact ⟨_, ar_inv h, by simp [eqGuard, binOp, Op.intBits], rfl⟩
  case eql => exact ⟨_, h, by simp [eqGuard, binOp, Op.intCmp], rfl⟩
  case neq => exact ⟨_, h, by simp [eqGuard, binOp, Op.intCmp], rfl⟩
  case lss => exact ⟨_, h, by simp [eqGuard, binOp, Op.intCmp], rfl⟩
  case leq => exact ⟨_, h, by simp [eqGuard, binOp, Op.intCmp], rfl⟩
  case gtr => exact ⟨_, h, by simp [eqGuard, binOp, Op.intCmp], rfl⟩
  case geq => exact ⟨_, h, by simp [eqGuard, binOp, Op.intCmp], rfl⟩

theorem strB_run {op : BinOp} {a b : ByteArray} (h : strB op a b K) :
    ∃ v, K v ∧ (do eqGuard op t x y (.string a) (.string b); binOp op t (.string a) (.string b) : Sem Value).run P w = .ok v w ∧ flat1 v = true := by
  cases op <;> simp only [strB] at h <;> try exact h.elim
  case add =>
    refine ⟨_, h.2, ?_, rfl⟩
    have h1 := h.1
    simp [eqGuard, binOp, Op.stringOp, i64_max]
    omega
  case eql => exact ⟨_, h, by simp [eqGuard, binOp, Op.stringOp], rfl⟩
  case neq => exact ⟨_, h, by simp [eqGuard, binOp, Op.stringOp], rfl⟩
  case lss => exact ⟨_, h, by simp [eqGuard, binOp, Op.stringOp], rfl⟩
  case leq => exact ⟨_, h, by simp [eqGuard, binOp, Op.stringOp], rfl⟩
  case gtr => exact ⟨_, h, by simp [eqGuard, binOp, Op.stringOp], rfl⟩
  case geq => exact ⟨_, h, by simp [eqGuard, binOp, Op.stringOp], rfl⟩

theorem bin_run {op : BinOp} {a b : Value} (h : binF op a b K) :
    ∃ v, K v ∧ (do eqGuard op t x y a b; binOp op t a b : Sem Value).run P w = .ok v w ∧ flat1 v = true ∧ flat1 a = true ∧ flat1 b = true := by
  unfold binF at h
  split at h
  · rename_i k a k' b
    split at h
    · obtain ⟨h1, h2⟩ := h
      exact ⟨_, ar_inv h2, by simp [eqGuard, binOp, Op.shift, Int.not_lt.2 h1], rfl, rfl, rfl⟩
    · obtain ⟨h1, h2⟩ := h
      exact ⟨_, h2, by simp [eqGuard, binOp, Op.shift, Int.not_lt.2 h1], rfl, rfl, rfl⟩
    · rename_i hn1 hn2
      split at h
      · rename_i hk
        subst hk
        obtain ⟨v, hv, hr, hf⟩ := intB_run P w t x y h ⟨hn1, hn2⟩
        exact ⟨v, hv, hr, hf, rfl, rfl⟩
      · exact h.elim
  · obtain ⟨v, hv, hr, hf⟩ := strB_run P w t x y h
    exact ⟨v, hv, hr, hf, rfl, rfl⟩
  · exact h.elim

theorem flat1_eq {μ : Mu} {v v' : Value} (h : VR μ v v') (hf : flat1 v = true) : v' = v := by
  cases h <;> first | rfl | (simp [flat1] at hf; done)

theorem un_run {op : UnOp} {a : Value} (h : unF op a K) : ∃ v, K v ∧ (Op.unary op a).run P w = .ok v w ∧ flat1 v = true ∧ flat1 a = true := by
  unfold unF at h
  split at h
  · exact ⟨_, ar_inv h, by simp [Op.unary, Op.intArith], rfl, rfl⟩
  · exact ⟨_, h, by simp [Op.unary], rfl, rfl⟩
  · exact ⟨_, ar_inv h, by simp [Op.unary, Op.intBits], rfl, rfl⟩
  · exact h.elim

theorem mnx_run (mx : Bool) (k : IntKind) : ∀ (l : List Value) (x : Int), mnx mx k x l K →
    ∃ v, K v ∧ (l.foldlM (if mx then Builtin.max2 else Builtin.min2) (.int k x)).run P w = .ok v w ∧ flat1 v = true ∧ ∀ y ∈ l, flat1 y = true
  | [], x, h => ⟨_, h, by simp, rfl, by simp⟩
  | y :: l, x, h => by
    cases y <;> simp only [mnx] at h
    case int k' y =>
      obtain ⟨v, hv, hr, hf, hl⟩ := mnx_run mx k l _ h
      refine ⟨v, hv, ?_, hf, by simpa [flat1] using hl⟩
      rw [List.foldlM_cons, Sem.run_bind]
      cases mx <;> simpa [Builtin.max2, Builtin.min2] using hr
end

section
variable {P : Program} {B : Nat} {w0 : World} {μ : Mu} {h : H} {w : World} {ρ ρ' : Operand → Value}

/-- The bounds of a slice expression. -/
theorem bnd_run {len cap : Nat} {lo hi : Option Operand} {K : Nat → Nat → Prop} (isS : Bool) (hk : bnd ρ len cap lo hi K) (cap' : Nat) (hcc : cap ≤ cap')
    (hlo : ∀ x, lo = some x → VR μ (ρ x) (ρ' x)) (hhi : ∀ x, hi = some x → VR μ (ρ x) (ρ' x)) :
    ∃ l u, K l u ∧ (Instr.sliceBounds isS len cap' (lo.map ρ') (hi.map ρ') none).run P w = .ok (l, u, cap') w ∧ (lo = none → l = 0) ∧ l ≤ u ∧ (hi = none → u = len) ∧ (hi ≠ none → u ≤ cap) := by
  unfold bnd at hk
  cases hi with
  | none =>
    cases lo with
    | none => exact ⟨0, len, hk, by simp [Instr.sliceBounds], fun _ => rfl, by omega, fun _ => rfl, fun h => absurd rfl h⟩
    | some x =>
      have hx := hlo x rfl
      simp only at hk
      revert hk hx
      generalize ρ x = a
      generalize hb : ρ' x = a'
      intro hk hx
      cases hx <;> simp only at hk
      case int k n =>
        obtain ⟨⟨h1, h2⟩, hk⟩ := hk
        refine ⟨n.toNat, len, hk, ?_, (fun h => by cases h), by omega, fun _ => rfl, fun h => absurd rfl h⟩
        simp [Instr.sliceBounds, Instr.sliceBound, hb, asIntOf, h1, h2]
  | some y =>
    have hy := hhi y rfl
    simp only at hk
    revert hk hy
    generalize ρ y = c
    generalize hc : ρ' y = c'
    intro hk hy
    cases hy <;> simp only at hk
    case int k u =>
      obtain ⟨⟨h1, h2⟩, hk⟩ := hk
      have h3 : u ≤ (cap' : Int) := by omega
      cases lo with
      | none => exact ⟨0, u.toNat, hk, by simp [Instr.sliceBounds, Instr.sliceBound, hc, asIntOf, h1, h3], fun _ => rfl, by omega, (fun h => by cases h), fun _ => by omega⟩
      | some x =>
        have hx := hlo x rfl
        simp only at hk
        revert hk hx
        generalize ρ x = a
        generalize hb : ρ' x = a'
        intro hk hx
        cases hx <;> simp only at hk
        case int k' n =>
          obtain ⟨⟨h4, h5⟩, hk⟩ := hk
          refine ⟨n.toNat, u.toNat, hk, ?_, (fun h => by cases h), by omega, (fun h => by cases h), fun _ => by omega⟩
          simp [Instr.sliceBounds, Instr.sliceBound, hb, hc, asIntOf, h1, h3, h4]
          intro h6
          omega
end

end Go.Proofs.YtemgddekbdifeaaGreat.Am

namespace Go.Proofs.YtemgddekbdifeaaGreat.Am
open Go.RowKit

theorem eqL_append {xs ys : List Value} : ∀ {l r : List Leaf} {b : Bool}, eqL xs ys (l ++ r) = some b → ∃ b1 b2, eqL xs ys l = some b1 ∧ eqL xs ys r = some b2 ∧ b = (b1 && b2)
  | [], r, b, h => ⟨true, b, rfl, h, by simp⟩
  | o :: l, r, b, h => by
    simp only [List.cons_append, eqL] at h ⊢
    cases h1 : xs[o.off]? with
    | none => simp [h1] at h
    | some x =>
      cases h2 : ys[o.off]? with
      | none => simp [h1, h2] at h
      | some y =>
        simp only [h1, h2] at h ⊢
        cases h3 : leafEq o x y with
        | none => simp [h3] at h
        | some c =>
          simp only [h3] at h ⊢
          obtain ⟨b', hb', rfl⟩ := Option.map_eq_some_iff.1 h
          obtain ⟨b1, b2, e1, e2, rfl⟩ := eqL_append hb'
          exact ⟨c && b1, b2, by simp [e1], e2, by simp [Bool.and_assoc]⟩

/-- The part of a row of cells that begins at a place, as a value of a type. -/
def PartIs (P : Program) (xs : List Value) (o : Nat) (t : TypeId) (v : Value) : Prop :=
  match isAggT P t with
  | some true => ∃ X, v = .agg X ∧ ∀ k, szT P t = some k → ∀ j, j < k → X.toList[j]? = xs[o + j]?
  | some false => xs[o]? = some v
  | none => False

theorem part_run {P : Program} {w : World} {xs : List Value} {o k off m : Nat} {X : Array Value} {f : TypeId} (hX : ∀ j, j < k → X.toList[j]? = xs[o + j]?) (hm : szT P f = some m) (h0 : 0 < m) (hk : off + m ≤ k)
    (ha : isAggT P f = some true ∨ isAggT P f = some false ∧ ∃ v, xs[o + off]? = some v) : ∃ v, (part f X off).run P w = .ok v w ∧ PartIs P xs (o + off) f v := by
  rcases ha with ha | ⟨ha, v, hv⟩
  · refine ⟨.agg (X.extract off (off + m)), by simp [part, r_agg ha, r_sz hm], ?_⟩
    unfold PartIs
    rw [ha]
    refine ⟨_, rfl, fun k' hk' j hj => ?_⟩
    rw [hm] at hk'
    cases hk'
    have := hX (off + j) (by omega)
    rw [Array.toList_extract, List.extract_eq_take_drop]
    rw [List.getElem?_take, if_pos (by omega), List.getElem?_drop, this, Nat.add_assoc]
  · refine ⟨v, ?_, ?_⟩
    · have := hX off (by omega)
      rw [hv] at this
      have h2 : X[off]? = some v := by simpa using this
      simp [part, r_agg ha, h2]
    · unfold PartIs
      rw [ha]
      exact hv

theorem leafOffs_agg {P : Program} {d o : Nat} {t : TypeId} {l : List Leaf} {xs ys : List Value} {b : Bool} (h : leafOffs P d o t = some l) (he : eqL xs ys l = some b) :
    isAggT P t = some true ∨ isAggT P t = some false ∧ (∃ v, xs[o]? = some v) ∧ (∃ v, ys[o]? = some v) := by
  have one : ∀ x : Leaf, l = [x] → x.off = o → (∃ v, xs[o]? = some v) ∧ (∃ v, ys[o]? = some v) := by
    rintro x rfl hx
    simp only [eqL, hx] at he
    split at he
    · rename_i h1 h2; exact ⟨⟨_, h1⟩, ⟨_, h2⟩⟩
    · cases he
  unfold isAggT
  cases d with
  | zero => simp [leafOffs] at h
  | succ d =>
    simp only [leafOffs] at h
    split at h
    · rename_i hu; simp only [Option.some.injEq] at h; rw [hu]; exact .inr ⟨rfl, one _ h.symm rfl⟩
    · rename_i hu; simp only [Option.some.injEq] at h; rw [hu]; exact .inr ⟨rfl, one _ h.symm rfl⟩
    · rename_i hu; simp only [Option.some.injEq] at h; rw [hu]; exact .inr ⟨rfl, one _ h.symm rfl⟩
    · rename_i hu; rw [hu]; exact .inl rfl
    · rename_i hu; rw [hu]; exact .inl rfl
    · cases h

theorem eq_loop {P : Program} {w : World} {xs ys : List Value} {α : Type} {body : α → Option Bool × Unit → Sem (ForInStep (Option Bool × Unit))} {φ : α → Option (List Leaf) → Option (List Leaf)}
    : ∀ (L : List α) (l : List Leaf) (b : Bool), (∀ a ∈ L, ∀ acc l, φ a acc = some l → ∃ la l0, acc = some l0 ∧ l = la ++ l0 ∧ ∀ ba s, eqL xs ys la = some ba → (body a s).run P w = .ok (if ba then .yield (none, ()) else .done (some false, ())) w) →
      L.foldr φ (some []) = some l → eqL xs ys l = some b →
      ∃ r, (forIn (m := Sem) L ((none : Option Bool), ()) body).run P w = .ok (r, ()) w ∧ ((r = none ∧ b = true) ∨ (r = some false ∧ b = false))
  | [], l, b, _, h, he => by
    simp only [List.foldr_nil, Option.some.injEq] at h
    subst h
    simp only [eqL, Option.some.injEq] at he
    exact ⟨none, by simp, .inl ⟨rfl, he.symm⟩⟩
  | a :: L, l, b, hφ, h, he => by
    rw [List.foldr_cons] at h
    obtain ⟨la, l0, hacc, rfl, hrun⟩ := hφ a (by simp) _ _ h
    obtain ⟨b1, b2, e1, e2, rfl⟩ := eqL_append he
    rw [List.forIn_cons, Sem.run_bind, hrun b1 _ e1]
    simp only [Result.andThen_ok]
    cases b1 with
    | false => exact ⟨some false, by simp, .inr ⟨rfl, by simp⟩⟩
    | true =>
      obtain ⟨r, hr, hh⟩ := eq_loop L l0 b2 (fun a ha => hφ a (by simp [ha])) hacc e2
      exact ⟨r, by simpa using hr, by simpa using hh⟩

theorem eq_loop' {P : Program} {w : World} {xs ys : List Value} {α : Type} {body : α → Option Bool × Unit → Sem (ForInStep (Option Bool × Unit))} {φ : α → Option (List Leaf) → Option (List Leaf)}
    (L : List α) (l : List Leaf) (b : Bool) (hφ : ∀ a ∈ L, ∀ acc l, φ a acc = some l → ∃ la l0, acc = some l0 ∧ l = la ++ l0 ∧ ∀ ba s, eqL xs ys la = some ba → (body a s).run P w = .ok (if ba then .yield (none, ()) else .done (some false, ())) w)
    (h : L.foldr φ (some []) = some l) (he : eqL xs ys l = some b) :
    (((forIn (m := Sem) L ((none : Option Bool), ()) body).run P w).andThen fun a w' => Sem.run P (match a.fst with | some r => pure r | none => pure true) w') = .ok b w := by
  obtain ⟨r, hr, hh⟩ := eq_loop L l b hφ h he
  rw [hr]
  rcases hh with ⟨rfl, rfl⟩ | ⟨rfl, rfl⟩ <;> simp

theorem equalIn_run {P : Program} {w : World} {xs ys : List Value} : ∀ (d e : Nat), d ≤ e → ∀ (o : Nat) (t : TypeId) (l : List Leaf) (b : Bool) (vx vy : Value), leafOffs P d o t = some l → eqL xs ys l = some b →
    PartIs P xs o t vx → PartIs P ys o t vy → (Op.equalIn e t vx vy).run P w = .ok b w
  | 0, e, _, o, t, l, b, vx, vy, hl, _, _, _ => by simp [leafOffs] at hl
  | d + 1, e, hde, o, t, l, b, vx, vy, hl, he, hx, hy => by
    obtain ⟨e, rfl⟩ : ∃ m, e = m + 1 := ⟨e - 1, by omega⟩
    have hde' : d ≤ e := by omega
    have scal : ∀ x : Leaf, l = [x] → x.off = o → isAggT P t = some false → ∃ b', leafEq x vx vy = some b' ∧ b = b' := by
      rintro x rfl hxo ha
      unfold PartIs at hx hy
      rw [ha] at hx hy
      simp only [eqL, hxo, hx, hy] at he
      cases h3 : leafEq x vx vy with
      | none => simp [h3] at he
      | some c => simp [h3] at he; exact ⟨c, rfl, he.symm⟩
    simp only [leafOffs] at hl
    split at hl
    · rename_i hu
      obtain ⟨b', hb', rfl⟩ := scal _ (Option.some.inj hl).symm rfl (by simp [isAggT, hu])
      cases vx <;> cases vy <;> simp only [leafEq, reduceCtorEq, Option.some.injEq] at hb'
      subst hb'
      simp [Op.equalIn, r_und hu]
    · rename_i hu
      obtain ⟨b', hb', rfl⟩ := scal _ (Option.some.inj hl).symm rfl (by simp [isAggT, hu])
      cases vx <;> cases vy <;> simp only [leafEq, reduceCtorEq] at hb'
      split at hb'
      · rename_i hk
        simp only [Option.some.injEq] at hb'
        subst hb'
        simp [Op.equalIn, r_und hu, hk]
      · cases hb'
    · rename_i hu
      obtain ⟨b', hb', rfl⟩ := scal _ (Option.some.inj hl).symm rfl (by simp [isAggT, hu])
      cases vx <;> cases vy <;> simp only [leafEq, reduceCtorEq, Option.some.injEq] at hb'
      subst hb'
      simp [Op.equalIn, r_und hu]
    · rename_i fs hu
      have ha : isAggT P t = some true := by simp [isAggT, hu]
      unfold PartIs at hx hy
      rw [ha] at hx hy
      obtain ⟨X, rfl, hX⟩ := hx
      obtain ⟨Y, rfl, hY⟩ := hy
      split at hl
      · cases hl
      rename_i hst
      split at hl
      · cases hl
      rename_i n hn
      have hst' : P.stoodInHeld t = false := by simpa using hst
      unfold Op.equalIn
      have hprog : (program : Sem Program).run P w = .ok P w := rfl
      simp only [Sem.run_bind, r_und hu, Result.andThen_ok, hprog, hst', Bool.false_eq_true, if_false]
      rw [← Array.forIn_toList]
      generalize hF : Sem.run P (forIn (m := Sem) fs.toList ((none : Option Bool), ()) _) w = F
      suffices hFF : ∃ r, F = .ok (r, ()) w ∧ ((r = none ∧ b = true) ∨ (r = some false ∧ b = false)) by
        obtain ⟨r, rfl, hh⟩ := hFF
        rcases hh with ⟨rfl, rfl⟩ | ⟨rfl, rfl⟩ <;> simp
      rw [← hF]
      refine eq_loop (xs := xs) (ys := ys) fs.toList l b ?_ hl he
      · intro f _ acc l' hf
        split at hf
        · cases hf
        · rename_i l0
          split at hf
          · cases hf
          · rename_i hname
            split at hf
            · cases hf
            · rename_i m hm
              split at hf
              · rename_i hle
                obtain ⟨la, hla, rfl⟩ := Option.map_eq_some_iff.1 hf
                refine ⟨la, l0, rfl, rfl, fun ba s heq => ?_⟩
                have hag := leafOffs_agg hla heq
                obtain ⟨v1, hr1, hp1⟩ := part_run (P := P) (w := w) (hX n hn) hm hle.1 hle.2 (hag.imp id fun h => ⟨h.1, h.2.1⟩)
                obtain ⟨v2, hr2, hp2⟩ := part_run (P := P) (w := w) (hY n hn) hm hle.1 hle.2 (hag.imp id fun h => ⟨h.1, h.2.2⟩)
                have hrun := equalIn_run (w := w) d e hde' (o + f.offset) f.type la ba v1 v2 hla heq hp1 hp2
                simp only [ne_eq, hname, not_false_eq_true, if_true, Sem.run_bind, hr1, hr2, hrun, Result.andThen_ok]
                cases ba <;> simp
              · cases hf
    · rename_i n el hu
      have ha : isAggT P t = some true := by simp [isAggT, hu]
      unfold PartIs at hx hy
      rw [ha] at hx hy
      obtain ⟨X, rfl, hX⟩ := hx
      obtain ⟨Y, rfl, hY⟩ := hy
      split at hl
      · cases hl
      rename_i k hk
      split at hl
      · cases hl
      rename_i sz hsz
      split at hl
      · rename_i hle
        unfold Op.equalIn
        simp only [Sem.run_bind, r_und hu, Result.andThen_ok, r_sz hsz]
        rw [Std.Legacy.Range.forIn_eq_forIn_range']
        simp only [Std.Legacy.Range.size, Nat.sub_zero, Nat.add_sub_cancel, Nat.div_one]
        rw [← List.range_eq_range']
        generalize hF : Sem.run P (forIn (m := Sem) (List.range n) ((none : Option Bool), ()) _) w = F
        suffices hFF : ∃ r, F = .ok (r, ()) w ∧ ((r = none ∧ b = true) ∨ (r = some false ∧ b = false)) by
          obtain ⟨r, rfl, hh⟩ := hFF
          rcases hh with ⟨rfl, rfl⟩ | ⟨rfl, rfl⟩ <;> simp
        rw [← hF]
        refine eq_loop (xs := xs) (ys := ys) (List.range n) l b ?_ hl he
        · intro i hi acc l' hf
          have hin : i < n := List.mem_range.1 hi
          split at hf
          · cases hf
          · rename_i l0
            obtain ⟨la, hla, rfl⟩ := Option.map_eq_some_iff.1 hf
            refine ⟨la, l0, rfl, rfl, fun ba s heq => ?_⟩
            have hag := leafOffs_agg hla heq
            have hle' : i * sz + sz ≤ k := by
              have : (i + 1) * sz ≤ n * sz := Nat.mul_le_mul_right sz hin
              rw [Nat.add_mul, Nat.one_mul] at this
              have := hle.2
              omega
            obtain ⟨v1, hr1, hp1⟩ := part_run (P := P) (w := w) (hX k hk) hsz hle.1 hle' (hag.imp id fun h => ⟨h.1, h.2.1⟩)
            obtain ⟨v2, hr2, hp2⟩ := part_run (P := P) (w := w) (hY k hk) hsz hle.1 hle' (hag.imp id fun h => ⟨h.1, h.2.2⟩)
            have hrun := equalIn_run (w := w) d e hde' (o + i * sz) el la ba v1 v2 hla heq hp1 hp2
            simp only [Sem.run_bind, hr1, hr2, hrun, Result.andThen_ok]
            cases ba <;> simp
      · cases hl
    · cases hl

theorem eqA_run {P : Program} {w : World} {t : TypeId} {l : List Leaf} {c d : Array Value} {b : Bool} (ha : isAggT P t = some true) (hl : leafOffs P 64 0 t = some l)
    (he : eqL c.toList d.toList l = some b) : (Op.equal t (.agg c) (.agg d)).run P w = .ok b w := by
  unfold Op.equal
  refine equalIn_run 64 _ (by decide) 0 t l b _ _ hl he ?_ ?_
  · unfold PartIs; rw [ha]; exact ⟨c, rfl, fun _ _ j _ => by simp⟩
  · unfold PartIs; rw [ha]; exact ⟨d, rfl, fun _ _ j _ => by simp⟩

theorem eqL_VRL {μ : Mu} {xs xs' ys ys' : List Value} (hx : VRL μ xs xs') (hy : VRL μ ys ys') : ∀ (l : List Leaf) (b : Bool), eqL xs ys l = some b → eqL xs' ys' l = some b
  | [], b, h => h
  | o :: l, b, h => by
    simp only [eqL] at h ⊢
    cases h1 : xs[o.off]? with
    | none => simp [h1] at h
    | some x =>
      cases h2 : ys[o.off]? with
      | none => simp [h1, h2] at h
      | some y =>
        simp only [h1, h2] at h
        obtain ⟨x', hx', hxv⟩ := hx.get o.off h1
        obtain ⟨y', hy', hyv⟩ := hy.get o.off h2
        cases h3 : leafEq o x y with
        | none => simp [h3] at h
        | some c =>
          simp only [h3] at h
          cases h4 : eqL xs ys l with
          | none => simp [h4] at h
          | some d =>
            have hxf : flat1 x = true := by unfold leafEq at h3; split at h3 <;> first | rfl | cases h3
            have hyf : flat1 y = true := by unfold leafEq at h3; split at h3 <;> first | rfl | cases h3
            rw [hx', hy', flat1_eq hxv hxf, flat1_eq hyv hyf]
            simp only [h3, eqL_VRL hx hy l d h4]
            simpa [h4] using h

theorem bytes_run {P : Program} {w : World} : ∀ {l : List Value} {bs : List UInt8} (hl : bytesOf l = some bs) (s : ByteArray),
    (forIn (m := Sem) l s fun (c : Value) (r : ByteArray) =>
      match c with
      | .int .u8 n => pure (ForInStep.yield (r.push (UInt8.ofNat n.toNat)))
      | _ => do
        stuck "bytesToString: byte expected"
        pure (ForInStep.yield r)).run P w = .ok ⟨s.data ++ bs.toArray⟩ w
  | [], bs, hl, s => by simp [bytesOf] at hl; subst hl; simp
  | c :: l, bs, hl, s => by
    unfold bytesOf at hl
    split at hl
    · rename_i heq; cases heq
    · rename_i n r heq
      simp only [List.cons.injEq] at heq
      obtain ⟨rfl, rfl⟩ := heq
      cases hb : bytesOf l with
      | none => simp [hb] at hl
      | some bs0 =>
        simp only [hb, Option.map_some, Option.some.injEq] at hl
        subst hl
        rw [List.forIn_cons]
        simp only [Sem.run_bind, Sem.run_pure, Result.andThen_ok]
        rw [bytes_run hb]
        simp [ByteArray.push]
    · cases hl

theorem bytesOf_VRL {μ : Mu} : ∀ {l l' : List Value} {bs : List UInt8}, VRL μ l l' → bytesOf l = some bs → bytesOf l' = some bs
  | _, _, _, .nil, h => h
  | c :: l, c' :: l', bs, .cons hc t, h => by
    unfold bytesOf at h
    split at h
    · rename_i heq; cases heq
    · rename_i n r heq
      simp only [List.cons.injEq] at heq
      obtain ⟨rfl, rfl⟩ := heq
      cases hb : bytesOf l with
      | none => simp [hb] at h
      | some bs0 =>
        simp only [hb, Option.map_some, Option.some.injEq] at h
        subst h
        cases hc
        simp [bytesOf, bytesOf_VRL t hb]
    · cases h

section
variable {P : Program} {B : Nat} {w0 : World} {μ : Mu} {h : H} {w : World} {ρ ρ' : Operand → Value} {K : Value → Option Blk → Prop}

theorem p_build {t : TypeId} {parts : Array (Nat × Operand)} {aop : AOp} (hc : compBuild P t parts = some aop)
    (hρ : ∀ x ∈ parts.toList, VR μ (ρ x.2) (ρ' x.2)) (hk : nst ρ h aop K) :
    ∃ v v', K v none ∧ VR μ v v' ∧ (Instr.build t (parts.map fun (x : Nat × Operand) => (x.1, ρ' x.2))).run P w = .ok v' w := by
  unfold compBuild at hc
  split at hc
  · cases hc
  · rename_i z hz
    obtain ⟨zv, hzr, hzc, hzf⟩ := r_zero hz
    split at hc
    · rename_i fs hu
      split at hc
      · rename_i ps hm
        split at hc
        · rename_i hsz
          cases hs : mkSegs z 0 ps with
          | none => simp [hs] at hc
          | some sg =>
            simp only [hs, Option.map_some, Option.some.injEq] at hc
            subst hc
            obtain ⟨vs, hv, hk⟩ := hk
            -- the places of the fields
            have hpl : ∃ places : Array (Nat × Nat), (fs.mapM fun (f : Field) => do pure (f.offset, ← sizeOf f.type) : Sem (Array (Nat × Nat))).run P w = .ok places w ∧
                ∀ (i : Nat), places[i]? = (fs[i]?).bind fun (f : Field) => (szT P f.type).map fun sz => (f.offset, sz) := by
              have gen : ∀ (l : List Field), (∀ f ∈ l, (szT P f.type).isSome = true) → ∃ pl : List (Nat × Nat), (l.mapM fun (f : Field) => do pure (f.offset, ← sizeOf f.type) : Sem (List (Nat × Nat))).run P w = .ok pl w ∧
                  ∀ (i : Nat), pl[i]? = (l[i]?).bind fun (f : Field) => (szT P f.type).map fun sz => (f.offset, sz) := by
                intro l
                induction l with
                | nil => intro _; exact ⟨[], by simp, by simp⟩
                | cons f l ih =>
                  intro hall
                  obtain ⟨pl, hr, hi⟩ := ih (fun g hg => hall g (by simp [hg]))
                  obtain ⟨sz, hsz⟩ := Option.isSome_iff_exists.1 (hall f (by simp))
                  refine ⟨(f.offset, sz) :: pl, ?_, ?_⟩
                  · rw [List.mapM_cons]
                    simp only [Sem.run_bind, r_sz hsz, Result.andThen_ok, Sem.run_pure, hr]
                  · intro i
                    cases i with
                    | zero => simp [hsz]
                    | succ i => simpa using hi i
              obtain ⟨pl, hr, hi⟩ := gen fs.toList (fun f hf => List.all_eq_true.1 hsz f hf)
              refine ⟨pl.toArray, ?_, by simpa using hi⟩
              rw [Array.mapM_eq_mapM_toList, Sem.run_map, hr]
              rfl
            obtain ⟨places, hpr, hpi⟩ := hpl
            have hm' : parts.toList.mapM (fun x => (places[x.1]?).map fun p => (p.1, p.2, x.2)) = some ps := by
              rw [← hm]
              congr 1
              funext x
              rw [hpi]
            obtain ⟨Z', hf, hr1, hr2⟩ := fill_segs (μ := μ) (ρ := ρ) (ρ' := ρ') (places[·]?) z hzf parts.toList ps hm' hρ [] [] sg vs zv.cells (by simpa using hs) hv (by simp) .nil (by simp) (by simp [hzc])
            refine ⟨_, .agg Z', hk, .agg (by simpa using hr1) (by simpa using hr2), ?_⟩
            simp only [Instr.build, Sem.run_bind, hzr, Result.andThen_ok, r_und hu, hpr, Array.toList_map]
            rw [hf]
            simp
        · cases hc
      · cases hc
    · rename_i n e hu
      split at hc
      · rename_i sz hsz
        cases hs : mkSegs z 0 (parts.toList.map fun x => (x.1 * sz, sz, x.2)) with
        | none => simp [hs] at hc
        | some sg =>
          simp only [hs, Option.map_some, Option.some.injEq] at hc
          subst hc
          obtain ⟨vs, hv, hk⟩ := hk
          have hm' : parts.toList.mapM (fun x => ((fun i => some (i * sz, sz)) x.1 : Option (Nat × Nat)).map fun p => (p.1, p.2, x.2)) = some (parts.toList.map fun x => (x.1 * sz, sz, x.2)) := by
            generalize parts.toList = l
            induction l with
            | nil => rfl
            | cons a l ih =>
              simp only [Option.map_some] at ih
              simp [List.mapM_cons, ih]
          obtain ⟨Z', hf, hr1, hr2⟩ := fill_segs (μ := μ) (ρ := ρ) (ρ' := ρ') (fun i => some (i * sz, sz)) z hzf parts.toList _ hm' hρ [] [] sg vs zv.cells (by simpa using hs) hv (by simp) .nil (by simp) (by simp [hzc])
          refine ⟨_, .agg Z', hk, .agg (by simpa using hr1) (by simpa using hr2), ?_⟩
          simp only [Instr.build, Sem.run_bind, hzr, Result.andThen_ok, r_und hu, r_sz hsz, Array.toList_map]
          rw [hf]
          simp
      · cases hc
    · cases hc


theorem p_conv {a d : TypeId} {x : Operand} {aop : AOp} (hc : compConv P a d x = some aop) (ha : aop.alc = false) (R : Rel P B w0 μ h w)
    (hρ : VR μ (ρ x) (ρ' x)) (hk : nst ρ h aop K) : ∃ v v', K v none ∧ VR μ v v' ∧ (convert a d (ρ' x)).run P w = .ok v' w := by
  unfold compConv at hc
  split at hc
  · rename_i k0 hs
    split at hc
    · rename_i k hd
      simp only [Option.some.injEq] at hc
      subst hc
      simp only [nst] at hk
      split at hk
      · rename_i k1 n hx
        rw [hx] at hρ
        have hk := ar_inv hk
        refine ⟨_, _, hk, .int _ _, ?_⟩
        rw [flat1_eq hρ rfl]
        simp [convert, r_und hs, r_und hd, Conv.intToInt]
      · exact hk.elim
    · cases hc
  · rename_i e hs
    split at hc
    · rename_i hd
      split at hc
      · rename_i hu8
        simp only [Option.some.injEq] at hc
        subst hc
        have hu8c := hu8
        simp only [isU8, Bool.and_eq_true] at hu8
        replace hu8 := hu8.1
        split at hu8
        · rename_i hue
          simp only [nst] at hk
          split at hk
          · rename_i n c hx
            rw [hx] at hρ
            cases hρ' : ρ' x <;> rw [hρ'] at hρ <;> cases hρ
            exact ⟨_, _, hk, .string _, by simp [convert, r_und hs, r_und hd, r_und hue, Conv.bytesToString]⟩
          · rename_i i o n c hx
            rw [hx] at hρ
            obtain ⟨vs, hv, l, hl, hk⟩ := hk
            cases hρ' : ρ' x <;> rw [hρ'] at hρ <;> cases hρ
            obtain ⟨vs', hvr, h1, hlen, hrun⟩ := R.loadCells (P := P) (by assumption) hv
            refine ⟨_, _, hk, .string _, ?_⟩
            have hb := bytes_run (P := P) (w := w) (bytesOf_VRL hvr hl) ByteArray.empty
            simp only [convert, Sem.run_bind, r_und hs, r_und hd, r_und hue, Result.andThen_ok, Conv.bytesToString, hrun]
            rw [List.forIn_toArray]
            refine (congrArg (fun r : Result ByteArray => r.andThen fun a w' => Sem.run P (pure (Value.string a)) w') hb).trans ?_
            simp
          · exact hk.elim
        · cases hu8
      · cases hc
    · cases hc
  · rename_i hs
    split at hc
    · split at hc
      · simp only [Option.some.injEq] at hc; subst hc; simp [AOp.alc] at ha
      · cases hc
    · cases hc
  · cases hc


theorem eq_bool {P : Program} {w : World} {t : TypeId} (hu : P.underlying t = some .bool) (a b : Bool) : (Op.equal t (.bool a) (.bool b)).run P w = .ok (a == b) w := by
  have gen : ∀ d, (Op.equalIn (d + 1) t (.bool a) (.bool b)).run P w = .ok (a == b) w := by
    intro d
    simp only [Op.equalIn, Sem.run_bind, r_und hu, Result.andThen_ok, Sem.run_pure]
  exact gen 9999

theorem eq_nil {P : Program} {w : World} {t : TypeId} {k : NK} {x y : Value} {b : Bool} (hb : nilEq k x y = some b)
    (hp : k = .p → ∃ e, P.underlying t = some (.pointer e)) (hs : k = .s → ∃ e, P.underlying t = some (.slice e))
    (hm : k = .m → ∃ a e, P.underlying t = some (.map a e)) (hf : k = .f → ∃ a c d, P.underlying t = some (.func a c d)) : (Op.equal t x y).run P w = .ok b w := by
  have gen : ∀ d, (Op.equalIn (d + 1) t x y).run P w = .ok b w := by
    intro d
    unfold nilEq at hb
    split at hb
    · obtain ⟨e, hu⟩ := hp rfl
      rename_i a
      cases a <;> simp only [Option.some.injEq] at hb <;> subst hb <;> simp [Op.equalIn, r_und hu]
    · obtain ⟨e, hu⟩ := hp rfl
      simp only [Option.some.injEq] at hb; subst hb; simp [Op.equalIn, r_und hu]
    · obtain ⟨e, hu⟩ := hs rfl
      rename_i a _ _ _ _
      cases a <;> simp only [Option.some.injEq] at hb <;> subst hb <;> simp [Op.equalIn, r_und hu]
    · obtain ⟨e, hu⟩ := hs rfl
      simp only [Option.some.injEq] at hb; subst hb; simp [Op.equalIn, r_und hu]
    · obtain ⟨kk, e, hu⟩ := hm rfl
      rename_i a
      cases a <;> simp only [Option.some.injEq] at hb <;> subst hb <;> simp [Op.equalIn, r_und hu]
    · obtain ⟨kk, e, hu⟩ := hm rfl
      simp only [Option.some.injEq] at hb; subst hb; simp [Op.equalIn, r_und hu]
    · obtain ⟨_, _, _, hu⟩ := hf rfl
      simp only [Option.some.injEq] at hb; subst hb; simp [Op.equalIn, r_und hu]
    · obtain ⟨_, _, _, hu⟩ := hf rfl
      simp only [Option.some.injEq] at hb; subst hb; simp [Op.equalIn, r_und hu]
    · obtain ⟨_, _, _, hu⟩ := hf rfl
      simp only [Option.some.injEq] at hb; subst hb; simp [Op.equalIn, r_und hu]
    · cases hb
  exact gen 9999

theorem nilEq_VR {μ : Mu} {k : NK} {x y x' y' : Value} {b : Bool} (hx : VR μ x x') (hy : VR μ y y') (hb : nilEq k x y = some b) : nilEq k x' y' = some b := by
  cases hx <;> cases hy <;> cases k <;> first | (simp [nilEq] at hb; done) | (simpa [nilEq] using hb)

/-- An equality goes by Op.equal. -/
theorem bin_eq {P : Program} {w : World} {t : TypeId} {x y : Operand} {a b : Value} {r : Bool} (neg : Bool) (hr : (Op.equal t a b).run P w = .ok r w)
    (hg : (eqGuard (if neg then .neq else .eql) t x y a b).run P w = .ok () w)
    (hna : (∀ k n, a ≠ .int k n) ∧ (∀ k n, a ≠ .float k n) ∧ (∀ k n m, a ≠ .complex k n m) ∧ (∀ s, a ≠ .string s)) :
    (do eqGuard (if neg then .neq else .eql) t x y a b; binOp (if neg then .neq else .eql) t a b : Sem Value).run P w = .ok (.bool (r != neg)) w := by
  rw [Sem.run_bind, hg, Result.andThen_ok]
  obtain ⟨h1, h2, h3, h4⟩ := hna
  cases neg
  · have : binOp (if (false : Bool) = true then .neq else .eql) t a b = (do pure (.bool (← Op.equal t a b)) : Sem Value) := by
      cases a <;> first | rfl | (exact absurd rfl (h1 _ _)) | (exact absurd rfl (h2 _ _)) | (exact absurd rfl (h3 _ _ _)) | (exact absurd rfl (h4 _)) 
    rw [this, Sem.run_bind, hr]
    simp
  · have : binOp (if (true : Bool) = true then .neq else .eql) t a b = (do pure (.bool (!(← Op.equal t a b))) : Sem Value) := by
      cases a <;> first | rfl | (exact absurd rfl (h1 _ _)) | (exact absurd rfl (h2 _ _)) | (exact absurd rfl (h3 _ _ _)) | (exact absurd rfl (h4 _))
    rw [this, Sem.run_bind, hr]
    simp

theorem p_bin {op : BinOp} {t : TypeId} {x y : Operand} {aop : AOp} (hc : compBin P op t x y = some aop)
    (hx : VR μ (ρ x) (ρ' x)) (hy : VR μ (ρ y) (ρ' y)) (hk : nst ρ h aop K) :
    ∃ v v', K v none ∧ VR μ v v' ∧ (do eqGuard op t x y (ρ' x) (ρ' y); binOp op t (ρ' x) (ρ' y) : Sem Value).run P w = .ok v' w := by
  have hint : aop = .bin op x y → ∃ v v', K v none ∧ VR μ v v' ∧ (do eqGuard op t x y (ρ' x) (ρ' y); binOp op t (ρ' x) (ρ' y) : Sem Value).run P w = .ok v' w := by
    intro he
    subst he
    obtain ⟨v, hv, hr, hf, hfa, hfb⟩ := bin_run P w (K := fun v => K v none) t x y hk
    rw [flat1_eq hx hfa, flat1_eq hy hfb]
    exact ⟨v, v, hv, flat1_VR μ hf, hr⟩
  have heqn : ∀ (k : NK) (hp : k = .p → ∃ e, P.underlying t = some (.pointer e)) (hs : k = .s → ∃ e, P.underlying t = some (.slice e))
      (hm : k = .m → ∃ a e, P.underlying t = some (.map a e)) (hf : k = .f → ∃ a c d, P.underlying t = some (.func a c d)),
      compEqN k op x y = some aop → ∃ v v', K v none ∧ VR μ v v' ∧ (do eqGuard op t x y (ρ' x) (ρ' y); binOp op t (ρ' x) (ρ' y) : Sem Value).run P w = .ok v' w := by
    intro k hp hs hm hf hc
    have main : ∀ neg, op = (if neg then .neq else .eql) → aop = .eqN k neg x y → ∃ v v', K v none ∧ VR μ v v' ∧ (do eqGuard op t x y (ρ' x) (ρ' y); binOp op t (ρ' x) (ρ' y) : Sem Value).run P w = .ok v' w := by
      intro neg ho he
      subst he
      obtain ⟨b, hb, hk⟩ := hk
      have hb' := nilEq_VR hx hy hb
      refine ⟨_, _, hk, .bool _, ?_⟩
      rw [ho]
      refine bin_eq neg (eq_nil hb' hp hs hm hf) ?_ ?_
      · unfold nilEq at hb'
        split at hb' <;> cases neg <;> first | (cases hb'; done) | simp_all [eqGuard]
      · unfold nilEq at hb'
        split at hb' <;> first | (cases hb'; done) | simp_all
    unfold compEqN at hc
    split at hc
    · simp only [Option.some.injEq] at hc; exact main false rfl hc.symm
    · simp only [Option.some.injEq] at hc; exact main true rfl hc.symm
    · cases hc
  have heqa : ((∃ fs, P.underlying t = some (.struct fs)) ∨ (∃ n e, P.underlying t = some (.array n e))) → compEqA P op t x y = some aop →
      ∃ v v', K v none ∧ VR μ v v' ∧ (do eqGuard op t x y (ρ' x) (ρ' y); binOp op t (ρ' x) (ρ' y) : Sem Value).run P w = .ok v' w := by
    intro hu hc
    unfold compEqA at hc
    split at hc
    · cases hc
    · rename_i hgd
      split at hc
      · cases hc
      · rename_i l hl
        have hag : isAggT P t = some true := by
          rcases hu with ⟨fs, hu⟩ | ⟨n, e, hu⟩ <;> simp [isAggT, hu]
        have main : ∀ neg, op = (if neg then .neq else .eql) → aop = .eqA l neg x y → ∃ v v', K v none ∧ VR μ v v' ∧ (do eqGuard op t x y (ρ' x) (ρ' y); binOp op t (ρ' x) (ρ' y) : Sem Value).run P w = .ok v' w := by
          intro neg ho he
          subst he
          simp only [nst] at hk
          split at hk
          · rename_i xs ys hxs hys
            rw [hxs] at hx
            rw [hys] at hy
            obtain ⟨b, hb, hk⟩ := hk
            cases hx' : ρ' x <;> rw [hx'] at hx <;> cases hx
            cases hy' : ρ' y <;> rw [hy'] at hy <;> cases hy
            rename_i c hc1 hc2 d hd1 hd2
            refine ⟨_, _, hk, .bool _, ?_⟩
            rw [ho]
            refine bin_eq neg (eqA_run hag hl (eqL_VRL hc2 hd2 l b hb)) ?_ ?_
            · cases neg <;> simp [eqGuard, hgd]
            · simp
          · exact hk.elim
        split at hc
        · simp only [Option.some.injEq] at hc; exact main false rfl hc.symm
        · simp only [Option.some.injEq] at hc; exact main true rfl hc.symm
        · cases hc
  unfold compBin at hc
  split at hc
  · simp only [Option.some.injEq] at hc; exact hint hc.symm
  · simp only [Option.some.injEq] at hc; exact hint hc.symm
  · rename_i hu
    have main : ∀ neg, op = (if neg then .neq else .eql) → aop = .eqB neg x y → ∃ v v', K v none ∧ VR μ v v' ∧ (do eqGuard op t x y (ρ' x) (ρ' y); binOp op t (ρ' x) (ρ' y) : Sem Value).run P w = .ok v' w := by
      intro neg ho he
      subst he
      simp only [nst] at hk
      split at hk
      · rename_i a b ha hb
        rw [ha] at hx
        rw [hb] at hy
        rw [flat1_eq hx rfl, flat1_eq hy rfl]
        refine ⟨_, _, hk, .bool _, ?_⟩
        rw [ho]
        refine bin_eq neg (eq_bool hu a b) ?_ (by simp)
        cases neg <;> simp [eqGuard]
      · exact hk.elim
    unfold compEqB at hc
    split at hc
    · simp only [Option.some.injEq] at hc; exact main false rfl hc.symm
    · simp only [Option.some.injEq] at hc; exact main true rfl hc.symm
    · cases hc
  · rename_i e hu; exact heqn .p (fun _ => ⟨e, hu⟩) (fun h => by cases h) (fun h => by cases h) (fun h => by cases h) hc
  · rename_i e hu; exact heqn .s (fun h => by cases h) (fun _ => ⟨e, hu⟩) (fun h => by cases h) (fun h => by cases h) hc
  · rename_i k e hu; exact heqn .m (fun h => by cases h) (fun h => by cases h) (fun _ => ⟨k, e, hu⟩) (fun h => by cases h) hc
  · rename_i a b c hu; exact heqn .f (fun h => by cases h) (fun h => by cases h) (fun h => by cases h) (fun _ => ⟨a, b, c, hu⟩) hc
  · rename_i fs hu; exact heqa (.inl ⟨fs, hu⟩) hc
  · rename_i n e hu; exact heqa (.inr ⟨n, e, hu⟩) hc
  · cases hc

end
end Go.Proofs.YtemgddekbdifeaaGreat.Am
