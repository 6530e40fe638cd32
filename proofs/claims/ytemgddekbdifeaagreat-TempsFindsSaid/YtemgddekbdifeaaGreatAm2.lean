/- What reads or reckons, all of it; what makes a block. -/
import Derived.Test.YtemgddekbdifeaaGreatAm1
set_option linter.unusedVariables false
set_option linter.unusedSimpArgs false
namespace Go.Proofs.YtemgddekbdifeaaGreat.Am
open Go.RowKit

section
variable {P : Program} {B : Nat} {w0 : World} {μ : Mu} {h : H} {w : World} {ρ ρ' : Operand → Value} {K : Value → Option Blk → Prop}

theorem p_load {t : TypeId} {x : Operand} {aop : AOp} (hc : compLoad P t x = some aop) (R : Rel P B w0 μ h w)
    (hx : VR μ (ρ x) (ρ' x)) (hk : nst ρ h aop K) : ∃ v v', K v none ∧ VR μ v v' ∧ (Instr.loadAt t (ρ' x)).run P w = .ok v' w := by
  unfold compLoad at hc
  split at hc
  · rename_i hag
    cases hsz : szT P t with
    | none => simp [hsz] at hc
    | some n =>
      simp only [hsz, Option.map_some, Option.some.injEq] at hc
      subst hc
      simp only [nst] at hk
      split at hk
      · rename_i i o hxx
        rw [hxx] at hx
        obtain ⟨vs, hv, hk⟩ := hk
        cases hx' : ρ' x <;> rw [hx'] at hx <;> cases hx
        obtain ⟨vs', hvr, h1, hlen, hrun⟩ := R.loadCells (P := P) (by assumption) hv
        refine ⟨_, .agg vs'.toArray, hk, .agg (by simpa using hvr) (by simpa using h1), ?_⟩
        simp [Instr.loadAt, Instr.sureAddr, loadVar, r_agg hag, r_sz hsz, hrun]
      · exact hk.elim
  · rename_i hag
    simp only [Option.some.injEq] at hc
    subst hc
    simp only [nst] at hk
    split at hk
    · rename_i i o hxx
      rw [hxx] at hx
      obtain ⟨v, hv, hk⟩ := hk
      cases hx' : ρ' x <;> rw [hx'] at hx <;> cases hx
      obtain ⟨v', hw, hvr, h1⟩ := R.cell (by assumption) hv
      refine ⟨_, v', hk, hvr, ?_⟩
      simp [Instr.loadAt, Instr.sureAddr, loadVar, r_agg hag, hw]
    · exact hk.elim
  · cases hc

theorem p_fad {s : TypeId} {x : Operand} {f : Nat} {aop : AOp} (hc : compFad P s x f = some aop)
    (hx : VR μ (ρ x) (ρ' x)) (hk : nst ρ h aop K) : ∃ v v', K v none ∧ VR μ v v' ∧ (Instr.fieldAt s (ρ' x) f).run P w = .ok v' w := by
  unfold compFad at hc
  split at hc
  · rename_i fs hu
    split at hc
    · rename_i fd hfd
      split at hc
      · rename_i sz hsz
        split at hc
        · cases hc
        · rename_i hz
          simp only [Option.some.injEq] at hc
          subst hc
          simp only [nst] at hk
          split at hk
          · rename_i i o hxx
            rw [hxx] at hx
            cases hx' : ρ' x <;> rw [hx'] at hx <;> cases hx
            refine ⟨_, _, hk, .ptr (by assumption), ?_⟩
            simp [Instr.fieldAt, r_und hu, hfd, Instr.sureAddr, fieldPlace, r_sz hsz, hz, add_at, Nat.add_assoc]
          · exact hk.elim
      · cases hc
    · cases hc
  · cases hc

theorem p_fld {s : TypeId} {x : Operand} {f : Nat} {aop : AOp} (hc : compFld P s x f = some aop)
    (hx : VR μ (ρ x) (ρ' x)) (hk : nst ρ h aop K) : ∃ v v', K v none ∧ VR μ v v' ∧ (Instr.field s (ρ' x) f).run P w = .ok v' w := by
  unfold compFld at hc
  split at hc
  · rename_i fs hu
    split at hc
    · rename_i fd hfd
      split at hc
      · rename_i hag
        cases hsz : szT P fd.type with
        | none => simp [hsz] at hc
        | some n =>
          simp only [hsz, Option.map_some, Option.some.injEq] at hc
          subst hc
          simp only [nst] at hk
          split at hk
          · rename_i cs hxx
            rw [hxx] at hx
            cases hx' : ρ' x <;> rw [hx'] at hx <;> cases hx
            rename_i c' h1 hv
            refine ⟨_, _, hk, .agg (c' := ((c'.toList.drop fd.offset).take n).toArray) (by simpa using (hv.drop _).take _) (fun v hv => h1 v (List.mem_of_mem_drop (List.mem_of_mem_take (by simpa using hv)))), ?_⟩
            simp [Instr.field, r_und hu, hfd, part, r_agg hag, r_sz hsz, asAgg]
            apply Array.ext'
            rw [Array.toList_extract]
            simp [List.extract, Nat.add_sub_cancel_left]
          · exact hk.elim
      · rename_i hag
        simp only [Option.some.injEq] at hc
        subst hc
        simp only [nst] at hk
        split at hk
        · rename_i cs hxx
          rw [hxx] at hx
          obtain ⟨v, hv, hk⟩ := hk
          cases hx' : ρ' x <;> rw [hx'] at hx <;> cases hx
          rename_i c' h1 hv2
          obtain ⟨v', hv', hvr⟩ := hv2.get _ hv
          refine ⟨_, v', hk, hvr, ?_⟩
          have : c'[fd.offset]? = some v' := by simpa using hv'
          simp [Instr.field, r_und hu, hfd, part, r_agg hag, asAgg, this]
        · exact hk.elim
      · cases hc
    · cases hc
  · cases hc

theorem p_iad {t : TypeId} {x ix : Operand} {aop : AOp} (hc : compIad P t x ix = some aop)
    (hx : VR μ (ρ x) (ρ' x)) (hi : VR μ (ρ ix) (ρ' ix)) (hk : nst ρ h aop K) : ∃ v v', K v none ∧ VR μ v v' ∧ (Instr.indexAt t (ρ' x) (ρ' ix)).run P w = .ok v' w := by
  unfold compIad at hc
  split at hc
  · rename_i n e hu
    cases hsz : szT P e with
    | none => simp [hsz] at hc
    | some sz =>
      simp only [hsz, Option.map_some, Option.some.injEq] at hc
      subst hc
      simp only [nst] at hk
      split at hk
      · rename_i i o k m hxx hii
        rw [hxx] at hx
        rw [hii] at hi
        obtain ⟨hb, hk⟩ := hk
        cases hx' : ρ' x <;> rw [hx'] at hx <;> cases hx
        refine ⟨_, _, hk, .ptr (by assumption), ?_⟩
        rw [flat1_eq hi rfl]
        simp [Instr.indexAt, asIntOf, r_und hu, Instr.sureAddr, hb, r_sz hsz, add_at, Nat.add_assoc]
      · exact hk.elim
  · rename_i e hu
    cases hsz : szT P e with
    | none => simp [hsz] at hc
    | some sz =>
      simp only [hsz, Option.map_some, Option.some.injEq] at hc
      subst hc
      simp only [nst] at hk
      split at hk
      · rename_i i o n c k m hxx hii
        rw [hxx] at hx
        rw [hii] at hi
        obtain ⟨hb, hk⟩ := hk
        cases hx' : ρ' x <;> rw [hx'] at hx <;> cases hx
        refine ⟨_, _, hk, .ptr (by assumption), ?_⟩
        rw [flat1_eq hi rfl]
        simp [Instr.indexAt, asIntOf, r_und hu, Instr.sureAddr, hb, r_sz hsz, add_at, Nat.add_assoc]
      · exact hk.elim
  · cases hc

theorem p_ix {t : TypeId} {x ix : Operand} {aop : AOp} (hc : compIx P t x ix = some aop)
    (hx : VR μ (ρ x) (ρ' x)) (hi : VR μ (ρ ix) (ρ' ix)) (hk : nst ρ h aop K) : ∃ v v', K v none ∧ VR μ v v' ∧ (Instr.index t (ρ' x) (ρ' ix)).run P w = .ok v' w := by
  unfold compIx at hc
  split at hc
  · rename_i hu
    simp only [Option.some.injEq] at hc
    subst hc
    simp only [nst] at hk
    split at hk
    · rename_i s k n hxx hii
      rw [hxx] at hx
      rw [hii] at hi
      obtain ⟨hb, hk⟩ := hk
      rw [flat1_eq hx rfl, flat1_eq hi rfl]
      have hlt : n.toNat < s.data.size := by have : s.size = s.data.size := rfl; omega
      refine ⟨_, _, hk, .int _ _, ?_⟩
      have hget : s[n.toNat]? = some (s.data[n.toNat]'hlt) := by
        rw [getElem?_pos s n.toNat hlt]
        rfl
      simp [Instr.index, asIntOf, r_und hu, hb.1, hget, byteAt, Array.getElem?_eq_getElem hlt]
    · exact hk.elim
  · rename_i n e hu
    split at hc
    · rename_i hag
      cases hsz : szT P e with
      | none => simp [hsz] at hc
      | some sz =>
        simp only [hsz, Option.map_some, Option.some.injEq] at hc
        subst hc
        simp only [nst] at hk
        split at hk
        · rename_i cs k m hxx hii
          rw [hxx] at hx
          rw [hii] at hi
          obtain ⟨hb, hk⟩ := hk
          rw [flat1_eq hi rfl]
          cases hx' : ρ' x <;> rw [hx'] at hx <;> cases hx
          rename_i c' h1 hv
          refine ⟨_, _, hk, .agg (c' := ((c'.toList.drop (m.toNat * sz)).take sz).toArray) (by simpa using (hv.drop _).take _) (fun v hv => h1 v (List.mem_of_mem_drop (List.mem_of_mem_take (by simpa using hv)))), ?_⟩
          simp [Instr.index, asIntOf, r_und hu, part, r_agg hag, r_sz hsz, hb]
          apply Array.ext'
          rw [Array.toList_extract]
          simp [List.extract, Nat.add_sub_cancel_left]
        · exact hk.elim
    · rename_i hag
      cases hsz : szT P e with
      | none => simp [hsz] at hc
      | some sz =>
        simp only [hsz, Option.map_some, Option.some.injEq] at hc
        subst hc
        simp only [nst] at hk
        split at hk
        · rename_i cs k m hxx hii
          rw [hxx] at hx
          rw [hii] at hi
          obtain ⟨hb, v, hv, hk⟩ := hk
          rw [flat1_eq hi rfl]
          cases hx' : ρ' x <;> rw [hx'] at hx <;> cases hx
          rename_i c' h1 hv2
          obtain ⟨v', hv', hvr⟩ := hv2.get _ hv
          refine ⟨_, v', hk, hvr, ?_⟩
          have : c'[m.toNat * sz]? = some v' := by simpa using hv'
          simp [Instr.index, asIntOf, r_und hu, part, r_agg hag, r_sz hsz, hb, this]
        · exact hk.elim
    · cases hc
  · cases hc

end
end Go.Proofs.YtemgddekbdifeaaGreat.Am

namespace Go.Proofs.YtemgddekbdifeaaGreat.Am
open Go.RowKit

section
variable {P : Program} {B : Nat} {w0 : World} {μ : Mu} {h : H} {w : World} {ρ ρ' : Operand → Value} {K : Value → Option Blk → Prop}

/-- An array's address, cut. -/
theorem p_slA {n sz : Nat} {x : Operand} {lo hi : Option Operand} (R : Rel P B w0 μ h w)
    (hx : VR μ (ρ x) (ρ' x)) (hlo : ∀ y, lo = some y → VR μ (ρ y) (ρ' y)) (hhi : ∀ y, hi = some y → VR μ (ρ y) (ρ' y)) (hk : nst ρ h (.slA n sz x lo hi) K) :
    ∃ a, ρ' x = .pointer (some a) ∧ ∃ l u v, (Instr.sliceBounds false n n (lo.map ρ') (hi.map ρ') none).run P w = .ok (l, u, n) w ∧ K v none ∧
      VR μ v (.slice (some (if n = l then a else a.add (l * sz))) (u - l) (n - l)) := by
  simp only [nst] at hk
  split at hk
  · rename_i i o hxx
    rw [hxx] at hx
    cases hx' : ρ' x <;> rw [hx'] at hx <;> cases hx
    rename_i e he
    obtain ⟨l, u, hk, hr, hl0, hlu, hu1, hu2⟩ := bnd_run (P := P) (w := w) false hk n (Nat.le_refl _) hlo hhi
    have hun : u ≤ n := by cases hi with
      | none => rw [hu1 rfl]; exact Nat.le_refl _
      | some y => exact hu2 (by simp)
    have hcl : ∀ j, closedAt h j → ∀ e, μ j = some e → e.opn = false := by
      intro j ⟨cs, t, own, hg⟩ e he
      exact (R.blk j e cs t own false he hg).1
    refine ⟨_, rfl, l, u, ?_⟩
    cases lo with
    | none =>
      have := hl0 rfl
      subst this
      simp only at hk
      refine ⟨_, hr, hk.2, ?_⟩
      have hz : (if n = 0 then (⟨e.b, e.o + o, none⟩ : Addr) else (⟨e.b, e.o + o, none⟩ : Addr).add (0 * sz)) = ⟨e.b, e.o + o, none⟩ := by split <;> simp [add_at]
      rw [hz]
      exact .sl he (by omega) (Nat.le_refl _) (fun _ => rfl) (fun hh => by rw [hcl i hk.1 e he] at hh; cases hh)
    | some y =>
      simp only at hk
      obtain ⟨hc, hk1, hk2⟩ := hk
      by_cases hln : l < n
      · refine ⟨_, hr, hk1 hln, ?_⟩
        rw [if_neg (by omega), add_at, Nat.add_assoc]
        exact .sl he (by omega) (Nat.le_refl _) (fun _ => rfl) (fun hh => by rw [hcl i hc e he] at hh; cases hh)
      · refine ⟨_, hr, hk2 (by omega), ?_⟩
        rw [if_pos (by omega)]
        exact .sl he (by omega) (Nat.le_refl _) (fun _ => rfl) (fun hh => by rw [hcl i hc e he] at hh; cases hh)
  · exact hk.elim

theorem p_slL {t e : TypeId} {sz : Nat} (hu : P.underlying t = some (.slice e)) (hsz : szT P e = some sz) {x : Operand} {lo hi : Option Operand} (R : Rel P B w0 μ h w)
    (hx : VR μ (ρ x) (ρ' x)) (hlo : ∀ y, lo = some y → VR μ (ρ y) (ρ' y)) (hhi : ∀ y, hi = some y → VR μ (ρ y) (ρ' y)) (hk : nst ρ h (.slL e sz x lo hi) K) :
    ∃ v v', K v none ∧ VR μ v v' ∧ (Instr.sliceAt t (ρ' x) (lo.map ρ') (hi.map ρ') none).run P w = .ok v' w := by
  simp only [nst] at hk
  split at hk
  · rename_i hxx
    rw [hxx] at hx
    cases hx' : ρ' x <;> rw [hx'] at hx <;> cases hx
    obtain ⟨l, u, hk, hr, hl0, hlu, hu1, hu2⟩ := bnd_run (P := P) (w := w) true hk 0 (Nat.le_refl _) hlo hhi
    have hu0 : u = 0 := by cases hi with
      | none => exact hu1 rfl
      | some y => have := hu2 (by simp); omega
    refine ⟨_, _, hk, .sl0, ?_⟩
    simp [Instr.sliceAt, Instr.slice, r_und hu, r_sz hsz, hr, hu0]
  · rename_i i o n c hxx
    rw [hxx] at hx
    cases hx' : ρ' x <;> rw [hx'] at hx <;> cases hx
    rename_i c' e' he hn hE hcc hxo
    obtain ⟨l, u, hk, hr, hl0, hlu, hu1, hu2⟩ := bnd_run (P := P) (w := w) true hk c' hcc hlo hhi
    have huc : u ≤ c := by cases hi with
      | none => rw [hu1 rfl]; exact hn
      | some y => exact hu2 (by simp)
    have hrun : (Instr.sliceAt t (.slice (some ⟨e'.b, e'.o + o, none⟩) n c') (lo.map ρ') (hi.map ρ') none).run P w =
        .ok (.slice (some (if c' = l then ⟨e'.b, e'.o + o, none⟩ else (⟨e'.b, e'.o + o, none⟩ : Addr).add (l * sz))) (u - l) (c' - l)) w := by
      simp [Instr.sliceAt, Instr.slice, r_und hu, r_sz hsz, hr]
      split <;> simp
    have hcl : closedAt h i → e'.opn = false := by
      intro ⟨cs, t, own, hg⟩
      exact (R.blk i e' cs t own false he hg).1
    cases lo with
    | none =>
      have := hl0 rfl
      subst this
      simp only at hk
      refine ⟨_, _, hk, ?_, hrun⟩
      have hz : (if c' = 0 then (⟨e'.b, e'.o + o, none⟩ : Addr) else (⟨e'.b, e'.o + o, none⟩ : Addr).add (0 * sz)) = ⟨e'.b, e'.o + o, none⟩ := by split <;> simp [add_at]
      rw [hz]
      exact .sl he huc hcc hxo hE
    | some y =>
      simp only at hk
      obtain ⟨hk1, hk2⟩ := hk
      by_cases hlc : l < c
      · obtain ⟨hor, hk1⟩ := hk1 hlc
        refine ⟨_, _, hk1, ?_, hrun⟩
        rw [if_neg (by omega), add_at, Nat.add_assoc]
        refine .sl he (by omega) (by omega) (fun hh => by rw [hxo hh]) (fun hh => ?_)
        have := hE hh
        have h3 : c' * e'.sz = l * e'.sz + (c' - l) * e'.sz := by rw [← Nat.add_mul]; congr 1; omega
        rcases hor with h0 | ⟨cs, t', own, op, hg, ht⟩
        · subst h0
          simp at h3 ⊢
          omega
        · have hb := R.blk i e' cs t' own op he hg
          have hop : op = true := by rw [← hb.1]; exact hh
          have ht := ht hop
          subst ht
          obtain ⟨_, _, hb1 | ⟨cs', fr, _, _, _, _, hs, _⟩⟩ := hb
          · rw [hb1.2.2] at hop; cases hop
          · have := hs hop
            rw [hsz] at this
            simp only [Option.some.injEq] at this
            subst this
            omega
      · obtain ⟨hor, hk2⟩ := hk2 (by omega)
        have hlc' : l = c := by omega
        refine ⟨_, _, hk2, ?_, hrun⟩
        rcases hor with h0 | hcl'
        · subst h0
          have hz : (if c' = 0 then (⟨e'.b, e'.o + o, none⟩ : Addr) else (⟨e'.b, e'.o + o, none⟩ : Addr).add (0 * sz)) = ⟨e'.b, e'.o + o, none⟩ := by split <;> simp [add_at]
          rw [hz]
          exact .sl he (by omega) (by omega) (fun hh => by rw [hxo hh]) (by simpa using hE)
        · have := hxo (hcl hcl')
          rw [if_pos (by omega)]
          exact .sl he (by omega) (by omega) (fun hh => by omega) (fun hh => by rw [hcl hcl'] at hh; cases hh)
  · exact hk.elim
end
end Go.Proofs.YtemgddekbdifeaaGreat.Am

namespace Go.Proofs.YtemgddekbdifeaaGreat.Am
open Go.RowKit

section
variable {P : Program} {B : Nat} {w0 : World} {μ : Mu} {h : H} {w : World} {ρ ρ' : Operand → Value} {K : Value → Option Blk → Prop}

theorem p_slice {t : TypeId} {x : Operand} {lo hi mx : Option Operand} {aop : AOp} (hc : compSlice P t x lo hi mx = some aop) (ha : aop.alc = false) (R : Rel P B w0 μ h w)
    (hx : VR μ (ρ x) (ρ' x)) (hlo : ∀ y, lo = some y → VR μ (ρ y) (ρ' y)) (hhi : ∀ y, hi = some y → VR μ (ρ y) (ρ' y)) (hk : nst ρ h aop K) :
    ∃ v v', K v none ∧ VR μ v v' ∧ (Instr.sliceAt t (ρ' x) (lo.map ρ') (hi.map ρ') (mx.map ρ')).run P w = .ok v' w := by
  unfold compSlice at hc
  split at hc
  · rename_i hu
    split at hc
    · simp only [Option.some.injEq] at hc
      subst hc
      simp only [nst] at hk
      split at hk
      · rename_i s hxx
        rw [hxx] at hx
        obtain ⟨l, u, hk, hr, _⟩ := bnd_run (P := P) (w := w) false hk s.size (Nat.le_refl _) hlo hhi
        rw [flat1_eq hx rfl]
        refine ⟨_, _, hk, .string _, ?_⟩
        simp [Instr.sliceAt, Instr.slice, r_und hu, hr]
      · exact hk.elim
    · cases hc
  · rename_i e hu
    split at hc
    · split at hc
      · rename_i sz hsz
        split at hc
        · simp only [Option.some.injEq] at hc
          subst hc
          exact p_slL hu hsz R hx hlo hhi hk
        · cases hc
      · cases hc
    · split at hc
      · split at hc
        · simp only [Option.some.injEq] at hc
          subst hc
          simp [AOp.alc] at ha
        · cases hc
      · cases hc
  · rename_i n e hu
    split at hc
    · unfold compSlA at hc
      split at hc
      · rename_i sz hsz
        split at hc
        · simp only [Option.some.injEq] at hc
          subst hc
          obtain ⟨a, hxa, l, u, v, hr, hk, hv⟩ := p_slA (P := P) R hx hlo hhi hk
          refine ⟨v, _, hk, hv, ?_⟩
          simp [Instr.sliceAt, r_und hu, hxa, Instr.sureAddr, hr, r_sz hsz]
        · cases hc
      · cases hc
    · cases hc
  · rename_i a hu
    split at hc
    · rename_i n e hua
      split at hc
      · unfold compSlA at hc
        split at hc
        · rename_i sz hsz
          split at hc
          · simp only [Option.some.injEq] at hc
            subst hc
            obtain ⟨a, hxa, l, u, v, hr, hk, hv⟩ := p_slA (P := P) R hx hlo hhi hk
            refine ⟨v, _, hk, hv, ?_⟩
            simp [Instr.sliceAt, Instr.slice, r_und hu, r_und hua, hxa, asAddr, hr, r_sz hsz]
          · cases hc
        · cases hc
      · cases hc
    · cases hc
  · cases hc

theorem p_len {ts : Array TypeId} {args : List Operand} {aop : AOp} (hc : compLen P ts args = some aop) (ty : TypeId)
    (hρ : ∀ x ∈ args, VR μ (ρ x) (ρ' x)) (hk : nst ρ h aop K) : ∃ v v', K v none ∧ VR μ v v' ∧ (Builtin.len_ ts ty (args.map ρ').toArray).run P w = .ok v' w := by
  unfold compLen at hc
  split at hc
  · rename_i x
    have hx := hρ x (by simp)
    have h0 : ∀ d, undArg P ts 0 = some d → ∃ t, ts[0]? = some t ∧ P.underlying t = some d := by
      intro d hd
      unfold undArg at hd
      cases ht : ts[0]? with
      | none => simp [ht] at hd
      | some t => simp [ht] at hd; exact ⟨t, rfl, hd⟩
    split at hc
    · rename_i hu
      obtain ⟨t, ht, hu⟩ := h0 _ hu
      simp only [Option.some.injEq] at hc
      subst hc
      simp only [nst] at hk
      split at hk
      · rename_i s hxx
        rw [hxx] at hx
        rw [show [x].map ρ' = [.string s] by simp [flat1_eq hx rfl]]
        exact ⟨_, _, hk, .int _ _, by simp [Builtin.len_, ht, r_und hu, goInt]⟩
      · exact hk.elim
    · rename_i e hu
      obtain ⟨t, ht, hu⟩ := h0 _ hu
      simp only [Option.some.injEq] at hc
      subst hc
      simp only [nst] at hk
      split at hk
      · rename_i a n c hxx
        rw [hxx] at hx
        have hx' : ∃ a' c', ρ' x = .slice a' n c' := by
          cases hx' : ρ' x <;> rw [hx'] at hx <;> cases hx <;> exact ⟨_, _, rfl⟩
        obtain ⟨a', c', hx'⟩ := hx'
        rw [show [x].map ρ' = [.slice a' n c'] by simp [hx']]
        exact ⟨_, _, hk, .int _ _, by simp [Builtin.len_, ht, r_und hu, goInt]⟩
      · exact hk.elim
    · rename_i n e hu
      obtain ⟨t, ht, hu⟩ := h0 _ hu
      simp only [Option.some.injEq] at hc
      subst hc
      refine ⟨_, _, hk, .int _ _, ?_⟩
      simp [Builtin.len_, ht, r_und hu, goInt]
    · cases hc
  · cases hc

theorem p_call {c : Call} {ty : TypeId} {aop : AOp} (hc : compCall P c = some aop) (hst : aop.strict = false)
    (hρ : ∀ x ∈ c.args.toList, VR μ (ρ x) (ρ' x)) (hk : nst ρ h aop K) :
    ∃ v v', K v none ∧ VR μ v v' ∧ (do let d ← resolve ρ' c ty; invoke d.target d.args : Sem Next).run P w = .ok (.value v') w := by
  obtain ⟨callee, args, argTypes⟩ := c
  unfold compCall at hc
  have hmm : ∀ mx, compMM mx args.toList = some aop → ∃ v v', K v none ∧ VR μ v v' ∧ ((args.map ρ').toList.foldlM (m := Sem) (if mx then Builtin.max2 else Builtin.min2) = fun x => (args.map ρ').toList.foldlM (m := Sem) (if mx then Builtin.max2 else Builtin.min2) x) ∧
      ∃ x xs, (args.map ρ').toList = x :: xs ∧ (xs.foldlM (if mx then Builtin.max2 else Builtin.min2) x).run P w = .ok v' w := by
    intro mx hc
    unfold compMM at hc
    split at hc
    · rename_i x xs hargs
      simp only [Option.some.injEq] at hc
      subst hc
      simp only [nst] at hk
      split at hk
      · rename_i k n hxx
        obtain ⟨v, hv, hr, hf, hl⟩ := mnx_run P w mx k _ n hk
        have hx := hρ x (by simp [hargs])
        rw [hxx] at hx
        refine ⟨v, v, hv, flat1_VR μ hf, rfl, .int k n, xs.map ρ', ?_, ?_⟩
        · simp [hargs, flat1_eq hx rfl]
        · have : xs.map ρ' = xs.map ρ := by
            apply List.map_congr_left
            intro y hy
            exact flat1_eq (hρ y (by simp [hargs, hy])) (hl _ (List.mem_map_of_mem hy))
          rw [this]
          exact hr
      · exact hk.elim
    · cases hc
  split at hc
  · simp only [Option.some.injEq] at hc; subst hc; simp [AOp.strict] at hst
  · simp only [Option.some.injEq] at hc; subst hc; simp [AOp.strict] at hst
  · rename_i hcal
    simp only at hcal
    subst hcal
    obtain ⟨v, v', hv, hvr, hr⟩ := p_len (P := P) (w := w) hc ty hρ hk
    refine ⟨v, v', hv, hvr, ?_⟩
    have ha : (args.toList.map ρ').toArray = args.map ρ' := by apply Array.ext'; simp
    rw [ha] at hr
    simp [resolve, invoke, builtin, hr]
  · unfold compApp at hc
    repeat' split at hc
    all_goals first | (cases hc; done) | (simp only [Option.some.injEq] at hc; subst hc; simp [AOp.strict] at hst)
  · unfold compCpy at hc
    repeat' split at hc
    all_goals first
      | (cases hc; done)
      | (rename_i e _; cases hs : szT P e <;> simp [hs] at hc; subst hc; simp [AOp.strict] at hst)
  · rename_i hcal
    simp only at hcal
    subst hcal
    obtain ⟨v, v', hv, hvr, _, x, xs, hl, hr⟩ := hmm true hc
    refine ⟨v, v', hv, hvr, ?_⟩
    simp only [if_true] at hr
    have hm : (Builtin.max_ argTypes ty (args.map ρ')).run P w = .ok v' w := by unfold Builtin.max_; rw [hl]; exact hr
    simp [resolve, invoke, builtin, hm]
  · rename_i hcal
    simp only at hcal
    subst hcal
    obtain ⟨v, v', hv, hvr, _, x, xs, hl, hr⟩ := hmm false hc
    refine ⟨v, v', hv, hvr, ?_⟩
    simp only [Bool.false_eq_true, if_false] at hr
    have hm : (Builtin.min_ argTypes ty (args.map ρ')).run P w = .ok v' w := by unfold Builtin.min_; rw [hl]; exact hr
    simp [resolve, invoke, builtin, hm]
  · cases hc


/-- What reads or reckons tells the same, and leaves the world alone. -/
theorem nst_pure {o : Oper} {aop : AOp} (hc : compOp P o.op = some aop) (ha : aop.alc = false) (hst : aop.strict = false) (R : Rel P B w0 μ h w)
    (hρ : ∀ x ∈ o.op.operands.toList, VR μ (ρ x) (ρ' x)) (hk : nst ρ h aop K) :
    ∃ v v', K v none ∧ VR μ v v' ∧ (execOp ρ' o).run P w = .ok (.value v') w := by
  obtain ⟨dst, op, ty, pos, after, guard⟩ := o
  simp only at hc hρ
  have lift : ∀ {s : Sem Value}, (∃ v v', K v none ∧ VR μ v v' ∧ s.run P w = .ok v' w) → ∃ v v', K v none ∧ VR μ v v' ∧ (do pure (.value (← s)) : Sem Next).run P w = .ok (.value v') w := by
    rintro s ⟨v, v', h1, h2, h3⟩
    exact ⟨v, v', h1, h2, by simp [h3]⟩
  cases op <;> simp only [compOp] at hc <;> try (cases hc; done)
  case move x =>
    simp only [Option.some.injEq] at hc; subst hc
    exact ⟨_, _, hk, hρ x (by simp [Op.operands]), by simp [execOp]⟩
  case assign x =>
    simp only [Option.some.injEq] at hc; subst hc
    exact ⟨_, _, hk, hρ x (by simp [Op.operands]), by simp [execOp]⟩
  case pick c a b =>
    simp only [Option.some.injEq] at hc; subst hc
    have hx := hρ c (by simp [Op.operands])
    have hxa := hρ a (by simp [Op.operands])
    have hxb := hρ b (by simp [Op.operands])
    simp only [nst] at hk
    split at hk
    · rename_i cb hcb
      rw [hcb] at hx
      have hx' := flat1_eq hx rfl
      cases cb
      · exact ⟨_, _, hk, hxb, by simp [execOp, hx', asBool]⟩
      · exact ⟨_, _, hk, hxa, by simp [execOp, hx', asBool]⟩
    · exact hk.elim
  case alloc t =>
    cases hz : zeroT P t with
    | none => simp [hz] at hc
    | some z => simp [hz] at hc; subst hc; simp [AOp.alc] at ha
  case box t x => simp only [Option.some.injEq] at hc; subst hc; simp [AOp.alc] at ha
  case build t parts => exact lift (p_build hc (fun x hx => hρ x.2 (by simp [Op.operands]; exact ⟨x.1, by simpa using hx⟩)) hk)
  case buildSlice t len parts =>
    have : aop.alc = true := by
      unfold compBSlice at hc
      split at hc
      · split at hc
        · cases hc
        · split at hc
          · cases hc
          · split at hc
            · obtain ⟨sg, _, rfl⟩ := Option.map_eq_some_iff.1 hc
              rfl
            · cases hc
      · cases hc
    rw [this] at ha
    cases ha
  case load t x => exact lift (p_load hc R (hρ x (by simp [Op.operands])) hk)
  case store t x v =>
    unfold compStore at hc
    repeat' split at hc
    all_goals first | (cases hc; done) | (simp only [Option.some.injEq] at hc; subst hc; simp [AOp.strict] at hst)
  case nilCheck x =>
    simp only [Option.some.injEq] at hc; subst hc
    have hx := hρ x (by simp [Op.operands])
    simp only [nst] at hk
    split at hk
    · rename_i a hxx
      rw [hxx] at hx
      cases hx' : ρ' x <;> rw [hx'] at hx <;> cases hx
      exact ⟨_, _, hk, .ptr (by assumption), by simp [execOp, hx']⟩
    · exact hk.elim
  case binOp op t x y _ => exact lift (p_bin hc (hρ x (by simp [Op.operands])) (hρ y (by simp [Op.operands])) hk)
  case unOp op t x =>
    simp only [Option.some.injEq] at hc; subst hc
    obtain ⟨v, hv, hr, hf, hfa⟩ := un_run P w (K := fun v => K v none) hk
    have := flat1_eq (hρ x (by simp [Op.operands])) hfa
    exact ⟨v, v, hv, flat1_VR μ hf, by simp [execOp, this, hr]⟩
  case convert s d x => exact lift (p_conv hc ha R (hρ x (by simp [Op.operands])) hk)
  case makeFunc fn first cap =>
    cases fn <;> simp only at hc <;> try (cases hc; done)
    rename_i g
    simp only [Option.some.injEq] at hc; subst hc
    refine ⟨_, .func (.func g) (first.map ρ') (cap.map ρ'), hk, ?_, by simp [execOp, Instr.makeFunc]⟩
    refine .func ?_ ?_
    · simpa using VRL.map (f := ρ) (g := ρ') first.toList (fun y hy => hρ y (by simp only [Op.operands, Array.toList_append, List.mem_append]; exact .inl hy))
    · simpa using VRL.map (f := ρ) (g := ρ') cap.toList (fun y hy => hρ y (by simp only [Op.operands, Array.toList_append, List.mem_append]; exact .inr hy))
  case makeSlice t n c =>
    unfold compMks at hc
    repeat' split at hc
    all_goals first | (cases hc; done) | (simp only [Option.some.injEq] at hc; subst hc; simp [AOp.alc] at ha)
  case slice t x lo hi mx =>
    refine lift (p_slice hc ha R (hρ x (by simp [Op.operands])) (fun y hy => hρ y (by simp [Op.operands, hy])) (fun y hy => hρ y (by simp [Op.operands, hy])) hk)
  case fieldAddr s x f => exact lift (p_fad hc (hρ x (by simp [Op.operands])) hk)
  case field s x f => exact lift (p_fld hc (hρ x (by simp [Op.operands])) hk)
  case indexAddr t x i => exact lift (p_iad hc (hρ x (by simp [Op.operands])) (hρ i (by simp [Op.operands])) hk)
  case index t x i => exact lift (p_ix hc (hρ x (by simp [Op.operands])) (hρ i (by simp [Op.operands])) hk)
  case extract x i =>
    simp only [Option.some.injEq] at hc; subst hc
    have hx := hρ x (by simp [Op.operands])
    simp only [nst] at hk
    split at hk
    · rename_i vs hxx
      rw [hxx] at hx
      obtain ⟨v, hv, hk⟩ := hk
      cases hx' : ρ' x <;> rw [hx'] at hx <;> cases hx
      rename_i c' hvr
      obtain ⟨v', hv', hvv⟩ := hvr.get _ hv
      have : c'[i]? = some v' := by simpa using hv'
      exact ⟨_, v', hk, hvv, by simp [execOp, hx', Instr.extract, this]⟩
    · exact hk.elim
  case call c =>
    refine p_call hc hst (fun x hx => hρ x ?_) hk
    simp only [Op.operands, Call.operands, Array.toList_append, List.mem_append]
    exact .inr hx
end
end Go.Proofs.YtemgddekbdifeaaGreat.Am

namespace Go.Proofs.YtemgddekbdifeaaGreat.Am
open Go.RowKit

/-- How the value of a new block looks: its address, or a slice of it. -/
inductive Shp where
  | ptr
  | slc (n c : Nat)
def Shp.val : Shp → Nat → Value
  | .ptr, i => .pointer (some ⟨i, 0, none⟩)
  | .slc n c, i => .slice (some ⟨i, 0, none⟩) n c

section
variable {P : Program} {B : Nat} {w0 : World} {μ : Mu} {h : H} {w : World} {ρ ρ' : Operand → Value} {K : Value → Option Blk → Prop}

/-- What an operation that makes a block says, and does. -/
def Makes (P : Program) (B : Nat) (μ : Mu) (h : H) (w : World) (K : Value → Option Blk → Prop) (s : Sem Value) : Prop :=
  (∃ v v', K v none ∧ VR μ v v' ∧ s.run P w = .ok v' w) ∨
  ∃ (shp : Shp) (cs : List Value) (t : TypeId) (own op : Bool), K (shp.val h.next) (some (.cells cs t own op)) ∧
    ∃ v' w' e, s.run P w = .ok v' w' ∧ (∀ i, μ i = none → NewAt P B (μ.set i e) w e cs t own op w') ∧ (∀ i, VR (μ.set i e) (shp.val i) v')

theorem set_at (μ : Mu) (i : Nat) (e : Ent) : μ.set i e i = some e := by simp [Mu.set]

/-- A new row of cells. -/
theorem new_row {cs : List Value} {ca : Array Value} {t : TypeId} (R : Rel P B w0 μ h w) (hv : VRL μ cs ca.toList) (h1 : ∀ v ∈ cs, one v = true) {i : Nat} (hi : μ i = none) :
    NewAt P B (μ.set i ⟨w.heap.size, 0, false, 0, 0⟩) w ⟨w.heap.size, 0, false, 0, 0⟩ cs t true false { w with heap := w.heap.push (.cells ca t) } := by
  refine ⟨⟨rfl, h1, .inr ⟨ca, (0, 0), ?_, ?_, ?_, fun _ => ⟨R.size, by simp, fun h => by cases h⟩, (fun h => by cases h), (fun h => by cases h)⟩⟩, rfl, rfl, rfl, by simp, ?_, fun _ => Nat.le_refl _⟩
  · simp
  · have := hv.length; simp at this ⊢; omega
  · have := hv.length
    simp only [List.drop_zero]
    rw [this, List.take_length]
    exact hv.mono (Mu.set_mono hi)
  · intro k hk
    show (w.heap.push _)[k]? = _
    rw [Array.getElem?_push, if_neg (by omega)]

theorem p_alloc {t : TypeId} {z : List Value} (hz : zeroT P t = some z) (R : Rel P B w0 μ h w) (hk : nst ρ h (.alloc t z) K) :
    Makes P B μ h w K (Instr.alloc t true (.tuple #[])) := by
  obtain ⟨zv, hzr, hzc, hzf⟩ := r_zero hz
  refine .inr ⟨.ptr, z, t, true, false, hk, .pointer (some ⟨w.heap.size, 0, none⟩), { w with heap := w.heap.push (.cells zv.cells t) }, ⟨w.heap.size, 0, false, 0, 0⟩, ?_, fun i hi => new_row R (ca := zv.cells) (by rw [hzc]; exact flatL_VRL μ _ hzf) (fun v hv => flat1_one (List.all_eq_true.1 hzf v hv)) hi, fun i => ?_⟩
  · simp [Instr.alloc, hzr, newVar, newRow]
  · simpa [Shp.val] using VR.ptr (o := 0) (set_at μ i ⟨w.heap.size, 0, false, 0, 0⟩)

theorem p_box {t : TypeId} {x : Operand} (R : Rel P B w0 μ h w) (hx : VR μ (ρ x) (ρ' x)) (hk : nst ρ h (.box t x) K) :
    Makes P B μ h w K (Instr.box t (ρ' x)) := by
  obtain ⟨l, hl, hk⟩ := hk
  obtain ⟨hv, h1⟩ := cellsOf_VR hx hl
  refine .inr ⟨.ptr, l, t, true, false, hk, .pointer (some ⟨w.heap.size, 0, none⟩), { w with heap := w.heap.push (.cells (ρ' x).cells t) }, ⟨w.heap.size, 0, false, 0, 0⟩, ?_, fun i hi => new_row R hv h1 hi, fun i => ?_⟩
  · simp [Instr.box, newVar, newRow]
  · simpa [Shp.val] using VR.ptr (o := 0) (set_at μ i ⟨w.heap.size, 0, false, 0, 0⟩)

theorem rep_cells (z : Array Value) (hz : 0 < z.size) : ∀ n : Nat, (((Array.range (n * z.size)).map (fun i => z[i % z.size]!)).toList : List Value) = (List.replicate n z.toList).flatten := by
  intro n
  rw [Array.toList_map, Array.toList_range]
  induction n with
  | zero => simp
  | succ n ih =>
    rw [List.replicate_succ', List.flatten_append, ← ih, Nat.succ_mul, List.range_add, List.map_append, List.map_map]
    congr 1
    simp only [List.flatten_cons, List.flatten_nil, List.append_nil]
    apply List.ext_getElem
    · simp
    · intro i h1 h2
      simp at h1 h2
      simp [Nat.mul_add_mod_self_right, Nat.mod_eq_of_lt h1, h1, Nat.add_comm]

theorem p_bslice {t : TypeId} {len : Nat} {parts : Array (Nat × Operand)} {aop : AOp} (hc : compBSlice P t len parts = some aop) (R : Rel P B w0 μ h w)
    (hρ : ∀ x ∈ parts.toList, VR μ (ρ x.2) (ρ' x.2)) (hk : nst ρ h aop K) :
    Makes P B μ h w K (Instr.buildSlice t len (parts.map fun (x : Nat × Operand) => (x.1, ρ' x.2))) := by
  unfold compBSlice at hc
  split at hc
  · rename_i e hu
    split at hc
    · cases hc
    · rename_i sz hsz
      split at hc
      · cases hc
      · rename_i z hz
        obtain ⟨zv, hzr, hzc, hzf⟩ := r_zero hz
        split at hc
        · rename_i hcond
          obtain ⟨hzl, hs0, hmax⟩ := hcond
          obtain ⟨sg, hsg, rfl⟩ := Option.map_eq_some_iff.1 hc
          obtain ⟨vs, hv, hk⟩ := hk
          have hzs : zv.cells.size = sz := by rw [← Array.length_toList, hzc, hzl]
          have hm' : parts.toList.mapM (fun x => ((fun i => some (i * sz, sz)) x.1 : Option (Nat × Nat)).map fun p => (p.1, p.2, x.2)) = some (parts.toList.map fun x => (x.1 * sz, sz, x.2)) := by
            generalize parts.toList = l
            induction l with
            | nil => rfl
            | cons a l ih =>
              simp only [Option.map_some] at ih
              simp [List.mapM_cons, ih]
          have hflat : (List.replicate len z).flatten.all flat1 = true := by
            apply List.all_eq_true.2
            intro v hv
            obtain ⟨l, hl, hvl⟩ := List.mem_flatten.1 hv
            rw [(List.mem_replicate.1 hl).2] at hvl
            exact List.all_eq_true.1 hzf v hvl
          have hrep := rep_cells zv.cells (by omega) len
          rw [hzs, hzc] at hrep
          obtain ⟨Z', hf, hr1, hr2⟩ := fill_segs (μ := μ) (ρ := ρ) (ρ' := ρ') (fun i => some (i * sz, sz)) _ hflat parts.toList _ hm' hρ [] [] sg vs
            ((Array.range (len * sz)).map (fun i => zv.cells[i % sz]!)) (by simpa using hsg) hv (by simp) .nil (by simp) (by simp only [List.length_nil, List.drop_zero, List.nil_append]; exact hrep)
          refine .inr ⟨.slc len len, vs, e, true, false, hk, .slice (some ⟨w.heap.size, 0, none⟩) len len, { w with heap := w.heap.push (.cells Z' e) }, ⟨w.heap.size, 0, false, 0, 0⟩, ?_, fun i hi => new_row R (ca := Z') (by simpa using hr1) (by simpa using hr2) hi, fun i => ?_⟩
          · simp only [Instr.buildSlice, Sem.run_bind, r_und hu, Result.andThen_ok, r_sz hsz]
            rw [if_neg (by omega)]
            have hm0 : len * sz = 0 → ∀ f g : Nat → Value, (Array.range (len * sz)).map f = (Array.range (len * sz)).map g := by
              intro h0 f g; rw [h0]; simp
            by_cases h0 : len * sz = 0
            · rw [if_pos h0]
              simp only [Sem.run_bind, Sem.run_pure, Result.andThen_ok]
              rw [hm0 h0 _ (fun i => zv.cells[i % sz]!), Array.toList_map, hf]
              simp [newRow]
            · rw [if_neg h0]
              simp only [Sem.run_bind, Sem.run_pure, hzr, Result.andThen_ok]
              rw [hzs, Array.toList_map, hf]
              simp [newRow]
          · have := VR.sl (μ := μ.set i ⟨w.heap.size, 0, false, 0, 0⟩) (o := 0) (n := len) (c := len) (c' := len) (set_at μ i ⟨w.heap.size, 0, false, 0, 0⟩) (Nat.le_refl _) (Nat.le_refl _) (fun _ => rfl) (fun h => by cases h)
            simpa [Shp.val] using this
        · cases hc
  · cases hc

theorem p_mks {t : TypeId} {n c : Operand} {aop : AOp} (hc : compMks P t n c = some aop) (R : Rel P B w0 μ h w)
    (hn : VR μ (ρ n) (ρ' n)) (hcv : VR μ (ρ c) (ρ' c)) (hk : nst ρ h aop K) : Makes P B μ h w K (Instr.makeSlice t (ρ' n) (ρ' c)) := by
  unfold compMks at hc
  split at hc
  · rename_i e hu
    split at hc
    · cases hc
    · rename_i sz hsz
      split at hc
      · cases hc
      · rename_i byt hby
        split at hc
        · cases hc
        · rename_i z hz
          obtain ⟨zv, hzr, hzc, hzf⟩ := r_zero hz
          obtain ⟨inf, hinf, hinb⟩ := r_byt hby
          split at hc
          · rename_i hcond
            obtain ⟨hzl, hs0, hb0⟩ := hcond
            simp only [Option.some.injEq] at hc
            subst hc
            simp only [nst] at hk
            split at hk
            · rename_i k1 n' k2 c' hnn hcc
              obtain ⟨⟨h0, hnc, hlim⟩, hk⟩ := hk
              rw [hnn] at hn
              rw [hcc] at hcv
              have hzs : zv.cells.size = sz := by rw [← Array.length_toList, hzc, hzl]
              have hc48 : c' ≤ 2 ^ 48 := by
                have : (1 : Int) * c' ≤ byt * c' := Int.mul_le_mul_of_nonneg_right (by omega) (by omega)
                omega
              have hwc : IntKind.i64.wrap c' = c' := by unfold IntKind.wrap; simp [IntKind.bits, IntKind.signed]; omega
              have hwn : IntKind.i64.wrap n' = n' := by unfold IntKind.wrap; simp [IntKind.bits, IntKind.signed]; omega
              have hrep := rep_cells zv.cells (by omega) c'.toNat
              rw [hzs, hzc] at hrep
              have hflat : ∀ v ∈ (List.replicate c'.toNat z).flatten, flat1 v = true := by
                intro v hv
                obtain ⟨l, hl, hvl⟩ := List.mem_flatten.1 hv
                rw [(List.mem_replicate.1 hl).2] at hvl
                exact List.all_eq_true.1 hzf v hvl
              refine .inr ⟨.slc n'.toNat c'.toNat, _, e, true, false, hk, .slice (some ⟨w.heap.size, 0, none⟩) n'.toNat c'.toNat, { w with heap := w.heap.push (.cells ((Array.range (c'.toNat * sz)).map (fun i => zv.cells[i % sz]!)) e) }, ⟨w.heap.size, 0, false, 0, 0⟩, ?_,
                fun i hi => new_row R (by rw [hrep]; exact flatL_VRL μ _ (List.all_eq_true.2 hflat)) (fun v hv => flat1_one (hflat v hv)) hi, fun i => ?_⟩
              · rw [flat1_eq hn rfl, flat1_eq hcv rfl]
                have hm0 : c'.toNat * sz = 0 → ∀ f g : Nat → Value, (Array.range (c'.toNat * sz)).map f = (Array.range (c'.toNat * sz)).map g := by
                  intro h0 f g; rw [h0]; simp
                simp only [Instr.makeSlice, Sem.run_bind, r_und hu, Result.andThen_ok, asInt, asIntOf, Sem.run_pure, r_inf hinf, hinb, hwc, hwn]
                rw [if_neg (by simp; omega)]
                simp only [Sem.run_pure, Result.andThen_ok, Sem.run_bind, run_askRoom, r_sz hsz]
                by_cases h0 : c'.toNat * sz = 0
                · rw [if_pos h0]
                  simp only [Sem.run_bind, Sem.run_pure, Result.andThen_ok]
                  rw [hm0 h0 _ (fun i => zv.cells[i % sz]!)]
                  simp [newRow]
                · rw [if_neg h0]
                  simp only [Sem.run_bind, Sem.run_pure, hzr, Result.andThen_ok]
                  rw [hzs]
                  simp [newRow]
              · have := VR.sl (μ := μ.set i ⟨w.heap.size, 0, false, 0, 0⟩) (o := 0) (n := n'.toNat) (c := c'.toNat) (c' := c'.toNat) (set_at μ i ⟨w.heap.size, 0, false, 0, 0⟩) (by omega) (Nat.le_refl _) (fun _ => rfl) (fun h => by cases h)
                simpa [Shp.val] using this
            · exact hk.elim
          · cases hc
  · cases hc

theorem cut_cap (need : Nat) (old : Nat) (e : TypeId) (t : Nat) : need ≤ (Question.appendCap need old e).cut t := by simp [Question.cut]

theorem p_cvb {s d : TypeId} {x : Operand} {aop : AOp} (hc : compConv P s d x = some aop) (ha : aop.alc = true) (R : Rel P B w0 μ h w)
    (hx : VR μ (ρ x) (ρ' x)) (hk : nst ρ h aop K) (hs1 : ∀ e, isU8 P e = true → szT P e = some 1) : Makes P B μ h w K (convert s d (ρ' x)) := by
  unfold compConv at hc
  split at hc
  · split at hc
    · simp only [Option.some.injEq] at hc; subst hc; simp [AOp.alc] at ha
    · cases hc
  · split at hc
    · split at hc
      · simp only [Option.some.injEq] at hc; subst hc; simp [AOp.alc] at ha
      · cases hc
    · cases hc
  · rename_i hs
    split at hc
    · rename_i e hd
      split at hc
      · rename_i hu8
        have hsz := hs1 e hu8
        simp only [Option.some.injEq] at hc
        subst hc
        have hu8c := hu8
        simp only [isU8, Bool.and_eq_true] at hu8
        replace hu8 := hu8.1
        split at hu8
        · rename_i hue
          simp only [nst] at hk
          split at hk
          · rename_i str hxx
            rw [hxx] at hx
            rw [flat1_eq hx rfl]
            -- the capacity that is drawn
            let cap := (Question.appendCap str.size 0 e).cut (w.tape w.drawn (.appendCap str.size 0 e))
            have hcap : str.size ≤ cap := cut_cap _ _ _ _
            let ca : Array Value := (str.data.map fun b => Value.int .u8 b.toNat) ++ Array.replicate (cap - str.size) (.int .u8 0)
            have hcas : ca.size = cap := by
              have : str.data.size = str.size := rfl
              simp [ca]; omega
            refine .inr ⟨.slc str.size str.size, _, e, true, true, hk, .slice (some ⟨w.heap.size, 0, none⟩) str.size cap,
              { w with drawn := w.drawn + 1, heap := w.heap.push (.cells ca e (cap, cap + 1)) }, ⟨w.heap.size, 0, true, cap, 1⟩, ?_, fun i hi => ?_, fun i => ?_⟩
            · simp only [convert, Sem.run_bind, r_und hs, r_und hd, r_und hue, Result.andThen_ok, Conv.stringToBytes, run_choose, Question.forced, Bool.false_eq_true, if_false]
              simp only [newRow, Sem.run_bind, run_newObj, Result.andThen_ok, Sem.run_pure, markStringish, run_shape]
              have hsh : World.shape? { w with heap := w.heap.push (.cells ca e), drawn := w.drawn + 1 } w.heap.size = some (e, cap) := by
                simp [World.shape?, hcas]
              have hfr : World.freeze { w with heap := w.heap.push (.cells ca e), drawn := w.drawn + 1 } { block := w.heap.size, off := cap } 1 = { w with drawn := w.drawn + 1, heap := w.heap.push (.cells ca e (cap, cap + 1)) } := by
                simp only [World.freeze]
                rw [if_neg (by omega)]
                congr 1
                apply Array.ext_getElem?
                intro i
                rw [Array.getElem?_modify]
                simp only [Array.getElem?_push]
                by_cases hi : w.heap.size = i
                · subst hi; simp
                · rw [if_neg hi, if_neg (fun e => hi e.symm), if_neg (fun e => hi e.symm)]
              simp only [ca, cap] at hsh hfr ⊢
              simp only [hsh, Sem.run_bind, run_freeze, Result.andThen_ok, hfr, Sem.run_pure]
            · refine ⟨⟨rfl, ?_, .inr ⟨ca, (cap, cap + 1), ?_, ?_, ?_, fun _ => ⟨R.size, .inr (by omega), fun _ => hcas.symm⟩, fun _ => hsz, (fun h => by cases h)⟩⟩, rfl, rfl, rfl, by simp, ?_, fun _ => Nat.le_refl _⟩
              · intro v hv
                obtain ⟨b, _, rfl⟩ := List.mem_map.1 hv
                rfl
              · simp
              · simp [hcas]; omega
              · simp only [List.drop_zero, ca, Array.toList_append, Array.toList_map]
                rw [List.take_append_of_le_length (Nat.le_of_eq (by simp)), List.take_of_length_le (Nat.le_of_eq (by simp))]
                exact VRL.map _ (fun b _ => .int _ _)
              · intro k hk
                show (w.heap.push _)[k]? = _
                rw [Array.getElem?_push, if_neg (by omega)]
            · have := VR.sl (μ := μ.set i ⟨w.heap.size, 0, true, cap, 1⟩) (o := 0) (n := str.size) (c := str.size) (c' := cap) (set_at μ i ⟨w.heap.size, 0, true, cap, 1⟩) (Nat.le_refl _) hcap (fun h => by cases h) (fun _ => by simp)
              simpa [Shp.val] using this
          · exact hk.elim
        · cases hu8
      · cases hc
    · cases hc
  · cases hc

theorem p_slZ {t : TypeId} {x : Operand} {lo hi mx : Option Operand} {aop : AOp} (hc : compSlice P t x lo hi mx = some aop) (ha : aop.alc = true) (R : Rel P B w0 μ h w)
    (hx : VR μ (ρ x) (ρ' x)) (hk : nst ρ h aop K) (hcst : ∀ v, ρ' (.const v) = v) : Makes P B μ h w K (Instr.sliceAt t (ρ' x) (lo.map ρ') (hi.map ρ') (mx.map ρ')) := by
  have hzero : ∀ o : Option Operand, isZero o = true → ∃ k, o = some (.const (.int k 0)) := by
    intro o ho
    unfold isZero at ho
    split at ho
    · exact ⟨_, rfl⟩
    · cases ho
  unfold compSlice at hc
  split at hc
  · split at hc
    · simp only [Option.some.injEq] at hc; subst hc; simp [AOp.alc] at ha
    · cases hc
  · rename_i e hu
    split at hc
    · split at hc
      · split at hc
        · simp only [Option.some.injEq] at hc; subst hc; simp [AOp.alc] at ha
        · cases hc
      · cases hc
    · rename_i m
      split at hc
      · rename_i sz hsz
        split at hc
        · rename_i hz
          simp only [Option.some.injEq] at hc
          subst hc
          simp only [Bool.and_eq_true] at hz
          obtain ⟨⟨h1, h2⟩, h3⟩ := hz
          obtain ⟨k1, h1⟩ := hzero _ h1
          obtain ⟨k2, h2⟩ := hzero _ h2
          obtain ⟨k3, h3⟩ := hzero _ h3
          subst h1
          subst h2
          rw [h3]
          simp only [nst] at hk
          split at hk
          · rename_i hxx
            rw [hxx] at hx
            cases hx' : ρ' x <;> rw [hx'] at hx <;> cases hx
            refine .inl ⟨_, _, hk, .sl0, ?_⟩
            simp [Instr.sliceAt, Instr.slice, r_und hu, r_sz hsz, Instr.sliceBounds, Instr.sliceBound, hcst, asIntOf]
          · rename_i i o n c hxx
            rw [hxx] at hx
            cases hx' : ρ' x <;> rw [hx'] at hx <;> cases hx
            rename_i c' e' he hn hE hcc hxo
            refine .inr ⟨.slc 0 0, [], e, false, false, hk, .slice (some ⟨e'.b, e'.o + o, none⟩) 0 0, w, ⟨e'.b, e'.o + o, false, 0, 0⟩, ?_, fun i hi => ⟨⟨rfl, by simp, .inl ⟨rfl, rfl, rfl⟩⟩, rfl, rfl, rfl, Nat.le_refl _, fun _ _ => rfl, fun h => by cases h⟩, fun i => ?_⟩
            · simp [Instr.sliceAt, Instr.slice, r_und hu, r_sz hsz, Instr.sliceBounds, Instr.sliceBound, hcst, asIntOf]
            · have := VR.sl (μ := μ.set i ⟨e'.b, e'.o + o, false, 0, 0⟩) (o := 0) (n := 0) (c := 0) (c' := 0) (set_at μ i _) (Nat.le_refl _) (Nat.le_refl _) (fun _ => rfl) (fun h => by cases h)
              simpa [Shp.val] using this
          · exact hk.elim
        · cases hc
      · cases hc
  · split at hc
    · unfold compSlA at hc
      split at hc
      · split at hc
        · simp only [Option.some.injEq] at hc; subst hc; simp [AOp.alc] at ha
        · cases hc
      · cases hc
    · cases hc
  · split at hc
    · split at hc
      · unfold compSlA at hc
        split at hc
        · split at hc
          · simp only [Option.some.injEq] at hc; subst hc; simp [AOp.alc] at ha
          · cases hc
        · cases hc
      · cases hc
    · cases hc
  · cases hc

/-- What makes a block does so in the model's world. -/
theorem nst_alloc {o : Oper} {aop : AOp} (hc : compOp P o.op = some aop) (ha : aop.alc = true) (R : Rel P B w0 μ h w)
    (hρ : ∀ x ∈ o.op.operands.toList, VR μ (ρ x) (ρ' x)) (hcst : ∀ v, ρ' (.const v) = v) (hs1 : ∀ e, isU8 P e = true → szT P e = some 1) (hk : nst ρ h aop K) :
    (∃ v v', K v none ∧ VR μ v v' ∧ (execOp ρ' o).run P w = .ok (.value v') w) ∨
    ∃ (shp : Shp) (cs : List Value) (t : TypeId) (own op : Bool), K (shp.val h.next) (some (.cells cs t own op)) ∧
      ∃ v' w' e, (execOp ρ' o).run P w = .ok (.value v') w' ∧ (∀ i, μ i = none → NewAt P B (μ.set i e) w e cs t own op w') ∧ (∀ i, VR (μ.set i e) (shp.val i) v') := by
  obtain ⟨dst, op, ty, pos, after, guard⟩ := o
  simp only at hc hρ
  have lift : ∀ {s : Sem Value}, Makes P B μ h w K s →
      (∃ v v', K v none ∧ VR μ v v' ∧ (do pure (.value (← s)) : Sem Next).run P w = .ok (.value v') w) ∨
      ∃ (shp : Shp) (cs : List Value) (t : TypeId) (own op : Bool), K (shp.val h.next) (some (.cells cs t own op)) ∧
        ∃ v' w' e, (do pure (.value (← s)) : Sem Next).run P w = .ok (.value v') w' ∧ (∀ i, μ i = none → NewAt P B (μ.set i e) w e cs t own op w') ∧ (∀ i, VR (μ.set i e) (shp.val i) v') := by
    rintro s (⟨v, v', h1, h2, h3⟩ | ⟨shp, cs, t, own, op, h1, v', w', e, h2, h3, h4⟩)
    · exact .inl ⟨v, v', h1, h2, by simp [h3]⟩
    · exact .inr ⟨shp, cs, t, own, op, h1, v', w', e, by simp [h2], h3, h4⟩
  cases op <;> simp only [compOp] at hc <;> try (cases hc; done)
  case alloc t =>
    obtain ⟨z, hz, rfl⟩ := Option.map_eq_some_iff.1 hc
    exact lift (p_alloc hz R hk)
  case box t x =>
    simp only [Option.some.injEq] at hc; subst hc
    exact lift (p_box R (hρ x (by simp [Op.operands])) hk)
  case buildSlice t len parts => exact lift (p_bslice hc R (fun x hx => hρ x.2 (by simp [Op.operands]; exact ⟨x.1, by simpa using hx⟩)) hk)
  case makeSlice t n c => exact lift (p_mks hc R (hρ n (by simp [Op.operands])) (hρ c (by simp [Op.operands])) hk)
  case convert s d x => exact lift (p_cvb hc ha R (hρ x (by simp [Op.operands])) hk hs1)
  case slice t x lo hi mx => exact lift (p_slZ hc ha R (hρ x (by simp [Op.operands])) hk hcst)
  case move => simp only [Option.some.injEq] at hc; subst hc; simp [AOp.alc] at ha
  case assign => simp only [Option.some.injEq] at hc; subst hc; simp [AOp.alc] at ha
  case pick => simp only [Option.some.injEq] at hc; subst hc; simp [AOp.alc] at ha
  case nilCheck => simp only [Option.some.injEq] at hc; subst hc; simp [AOp.alc] at ha
  case unOp => simp only [Option.some.injEq] at hc; subst hc; simp [AOp.alc] at ha
  case extract => simp only [Option.some.injEq] at hc; subst hc; simp [AOp.alc] at ha
  case build t parts =>
    exfalso
    unfold compBuild at hc
    repeat' split at hc
    all_goals first
      | (cases hc; done)
      | (obtain ⟨sg, _, rfl⟩ := Option.map_eq_some_iff.1 hc; simp [AOp.alc] at ha)
  case load t x =>
    exfalso
    unfold compLoad at hc
    repeat' split at hc
    all_goals first
      | (cases hc; done)
      | (obtain ⟨n, _, rfl⟩ := Option.map_eq_some_iff.1 hc; simp [AOp.alc] at ha)
      | (simp only [Option.some.injEq] at hc; subst hc; simp [AOp.alc] at ha)
  case store t x v =>
    exfalso
    unfold compStore at hc
    repeat' split at hc
    all_goals first
      | (cases hc; done)
      | (simp only [Option.some.injEq] at hc; subst hc; simp [AOp.alc] at ha)
  case binOp op t x y _ =>
    exfalso
    unfold compBin compEqB compEqN compEqA at hc
    repeat' split at hc
    all_goals first
      | (cases hc; done)
      | (simp only [Option.some.injEq] at hc; subst hc; simp [AOp.alc] at ha)
  case makeFunc fn first cap =>
    exfalso
    cases fn <;> simp only at hc <;> first
      | (cases hc; done)
      | (simp only [Option.some.injEq] at hc; subst hc; simp [AOp.alc] at ha)
  case fieldAddr s x f =>
    exfalso
    unfold compFad at hc
    repeat' split at hc
    all_goals first
      | (cases hc; done)
      | (simp only [Option.some.injEq] at hc; subst hc; simp [AOp.alc] at ha)
  case field s x f =>
    exfalso
    unfold compFld at hc
    repeat' split at hc
    all_goals first
      | (cases hc; done)
      | (obtain ⟨n, _, rfl⟩ := Option.map_eq_some_iff.1 hc; simp [AOp.alc] at ha)
      | (simp only [Option.some.injEq] at hc; subst hc; simp [AOp.alc] at ha)
  case indexAddr t x i =>
    exfalso
    unfold compIad at hc
    repeat' split at hc
    all_goals first
      | (cases hc; done)
      | (obtain ⟨n, _, rfl⟩ := Option.map_eq_some_iff.1 hc; simp [AOp.alc] at ha)
  case index t x i =>
    exfalso
    unfold compIx at hc
    repeat' split at hc
    all_goals first
      | (cases hc; done)
      | (obtain ⟨n, _, rfl⟩ := Option.map_eq_some_iff.1 hc; simp [AOp.alc] at ha)
      | (simp only [Option.some.injEq] at hc; subst hc; simp [AOp.alc] at ha)
  case call c =>
    exfalso
    unfold compCall compLen compApp compCpy compMM at hc
    repeat' split at hc
    all_goals first
      | (cases hc; done)
      | (obtain ⟨n, _, rfl⟩ := Option.map_eq_some_iff.1 hc; simp [AOp.alc] at ha)
      | (simp only [Option.some.injEq] at hc; subst hc; simp [AOp.alc] at ha)
end
end Go.Proofs.YtemgddekbdifeaaGreat.Am
