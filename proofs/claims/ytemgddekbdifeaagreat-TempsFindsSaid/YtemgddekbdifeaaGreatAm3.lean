/- What writes. -/
import Derived.Test.YtemgddekbdifeaaGreatAm2
import Derived.Deep.AppendSrc
set_option linter.unusedVariables false
set_option linter.unusedSimpArgs false
namespace Go.Proofs.YtemgddekbdifeaaGreat.Am
open Go.RowKit

theorem setCells_far {b : Nat} : ∀ (vs : List Value) (o : Nat) (w : World) (k : Nat), k ≠ b → (w.setCells b o vs).heap[k]? = w.heap[k]?
  | [], _, _, _, _ => rfl
  | v :: vs, o, w, k, hk => by
    rw [World.setCells, setCells_far vs (o + 1) _ k hk]
    exact Below.heap_setCell w ⟨b, o, none⟩ v k hk

theorem setCells_same (b : Nat) : ∀ (vs : List Value) (o : Nat) (w : World), (w.setCells b o vs).os = w.os ∧ (w.setCells b o vs).tape = w.tape ∧ (w.setCells b o vs).output = w.output ∧ (w.setCells b o vs).heap.size = w.heap.size
  | [], _, _ => ⟨rfl, rfl, rfl, rfl⟩
  | v :: vs, o, w => by
    obtain ⟨h1, h2, h3, h4⟩ := setCells_same b vs (o + 1) (w.setCell ⟨b, o, none⟩ v)
    exact ⟨h1, h2, h3, by rw [World.setCells, h4]; simp [World.setCell]⟩

theorem setCells_at {b : Nat} {t : TypeId} {fr : Nat × Nat} : ∀ (vs : List Value) (o : Nat) (w : World) (cs : Array Value), w.heap[b]? = some (.cells cs t fr) → o + vs.length ≤ cs.size →
    ∃ cs2 : Array Value, (w.setCells b o vs).heap[b]? = some (.cells cs2 t fr) ∧ cs2.toList = splice cs.toList o vs
  | [], o, w, cs, hw, _ => ⟨cs, hw, by simp [splice]⟩
  | v :: vs, o, w, cs, hw, hl => by
    have h1 : (w.setCell ⟨b, o, none⟩ v).heap[b]? = some (.cells (cs.setIfInBounds o v) t fr) := by
      simp only [World.setCell, Array.getElem?_modify, hw]
      simp
    obtain ⟨cs2, h2, h3⟩ := setCells_at vs (o + 1) _ _ h1 (by simp at hl ⊢; omega)
    refine ⟨cs2, h2, ?_⟩
    rw [h3, Array.toList_setIfInBounds, splice_set _ _ _ _ (by simp at hl ⊢; omega)]

theorem splice_length (cs : List Value) (o : Nat) (vs : List Value) (h : o + vs.length ≤ cs.length) : (splice cs o vs).length = cs.length := by
  simp [splice]; omega
theorem splice_mem {cs : List Value} {o : Nat} {vs : List Value} {v : Value} (h : v ∈ splice cs o vs) : v ∈ cs ∨ v ∈ vs := by
  simp only [splice, List.mem_append] at h
  rcases h with (h | h) | h
  · exact .inl (List.mem_of_mem_take h)
  · exact .inr h
  · exact .inl (List.mem_of_mem_drop h)

theorem splice_get {cs : List Value} {o : Nat} {vs : List Value} (h : o + vs.length ≤ cs.length) (j : Nat) :
    (splice cs o vs)[j]? = if j < o then cs[j]? else if j < o + vs.length then vs[j - o]? else cs[j]? := by
  have l1 : (cs.take o).length = o := by rw [List.length_take]; omega
  simp only [splice]
  rw [List.getElem?_append, List.length_append, l1, List.getElem?_append, l1]
  by_cases h1 : j < o
  · rw [if_pos (by omega), if_pos h1, if_pos h1, List.getElem?_take, if_pos h1]
  · by_cases h2 : j < o + vs.length
    · rw [if_pos h2, if_neg h1, if_neg h1, if_pos h2]
    · rw [if_neg h2, if_neg h1, if_neg h2, List.getElem?_drop]
      congr 1
      omega

/-- Cells, seen from a place on, behind a change. -/
theorem splice_window {cs' : List Value} {e o n : Nat} {vs' : List Value} (h : o + vs'.length ≤ n) (hn : e + n ≤ cs'.length) :
    ((splice cs' (e + o) vs').drop e).take n = splice ((cs'.drop e).take n) o vs' := by
  have l2 : ((cs'.drop e).take n).length = n := by rw [List.length_take, List.length_drop]; omega
  apply List.ext_getElem?
  intro j
  rw [splice_get (by omega) j, List.getElem?_take, List.getElem?_drop, splice_get (by omega)]
  by_cases hj : j < n
  · rw [if_pos hj, List.getElem?_take, if_pos hj, List.getElem?_drop]
    by_cases h1 : j < o
    · rw [if_pos (by omega), if_pos h1]
    · by_cases h2 : j < o + vs'.length
      · rw [if_neg (by omega), if_pos (by omega), if_neg h1, if_pos h2]
        congr 1
        omega
      · rw [if_neg (by omega), if_neg (by omega), if_neg h1, if_neg h2]
  · rw [if_neg hj, if_neg (by omega), if_neg (by omega), List.getElem?_take, if_neg hj]

section
variable {P : Program} {B : Nat} {w0 : World} {μ : Mu} {h : H} {w : World}

/-- The model's block behind cells that the call may write. -/
theorem Rel.own (R : Rel P B w0 μ h w) {i : Nat} {e : Ent} {cs : List Value} {t : TypeId} {op : Bool} (he : μ i = some e) (hg : h.get i = some (.cells cs t true op)) :
    ∃ cs' fr, w.heap[e.b]? = some (.cells cs' t fr) ∧ e.opn = op ∧ e.o + cs.length ≤ cs'.size ∧ VRL μ cs ((cs'.toList.drop e.o).take cs.length) ∧ (∀ v ∈ cs, one v = true) ∧
      B ≤ e.b ∧ (fr.2 ≤ fr.1 ∨ cs'.size ≤ fr.1) ∧ (op = true → e.E = cs'.size) ∧ (op = true → szT P t = some e.sz) := by
  obtain ⟨h1, h2, h3 | ⟨cs', fr, h4, h5, h6, h7, h8, h9⟩⟩ := R.blk i e cs t true op he hg
  · exact absurd h3.2.1 (by simp)
  · exact ⟨cs', fr, h4, h1, h5, h6, h2, (h7 rfl).1, (h7 rfl).2.1, (h7 rfl).2.2, h8⟩

/-- The cells of the block i of its own are cs2 now. -/
theorem Rel.write (R : Rel P B w0 μ h w) {i : Nat} {e : Ent} {cs : List Value} {t : TypeId} {op : Bool} (he : μ i = some e) (hg : h.get i = some (.cells cs t true op))
    {o : Nat} {vs vs' : List Value} (hl : o + vs.length ≤ cs.length) (hv : VRL μ vs vs') (h1 : ∀ v ∈ vs, one v = true) :
    Rel P B w0 μ (h.upd i (.cells (splice cs o vs) t true op)) (w.setCells e.b (e.o + o) vs') ∧
    Tr μ h w μ (h.upd i (.cells (splice cs o vs) t true op)) (w.setCells e.b (e.o + o) vs') ∧
    (∀ j, j < vs'.length → (w.cell? ⟨e.b, e.o + o + j, none⟩).isSome = true) ∧ (∀ j, j < vs'.length → w.frozen? ⟨e.b, e.o + o + j, none⟩ = false) := by
  obtain ⟨cs', fr, hw, hop, hlen, hvr, hone, hB, hfr, hE, hsz⟩ := R.own he hg
  have hvl := hv.length
  obtain ⟨hos, htp, hou, hsize⟩ := setCells_same e.b vs' (e.o + o) w
  obtain ⟨cs2, hw2, hcs2⟩ := setCells_at (t := t) (fr := fr) vs' (e.o + o) w cs' hw (by omega)
  have hs2 : cs2.size = cs'.size := by rw [← Array.length_toList, hcs2, splice_length _ _ _ (by have hq : cs'.toList.length = cs'.size := Array.length_toList; omega), Array.length_toList]
  have hfar : ∀ k, k ≠ e.b → (w.setCells e.b (e.o + o) vs').heap[k]? = w.heap[k]? := fun k hk => setCells_far vs' _ w k hk
  have hgi : ∀ j, (h.upd i (.cells (splice cs o vs) t true op)).get j = if j = i then some (.cells (splice cs o vs) t true op) else h.get j := fun j => rfl
  have hlive : ∀ j c t' op', (h.upd i (.cells (splice cs o vs) t true op)).get j = some (.cells c t' true op') → ∃ c t' op', h.get j = some (.cells c t' true op') := by
    intro j c t' op' hj
    rw [hgi] at hj
    split at hj
    · rename_i hji; subst hji; exact ⟨_, _, _, hg⟩
    · exact ⟨_, _, _, hj⟩
  have hinext : i < h.next := by
    rcases Nat.lt_or_ge i h.next with hh | hh
    · exact hh
    · rw [(R.fresh i hh).1] at he; cases he
  refine ⟨⟨⟨hos.trans R.below.os, htp.trans R.below.tape, hou.trans R.below.output, by rw [hsize]; exact R.below.size, fun k hk => (hfar k (by omega)).trans (R.below.block k hk)⟩,
    by rw [hsize]; exact R.size, ?_, ?_, ?_⟩, ⟨fun _ _ => rfl, Nat.le_refl _, ?_, ?_, ?_, by rw [hsize]; exact Nat.le_refl _⟩, ?_⟩
  · intro j hj
    refine ⟨(R.fresh j hj).1, ?_⟩
    have hji : j ≠ i := by have : h.next ≤ j := hj; omega
    rw [hgi, if_neg hji]
    exact (R.fresh j hj).2
  · intro j x c t' own' op' hj hgj
    rw [hgi] at hgj
    split at hgj
    · rename_i hji
      subst hji
      rw [he] at hj
      simp only [Option.some.injEq] at hj
      subst hj
      simp only [Option.some.injEq, Blk.cells.injEq] at hgj
      obtain ⟨rfl, rfl, rfl, rfl⟩ := hgj
      refine ⟨hop, fun v hv => ?_, .inr ⟨cs2, fr, hw2, by rw [splice_length _ _ _ hl, hs2]; exact hlen, ?_, fun _ => ⟨hB, by rw [hs2]; exact hfr, by rw [hs2]; exact hE⟩, hsz, (fun hh => by cases hh)⟩⟩
      · rcases splice_mem hv with hv | hv
        · exact hone v hv
        · exact h1 v hv
      · rw [splice_length _ _ _ hl, hcs2, splice_window (by omega) (by have hq : cs'.toList.length = cs'.size := Array.length_toList; omega)]
        have := ((hvr.take o).append hv).append (hvr.drop (o + vs.length))
        simp only [splice]
        rw [← hvl]
        exact this
    · rename_i hji
      obtain ⟨h2, h3, h4⟩ := R.blk j x c t' own' op' hj hgj
      rcases h4 with h4 | h4
      · exact ⟨h2, h3, .inl h4⟩
      · have hne : x.b ≠ e.b := by
          cases own' with
          | true => exact R.inj j i x e c t' op' cs t op hji hj he hgj hg
          | false =>
            obtain ⟨_, _, _, _, _, _, _, h9⟩ := h4
            have := h9 rfl
            omega
        exact BR.mono ⟨h2, h3, .inr h4⟩ (fun _ _ h => h) (hfar _ hne)
  · intro j l x y c1 t1 op1 c2 t2 op2 hjl hj hlj hgj hgl
    obtain ⟨c1', t1', op1', hgj'⟩ := hlive j _ _ _ hgj
    obtain ⟨c2', t2', op2', hgl'⟩ := hlive l _ _ _ hgl
    exact R.inj j l x y _ _ _ _ _ _ hjl hj hlj hgj' hgl'
  · intro j c t' op' hj hgj
    exact hlive j _ _ _ hgj
  · intro b hb hne
    exact hfar b (fun hh => hne i e cs t op he hg hh.symm)
  · intro j x c t' op' hj hx hgj
    rw [(R.fresh j hj).1] at hx
    cases hx
  · refine ⟨fun j hj => ?_, fun j hj => ?_⟩
    · simp only [World.cell?, hw]
      simp
      omega
    · simp only [World.frozen?, hw]
      simp
      intro h1
      rcases hfr with hfr | hfr <;> omega

theorem store_run {P' : Program} {b o : Nat} {vs : List Value} (h1 : ∀ v ∈ vs, one v = true) (hc : ∀ j, j < vs.length → (w.cell? ⟨b, o + j, none⟩).isSome = true) (hf : ∀ j, j < vs.length → w.frozen? ⟨b, o + j, none⟩ = false) :
    (Go.storeCells ⟨b, o, none⟩ vs).run P' w = .ok () (w.setCells b o vs) := by
  have := run_storeCells_cells (P := P') b o vs 0 w (by simpa using hc) (by simpa using hf) (fun v hv' => one_oneCell (h1 v hv'))
  simpa using this
end
end Go.Proofs.YtemgddekbdifeaaGreat.Am

namespace Go.Proofs.YtemgddekbdifeaaGreat.Am
open Go.RowKit

section
variable {P : Program} {B : Nat} {w0 : World} {μ : Mu} {h : H} {w : World}

theorem Rel.drawn (R : Rel P B w0 μ h w) (d : Nat) : Rel P B w0 μ h { w with drawn := d } :=
  ⟨⟨R.below.os, R.below.tape, R.below.output, R.below.size, R.below.block⟩, R.size, R.fresh, R.blk, R.inj⟩

theorem Rel.kill (R : Rel P B w0 μ h w) (i : Nat) : Rel P B w0 μ (h.kill i) w := by
  have hk : ∀ j b, (h.kill i).get j = some b → h.get j = some b := by
    intro j b hj
    have : (if j = i then none else h.get j) = some b := hj
    split at this
    · cases this
    · exact this
  refine ⟨R.below, R.size, fun j hj => ⟨(R.fresh j hj).1, ?_⟩, fun j e cs t own op hj hg => R.blk j e cs t own op hj (hk _ _ hg), fun j l e e' cs t op cs' t' op' hjl hj hl hgj hgl => R.inj j l e e' cs t op cs' t' op' hjl hj hl (hk _ _ hgj) (hk _ _ hgl)⟩
  show (if j = i then none else h.get j) = none
  split
  · rfl
  · exact (R.fresh j hj).2

theorem kill_live {h : H} {i j : Nat} {b : Blk} (hj : (h.kill i).get j = some b) : h.get j = some b ∧ j ≠ i := by
  have : (if j = i then none else h.get j) = some b := hj
  split at this
  · cases this
  · rename_i hne; exact ⟨this, hne⟩

/-- Where an append takes its elements from. -/
theorem src_run (R : Rel P B w0 μ h w) {sz k m : Nat} {y y' : Value} {ys : List Value} (hy : VR μ y y') (hm : srcLen y = some m) (hk : k ≤ m) (hs : srcCells h sz k y = some ys) :
    (∀ w1, (Builtin.lenOf y').run P w1 = .ok m w1) ∧ ∃ ys', VRL μ ys ys' ∧ (∀ v ∈ ys, one v = true) ∧ ys.length = k * sz ∧ ∀ d, (Builtin.firstCells sz k y').run P { w with drawn := d } = .ok ys'.toArray { w with drawn := d } := by
  cases hy <;> simp only [srcLen, Option.some.injEq, reduceCtorEq] at hm
  case string s =>
    subst hm
    simp only [srcCells] at hs
    split at hs
    · rename_i hsz
      subst hsz
      simp only [Option.some.injEq] at hs
      subst hs
      refine ⟨fun _ => by simp [Builtin.lenOf], _, VRL.map (f := fun b : UInt8 => Value.int .u8 b.toNat) (g := fun b : UInt8 => Value.int .u8 b.toNat) _ (fun _ _ => .int _ _), ?_, ?_, ?_⟩
      · intro v hv
        obtain ⟨b, _, rfl⟩ := List.mem_map.1 hv
        rfl
      · have : s.data.toList.length = s.size := Array.length_toList
        rw [List.length_map, List.length_take]
        omega
      · intro d
        simp only [Builtin.firstCells, Sem.run_pure]
        congr 1
        apply Array.ext'
        simp [ByteArray.extract, ByteArray.copySlice]
    · cases hs
  case sl0 =>
    subst hm
    simp only [srcCells, Option.some.injEq] at hs
    subst hs
    exact ⟨fun _ => by simp [Builtin.lenOf], [], .nil, by simp, by rw [show k = 0 by omega]; simp, fun d => by simp [Builtin.firstCells]⟩
  case sl i o n c c' e he hn hc hx hE =>
    subst hm
    simp only [srcCells] at hs
    refine ⟨fun _ => by simp [Builtin.lenOf], ?_⟩
    obtain ⟨vs2, hv2, h1, hl2, hc2⟩ := R.rd he hs
    refine ⟨vs2, hv2, h1, hl2, fun d => ?_⟩
    have h3 := run_loadCells_list (P := P) { w with drawn := d } ⟨e.b, e.o + o, none⟩ vs2 hc2
    rw [← hv2.length, hl2] at h3
    simp [Builtin.firstCells, h3]

/-- A row that grows where it lies. -/
theorem Rel.grow (R : Rel P B w0 μ h w) {i o n sz c' : Nat} {e : Ent} {cs ys ys' : List Value} {t : TypeId} (he : μ i = some e) (hg : h.get i = some (.cells cs t true true))
    (hsz : szT P t = some sz) (hn : o + n * sz ≤ cs.length) (hv : VRL μ ys ys') (h1 : ∀ v ∈ ys, one v = true) (hE : e.o + o + c' * sz ≤ e.E) (hl : n * sz + ys.length ≤ c' * sz) :
    ∃ e', e' = (⟨e.b, e.o + o, true, e.E, sz⟩ : Ent) ∧
    Rel P B w0 (μ.set h.next e') ((h.kill i).push (.cells ((cs.drop o).take (n * sz) ++ ys) t true true)) (w.setCells e.b (e.o + o + n * sz) ys') ∧
    Tr μ h w (μ.set h.next e') ((h.kill i).push (.cells ((cs.drop o).take (n * sz) ++ ys) t true true)) (w.setCells e.b (e.o + o + n * sz) ys') ∧
    (∀ j, j < ys'.length → (w.cell? ⟨e.b, e.o + o + n * sz + j, none⟩).isSome = true) ∧ (∀ j, j < ys'.length → w.frozen? ⟨e.b, e.o + o + n * sz + j, none⟩ = false) := by
  refine ⟨_, rfl, ?_⟩
  obtain ⟨cs', fr, hw, hop, hlen, hvr, hone, hB, hfr, hE2, hsz2⟩ := R.own he hg
  have hE2 := hE2 rfl
  have hvl := hv.length
  have hq : cs'.toList.length = cs'.size := Array.length_toList
  obtain ⟨hos, htp, hou, hsize⟩ := setCells_same e.b ys' (e.o + o + n * sz) w
  obtain ⟨cs2, hw2, hcs2⟩ := setCells_at (t := t) (fr := fr) ys' (e.o + o + n * sz) w cs' hw (by omega)
  have hs2 : cs2.size = cs'.size := by rw [← Array.length_toList, hcs2, splice_length _ _ _ (by omega), Array.length_toList]
  have hfar : ∀ k, k ≠ e.b → (w.setCells e.b (e.o + o + n * sz) ys').heap[k]? = w.heap[k]? := fun k hk => setCells_far ys' _ w k hk
  have hnn := (R.fresh h.next (Nat.le_refl _)).1
  have hm := Mu.set_mono (e := ⟨e.b, e.o + o, true, e.E, sz⟩) hnn
  have hinext : i < h.next := by
    rcases Nat.lt_or_ge i h.next with hh | hh
    · exact hh
    · rw [(R.fresh i hh).1] at he; cases he
  generalize hblk : Blk.cells ((cs.drop o).take (n * sz) ++ ys) t true true = blk
  have hget : ∀ j, ((h.kill i).push blk).get j = if j = h.next then some blk else if j = i then none else h.get j := fun j => rfl
  have hold : ∀ j b, j ≠ h.next → ((h.kill i).push blk).get j = some b → h.get j = some b ∧ j ≠ i := by
    intro j b hj hgj
    rw [hget, if_neg hj] at hgj
    split at hgj
    · cases hgj
    · rename_i hne; exact ⟨hgj, hne⟩
  have hmu : ∀ j, j ≠ h.next → μ.set h.next ⟨e.b, e.o + o, true, e.E, sz⟩ j = μ j := fun j hj => by unfold Mu.set; rw [if_neg hj]
  have hmn : μ.set h.next ⟨e.b, e.o + o, true, e.E, sz⟩ h.next = some ⟨e.b, e.o + o, true, e.E, sz⟩ := by simp [Mu.set]
  refine ⟨⟨⟨hos.trans R.below.os, htp.trans R.below.tape, hou.trans R.below.output, by rw [hsize]; exact R.below.size, fun k hk => (hfar k (by omega)).trans (R.below.block k hk)⟩,
    by rw [hsize]; exact R.size, ?_, ?_, ?_⟩, ⟨fun j hj => hmu j (by omega), Nat.le_succ _, ?_, ?_, ?_, by rw [hsize]; exact Nat.le_refl _⟩, ?_⟩
  · intro j hj
    have hj' : h.next + 1 ≤ j := hj
    refine ⟨by rw [hmu j (by omega)]; exact (R.fresh j (by omega)).1, ?_⟩
    rw [hget, if_neg (by omega), if_neg (by omega)]
    exact (R.fresh j (by omega)).2
  · intro j x c tj ownj opj hj hgj
    by_cases hjn : j = h.next
    · subst hjn
      rw [hmn] at hj
      simp only [Option.some.injEq] at hj
      subst hj
      rw [hget, if_pos rfl, ← hblk] at hgj
      simp only [Option.some.injEq, Blk.cells.injEq] at hgj
      obtain ⟨rfl, rfl, rfl, rfl⟩ := hgj
      have hl1 : ((cs.drop o).take (n * sz)).length = n * sz := by rw [List.length_take, List.length_drop]; omega
      refine ⟨rfl, fun v hv' => ?_, .inr ⟨cs2, fr, hw2, by show e.o + o + _ ≤ _; rw [List.length_append, hl1, hs2]; omega, ?_, fun _ => ⟨hB, by rw [hs2]; exact hfr, fun _ => by rw [hs2]; exact hE2⟩, fun _ => hsz, (fun hh => by cases hh)⟩⟩
      · rcases List.mem_append.1 hv' with hv' | hv'
        · exact hone v (List.mem_of_mem_drop (List.mem_of_mem_take hv'))
        · exact h1 v hv'
      · have hwin : (cs2.toList.drop (e.o + o)).take ((cs.drop o).take (n * sz) ++ ys).length = ((cs'.toList.drop e.o).take cs.length |>.drop o |>.take (n * sz)) ++ ys' := by
          rw [hcs2, List.length_append, hl1]
          apply List.ext_getElem?
          intro q
          rw [List.getElem?_take, List.getElem?_drop, splice_get (by omega), List.getElem?_append]
          have hl3 : ((((cs'.toList.drop e.o).take cs.length).drop o).take (n * sz)).length = n * sz := by
            rw [List.length_take, List.length_drop, List.length_take, List.length_drop]; omega
          rw [hl3]
          by_cases hq1 : q < n * sz
          · rw [if_pos (by omega), if_pos (by omega), if_pos hq1, List.getElem?_take, if_pos hq1, List.getElem?_drop, List.getElem?_take, if_pos (by omega), List.getElem?_drop]
            congr 1; omega
          · rw [if_neg hq1]
            by_cases hq2 : q < n * sz + ys.length
            · rw [if_pos hq2, if_neg (by omega), if_pos (by omega)]
              congr 1; omega
            · rw [if_neg hq2, List.getElem?_eq_none (by omega)]
        rw [hwin]
        exact (((hvr.drop o).take (n * sz)).append hv).mono hm
    · obtain ⟨hgo, hji⟩ := hold j _ hjn hgj
      rw [hmu j hjn] at hj
      obtain ⟨h2, h3, h4⟩ := R.blk j x c tj ownj opj hj hgo
      rcases h4 with h4 | h4
      · exact ⟨h2, h3, .inl h4⟩
      · have hne : x.b ≠ e.b := by
          cases ownj with
          | true => exact R.inj j i x e c tj opj cs t true hji hj he hgo hg
          | false =>
            obtain ⟨_, _, _, _, _, _, _, h9⟩ := h4
            have := h9 rfl
            omega
        exact BR.mono ⟨h2, h3, .inr h4⟩ hm (hfar _ hne)
  · intro j l x y c1 t1 op1 c2 t2 op2 hjl hj hlj hgj hgl
    by_cases hjn : j = h.next
    · subst hjn
      have hln : l ≠ h.next := fun hh => hjl hh.symm
      obtain ⟨hgo, hli⟩ := hold l _ hln hgl
      rw [hmu l hln] at hlj
      rw [hmn] at hj
      simp only [Option.some.injEq] at hj
      subst hj
      exact R.inj i l e y cs t true c2 t2 op2 (fun hh => hli hh.symm) he hlj hg hgo
    · obtain ⟨hgo, hji⟩ := hold j _ hjn hgj
      rw [hmu j hjn] at hj
      by_cases hln : l = h.next
      · subst hln
        rw [hmn] at hlj
        simp only [Option.some.injEq] at hlj
        subst hlj
        exact R.inj j i x e c1 t1 op1 cs t true hji hj he hgo hg
      · obtain ⟨hgo2, _⟩ := hold l _ hln hgl
        rw [hmu l hln] at hlj
        exact R.inj j l x y c1 t1 op1 c2 t2 op2 hjl hj hlj hgo hgo2
  · intro j c tj opj hj hgj
    exact ⟨_, _, _, (hold j _ (by omega) hgj).1⟩
  · intro b hb hne
    exact hfar b (fun hh => hne i e cs t true he hg hh.symm)
  · intro j x c tj opj hj hx hgj
    by_cases hjn : j = h.next
    · subst hjn
      rw [hmn] at hx
      simp only [Option.some.injEq] at hx
      subst hx
      exact .inr ⟨i, e, cs, t, true, he, hg, rfl⟩
    · rw [hmu j hjn, (R.fresh j hj).1] at hx
      cases hx
  · refine ⟨fun j hj => ?_, fun j hj => ?_⟩
    · simp only [World.cell?, hw]
      simp
      omega
    · simp only [World.frozen?, hw]
      simp
      intro h1
      rcases hfr with hfr | hfr <;> omega
end
end Go.Proofs.YtemgddekbdifeaaGreat.Am

namespace Go.Proofs.YtemgddekbdifeaaGreat.Am
open Go.RowKit

theorem growBy_le (newLen : Nat) : ∀ (r c : Nat), c < newLen → Builtin.growBy newLen r c ≤ newLen + (newLen + 768) / 4
  | 0, c, h => by simp only [Builtin.growBy]; omega
  | r + 1, c, h => by
    simp only [Builtin.growBy]
    split
    · omega
    · by_cases h2 : c + (c + 768) / 4 < newLen
      · exact growBy_le newLen r _ h2
      · cases r with
        | zero => simp only [Builtin.growBy]; omega
        | succ r => simp only [Builtin.growBy]; rw [if_pos (by omega)]; omega

theorem nextcap_le (newLen old : Nat) (h : old < newLen) : Builtin.nextslicecap newLen old ≤ newLen + newLen / 4 + 512 := by
  unfold Builtin.nextslicecap
  split
  · omega
  · split
    · omega
    · have := growBy_le newLen 4 old h
      omega

section
variable {P : Program} {B : Nat} {w0 : World} {μ : Mu} {h : H} {w : World}

/-- A new row with room behind. -/
theorem new_open {cs : List Value} {cs1 : List Value} {t : TypeId} {sz cap : Nat} {fill : List Value} (R : Rel P B w0 μ h w) (hv : VRL μ cs cs1) (h1 : ∀ v ∈ cs, one v = true) (hsz : szT P t = some sz)
    (hE : (cs1 ++ fill).length = cap * sz) (d : Nat) {i : Nat} (hi : μ i = none) :
    NewAt P B (μ.set i ⟨w.heap.size, 0, true, cap * sz, sz⟩) w ⟨w.heap.size, 0, true, cap * sz, sz⟩ cs t true true { w with drawn := d, heap := w.heap.push (.cells (cs1 ++ fill).toArray t) } := by
  refine ⟨⟨rfl, h1, .inr ⟨(cs1 ++ fill).toArray, (0, 0), ?_, ?_, ?_, fun _ => ⟨R.size, by simp, fun _ => by simp [← hE]⟩, fun _ => hsz, (fun h => by cases h)⟩⟩, rfl, rfl, rfl, by simp, ?_, fun _ => Nat.le_refl _⟩
  · simp
  · have := hv.length; simp; omega
  · have := hv.length
    simp only [List.drop_zero]
    rw [this, List.take_append_of_le_length (Nat.le_refl _), List.take_length]
    exact hv.mono (Mu.set_mono hi)
  · intro k hk
    show (w.heap.push _)[k]? = _
    rw [Array.getElem?_push, if_neg (by omega)]

theorem Tr.fresh {blk : Blk} {μ' : Mu} {w' : World} {e : Ent} (R : Rel P B w0 μ h w) (hμ : μ' = μ.set h.next e) (hs : w.heap.size ≤ w'.heap.size) (ho : ∀ k, k < w.heap.size → w'.heap[k]? = w.heap[k]?)
    (hb : ∀ cs t op, blk = .cells cs t true op → w.heap.size ≤ e.b) : Tr μ h w μ' (h.push blk) w' := by
  subst hμ
  have hget : ∀ j, (h.push blk).get j = if j = h.next then some blk else h.get j := fun j => rfl
  refine ⟨fun j hj => by unfold Mu.set; rw [if_neg (by omega)], Nat.le_succ _, ?_, fun b hb _ => ho b hb, ?_, hs⟩
  · intro j c t op hj hg
    rw [hget, if_neg (by omega)] at hg
    exact ⟨_, _, _, hg⟩
  · intro j x c t op hj hx hg
    by_cases hjn : j = h.next
    · subst hjn
      rw [hget, if_pos rfl] at hg
      simp only [Option.some.injEq] at hg
      unfold Mu.set at hx
      rw [if_pos rfl] at hx
      simp only [Option.some.injEq] at hx
      subst hx
      exact .inl (hb _ _ _ hg)
    · unfold Mu.set at hx
      rw [if_neg hjn, (R.fresh j hj).1] at hx
      cases hx

theorem Tr.kill (R : Rel P B w0 μ h w) (i : Nat) : Tr μ h w μ (h.kill i) w :=
  ⟨fun _ _ => rfl, Nat.le_refl _, fun j c t op _ hg => ⟨_, _, _, (kill_live hg).1⟩, fun _ _ _ => rfl, (fun j x _ _ _ hj hx _ => by rw [(R.fresh j hj).1] at hx; cases hx), Nat.le_refl _⟩

theorem r_size {t : TypeId} {n : Nat} {i : TypeInfo} (h : szT P t = some n) (hi : P.info? t = some i) : i.size = n := by
  unfold szT at h
  simpa [hi] using h

theorem w_app {ts : Array TypeId} {x y : Operand} {aop : AOp} {ty : TypeId} {cl : Cl} {ρ ρ' : Operand → Value} {K : Value → H → Prop} (hc : compApp P ts.toList [x, y] = some aop) (R : Rel P B w0 μ h w)
    (hx : VR μ (ρ x) (ρ' x)) (hy : VR μ (ρ y) (ρ' y)) (hk : sst cl ρ h aop K) :
    ∃ v h' v' μ' w', K v h' ∧ Rel P B w0 μ' h' w' ∧ VR μ' v v' ∧ Tr μ h w μ' h' w' ∧ (Builtin.append_ ts ty #[ρ' x, ρ' y]).run P w = .ok v' w' := by
  unfold compApp at hc
  simp only at hc
  split at hc
  case h_2 => cases hc
  rename_i t0 t1 hts
  have hts : ts = #[t0, t1] := by apply Array.ext'; simpa using hts
  subst hts
  split at hc
  case h_2 => cases hc
  rename_i e hu
  split at hc
  case h_1 => cases hc
  rename_i sz hsz
  split at hc
  case h_1 => cases hc
  rename_i byt hby
  split at hc
  case h_1 => cases hc
  rename_i z hz
  split at hc
  case isFalse => cases hc
  rename_i hcond
  obtain ⟨hzl, hs0, hb0, hap⟩ := hcond
  simp only [Option.some.injEq] at hc
  subst hc
  obtain ⟨inf, hinf, hinb⟩ := r_byt hby
  have hinsz := r_size hsz hinf
  obtain ⟨zv, hzv, hzc, hzf⟩ : ∃ zv, inf.zero = some zv ∧ zv.cells.toList = z ∧ z.all flat1 = true := by
    unfold zeroT at hz
    rw [hinf] at hz
    cases hzz : inf.zero with
    | none => simp [hzz] at hz
    | some v =>
      simp only [hzz, Option.bind_some] at hz
      split at hz
      · rename_i hf
        simp only [Option.some.injEq] at hz
        exact ⟨v, rfl, hz, by rw [← hz]; exact hf⟩
      · cases hz
  have hkind : (∃ e', P.underlying t1 = some (.slice e')) ∨ P.underlying t1 = some .string := by
    unfold isApp at hap
    split at hap
    · exact .inl ⟨_, by assumption⟩
    · exact .inr (by assumption)
    · cases hap
  simp only [sst] at hk
  split at hk
  case h_2 => exact hk.elim
  rename_i base n c hxx
  rw [hxx] at hx
  obtain ⟨m, hm, ys, hys, hk1, hk2⟩ := hk
  obtain ⟨hlen, ys', hyv, hy1, hyl, hyr⟩ := src_run R hy hm (Nat.le_refl _) hys
  have hyl' : ys'.length = m * sz := by rw [← hyv.length]; exact hyl
  have src : Src P inf.size t1 (ρ' y) m ys' w := ⟨hkind, hlen, by rw [hinsz]; exact hyr w.drawn, by rw [hinsz]; exact hyr (w.drawn + 1), by rw [hinsz]; exact hyl', fun u hu => one_oneCell (hyv.all_one hy1 u hu)⟩
  -- the arm that grows
  have grow : ∀ (base' : Option Addr) (c' : Nat) (old : List Value) (h1 : H), Rel P B w0 μ h1 w → Tr μ h w μ h1 w → h1.next = h.next → ρ' x = .slice base' n c' →
      (∃ old', VRL μ old old' ∧ (∀ v ∈ old, one v = true) ∧ old'.length = n * sz ∧ (Builtin.firstCells sz n (.slice base' n c')).run P w.drew = .ok old'.toArray w.drew) →
      c' < n + m → ((n + m) + (n + m) / 4 + 512) * byt ≤ 2 ^ 48 → K (.slice (some ⟨h.next, 0, none⟩) (n + m) (n + m)) (h1.push (.cells (old ++ ys) e true true)) →
      ∃ v h' v' μ' w', K v h' ∧ Rel P B w0 μ' h' w' ∧ VR μ' v v' ∧ Tr μ h w μ' h' w' ∧ (Builtin.append_ #[t0, t1] ty #[ρ' x, ρ' y]).run P w = .ok v' w' := by
    intro base' c' old h1 R1 T1 hnx hxr ⟨old', hov, ho1, hol, hor⟩ hcl hlim hK
    have hcap := nextcap_le (n + m) c' hcl
    have hfit : Builtin.nextslicecap (n + m) c' * inf.bytes ≤ 281474976710656 := by
      rw [hinb]
      exact Nat.le_trans (Nat.mul_le_mul_right _ hcap) (by simpa using hlim)
    have h63 : ((n + m : Nat) : Int) ≤ 9223372036854775807 := by
      have : (n + m) * 1 ≤ ((n + m) + (n + m) / 4 + 512) * byt := Nat.mul_le_mul (by omega) hb0
      omega
    have hrun := run_append_grow_src w t0 t1 ty e inf zv hu hinf hzv base' n c' old' (by rw [hinsz]; exact hor) (ρ' y) m ys' src hcl h63 hfit
    have hgc : n + m ≤ grownCap w (n + m) c' e := by unfold grownCap; exact cut_cap _ _ _ _
    have hnn := (R.fresh h.next (Nat.le_refl _)).1
    have hzs : zv.cells.size = sz := by rw [← Array.length_toList, hzc, hzl]
    have hNE : (old' ++ ys' ++ (Builtin.zeroCells zv.cells (grownCap w (n + m) c' e - (n + m))).toList).length = grownCap w (n + m) c' e * sz := by
      simp only [List.length_append, hol, hyl', Builtin.zeroCells, Array.length_toList, Array.size_map, Array.size_range, hzs]
      rw [← Nat.add_mul, ← Nat.add_mul]
      congr 1
      omega
    have N := new_open (P := P) (i := h.next) R1 (hov.append hyv) (fun v hv => by
      rcases List.mem_append.1 hv with hv | hv
      · exact ho1 v hv
      · exact hy1 v hv) hsz hNE (w.drawn + 1) hnn
    have hget : (h1.push (.cells (old ++ ys) e true true)).get h.next = some (.cells (old ++ ys) e true true) := by
      show (if h.next = h1.next then _ else _) = _
      rw [if_pos hnx.symm]
    have hR := (R1.push (.cells (old ++ ys) e true true)).new (i := h.next) (by show h.next < h1.next + 1; omega) hnn hget N
    refine ⟨_, _, .slice (some ⟨w.heap.size, 0, none⟩) (n + m) (grownCap w (n + m) c' e), _, _, hK, hR, ?_, T1.trans (Tr.fresh (e := ⟨w.heap.size, 0, true, grownCap w (n + m) c' e * sz, sz⟩) R1 (by rw [hnx]) N.size N.old (fun _ _ _ _ => Nat.le_refl _)), ?_⟩
    · have := VR.sl (μ := μ.set h.next ⟨w.heap.size, 0, true, grownCap w (n + m) c' e * sz, sz⟩) (o := 0) (n := n + m) (c := n + m) (c' := grownCap w (n + m) c' e) (set_at μ h.next _) (Nat.le_refl _) hgc (fun h => by cases h) (fun _ => by simp)
      simpa using this
    · rw [hxr, hrun]
      congr 1
      simp only [World.alloc, World.drew]
      congr 3
      apply Array.ext'
      simp
  obtain ⟨a', hx'⟩ : ∃ a', ρ' x = a' := ⟨_, rfl⟩
  rw [hx'] at hx
  cases hx
  case sl0 =>
    by_cases hm0 : 0 + m ≤ 0
    · -- nothing onto nothing
      have hm00 : m = 0 := by omega
      subst hm00
      have hk := hk1 (by omega)
      simp only at hk
      refine ⟨_, _, .slice none 0 0, μ, w, hk, R, .sl0, Tr.refl μ h w (fun i hi => (R.fresh i hi).1), ?_⟩
      rw [hx']
      rcases src.kind with ⟨e', hkk⟩ | hkk <;> simp [Builtin.append_, run_underlying hu, run_underlying hkk, sizeOf, typeInfo, hinf, src.len, src.cells]
    · obtain ⟨hlim, p, hp, hK⟩ := hk2 (by omega)
      simp only [takeRow, and_self, if_true, Option.some.injEq] at hp
      subst hp
      exact grow none 0 [] h R (Tr.refl μ h w (fun i hi => (R.fresh i hi).1)) rfl hx' ⟨[], .nil, by simp, by simp, by simp [Builtin.firstCells]⟩ (by omega) hlim hK
  case sl i o c' e' he hE hcc hxo hnc =>
    by_cases hroom : n + m ≤ c
    · -- there is room, as far as is known
      obtain ⟨h', hw, hK⟩ := hk1 hroom
      unfold H.wr at hw
      split at hw
      · rename_i cs t op hg
        split at hw
        · rename_i hle
          simp only [Option.some.injEq] at hw
          subst hw
          obtain ⟨hR, hT, hcell, hfz⟩ := R.write he hg hle hyv hy1
          have hrun := run_append_room_src w t0 t1 ty e inf hu hinf e'.b (e'.o + o) n c' (ρ' y) m ys' src (by omega)
            (by rw [hinsz]; intro j hj; have := hcell j hj; rwa [show e'.o + o + n * sz + j = e'.o + (o + n * sz) + j by omega])
            (by rw [hinsz]; intro j hj; have := hfz j hj; rwa [show e'.o + o + n * sz + j = e'.o + (o + n * sz) + j by omega])
          rw [hinsz, show e'.o + o + n * sz = e'.o + (o + n * sz) by omega] at hrun
          exact ⟨_, _, _, μ, _, hK, hR, .sl he hroom hcc hxo hE, hT, by rw [hx']; exact hrun⟩
        · cases hw
      · cases hw
    · obtain ⟨hlim, p, hp, hK⟩ := hk2 (by omega)
      simp only [takeRow] at hp
      split at hp
      · rename_i cs t' own opn hg
        split at hp
        case isFalse => cases hp
        rename_i hle
        have hrd : h.rd i o (n * sz) = some ((cs.drop o).take (n * sz)) := by
          unfold H.rd
          rw [hg]
          simp only
          rw [if_pos hle]
        have hold : ∃ old', VRL μ ((cs.drop o).take (n * sz)) old' ∧ (∀ v ∈ (cs.drop o).take (n * sz), one v = true) ∧ old'.length = n * sz ∧ (Builtin.firstCells sz n (.slice (some ⟨e'.b, e'.o + o, none⟩) n c')).run P w.drew = .ok old'.toArray w.drew := by
          obtain ⟨vs', hv, h1, hl, hc2⟩ := (R.drawn (w.drawn + 1)).rd he hrd
          refine ⟨vs', hv, h1, by rw [← hv.length]; exact hl, ?_⟩
          have h3 := run_loadCells_list (P := P) w.drew ⟨e'.b, e'.o + o, none⟩ vs' hc2
          rw [← hv.length, hl] at h3
          simp [Builtin.firstCells, h3]
        split at hp
        · rename_i hop
          split at hp
          case isFalse => cases hp
          rename_i hcond
          obtain ⟨rfl, rfl, hend⟩ := hcond
          simp only [Option.some.injEq] at hp
          subst hp
          subst hop
          by_cases hroom2 : n + m ≤ c'
          · -- there is room that nobody knew of
            obtain ⟨_, _, _, heo, _, _, _, _, _, _, hesz⟩ := R.own he hg
            have hesz := hesz rfl
            rw [hsz] at hesz
            simp only [Option.some.injEq] at hesz
            have hE := hE heo
            rw [← hesz] at hE
            obtain ⟨e2, he2, hR, hT, hcell, hfz⟩ := R.grow (c' := c') he hg hsz hle hyv hy1 hE (by rw [hyl, ← Nat.add_mul]; exact Nat.mul_le_mul_right _ hroom2)
            have hrun := run_append_room_src w t0 t1 ty t' inf hu hinf e'.b (e'.o + o) n c' (ρ' y) m ys' src (by omega)
              (by rw [hinsz]; exact hcell) (by rw [hinsz]; exact hfz)
            rw [hinsz] at hrun
            refine ⟨_, _, _, _, _, hK, hR, ?_, hT, by rw [hx']; exact hrun⟩
            have := VR.sl (μ := μ.set h.next e2) (o := 0) (n := n + m) (c := n + m) (c' := c') (set_at μ h.next e2) (Nat.le_refl _) hroom2 (fun hh => by rw [he2] at hh; cases hh) (fun _ => by rw [he2]; simpa using hE)
            rw [he2] at this ⊢
            simpa using this
          · exact grow _ c' _ (h.kill i) (R.kill i) (Tr.kill R i) rfl hx' hold (by omega) hlim hK
        · rename_i hop
          simp only [Option.some.injEq] at hp
          subst hp
          have hopn : opn = false := by cases opn <;> simp_all
          subst hopn
          have heo : e'.opn = false := (R.blk i e' cs t' own false he hg).1
          have := hxo heo
          exact grow _ c' _ h R (Tr.refl μ h w (fun i hi => (R.fresh i hi).1)) rfl hx' hold (by omega) hlim hK
      · cases hp
end
end Go.Proofs.YtemgddekbdifeaaGreat.Am

namespace Go.Proofs.YtemgddekbdifeaaGreat.Am
open Go.RowKit

section
variable {P : Program} {B : Nat} {w0 : World} {μ : Mu} {h : H} {w : World} {cl : Cl} {ρ ρ' : Operand → Value} {K : Value → H → Prop}

theorem set_splice (cs : List Value) (o : Nat) (v : Value) (h : o < cs.length) : cs.set o v = splice cs o [v] := by
  have := splice_set cs o v [] h
  rw [← this]
  simp [splice]

theorem w_store {t : TypeId} {x y : Operand} {aop : AOp} (hc : compStore P t x y = some aop) (R : Rel P B w0 μ h w)
    (hx : VR μ (ρ x) (ρ' x)) (hy : VR μ (ρ y) (ρ' y)) (hk : sst cl ρ h aop K) :
    ∃ h' w', K undef h' ∧ Rel P B w0 μ h' w' ∧ Tr μ h w μ h' w' ∧ (Instr.storeAt t (ρ' x) (ρ' y)).run P w = .ok () w' := by
  unfold compStore at hc
  split at hc
  · cases hc
  · rename_i n hsz
    have main : ∀ (i o : Nat) (l : List Value) (cs : List Value) (ty : TypeId) (op : Bool), ρ x = .pointer (some ⟨i, o, none⟩) → cellsOf (ρ y) = some l → l.length = n → h.get i = some (.cells cs ty true op) → o + l.length ≤ cs.length →
        K undef (h.upd i (.cells (splice cs o l) ty true op)) → ∃ h' w', K undef h' ∧ Rel P B w0 μ h' w' ∧ Tr μ h w μ h' w' ∧ (Instr.storeAt t (ρ' x) (ρ' y)).run P w = .ok () w' := by
      intro i o l cs ty op hxx hl hln hg hle hK
      rw [hxx] at hx
      obtain ⟨a', hx'⟩ : ∃ a', ρ' x = a' := ⟨_, rfl⟩
      rw [hx'] at hx
      cases hx
      rename_i e he
      obtain ⟨hlv, hl1⟩ := cellsOf_VR hy hl
      obtain ⟨hR, hT, hcell, hfz⟩ := R.write he hg hle hlv hl1
      have hst := store_run (P' := P) (b := e.b) (o := e.o + o) (hlv.all_one hl1) hcell hfz
      refine ⟨_, _, hK, hR, hT, ?_⟩
      have hsize : (ρ' y).cells.size = n := by rw [← Array.length_toList, ← hlv.length]; exact hln
      simp [Instr.storeAt, hx', Instr.sureAddr, storeVar, r_sz hsz, hsize, hst]
    split at hc
    · simp only [Option.some.injEq] at hc
      subst hc
      simp only [sst] at hk
      split at hk
      · rename_i i o hxx
        obtain ⟨l, hl, hln, h', hw, hK⟩ := hk
        unfold H.wr at hw
        split at hw
        · rename_i cs ty op hg
          split at hw
          · rename_i hle
            simp only [Option.some.injEq] at hw
            subst hw
            exact main i o l cs ty op hxx hl hln hg hle hK
          · cases hw
        · cases hw
      · exact hk.elim
    · split at hc
      · rename_i hn1
        simp only [Option.some.injEq] at hc
        subst hc
        simp only [sst] at hk
        split at hk
        · rename_i i o hxx
          obtain ⟨hl, h', hw, hK⟩ := hk
          unfold H.wr1 at hw
          split at hw
          · rename_i cs ty op hg
            split at hw
            · rename_i hlt
              simp only [Option.some.injEq] at hw
              subst hw
              rw [set_splice _ _ _ hlt] at hK
              exact main i o [ρ y] cs ty op hxx hl (by simp [hn1]) hg (by simp; omega) hK
            · cases hw
          · cases hw
        · exact hk.elim
      · cases hc
    · cases hc

theorem w_copy {ts : Array TypeId} {x y : Operand} {aop : AOp} {ty : TypeId} (hc : compCpy P ts [x, y] = some aop) (R : Rel P B w0 μ h w)
    (hx : VR μ (ρ x) (ρ' x)) (hy : VR μ (ρ y) (ρ' y)) (hk : sst cl ρ h aop K) :
    ∃ v h' w', K v h' ∧ Rel P B w0 μ h' w' ∧ flat1 v = true ∧ Tr μ h w μ h' w' ∧ (Builtin.copy_ ts ty #[ρ' x, ρ' y]).run P w = .ok v w' := by
  unfold compCpy at hc
  simp only at hc
  split at hc
  case h_2 => cases hc
  rename_i e hu0
  obtain ⟨t, ht, hu⟩ : ∃ t, ts[0]? = some t ∧ P.underlying t = some (.slice e) := by
    unfold undArg at hu0
    cases ht : ts[0]? with
    | none => simp [ht] at hu0
    | some t => simp [ht] at hu0; exact ⟨t, rfl, hu0⟩
  obtain ⟨sz, hsz, rfl⟩ := Option.map_eq_some_iff.1 hc
  simp only [sst] at hk
  split at hk
  case h_2 => exact hk.elim
  rename_i base n c hxx
  rw [hxx] at hx
  obtain ⟨m, hm, ys, hys, hk⟩ := hk
  obtain ⟨hlen, ys', hyv, hy1, hyl, hyr⟩ := src_run R hy hm (Nat.min_le_left m n) hys
  have hyr0 := hyr w.drawn
  obtain ⟨a', hx'⟩ : ∃ a', ρ' x = a' := ⟨_, rfl⟩
  rw [hx'] at hx
  cases hx
  case sl0 =>
    simp only at hk
    refine ⟨_, _, w, hk, R, rfl, Tr.refl μ h w (fun i hi => (R.fresh i hi).1), ?_⟩
    rw [hx']
    have e2 : (#[Value.slice none 0 0, ρ' y] : Array Value)[0]? = some (Value.slice none 0 0) := rfl
    have e3 : (#[Value.slice none 0 0, ρ' y] : Array Value)[1]? = some (ρ' y) := rfl
    simp only [Builtin.copy_, ht, e2, e3, Sem.run_bind, r_und hu, Result.andThen_ok, hlen, r_sz hsz]
    have hmn : Nat.min m 0 = min m 0 := rfl
    rw [hmn]
    have : (Builtin.firstCells sz (min m 0) (ρ' y)).run P w = .ok ys'.toArray w := hyr0
    simp only [this, Result.andThen_ok, Sem.run_pure]
    rfl
  case sl i o c' e' he hE hcc hxo hnc =>
    obtain ⟨h', hw, hK⟩ := hk
    unfold H.wr at hw
    split at hw
    · rename_i cs t' op hg
      split at hw
      · rename_i hle
        simp only [Option.some.injEq] at hw
        subst hw
        obtain ⟨hR, hT, hcell, hfz⟩ := R.write he hg hle hyv hy1
        have hst := store_run (P' := P) (b := e'.b) (o := e'.o + o) (hyv.all_one hy1) hcell hfz
        refine ⟨_, _, _, hK, hR, rfl, hT, ?_⟩
        rw [hx']
        have e2 : (#[Value.slice (some ⟨e'.b, e'.o + o, none⟩) n c', ρ' y] : Array Value)[0]? = some (Value.slice (some ⟨e'.b, e'.o + o, none⟩) n c') := rfl
        have e3 : (#[Value.slice (some ⟨e'.b, e'.o + o, none⟩) n c', ρ' y] : Array Value)[1]? = some (ρ' y) := rfl
        simp only [Builtin.copy_, ht, e2, e3, Sem.run_bind, r_und hu, Result.andThen_ok, hlen, r_sz hsz]
        have hmn : Nat.min m n = min m n := rfl
        rw [hmn]
        have : (Builtin.firstCells sz (min m n) (ρ' y)).run P w = .ok ys'.toArray w := hyr0
        simp only [this, Result.andThen_ok, Sem.run_pure, Sem.run_bind]
        have hst' : (storeCells ⟨e'.b, e'.o + o, none⟩ ys'.toArray.toList).run P w = .ok () (w.setCells e'.b (e'.o + o) ys') := by simpa using hst
        simp only [hst', Result.andThen_ok, Sem.run_pure]
        rfl
      · cases hw
    · cases hw

/-- Whatever writes and calls nothing. -/
theorem sst_write {o : Oper} {aop : AOp} (hc : compOp P o.op = some aop) (hst : aop.strict = true) (hnc : (∀ g a, aop ≠ .call g a) ∧ (∀ g a, aop ≠ .callv g a)) (R : Rel P B w0 μ h w)
    (hρ : ∀ x ∈ o.op.operands.toList, VR μ (ρ x) (ρ' x)) (hk : sst cl ρ h aop K) :
    ∃ v h' v' μ' w', K v h' ∧ Rel P B w0 μ' h' w' ∧ VR μ' v v' ∧ Tr μ h w μ' h' w' ∧
      ((execOp ρ' o).run P w = .ok (.value v') w' ∨ v' = undef ∧ (execOp ρ' o).run P w = .ok .skip w') := by
  obtain ⟨dst, op, ty, pos, after, guard⟩ := o
  simp only at hc hρ
  cases op <;> simp only [compOp] at hc <;> try (cases hc; done)
  case store t x v =>
    obtain ⟨h', w', hK, hR, hT, hrun⟩ := w_store hc R (hρ x (by simp [Op.operands])) (hρ v (by simp [Op.operands])) hk
    exact ⟨_, h', undef, μ, w', hK, hR, .tuple (by simpa [undef] using VRL.nil), hT, .inr ⟨rfl, by simp [execOp, hrun]⟩⟩
  case call c =>
    obtain ⟨callee, args, argTypes⟩ := c
    have hargs : ∀ x ∈ args.toList, VR μ (ρ x) (ρ' x) := fun x hx => hρ x (by simp only [Op.operands, Call.operands, Array.toList_append, List.mem_append]; exact .inr hx)
    unfold compCall at hc
    split at hc
    · simp only [Option.some.injEq] at hc; exact absurd hc.symm (hnc.1 _ _)
    · simp only [Option.some.injEq] at hc; exact absurd hc.symm (hnc.2 _ _)
    · exfalso
      unfold compLen at hc
      repeat' split at hc
      all_goals first | (cases hc; done) | (simp only [Option.some.injEq] at hc; subst hc; simp [AOp.strict] at hst)
    · rename_i hcal
      simp only at hcal
      subst hcal
      have h2 : ∃ x y, args.toList = [x, y] := by
        unfold compApp at hc
        split at hc
        · exact ⟨_, _, by assumption⟩
        · cases hc
      obtain ⟨x, y, hxy⟩ := h2
      have ha : args = #[x, y] := by apply Array.ext'; simpa using hxy
      subst ha
      obtain ⟨v, h', v', μ', w', hK, hR, hV, hT, hrun⟩ := w_app (ty := ty) hc R (hargs x (by simp)) (hargs y (by simp)) hk
      exact ⟨v, h', v', μ', w', hK, hR, hV, hT, .inl (by simp [execOp, resolve, invoke, builtin, hrun])⟩
    · rename_i hcal
      simp only at hcal
      subst hcal
      have h2 : ∃ x y, args.toList = [x, y] := by
        unfold compCpy at hc
        split at hc
        · exact ⟨_, _, by assumption⟩
        · cases hc
      obtain ⟨x, y, hxy⟩ := h2
      have ha : args = #[x, y] := by apply Array.ext'; simpa using hxy
      subst ha
      obtain ⟨v, h', w', hK, hR, hf, hT, hrun⟩ := w_copy (ty := ty) hc R (hargs x (by simp)) (hargs y (by simp)) hk
      exact ⟨v, h', v, μ, w', hK, hR, flat1_VR μ hf, hT, .inl (by simp [execOp, resolve, invoke, builtin, hrun])⟩
    · exfalso
      unfold compMM at hc
      split at hc
      · simp only [Option.some.injEq] at hc; subst hc; simp [AOp.strict] at hst
      · cases hc
    · exfalso
      unfold compMM at hc
      split at hc
      · simp only [Option.some.injEq] at hc; subst hc; simp [AOp.strict] at hst
      · cases hc
    · cases hc
  all_goals exfalso
  case move => simp only [Option.some.injEq] at hc; subst hc; simp [AOp.strict] at hst
  case assign => simp only [Option.some.injEq] at hc; subst hc; simp [AOp.strict] at hst
  case pick => simp only [Option.some.injEq] at hc; subst hc; simp [AOp.strict] at hst
  case alloc => obtain ⟨z, _, rfl⟩ := Option.map_eq_some_iff.1 hc; simp [AOp.strict] at hst
  case box => simp only [Option.some.injEq] at hc; subst hc; simp [AOp.strict] at hst
  case nilCheck => simp only [Option.some.injEq] at hc; subst hc; simp [AOp.strict] at hst
  case unOp => simp only [Option.some.injEq] at hc; subst hc; simp [AOp.strict] at hst
  case extract => simp only [Option.some.injEq] at hc; subst hc; simp [AOp.strict] at hst
  case makeFunc fn first cap =>
    cases fn <;> simp only at hc <;> first
      | (cases hc; done)
      | (simp only [Option.some.injEq] at hc; subst hc; simp [AOp.strict] at hst)
  case build t parts =>
    unfold compBuild at hc
    repeat' split at hc
    all_goals first
      | (cases hc; done)
      | (obtain ⟨sg, _, rfl⟩ := Option.map_eq_some_iff.1 hc; simp [AOp.strict] at hst)
  case buildSlice t len parts =>
    unfold compBSlice at hc
    repeat' split at hc
    all_goals first
      | (cases hc; done)
      | (obtain ⟨sg, _, rfl⟩ := Option.map_eq_some_iff.1 hc; simp [AOp.strict] at hst)
  case load t x =>
    unfold compLoad at hc
    repeat' split at hc
    all_goals first
      | (cases hc; done)
      | (obtain ⟨n, _, rfl⟩ := Option.map_eq_some_iff.1 hc; simp [AOp.strict] at hst)
      | (simp only [Option.some.injEq] at hc; subst hc; simp [AOp.strict] at hst)
  case binOp op t x y _ =>
    unfold compBin compEqB compEqN compEqA at hc
    repeat' split at hc
    all_goals first
      | (cases hc; done)
      | (simp only [Option.some.injEq] at hc; subst hc; simp [AOp.strict] at hst)
  case convert s d x =>
    unfold compConv at hc
    repeat' split at hc
    all_goals first
      | (cases hc; done)
      | (simp only [Option.some.injEq] at hc; subst hc; simp [AOp.strict] at hst)
  case makeSlice t n c =>
    unfold compMks at hc
    repeat' split at hc
    all_goals first
      | (cases hc; done)
      | (simp only [Option.some.injEq] at hc; subst hc; simp [AOp.strict] at hst)
  case slice t x lo hi mx =>
    unfold compSlice compSlA at hc
    repeat' split at hc
    all_goals first
      | (cases hc; done)
      | (simp only [Option.some.injEq] at hc; subst hc; simp [AOp.strict] at hst)
  case fieldAddr s x f =>
    unfold compFad at hc
    repeat' split at hc
    all_goals first
      | (cases hc; done)
      | (simp only [Option.some.injEq] at hc; subst hc; simp [AOp.strict] at hst)
  case field s x f =>
    unfold compFld at hc
    repeat' split at hc
    all_goals first
      | (cases hc; done)
      | (obtain ⟨n, _, rfl⟩ := Option.map_eq_some_iff.1 hc; simp [AOp.strict] at hst)
      | (simp only [Option.some.injEq] at hc; subst hc; simp [AOp.strict] at hst)
  case indexAddr t x i =>
    unfold compIad at hc
    repeat' split at hc
    all_goals first
      | (cases hc; done)
      | (obtain ⟨n, _, rfl⟩ := Option.map_eq_some_iff.1 hc; simp [AOp.strict] at hst)
  case index t x i =>
    unfold compIx at hc
    repeat' split at hc
    all_goals first
      | (cases hc; done)
      | (obtain ⟨n, _, rfl⟩ := Option.map_eq_some_iff.1 hc; simp [AOp.strict] at hst)
      | (simp only [Option.some.injEq] at hc; subst hc; simp [AOp.strict] at hst)
end
end Go.Proofs.YtemgddekbdifeaaGreat.Am
