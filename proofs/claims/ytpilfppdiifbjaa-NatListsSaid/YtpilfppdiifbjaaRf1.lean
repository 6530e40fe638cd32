/- What the functions of the document answer compute: quotients, powers, roots, lists. -/
import Derived.Test.YtpilfppdiifbjaaRf0
set_option linter.unusedVariables false
set_option linter.unusedSimpArgs false
set_option maxRecDepth 100000
namespace Go.Proofs.Ytpilfppdiifbjaa.Am
open Go.Proofs.Ytpilfppdiifbjaa.Nt
variable {C : FuncId → Option AFn} {base : Cl} {n : Nat} {h : H} {K : Value → H → Prop}

theorem ione_nm {v : Nat} (h0 : 0 < v) (h1 : v < 10000) (h : H) : Ni (h.push (.cells [Value.int .i64 (v : Int)] 3 true false)) (some ⟨h.next, 0, none⟩) 1 v := by
  unfold Ni
  rw [digs_pos (by decide) h0, Nat.div_eq_of_lt h1, digs_zero, Nat.mod_eq_of_lt h1]
  exact (Own.push (i64s [v]) 3 false).sl (by simp)
theorem tdiv2 (a : Nat) : Int.tdiv (a : Int) 2 = ((a / 2 : Nat) : Int) := rfl

/-- The quotient of what stands from a place on: the list x (the first la cells of a block), from place up on. -/
theorem fits_ok (T : Tab C) {j c c' y up la : Nat} {b' : Option Addr} {xl tl : List Nat} {op : Bool} (ho : Own h j (i64s (xl ++ tl)) 3 op) (hla : xl.length = la) (hc : la + tl.length = c) (hxl : ∀ d ∈ xl, d < 10000) (hy : Ni h b' c' y) (hX : la ≤ 1073741824) (hY : (digs 10000 y).length ≤ 1073741824)
    (hup : up < la) (hlt : ofD 10000 (xl.drop up) < y * 10000) (hk : ∀ h', Ext h h' → K (.int .i64 ((ofD 10000 (xl.drop up) / y : Nat) : Int)) h') :
    acall C base (n + 3) 73 [.slice (some ⟨j, 0, none⟩) la c, niv b' c' y, .int .i64 (up : Int)] h K := by
  obtain ⟨X, hXd⟩ : ∃ X, X = ofD 10000 (xl.drop up) := ⟨_, rfl⟩
  rw [← hXd] at hlt hk
  have hy0 : 0 < y := by
    rcases Nat.eq_zero_or_pos y with e | e
    · subst e; simp at hlt
    · exact e
  have hXl : (digs 10000 X).length ≤ la := by
    rw [hXd]
    refine digs_len_le (by decide) _ _ (Nat.lt_of_lt_of_le (ofD_lt fun d hd => hxl d (List.mem_of_mem_drop hd)) (Nat.pow_le_pow_right (by decide) ?_))
    rw [List.length_drop]; omega
  refine acall_of T.f73 ?_
  (conv => whnf)
  refine loop_upd (X := Nat × Nat) (fun v => [(0, .slice (some ⟨j, 0, none⟩) la c), (1, niv b' c' y), (2, .int .i64 (up : Int)), (7, .int .i64 (v.1 : Int)), (8, .int .i64 (v.2 : Int))])
    (fun v h' => Ext h h' ∧ v.1 ≤ v.2 ∧ v.2 ≤ 9999 ∧ y * v.1 ≤ X ∧ X < y * (v.2 + 1)) (fun v => v.2 - v.1) ?_ ⟨0, 9999⟩ _ _ ⟨rfl, rfl, rfl, rfl, rfl, trivial⟩ ⟨Ext.refl _, by simp, by simp, by simp, hlt⟩
  intro n ⟨low, high⟩ f h' ⟨he, hlh, hh, hlow, hhigh⟩ ih
  dsimp only at ih hlh hh hlow hhigh ⊢
  (conv => whnf); (refine obool_intro (fun h1 => ?_) (fun h1 => ?_))
  · have h1' : low < high := by have := of_decide_eq_true h1; omega
    obtain ⟨q, hq⟩ : ∃ q, q = (low + high + 1) / 2 := ⟨_, rfl⟩
    have hq1 : low < q := by omega
    have hq2 : q ≤ high := by omega
    (conv => whnf)
    refine ar_i64e (low + high) (by omega) (by omega) ?_
    (conv => whnf)
    refine ar_i64e (low + high + 1) (by omega) (by omega) ?_
    (conv => whnf)
    refine ⟨by decide, ?_⟩
    refine ar_i64e q (by rw [hq]; exact tdiv2 _) (by omega) ?_
    (conv => whnf)
    refine ⟨_, rfl, ?_⟩
    have eq1 : (digs 10000 q).length = 1 := by rw [digs_pos (by decide) (by omega), Nat.div_eq_of_lt (by omega), digs_zero]; rfl
    rw [show Value.slice (some ⟨h'.next, 0, none⟩) 1 1 = niv (some ⟨h'.next, 0, none⟩) 1 q from by rw [niv, eq1]]
    have nq := ione_nm (v := q) (by omega) (by omega) h'
    have heA := (Ext.refl h').push (.cells [Value.int .i64 (q : Int)] 3 true false)
    (conv => whnf)
    refine itimes_ok T (hy.ext (he.trans heA)) nq (by omega) (by omega) fun h2 b2 c2 he2 hn2 => ?_
    have he' := (he.trans heA).trans he2
    have ho2 := ho.ext he'
    have hpl : (digs 10000 (y * q)).length ≤ 1073741825 := by
      have := small_len (B := 10000) (x := y) (m := q) (by decide) (by omega)
      omega
    (conv => whnf)
    refine ⟨by omega, ?_⟩
    refine ⟨fun _ => ⟨.inr ho2.tag, ?_⟩, fun hle => absurd hle (by simp; omega)⟩
    have hsl : Sl h2 (some ⟨j, 0 + Int.toNat (up : Int) * 1, none⟩) (c - Int.toNat (up : Int)) (i64s (xl.drop up)) := by
      refine .inr ⟨j, 0 + Int.toNat (up : Int) * 1, i64s (xl ++ tl), 3, true, op, rfl, ?_, ho2.1, ho2.2, ?_, ?_⟩
      · simp; omega
      · simp; omega
      · rw [Nat.zero_add, Nat.mul_one, Int.toNat_natCast, i64s_drop, i64s_take, List.drop_append_of_le_length (by omega), i64s_length, List.take_left]
    rw [show la - Int.toNat (up : Int) = (xl.drop up).length from by rw [List.length_drop, hla]; rfl]
    (conv => whnf)
    refine itrim_ok T hsl (fun d hd => hxl d (List.mem_of_mem_drop hd)) (by rw [List.length_drop]; omega) fun hn3 => ?_
    rw [← hXd] at hn3 ⊢
    (conv => whnf)
    refine less_ok T hn3 hn2 (by omega) (by omega) ?_
    (conv => whnf); (refine obool_intro (fun h4 => ?_) (fun h4 => ?_))
    · have h4' : X < y * q := of_decide_eq_true h4
      (conv => whnf)
      refine ar_i64e (q - 1) (by omega) (by omega) ?_
      (conv => whnf)
      exact ih ⟨low, q - 1⟩ _ _ (by dsimp only; omega) ⟨rfl, rfl, rfl, rfl, rfl, trivial⟩ ⟨he', by dsimp only; omega, by dsimp only; omega, hlow, by dsimp only; rw [show q - 1 + 1 = q from by omega]; exact h4'⟩
    · have h4' : y * q ≤ X := by have := of_decide_eq_false h4; omega
      (conv => whnf)
      exact ih ⟨q, high⟩ _ _ (by dsimp only; omega) ⟨rfl, rfl, rfl, rfl, rfl, trivial⟩ ⟨he', hq2, hh, h4', hhigh⟩
  · have h1' : low = high := by have := of_decide_eq_false h1; omega
    subst h1'
    have e : X / y = low := by
      refine Nat.div_eq_of_lt_le ?_ ?_
      · rw [Nat.mul_comm]; exact hlow
      · rw [Nat.mul_comm]; exact hhigh
    (conv => whnf); (refine ⟨_, rfl, ?_⟩)
    have := hk _ he
    rw [e] at this; exact this

/-- So often a number is taken off what stands from a place on. -/
theorem take_ok (T : Tab C) {j c c' y up la q : Nat} {b' : Option Addr} {xl tl : List Nat} {op : Bool} (ho : Own h j (i64s (xl ++ tl)) 3 op) (hla : xl.length = la) (hc : la + tl.length = c) (hxl : ∀ d ∈ xl, d < 10000) (hy : Ni h b' c' y) (hne : ∀ i o, b' = some ⟨i, o, none⟩ → i ≠ j)
    (hX : la ≤ 1073741824) (hup : up < la) (hq0 : 0 < q) (hq : q ≤ 9999) (hle : q * y ≤ ofD 10000 (xl.drop up))
    (hk : ∀ h' xl', h'.next = h.next → (∀ k, k ≠ j → h'.get k = h.get k) → Own h' j (i64s (xl' ++ tl)) 3 op → xl'.length = la → (∀ d ∈ xl', d < 10000) → xl'.take up = xl.take up → ofD 10000 (xl'.drop up) + q * y = ofD 10000 (xl.drop up) → K (.tuple #[]) h') :
    acall C base (n + 1) 74 [.slice (some ⟨j, 0, none⟩) la c, niv b' c' y, .int .i64 (up : Int), .int .i64 (q : Int)] h K := by
  obtain ⟨z, hz⟩ : ∃ z, z = xl.drop up := ⟨_, rfl⟩
  obtain ⟨m, hm⟩ : ∃ m, m = la - up := ⟨_, rfl⟩
  have hzl : z.length = m := by rw [hz, List.length_drop]; omega
  have dz : ∀ d ∈ z, d < 10000 := fun d hd => hxl d (List.mem_of_mem_drop (hz ▸ hd))
  have dy := digs_lt (B := 10000) (by decide) y
  have ey := ofD_digs (B := 10000) (by decide) y
  rw [← hz] at hle hk
  have hlb : (digs 10000 y).length ≤ m := by
    refine digs_len_le (by decide) _ _ ?_
    have h1 := ofD_lt dz
    rw [hzl] at h1
    have := Nat.le_mul_of_pos_left y hq0
    omega
  refine acall_of T.f74 ?_
  (conv => whnf)
  refine loop_upd (X := List Nat × Nat) (fun v => [(0, .slice (some ⟨j, 0, none⟩) la c), (1, niv b' c' y), (2, .int .i64 (up : Int)), (3, .int .i64 (q : Int)), (8, .int .i64 (v.2 : Int)), (9, .int .i64 (v.1.length : Int))])
    (fun v h' => h'.next = h.next ∧ (∀ k, k ≠ j → h'.get k = h.get k) ∧ Own h' j (i64s (xl.take up ++ (v.1 ++ z.drop v.1.length) ++ tl)) 3 op ∧ v.2 ≤ 10000 ∧ v.1.length ≤ m ∧ (∀ d ∈ v.1, d < 10000) ∧ ofD 10000 v.1 + q * ofD 10000 ((digs 10000 y).take v.1.length) = ofD 10000 (z.take v.1.length) + 10000 ^ v.1.length * v.2)
    (fun v => m - v.1.length) ?_ ⟨[], 0⟩ _ _ ⟨rfl, rfl, rfl, rfl, rfl, rfl, trivial⟩ ⟨rfl, fun _ _ => rfl, ?_, by simp, by simp, by simp, by simp [ofD]⟩
  · clear ho
    intro n ⟨w, cy⟩ f h' ⟨hnx, hg, ho, hcy, hw, hl, hs⟩ ih
    dsimp only at ih ho hcy hw hl hs ⊢
    have hround : w.length < (digs 10000 y).length ∨ 0 < cy → w.length < m := by
      rintro (h1 | h1)
      · omega
      · rcases Nat.lt_or_ge w.length m with g | g
        · exact g
        · exfalso
          rw [List.take_of_length_le (by omega), List.take_of_length_le (by omega), ey] at hs
          have h2 := ofD_lt hl
          have h3 := Nat.le_mul_of_pos_right (10000 ^ w.length) h1
          omega
    have body : w.length < m → (∀ d ∈ xl.take up, True) := fun _ _ _ => trivial
    by_cases hB : w.length < (digs 10000 y).length
    · have hwm := hround (.inl hB)
      have eB : (digs 10000 y)[w.length]?.getD 0 = (digs 10000 y)[w.length] := by rw [List.getElem?_eq_getElem hB]; rfl
      have lB := dy _ (List.getElem_mem hB)
      obtain ⟨zk, hzk⟩ : ∃ zk, zk = z[w.length]'(by omega) := ⟨_, rfl⟩
      have zklt : zk < 10000 := by rw [hzk]; exact dz _ (List.getElem_mem _)
      have ezk : z[w.length]?.getD 0 = zk := by rw [List.getElem?_eq_getElem (by omega), hzk]; rfl
      have hlen : (xl.take up ++ (w ++ z.drop w.length) ++ tl).length = la + tl.length := by simp; omega
      have hget : (xl.take up ++ (w ++ z.drop w.length) ++ tl)[up + w.length]'(by omega) = zk := by
        rw [List.getElem_append_left (by simp; omega), List.getElem_append_right (by simp; omega)]
        simp only [List.length_take, show up + w.length - min up xl.length = w.length from by omega]
        rw [List.getElem_append_right (Nat.le_refl _), hzk]
        simp
      have hset : ∀ new : Nat, (xl.take up ++ (w ++ z.drop w.length) ++ tl).set (up + w.length) new = xl.take up ++ ((w ++ [new]) ++ z.drop (w ++ [new]).length) ++ tl := by
        intro new
        rw [List.append_assoc, List.set_append_right _ _ (by simp; omega), List.length_take, show up + w.length - min up xl.length = w.length from by omega, List.append_assoc, List.set_append_right _ _ (Nat.le_refl _), Nat.sub_self, List.drop_eq_getElem_cons (by omega), List.cons_append, List.set_cons_zero]
        simp
      have step : ∀ (yk new c2 : Nat), new < 10000 → new + (cy + q * yk) = zk + 10000 * c2 → (digs 10000 y)[w.length]?.getD 0 = yk →
          (∀ d ∈ w ++ [new], d < 10000) ∧ ofD 10000 (w ++ [new]) + q * ofD 10000 ((digs 10000 y).take (w ++ [new]).length) = ofD 10000 (z.take (w ++ [new]).length) + 10000 ^ (w ++ [new]).length * c2 := by
        intro yk new c2 hnew hsum eB
        refine ⟨fun d hd => ?_, ?_⟩
        · rcases List.mem_append.1 hd with hd | hd
          · exact hl d hd
          · rw [List.mem_singleton.1 hd]; exact hnew
        · rw [List.length_append, List.length_singleton, ofD_snoc, ofD_take_succ, ofD_take_succ, ezk, eB, Nat.pow_succ, Nat.mul_assoc, Nat.mul_add q, Nat.mul_left_comm q]
          have e := congrArg (10000 ^ w.length * ·) hsum
          simp only [Nat.mul_add] at e
          omega
      have hyn : Ni h' b' c' y := Sl.upd hy hnx hg hne
      obtain ⟨i', o', rfl, hi', hat'⟩ := Sl.all64 hyn (by omega)
      obtain ⟨p, hpp⟩ : ∃ p, p = q * (digs 10000 y)[w.length] := ⟨_, rfl⟩
      have plt : p ≤ 9999 * 9999 := by rw [hpp]; exact Nat.mul_le_mul hq (by omega)
      have hdd : ∀ e2 : Nat, (e2 : Int) = (zk : Int) - (cy : Int) - (p : Int) → (zk : Int) - (cy : Int) - (p : Int) = (e2 : Int) := fun _ h => h.symm
      (conv => whnf); (refine obool_t (by first | (simp; done) | (simp; omega)) ?_); (conv => whnf)
      refine ar_i64e (up + w.length) (by omega) (by omega) ?_
      (conv => whnf)
      refine ⟨by omega, ?_⟩
      (conv => whnf)
      refine ⟨_, ho.cell64 _ (up + w.length) rfl (by omega), ?_⟩
      rw [hget]
      (conv => whnf)
      refine ar_i64i ((zk : Int) - (cy : Int)) rfl (by omega) ?_
      (conv => whnf); (refine obool_t (by first | (simp; done) | (simp; omega)) ?_); (conv => whnf)
      refine ⟨by omega, ?_⟩
      (conv => whnf)
      refine ⟨_, hat' _ (Ext.refl _) _ w.length rfl hB, ?_⟩
      (conv => whnf)
      refine ar_i64e p (by rw [hpp]; simp) (by omega) ?_
      (conv => whnf)
      refine ar_i64i ((zk : Int) - (cy : Int) - (p : Int)) rfl (by omega) ?_
      (conv => whnf)
      refine obool_intro (fun h3 => ?_) (fun h3 => ?_)
      · have h3' : zk < cy + p := by have := of_decide_eq_true h3; omega
        obtain ⟨c2, hc2⟩ : ∃ c2, c2 = (cy + p - zk + 9999) / 10000 := ⟨_, rfl⟩
        obtain ⟨e2, hee2⟩ : ∃ e2, e2 = zk + 10000 * c2 - (cy + p) := ⟨_, rfl⟩
        have he2l : e2 < 10000 := by omega
        have hee3 : e2 + (cy + p) = zk + 10000 * c2 := by omega
        have hc2l : c2 ≤ 10000 := by omega
        (conv => whnf)
        refine ar_i64e (cy + p - zk) (by omega) (by omega) ?_
        (conv => whnf)
        refine ar_i64e (cy + p - zk + 10000) (by omega) (by omega) ?_
        (conv => whnf)
        refine ar_i64e (cy + p - zk + 9999) (by omega) (by omega) ?_
        (conv => whnf)
        refine ⟨by decide, ?_⟩
        refine ar_i64e c2 (by rw [hc2]; exact tdiv4 _) (by omega) ?_
        (conv => whnf)
        refine ar_i64e (c2 * 10000) (by omega) (by omega) ?_
        (conv => whnf)
        refine ar_i64e e2 (by omega) (by omega) ?_
        (conv => whnf)
        refine ar_i64e (up + w.length) (by omega) (by omega) ?_
        (conv => whnf)
        refine ⟨by omega, ?_⟩
        (dsimp only [force, steps]); (dsimp only [stepW, AOp.strict]); (dsimp only [sst]); (conv => whnf)
        refine ⟨rfl, ?_⟩
        obtain ⟨h6, hw6, ho6, hext6, hnx6, hg6⟩ := ho.set64 ((up + w.length : Nat) : Int) (up + w.length) (e2 : Int) e2 rfl (by omega) rfl
        refine ⟨h6, hw6, ?_⟩
        (conv => whnf); (refine ar_i64 (by omega) ?_); (conv => whnf)
        obtain ⟨s1, s2⟩ := step ((digs 10000 y)[w.length]) e2 c2 he2l (by rw [← hpp]; omega) eB
        refine ih ⟨w ++ [e2], c2⟩ _ _ (by simp; omega) ⟨rfl, rfl, rfl, rfl, rfl, ?_, trivial⟩ ⟨hnx6.trans hnx, fun k hk => (hg6 k hk).trans (hg k hk), ?_, hc2l, by simp; omega, s1, s2⟩
        · show Value.int _ _ = Value.int _ _
          simp
        · dsimp only
          rw [← hset]
          exact ho6
      · have h3' : cy + p ≤ zk := by have := of_decide_eq_false h3; omega
        obtain ⟨e2, hee2⟩ : ∃ e2, e2 = zk - (cy + p) := ⟨_, rfl⟩
        have he2l : e2 < 10000 := by omega
        rw [hdd e2 (by omega)]
        (conv => whnf)
        refine ar_i64e (up + w.length) (by omega) (by omega) ?_
        (conv => whnf)
        refine ⟨by omega, ?_⟩
        (dsimp only [force, steps]); (dsimp only [stepW, AOp.strict]); (dsimp only [sst]); (conv => whnf)
        refine ⟨rfl, ?_⟩
        obtain ⟨h6, hw6, ho6, hext6, hnx6, hg6⟩ := ho.set64 ((up + w.length : Nat) : Int) (up + w.length) (e2 : Int) e2 rfl (by omega) rfl
        refine ⟨h6, hw6, ?_⟩
        (conv => whnf); (refine ar_i64 (by omega) ?_); (conv => whnf)
        obtain ⟨s1, s2⟩ := step ((digs 10000 y)[w.length]) e2 0 he2l (by rw [← hpp]; omega) eB
        refine ih ⟨w ++ [e2], 0⟩ _ _ (by simp; omega) ⟨rfl, rfl, rfl, rfl, rfl, ?_, trivial⟩ ⟨hnx6.trans hnx, fun k hk => (hg6 k hk).trans (hg k hk), ?_, by simp, by simp; omega, s1, s2⟩
        · show Value.int _ _ = Value.int _ _
          simp
        · dsimp only
          rw [← hset]
          exact ho6
    · have eB : (digs 10000 y)[w.length]?.getD 0 = 0 := by rw [List.getElem?_eq_none (by omega)]; rfl
      (conv => whnf); (refine obool_f (by first | (simp; done) | (simp; omega)) ?_); (conv => whnf); (refine obool_intro (fun h1 => ?_) (fun h1 => ?_))
      · have hwm := hround (.inr (by have := of_decide_eq_true h1; omega))
        obtain ⟨zk, hzk⟩ : ∃ zk, zk = z[w.length]'(by omega) := ⟨_, rfl⟩
        have zklt : zk < 10000 := by rw [hzk]; exact dz _ (List.getElem_mem _)
        have ezk : z[w.length]?.getD 0 = zk := by rw [List.getElem?_eq_getElem (by omega), hzk]; rfl
        have hlen : (xl.take up ++ (w ++ z.drop w.length) ++ tl).length = la + tl.length := by simp; omega
        have hget : (xl.take up ++ (w ++ z.drop w.length) ++ tl)[up + w.length]'(by omega) = zk := by
          rw [List.getElem_append_left (by simp; omega), List.getElem_append_right (by simp; omega)]
          simp only [List.length_take, show up + w.length - min up xl.length = w.length from by omega]
          rw [List.getElem_append_right (Nat.le_refl _), hzk]
          simp
        have hset : ∀ new : Nat, (xl.take up ++ (w ++ z.drop w.length) ++ tl).set (up + w.length) new = xl.take up ++ ((w ++ [new]) ++ z.drop (w ++ [new]).length) ++ tl := by
          intro new
          rw [List.append_assoc, List.set_append_right _ _ (by simp; omega), List.length_take, show up + w.length - min up xl.length = w.length from by omega, List.append_assoc, List.set_append_right _ _ (Nat.le_refl _), Nat.sub_self, List.drop_eq_getElem_cons (by omega), List.cons_append, List.set_cons_zero]
          simp
        have step : ∀ (yk new c2 : Nat), new < 10000 → new + (cy + q * yk) = zk + 10000 * c2 → (digs 10000 y)[w.length]?.getD 0 = yk →
            (∀ d ∈ w ++ [new], d < 10000) ∧ ofD 10000 (w ++ [new]) + q * ofD 10000 ((digs 10000 y).take (w ++ [new]).length) = ofD 10000 (z.take (w ++ [new]).length) + 10000 ^ (w ++ [new]).length * c2 := by
          intro yk new c2 hnew hsum eB
          refine ⟨fun d hd => ?_, ?_⟩
          · rcases List.mem_append.1 hd with hd | hd
            · exact hl d hd
            · rw [List.mem_singleton.1 hd]; exact hnew
          · rw [List.length_append, List.length_singleton, ofD_snoc, ofD_take_succ, ofD_take_succ, ezk, eB, Nat.pow_succ, Nat.mul_assoc, Nat.mul_add q, Nat.mul_left_comm q]
            have e := congrArg (10000 ^ w.length * ·) hsum
            simp only [Nat.mul_add] at e
            omega
        have hpp : 0 = q * 0 := by simp
        have hdd : ∀ e2 : Nat, (e2 : Int) = (zk : Int) - (cy : Int) → (zk : Int) - (cy : Int) = (e2 : Int) := fun _ h => h.symm
        (conv => whnf)
        refine ar_i64e (up + w.length) (by omega) (by omega) ?_
        (conv => whnf)
        refine ⟨by omega, ?_⟩
        (conv => whnf)
        refine ⟨_, ho.cell64 _ (up + w.length) rfl (by omega), ?_⟩
        rw [hget]
        (conv => whnf)
        refine ar_i64i ((zk : Int) - (cy : Int)) rfl (by omega) ?_
        (conv => whnf); (refine obool_f (by first | (simp; done) | (simp; omega)) ?_)
        (conv => whnf)
        refine obool_intro (fun h3 => ?_) (fun h3 => ?_)
        · have h3' : zk < cy + 0 := by have := of_decide_eq_true h3; omega
          obtain ⟨c2, hc2⟩ : ∃ c2, c2 = (cy + 0 - zk + 9999) / 10000 := ⟨_, rfl⟩
          obtain ⟨e2, hee2⟩ : ∃ e2, e2 = zk + 10000 * c2 - (cy + 0) := ⟨_, rfl⟩
          have he2l : e2 < 10000 := by omega
          have hee3 : e2 + (cy + 0) = zk + 10000 * c2 := by omega
          have hc2l : c2 ≤ 10000 := by omega
          (conv => whnf)
          refine ar_i64e (cy + 0 - zk) (by omega) (by omega) ?_
          (conv => whnf)
          refine ar_i64e (cy + 0 - zk + 10000) (by omega) (by omega) ?_
          (conv => whnf)
          refine ar_i64e (cy + 0 - zk + 9999) (by omega) (by omega) ?_
          (conv => whnf)
          refine ⟨by decide, ?_⟩
          refine ar_i64e c2 (by rw [hc2]; exact tdiv4 _) (by omega) ?_
          (conv => whnf)
          refine ar_i64e (c2 * 10000) (by omega) (by omega) ?_
          (conv => whnf)
          refine ar_i64e e2 (by omega) (by omega) ?_
          (conv => whnf)
          refine ar_i64e (up + w.length) (by omega) (by omega) ?_
          (conv => whnf)
          refine ⟨by omega, ?_⟩
          (dsimp only [force, steps]); (dsimp only [stepW, AOp.strict]); (dsimp only [sst]); (conv => whnf)
          refine ⟨rfl, ?_⟩
          obtain ⟨h6, hw6, ho6, hext6, hnx6, hg6⟩ := ho.set64 ((up + w.length : Nat) : Int) (up + w.length) (e2 : Int) e2 rfl (by omega) rfl
          refine ⟨h6, hw6, ?_⟩
          (conv => whnf); (refine ar_i64 (by omega) ?_); (conv => whnf)
          obtain ⟨s1, s2⟩ := step (0) e2 c2 he2l (by rw [← hpp]; omega) eB
          refine ih ⟨w ++ [e2], c2⟩ _ _ (by simp; omega) ⟨rfl, rfl, rfl, rfl, rfl, ?_, trivial⟩ ⟨hnx6.trans hnx, fun k hk => (hg6 k hk).trans (hg k hk), ?_, hc2l, by simp; omega, s1, s2⟩
          · show Value.int _ _ = Value.int _ _
            simp
          · dsimp only
            rw [← hset]
            exact ho6
        · have h3' : cy + 0 ≤ zk := by have := of_decide_eq_false h3; omega
          obtain ⟨e2, hee2⟩ : ∃ e2, e2 = zk - (cy + 0) := ⟨_, rfl⟩
          have he2l : e2 < 10000 := by omega
          rw [hdd e2 (by omega)]
          (conv => whnf)
          refine ar_i64e (up + w.length) (by omega) (by omega) ?_
          (conv => whnf)
          refine ⟨by omega, ?_⟩
          (dsimp only [force, steps]); (dsimp only [stepW, AOp.strict]); (dsimp only [sst]); (conv => whnf)
          refine ⟨rfl, ?_⟩
          obtain ⟨h6, hw6, ho6, hext6, hnx6, hg6⟩ := ho.set64 ((up + w.length : Nat) : Int) (up + w.length) (e2 : Int) e2 rfl (by omega) rfl
          refine ⟨h6, hw6, ?_⟩
          (conv => whnf); (refine ar_i64 (by omega) ?_); (conv => whnf)
          obtain ⟨s1, s2⟩ := step (0) e2 0 he2l (by rw [← hpp]; omega) eB
          refine ih ⟨w ++ [e2], 0⟩ _ _ (by simp; omega) ⟨rfl, rfl, rfl, rfl, rfl, ?_, trivial⟩ ⟨hnx6.trans hnx, fun k hk => (hg6 k hk).trans (hg k hk), ?_, by simp, by simp; omega, s1, s2⟩
          · show Value.int _ _ = Value.int _ _
            simp
          · dsimp only
            rw [← hset]
            exact ho6
      · have h1' : cy = 0 := by have := of_decide_eq_false h1; omega
        subst h1'
        rw [List.take_of_length_le (by omega), ey, Nat.mul_zero, Nat.add_zero] at hs
        (conv => whnf); (refine ⟨_, rfl, ?_⟩)
        refine hk _ (xl.take up ++ (w ++ z.drop w.length)) hnx hg ho ?_ ?_ ?_ ?_
        · simp; omega
        · intro d hd
          rcases List.mem_append.1 hd with hd | hd
          · exact hxl d (List.mem_of_mem_take hd)
          · rcases List.mem_append.1 hd with hd | hd
            · exact hl d hd
            · exact dz d (List.mem_of_mem_drop hd)
        · rw [List.take_append_of_le_length (by simp; omega), List.take_take, Nat.min_self]
        · rw [List.drop_append, List.drop_eq_nil_of_le (by simp; omega), List.nil_append, List.length_take, show up - min up xl.length = 0 from by omega, List.drop_zero, ofD_append]
          conv => rhs; rw [← List.take_append_drop w.length z, ofD_append, List.length_take, Nat.min_eq_left (by omega), ← hs]
          omega
  · dsimp only
    rw [List.nil_append, List.length_nil, List.drop_zero, hz, List.take_append_drop]
    exact ho
end Go.Proofs.Ytpilfppdiifbjaa.Am

namespace Go.Proofs.Ytpilfppdiifbjaa.Am
open Go.Proofs.Ytpilfppdiifbjaa.Nt
variable {C : FuncId → Option AFn} {base : Cl} {n : Nat} {h : H} {K : Value → H → Prop}

theorem Divide_ok (T : Tab C) {x y : Nat} (hX : (dec x).length ≤ 536870912) (hY : (dec y).length ≤ 536870912) (hy0 : 0 < y)
    (hk : ∀ h', Ext h h' → K (.tuple #[.string (bs (dec (x / y))), .string (bs (dec (x % y)))]) h') : acall C base (n + 4) 62 [.string (bs (dec x)), .string (bs (dec y))] h K := by
  have hlx := len4_le x
  have hly := len4_le y
  have dx := digs_lt (B := 10000) (by decide) x
  have ex := ofD_digs (B := 10000) (by decide) x
  refine acall_of T.f62 ?_
  (conv => whnf)
  refine limbs_dec_own T (by omega) fun h1 b c he1 hx hown => ?_
  (conv => whnf)
  refine limbs_dec_own T (by omega) fun h2 b' c' he2 hy hown' => ?_
  have he12 := he1.trans he2
  (conv => whnf)
  refine less_ok T (hx.ext he2) hy (by omega) (by omega) ?_
  (conv => whnf); (refine obool_intro (fun h3 => ?_) (fun h3 => ?_))
  · have h3' : x < y := of_decide_eq_true h3
    have := hk _ he12
    rw [Nat.div_eq_of_lt h3', Nat.mod_eq_of_lt h3', dec_zero] at this
    (conv => whnf); (refine ⟨_, rfl, ?_⟩)
    exact this
  have h3' : y ≤ x := by have := of_decide_eq_false h3; omega
  obtain ⟨j, r, rfl, hj, ho, hr, hc⟩ := hown (by omega)
  obtain ⟨j', r', rfl, hj', ho', _, _⟩ := hown' (by omega)
  have hjlt : j < h1.next := ho.1
  have hjlt' : j' < h2.next := ho'.1
  clear ho'
  obtain ⟨tl, htl⟩ : ∃ tl, tl = r.drop (digs 10000 x).length := ⟨_, rfl⟩
  rw [← htl] at hr
  subst hr
  have ho := ho.ext he2
  obtain ⟨la, hla⟩ : ∃ L, L = (digs 10000 x).length := ⟨_, rfl⟩
  obtain ⟨lb, hlb⟩ : ∃ L, L = (digs 10000 y).length := ⟨_, rfl⟩
  have hLc : la + tl.length = c := by rw [hc, List.length_append, ← hla]
  clear hc htl
  have hlab : lb ≤ la := by rw [hla, hlb]; exact digs_len_mono (by decide) h3'
  have hlb0 : 0 < lb := by
    rcases Nat.eq_zero_or_pos lb with e | e
    · rw [hlb] at e; have := (digs_len_zero (B := 10000) (by decide)).1 e; omega
    · exact e
  have hylow : 10000 ^ (lb - 1) ≤ y := by rw [hlb]; exact pow_len_le (by decide) hy0
  (conv => whnf)
  refine ⟨by omega, ?_⟩
  (conv => whnf)
  have hq0 : Own (h2.push (.cells (List.replicate (Int.toNat (((digs 10000 x).length : Nat) : Int)) [Value.int .i64 0]).flatten 3 true false)) h2.next (i64s (List.replicate la 0)) 3 false := by
    rw [flat_i64, show Int.toNat (((digs 10000 x).length : Nat) : Int) = la from by omega]
    exact Own.push _ _ _
  have heq : Ext h2 (h2.push (.cells (List.replicate (Int.toNat (((digs 10000 x).length : Nat) : Int)) [Value.int .i64 0]).flatten 3 true false)) := (Ext.refl _).push _
  refine ar_i64e (la - lb) (by omega) (by omega) ?_
  (conv => whnf)
  refine loop_upd (X := Nat × List Nat × List Nat) (fun v => [(6, niv (some ⟨j, 0, none⟩) c x), (7, niv (some ⟨j', 0, none⟩) c' y), (8, .slice (some ⟨h2.next, 0, none⟩) la la), (9, .int .i64 ((v.1 : Int) - 1))])
    (fun v h' => Ext h h' ∧ Own h' j (i64s (v.2.1 ++ tl)) 3 true ∧ Own h' h2.next (i64s v.2.2) 3 false ∧ Ni h' (some ⟨j', 0, none⟩) c' y ∧ v.2.1.length = la ∧ (∀ d ∈ v.2.1, d < 10000) ∧ v.2.2.length = la ∧ (∀ d ∈ v.2.2, d < 10000) ∧ v.1 ≤ la - lb + 1 ∧ ofD 10000 v.2.2 * y + ofD 10000 v.2.1 = x ∧ ofD 10000 (v.2.1.drop v.1) < y ∧ ∀ p (hp : p < v.2.2.length), p < v.1 → v.2.2[p] = 0)
    (fun v => v.1) ?_ ⟨la - lb + 1, digs 10000 x, List.replicate la 0⟩ _ _ ⟨rfl, rfl, ?_, ?_, trivial⟩ ⟨he12.trans heq, ho.ext heq, hq0, hy.ext heq, hla.symm, dx, by simp, ?_, by simp, ?_, ?_, ?_⟩
  · clear ho hq0 heq
    intro n ⟨k, xl, ql⟩ f h' ⟨he, ho, hoq, hy, hxl, hxd, hql, hqd, hk1, hs, hlt, hz⟩ ih
    dsimp only at ih ho hoq hxl hxd hql hqd hk1 hs hlt hz ⊢
    (conv => whnf); (refine obool_intro (fun h4 => ?_) (fun h4 => ?_))
    · have h4' : 0 < k := by have := of_decide_eq_true h4; omega
      obtain ⟨up, hup⟩ : ∃ up, k = up + 1 := ⟨k - 1, by omega⟩
      subst hup
      obtain ⟨X, hX⟩ : ∃ X, X = ofD 10000 (xl.drop up) := ⟨_, rfl⟩
      have hXlt : X < y * 10000 := by
        rw [hX, ofD_drop]
        have h5 : xl[up]?.getD 0 < 10000 := by rw [List.getElem?_eq_getElem (by omega)]; exact hxd _ (List.getElem_mem _)
        have := Nat.mul_le_mul_left 10000 (show ofD 10000 (xl.drop (up + 1)) + 1 ≤ y from hlt)
        omega
      obtain ⟨v, hv⟩ : ∃ v, v = X / y := ⟨_, rfl⟩
      have hv9 : v < 10000 := by rw [hv]; exact Nat.div_lt_of_lt_mul hXlt
      have hvX : v * y ≤ X := by rw [hv]; exact Nat.div_mul_le_self X y
      have hXm : X - v * y < y := by
        have h5 := Nat.div_add_mod X y
        have h6 := Nat.mod_lt X hy0
        rw [Nat.mul_comm, ← hv] at h5
        omega
      (conv => whnf)
      rw [show ((((up + 1 : Nat) : Int)) - 1) = (up : Int) from by omega]
      rw [← hla]
      refine fits_ok T ho hxl hLc hxd hy (by omega) (by omega) (by omega) (by rw [← hX]; exact hXlt) fun h5 he5 => ?_
      rw [← hX, ← hv]
      have ho5 := ho.ext he5
      have hoq5 := hoq.ext he5
      have hjq : j ≠ h2.next := by omega
      have hjq' : j' ≠ h2.next := by omega
      (conv => whnf)
      refine ⟨by omega, ?_⟩
      (dsimp only [force, steps]); (dsimp only [stepW, AOp.strict]); (dsimp only [sst]); (conv => whnf)
      refine ⟨rfl, ?_⟩
      obtain ⟨h6, hw6, hoq6, hext6, hnx6, hg6⟩ := hoq5.set64 (up : Int) up (v : Int) v rfl (by omega) rfl
      refine ⟨h6, hw6, ?_⟩
      have he6 : Ext h h6 := hext6 _ (he.trans he5) (by have := he12.1; omega)
      have ho6 : Own h6 j (i64s (xl ++ tl)) 3 true := ho5.other hnx6 hg6 hjq
      have hy6 : Ni h6 (some ⟨j', 0, none⟩) c' y := Sl.upd (hy.ext he5) hnx6 hg6 (fun i o e => by injection e with e; injection e with e1; omega)
      have hqd' : ∀ d ∈ ql.set up v, d < 10000 := by
        intro d hd
        rcases List.mem_or_eq_of_mem_set hd with hd | hd
        · exact hqd d hd
        · rw [hd]; exact hv9
      have hz0 := hz up (by omega) (by omega)
      have hqs := ofD_set 10000 ql up v (by omega)
      rw [hz0, Nat.mul_zero, Nat.add_zero] at hqs
      have hz' : ∀ p (hp : p < (ql.set up v).length), p < up → (ql.set up v)[p] = 0 := by
        intro p hp hpu
        rw [List.getElem_set_ne (by omega)]
        exact hz p (by simpa using hp) (by omega)
      have hsum : ∀ xl' : List Nat, xl'.length = la → xl'.take up = xl.take up → ofD 10000 (xl'.drop up) + v * y = X → ofD 10000 (ql.set up v) * y + ofD 10000 xl' = x := by
        intro xl' hl' ht' hd'
        have e1 : ofD 10000 xl = ofD 10000 (xl.take up) + 10000 ^ up * X := by
          conv => lhs; rw [← List.take_append_drop up xl, ofD_append, List.length_take, Nat.min_eq_left (by omega), ← hX]
        have e2 : ofD 10000 xl' = ofD 10000 (xl.take up) + 10000 ^ up * ofD 10000 (xl'.drop up) := by
          conv => lhs; rw [← List.take_append_drop up xl', ofD_append, List.length_take, Nat.min_eq_left (by omega), ht']
        have e3 : 10000 ^ up * X = 10000 ^ up * ofD 10000 (xl'.drop up) + 10000 ^ up * (v * y) := by rw [← hd', Nat.mul_add]
        rw [hqs, Nat.add_mul, Nat.mul_assoc, e2, ← hs, e1]
        omega
      (conv => whnf)
      refine ⟨by omega, ?_⟩
      (conv => whnf)
      refine ⟨_, hoq6.cell64 _ up rfl (by simp; omega), ?_⟩
      rw [List.getElem_set_self]
      (conv => whnf); (refine obool_intro (fun h7 => ?_) (fun h7 => ?_))
      · have h7' : 0 < v := by have := of_decide_eq_true h7; omega
        (conv => whnf)
        refine ⟨by omega, ?_⟩
        (conv => whnf)
        refine ⟨_, hoq6.cell64 _ up rfl (by simp; omega), ?_⟩
        rw [List.getElem_set_self]
        (conv => whnf)
        rw [← hla]
        refine take_ok T ho6 hxl hLc hxd hy6 (fun i o e => by injection e with e; injection e with e1; omega) (by omega) (by omega) h7' (by omega) (by rw [← hX]; exact hvX) fun h8 xl' hnx8 hg8 ho8 hl8 hd8 ht8 hv8 => ?_
        rw [← hX] at hv8
        (conv => whnf)
        refine ar_i64i ((up : Int) - 1) (by omega) (by omega) ?_
        (conv => whnf)
        refine ih ⟨up, xl', ql.set up v⟩ _ _ (by dsimp only; omega) ⟨?_, rfl, rfl, rfl, trivial⟩ ⟨he6.other hj hnx8 hg8, ho8, hoq6.other hnx8 hg8 (fun e => hjq e.symm), Sl.upd hy6 hnx8 hg8 (fun i o e => by injection e with e; injection e with e1; omega), hl8, hd8, by simpa using hql, hqd', by dsimp only; omega, hsum xl' hl8 ht8 hv8, by dsimp only; omega, hz'⟩
        exact rfl
      · have h7' : v = 0 := by have := of_decide_eq_false h7; omega
        (conv => whnf)
        refine ar_i64i ((up : Int) - 1) (by omega) (by omega) ?_
        (conv => whnf)
        rw [h7', Nat.zero_mul, Nat.sub_zero] at hXm
        refine ih ⟨up, xl, ql.set up v⟩ _ _ (by dsimp only; omega) ⟨?_, rfl, rfl, rfl, trivial⟩ ⟨he6, ho6, hoq6, hy6, hxl, hxd, by simpa using hql, hqd', by dsimp only; omega, hsum xl hxl rfl (by rw [h7', ← hX]; omega), by dsimp only; rw [← hX]; exact hXm, hz'⟩
        exact rfl
    · have h4' : k = 0 := by have := of_decide_eq_false h4; omega
      subst h4'
      rw [List.drop_zero] at hlt
      have hq : ofD 10000 ql = x / y := by
        rw [← hs, Nat.mul_comm, Nat.mul_add_div hy0, Nat.div_eq_of_lt hlt, Nat.add_zero]
      have hr : ofD 10000 xl = x % y := by
        rw [← hs, Nat.mul_comm, Nat.mul_add_mod, Nat.mod_eq_of_lt hlt]
      have hxsl : Sl h' (some ⟨j, 0, none⟩) c (i64s xl) := by
        have := (ho.sl (c := c) (by simp; omega)).take xl.length
        rw [i64s_take, List.take_left] at this
        exact this
      have hdiv := len4_le (x / y)
      have hdivD := dec_len_mono (Nat.div_le_self x y)
      have hmod := len4_le (x % y)
      have hmodD := dec_len_mono (Nat.mod_le x y)
      (conv => whnf)
      rw [show Value.slice (some ⟨h2.next, 0, none⟩) la la = Value.slice (some ⟨h2.next, 0, none⟩) ql.length la from by rw [hql]]
      refine itrim_ok T (hoq.sl (by simp; omega)) hqd (by omega) fun hn => ?_
      rw [hq] at hn ⊢
      (conv => whnf)
      refine itext_ok T hn (by omega) fun h5 he5 => ?_
      (conv => whnf)
      rw [← hla, ← hxl]
      refine itrim_ok T (hxsl.ext he5) hxd (by omega) fun hn2 => ?_
      rw [hr] at hn2 ⊢
      (conv => whnf)
      refine itext_ok T hn2 (by omega) fun h6 he6 => ?_
      (conv => whnf); (refine ⟨_, rfl, ?_⟩)
      exact hk _ ((he.trans he5).trans he6)
  · show Value.slice _ _ _ = Value.slice _ _ _
    congr 1 <;> omega
  · show Value.int _ _ = Value.int _ _
    congr 1; omega
  · intro d hd
    rw [List.eq_of_mem_replicate hd]; decide
  · dsimp only
    rw [ofD_zeros _ _ fun d hd => List.eq_of_mem_replicate hd, ex]; simp
  · dsimp only
    refine Nat.lt_of_lt_of_le (ofD_lt fun d hd => dx d (List.mem_of_mem_drop hd)) (Nat.le_trans (Nat.pow_le_pow_right (by decide) ?_) hylow)
    rw [List.length_drop]; omega
  · intro p hp _
    simp

theorem Common_ok (T : Tab C) {x y : Nat} (hX : (dec x).length ≤ 536870912) (hY : (dec y).length ≤ 536870912)
    (hk : ∀ h', Ext h h' → K (.string (bs (dec (Nat.gcd x y)))) h') : acall C base (n + 5) 63 [.string (bs (dec x)), .string (bs (dec y))] h K := by
  refine acall_of T.f63 ?_
  (conv => whnf)
  refine loop_upd (X := Nat × Nat) (fun v => [(0, .string (bs (dec v.1))), (1, .string (bs (dec v.2)))])
    (fun v h' => Ext h h' ∧ (dec v.1).length ≤ 536870912 ∧ (dec v.2).length ≤ 536870912 ∧ Nat.gcd v.1 v.2 = Nat.gcd x y) (fun v => v.2) ?_ ⟨x, y⟩ _ _ ⟨rfl, rfl, trivial⟩ ⟨Ext.refl _, hX, hY, rfl⟩
  intro n ⟨p, q⟩ f h' ⟨he, hp, hq, hg⟩ ih
  dsimp only at ih hp hq hg ⊢
  (conv => whnf)
  refine obool_intro (fun h1 => ?_) (fun h1 => ?_)
  · have h1' : q ≠ 0 := by
      intro e; subst e
      have h2 : (!((bs (dec 0)).toList == (bs [48]).toList)) = true := h1
      rw [bs_toList, bs_toList, dec_zero] at h2
      exact absurd h2 (by decide)
    (conv => whnf)
    refine Divide_ok T hp hq (by omega) fun h2 he2 => ?_
    (conv => whnf); refine ⟨_, rfl, ?_⟩
    (conv => whnf); refine ⟨_, rfl, ?_⟩
    (conv => whnf)
    have hm := Nat.mod_lt p (show 0 < q by omega)
    refine ih ⟨q, p % q⟩ _ _ hm ⟨rfl, rfl, trivial⟩ ⟨he.trans he2, hq, Nat.le_trans (dec_len_mono (Nat.le_of_lt hm)) hq, ?_⟩
    dsimp only
    rw [← hg, Nat.gcd_comm p q, Nat.gcd_rec q p, Nat.gcd_comm]
  · have h1' : q = 0 := by
      have h2 : (!((bs (dec q)).toList == (bs [48]).toList)) = false := h1
      rw [bs_toList, bs_toList] at h2
      have h2 : (dec q == [48]) = true := by simpa using h2
      rw [← val_dec q, eq_of_beq h2]; rfl
    subst h1'
    rw [Nat.gcd_zero_right] at hg
    (conv => whnf); (refine ⟨_, rfl, ?_⟩)
    subst hg
    exact hk _ he

theorem Power_ok (T : Tab C) {x : Nat} (k : Nat) (hk4 : k ≤ 1099511627776) (hX : (dec x).length ≤ 268435456) (hP : (dec (x ^ k)).length ≤ 268435456)
    (hk : ∀ h', Ext h h' → K (.string (bs (dec (x ^ k)))) h') : acall C base (n + 4) 65 [.string (bs (dec x)), .int .i64 (k : Int)] h K := by
  obtain ⟨M, hM⟩ : ∃ M, M = max (x ^ k) (max x 1) := ⟨_, rfl⟩
  have hMl : (dec M).length ≤ 268435456 := by
    rw [hM]
    rcases Nat.le_total (x ^ k) (max x 1) with h | h
    · rw [Nat.max_eq_right h]
      rcases Nat.le_total x 1 with h | h
      · rw [Nat.max_eq_right h]
        exact dec_le10 (by decide) (by decide)
      · rw [Nat.max_eq_left h]; exact hX
    · rw [Nat.max_eq_left h]; exact hP
  have hM1 : x ^ k ≤ M := by rw [hM]; exact Nat.le_max_left _ _
  have hM2 : x ≤ M := by rw [hM]; exact Nat.le_trans (Nat.le_max_left x 1) (Nat.le_max_right _ _)
  have hM3 : 1 ≤ M := by rw [hM]; exact Nat.le_trans (Nat.le_max_right x 1) (Nat.le_max_right _ _)
  clear hM
  refine acall_of T.f65 ?_
  (conv => whnf)
  refine loop_upd (X := Nat × Nat × Nat) (fun v => [(0, .string (bs (dec v.2.1))), (1, .int .i64 (v.2.2 : Int)), (5, .string (bs (dec v.1)))])
    (fun v h' => Ext h h' ∧ v.1 ≤ M ∧ v.2.1 ≤ M ∧ v.2.2 ≤ 1099511627776 ∧ v.1 * v.2.1 ^ v.2.2 = x ^ k ∧ (x = 0 → v.2.1 = 0) ∧ (0 < x → 0 < v.1 ∧ 0 < v.2.1)) (fun v => v.2.2) ?_ ⟨1, x, k⟩ _ _ ⟨rfl, rfl, ?_, trivial⟩ ⟨Ext.refl _, hM3, hM2, hk4, by simp, fun h => h, fun h => ⟨Nat.one_pos, h⟩⟩
  · intro n ⟨o, a, m⟩ f h' ⟨he, ho, ha, hm, hs, hz, hp⟩ ih
    dsimp only at ih ho ha hm hs hz hp ⊢
    have hol := Nat.le_trans (dec_len_mono ho) hMl
    have hal := Nat.le_trans (dec_len_mono ha) hMl
    (conv => whnf); (refine obool_intro (fun h1 => ?_) (fun h1 => ?_))
    · have h1' : 0 < m := by have := of_decide_eq_true h1; omega
      have hsq : a ^ m = (if m % 2 = 1 then a else 1) * (a * a) ^ (m / 2) := by
        have e : m = m % 2 + 2 * (m / 2) := by omega
        conv => lhs; rw [e, Nat.pow_add, Nat.pow_mul, Nat.pow_two]
        congr 1
        split
        · rename_i h; rw [h, Nat.pow_one]
        · rename_i h; rw [show m % 2 = 0 from by omega, Nat.pow_zero]
      have sqle : ∀ o', (0 < x → 0 < o') → o' * (a * a) ^ (m / 2) = x ^ k → 0 < m / 2 → a * a ≤ M := by
        intro o' h1 h2 h3
        rcases Nat.eq_zero_or_pos x with e | e
        · rw [hz e]; simp
        · have h5 : a * a ≤ (a * a) ^ (m / 2) := le_pow_self h3
          have h6 := Nat.le_mul_of_pos_left ((a * a) ^ (m / 2)) (h1 e)
          omega
      have ole : ∀ o', (0 < x → 0 < a * a) → o' * (a * a) ^ (m / 2) = x ^ k → 0 < x → o' ≤ M := by
        intro o' h1 h2 h3
        have h5 := Nat.le_mul_of_pos_right o' (Nat.pow_pos (n := m / 2) (h1 h3))
        omega
      have haa : 0 < x → 0 < a * a := fun h => Nat.mul_pos (hp h).2 (hp h).2
      (conv => whnf)
      refine ⟨by decide, ?_⟩
      (conv => whnf)
      refine obool_intro (fun h2 => ?_) (fun h2 => ?_)
      · have h2' : m % 2 = 1 := by have := eq_of_beq h2; rw [show Int.tmod (m : Int) 2 = ((m % 2 : Nat) : Int) from rfl] at this; omega
        have hs' : o * a * (a * a) ^ (m / 2) = x ^ k := by rw [← hs, hsq, if_pos h2', Nat.mul_assoc]
        have hoM : o * a ≤ M := by
          rcases Nat.eq_zero_or_pos x with e | e
          · rw [hz e, Nat.mul_zero]; omega
          · exact ole _ haa hs' e
        (conv => whnf)
        refine Times_ok T (by omega) (by omega) fun h3 he3 => ?_
        (conv => whnf)
        refine ⟨by decide, ?_⟩
        refine ar_i64e (m / 2) (show Int.tdiv (m : Int) 2 = _ from rfl) (by omega) ?_
        (conv => whnf)
        refine obool_intro (fun h4 => ?_) (fun h4 => ?_)
        · have h4' : 0 < m / 2 := by have := of_decide_eq_true h4; omega
          have haM := sqle _ (fun h => Nat.mul_pos (hp h).1 (hp h).2) hs' h4'
          (conv => whnf)
          refine Times_ok T (by omega) (by omega) fun h5 he5 => ?_
          (conv => whnf)
          exact ih ⟨o * a, a * a, m / 2⟩ _ _ (by dsimp only; omega) ⟨rfl, rfl, rfl, trivial⟩ ⟨(he.trans he3).trans he5, hoM, haM, by dsimp only; omega, hs', fun h => by dsimp only; rw [hz h], fun h => ⟨(fun h => Nat.mul_pos (hp h).1 (hp h).2) h, haa h⟩⟩
        · have h4' : m / 2 = 0 := by have := of_decide_eq_false h4; omega
          (conv => whnf)
          refine ih ⟨o * a, a, m / 2⟩ _ _ (by dsimp only; omega) ⟨rfl, rfl, rfl, trivial⟩ ⟨(he.trans he3), hoM, ha, by dsimp only; omega, ?_, hz, fun h => ⟨(fun h => Nat.mul_pos (hp h).1 (hp h).2) h, (hp h).2⟩⟩
          dsimp only
          rw [h4', Nat.pow_zero] at hs' ⊢
          exact hs'
      · have h2' : ¬ m % 2 = 1 := by
          intro e
          rw [show Int.tmod (m : Int) 2 = ((m % 2 : Nat) : Int) from rfl, e] at h2
          exact absurd h2 (by decide)
        have hs' : o * (a * a) ^ (m / 2) = x ^ k := by rw [← hs, hsq, if_neg h2', Nat.one_mul]
        have hoM : o ≤ M := ho
        (conv => whnf)
        refine ⟨by decide, ?_⟩
        refine ar_i64e (m / 2) (show Int.tdiv (m : Int) 2 = _ from rfl) (by omega) ?_
        (conv => whnf)
        refine obool_intro (fun h4 => ?_) (fun h4 => ?_)
        · have h4' : 0 < m / 2 := by have := of_decide_eq_true h4; omega
          have haM := sqle _ (fun h => (hp h).1) hs' h4'
          (conv => whnf)
          refine Times_ok T (by omega) (by omega) fun h5 he5 => ?_
          (conv => whnf)
          exact ih ⟨o, a * a, m / 2⟩ _ _ (by dsimp only; omega) ⟨rfl, rfl, rfl, trivial⟩ ⟨he.trans he5, hoM, haM, by dsimp only; omega, hs', fun h => by dsimp only; rw [hz h], fun h => ⟨(fun h => (hp h).1) h, haa h⟩⟩
        · have h4' : m / 2 = 0 := by have := of_decide_eq_false h4; omega
          (conv => whnf)
          refine ih ⟨o, a, m / 2⟩ _ _ (by dsimp only; omega) ⟨rfl, rfl, rfl, trivial⟩ ⟨he, hoM, ha, by dsimp only; omega, ?_, hz, fun h => ⟨(fun h => (hp h).1) h, (hp h).2⟩⟩
          dsimp only
          rw [h4', Nat.pow_zero] at hs' ⊢
          exact hs'
    · have h1' : m = 0 := by have := of_decide_eq_false h1; omega
      subst h1'
      rw [Nat.pow_zero, Nat.mul_one] at hs
      subst hs
      (conv => whnf); (refine ⟨_, rfl, ?_⟩)
      exact hk _ he
  · show Value.string (bs [49]) = Value.string (bs (dec 1))
    rw [dec_pos (by decide), digs_pos (by decide) (by decide), Nat.div_eq_of_lt (by decide), digs_zero]
    rfl
end Go.Proofs.Ytpilfppdiifbjaa.Am

namespace Go.Proofs.Ytpilfppdiifbjaa.Am
open Go.Proofs.Ytpilfppdiifbjaa.Nt
variable {C : FuncId → Option AFn} {base : Cl} {n : Nat} {h : H} {K : Value → H → Prop}

theorem rights_ok (T : Tab C) {b : Option Addr} {c : Nat} {L : List (List UInt8)} (hs : Sl h b c (strs L)) (hL : L.length ≤ 140737488355328) (hk : K (.bool (L.all right)) h) : acall C base (n + 3) 50 [.slice b L.length c] h K := by
  refine acall_of T.f50 ?_
  (conv => whnf)
  refine loop_upd (X := Nat) (fun i => [(0, .slice b L.length c), (3, .int .i64 (i : Int))])
    (fun i h' => h' = h ∧ i ≤ L.length ∧ ∀ j (hj : j < L.length), j < i → right L[j] = true) (fun i => L.length - i) ?_ 0 _ _ ⟨rfl, rfl, trivial⟩ ⟨rfl, by simp, fun _ _ h => absurd h (by omega)⟩
  intro n i f h' ⟨he, hi, hr⟩ ih
  subst he
  (conv => whnf); (refine obool_intro (fun h1 => ?_) (fun h1 => ?_))
  · have h1' : i < L.length := by have := of_decide_eq_true h1; omega
    obtain ⟨bi, bo, rfl, _, hat⟩ := hs.allS (by omega)
    (conv => whnf)
    refine ⟨by omega, ?_⟩
    (conv => whnf)
    refine ⟨_, hat _ (Ext.refl _) _ i rfl h1', ?_⟩
    (conv => whnf)
    refine RRight_ok T _ ?_
    cases ha : right L[i] with
    | false =>
      have := all_right_false h1' ha
      rw [Bool.not_eq_true] at this
      rw [this] at hk
      (conv => whnf); (refine ⟨_, rfl, ?_⟩)
      exact hk
    | true =>
      (conv => whnf)
      refine ar_i64e (i + 1) (by omega) (by omega) ?_
      (conv => whnf)
      refine ih (i + 1) _ _ (by omega) ⟨rfl, rfl, trivial⟩ ⟨rfl, h1', fun j hj hji => ?_⟩
      by_cases e : j = i
      · subst e; exact ha
      · exact hr j hj (by omega)
  · have h1' : i = L.length := by have := of_decide_eq_false h1; omega
    subst h1'
    have hall := all_right_true fun i hi => hr i hi hi
    rw [hall] at hk
    (conv => whnf); (refine ⟨_, rfl, ?_⟩)
    exact hk

theorem small_ok (T : Tab C) {x : Nat} (hk : K (sv (told x)) h) : acall C base (n + 1) 52 [.string (bs (dec x))] h K := by
  refine acall_of T.f52 ?_
  (conv => whnf); (refine obool_intro (fun h1 => ?_) (fun h1 => ?_))
  · have h1' : ¬ (dec x).length ≤ 600 := by have := of_decide_eq_true h1; simp at this; omega
    rw [told, if_neg h1'] at hk
    (conv => whnf); (refine ⟨_, rfl, ?_⟩)
    exact hk
  · have h1' : (dec x).length ≤ 600 := by have := of_decide_eq_false h1; simp at this; omega
    rw [told, if_pos h1'] at hk
    (conv => whnf); (refine ⟨_, rfl, ?_⟩)
    exact hk

theorem dec_len_u64 {x : Nat} (hx : x < 18446744073709551616) : (dec x).length ≤ 20 := (dec_len_le (by decide)).2 (by omega)
theorem dec_snoc {x : Nat} (h : 0 < x / 10) : dec x = dec (x / 10) ++ [dch (x % 10)] := by
  rw [dec_pos (show 0 < x by omega), dec_pos h, digs_pos (by decide) (show 0 < x by omega)]
  simp
theorem dec_small {x : Nat} (h : x < 10) : dec x = [dch x] := by
  rcases Nat.eq_zero_or_pos x with e | e
  · subst e; rfl
  · rw [dec_pos e, digs_pos (by decide) e, Nat.div_eq_of_lt h, digs_zero, Nat.mod_eq_of_lt h]; rfl
theorem lit1_str {v : UInt8} (h : H) : ∃ vs, (h.push (.cells [Value.int .u8 (v.toNat : Int)] 5 true false)).rd h.next 0 1 = some vs ∧ bytesOf vs = some [v] := by
  refine ⟨_, (Own.push (u8s [v]) 5 false).rd 0 1 (by simp), ?_⟩
  exact bytesOf_u8s [v]

theorem ROf_ok (T : Tab C) (x : Nat) (hx : x < 18446744073709551616) (hk : ∀ h', Ext h h' → K (.string (bs (dec x))) h') : acall C base (n + 1) 19 [.int .u64 (x : Int)] h K := by
  refine acall_of T.f19 ?_
  have hlen := dec_len_u64 hx
  (conv => whnf)
  refine loop_upd (X := Nat × List UInt8) (fun v => [(0, .int .u64 (v.1 : Int)), (3, .string (bs v.2))])
    (fun v h' => Ext h h' ∧ v.1 ≤ x ∧ dec v.1 ++ v.2 = dec x) (fun v => v.1) ?_ ⟨x, []⟩ _ _ ⟨rfl, rfl, trivial⟩ ⟨Ext.refl _, by simp, by simp⟩
  intro n ⟨m, s⟩ f h' ⟨he, hm, hs⟩ ih
  dsimp only at ih hm hs ⊢
  have hsl : s.length ≤ 20 := by
    have := congrArg List.length hs
    rw [List.length_append] at this; omega
  (conv => whnf); (refine obool_intro (fun h1 => ?_) (fun h1 => ?_))
  · have h1' : 9 < m := by have := of_decide_eq_true h1; omega
    (conv => whnf)
    refine ⟨by decide, ?_⟩
    rw [tmod10]
    (conv => whnf)
    refine ar_u64e (48 + m % 10) (by omega) (by omega) ?_
    (conv => whnf)
    refine ar_u8e (dch (m % 10)).toNat (dch_int (by omega)) (by rw [dch_toNat (by omega)]; omega) ?_
    (conv => whnf)
    refine ⟨_, rfl, ?_⟩
    obtain ⟨vs, hvs, hby⟩ := lit1_str (v := dch (m % 10)) h'
    (conv => whnf)
    refine ⟨vs, hvs, [dch (m % 10)], hby, ?_⟩
    (conv => whnf)
    refine ⟨(by show 1 + s.length ≤ _; omega), ?_⟩
    rw [show (ByteArray.mk [dch (m % 10)].toArray) ++ bs s = bs (dch (m % 10) :: s) from bs_app [dch (m % 10)] s]
    (conv => whnf)
    refine ⟨by decide, ?_⟩
    refine ar_u64e (m / 10) (tdiv10 m) (by omega) ?_
    (conv => whnf)
    refine ih ⟨m / 10, dch (m % 10) :: s⟩ _ _ (by dsimp only; omega) ⟨rfl, rfl, trivial⟩ ⟨he.push _, by dsimp only; omega, ?_⟩
    dsimp only
    rw [← hs, dec_snoc (x := m) (by omega), List.append_assoc]; rfl
  · have h1' : m < 10 := by have := of_decide_eq_false h1; omega
    (conv => whnf)
    refine ar_u64e (48 + m) (by omega) (by omega) ?_
    (conv => whnf)
    refine ar_u8e (dch (m)).toNat (dch_int (by omega)) (by rw [dch_toNat (by omega)]; omega) ?_
    (conv => whnf)
    refine ⟨_, rfl, ?_⟩
    obtain ⟨vs, hvs, hby⟩ := lit1_str (v := dch (m)) h'
    (conv => whnf)
    refine ⟨vs, hvs, [dch (m)], hby, ?_⟩
    (conv => whnf)
    refine ⟨(by show 1 + s.length ≤ _; omega), ?_⟩
    rw [show (ByteArray.mk [dch (m)].toArray) ++ bs s = bs (dch (m) :: s) from bs_app [dch (m)] s]
    (conv => whnf); (refine ⟨_, rfl, ?_⟩)
    rw [dec_small h1'] at hs
    have := hk _ (he.push (.cells [Value.int .u8 ((dch m).toNat : Int)] 5 true false))
    rw [← hs] at this
    exact this

theorem u64_text : dec 18446744073709551615 = [49, 56, 52, 52, 54, 55, 52, 52, 48, 55, 51, 55, 48, 57, 53, 53, 49, 54, 49, 53] := by
  have : natural [49, 56, 52, 52, 54, 55, 52, 52, 48, 55, 51, 55, 48, 57, 53, 53, 49, 54, 49, 53] = true := by decide
  have e := dec_val this
  rw [← e]
  rfl

theorem RInt_ok (T : Tab C) (l : List UInt8) (hk : K (.tuple #[.int .u64 ((intR l).1 : Int), .int .i64 (intR l).2]) h) : acall C base (n + 3) 15 [.string (bs l)] h K := by
  refine acall_of T.f15 ?_
  (conv => whnf)
  refine RRight_ok T l ?_
  cases ha : right l with
  | false =>
    rw [intR, ha, if_neg (by decide)] at hk
    (conv => whnf); (refine ⟨_, rfl, ?_⟩)
    exact hk
  | true =>
    rw [intR, ha, if_pos rfl] at hk
    have hca := right_dig ha
    have hlen := right_len600 ha
    have hnat : natural l = true := by
      unfold right at ha
      simp only [Bool.and_eq_true] at ha
      exact ha.2
    have hmx : val (dec 18446744073709551615) = 18446744073709551615 := val_dec _
    rw [u64_text] at hmx
    (conv => whnf)
    refine Compare_ok T (b := [49, 56, 52, 52, 54, 55, 52, 52, 48, 55, 51, 55, 48, 57, 53, 53, 49, 54, 49, 53]) hnat (by decide) ?_
    rw [hmx]
    (conv => whnf); (refine obool_intro (fun h1 => ?_) (fun h1 => ?_))
    · have h1' : ¬ val l < 18446744073709551616 := by
        have := of_decide_eq_true h1
        intro h
        have := cmp_le.2 (show val l ≤ 18446744073709551615 by omega)
        omega
      rw [if_neg h1'] at hk
      (conv => whnf); (refine ⟨_, rfl, ?_⟩)
      exact hk
    · have h1' : val l < 18446744073709551616 := by
        have := of_decide_eq_false h1
        have := cmp_le.1 (show cmpN (val l) 18446744073709551615 ≤ 0 by omega)
        omega
      rw [if_pos h1'] at hk
      (conv => whnf)
      refine loop_upd (X := Nat) (fun k => [(0, .string (bs l)), (4, .int .u64 (val (l.take k) : Int)), (5, .int .i64 (k : Int))])
        (fun k h' => h' = h ∧ k ≤ l.length) (fun k => l.length - k) ?_ 0 _ _ ⟨rfl, rfl, rfl, trivial⟩ ⟨rfl, by simp⟩
      intro n k f h' ⟨he, hk2⟩ ih
      subst he
      (conv => whnf); (refine obool_intro (fun h3 => ?_) (fun h3 => ?_))
      · have h3' : k < l.length := by have := of_decide_eq_true h3; simp at this; omega
        have hd := isDig_toNat (all_get hca h3')
        have hd9 := dv_lt (all_get hca h3')
        have hst := val_take_succ l k h3'
        have hle : val (l.take (k + 1)) ≤ val l := by
          conv => rhs; rw [← List.take_append_drop (k + 1) l, val_append]
          have := Nat.le_mul_of_pos_left (val (l.take (k + 1))) (Nat.pow_pos (n := (l.drop (k + 1)).length) (show 0 < 10 by omega))
          omega
        have hb : byteAt (bs l) k = l[k].toNat := bs_byteAt_lt h3'
        (conv => whnf)
        refine ar_u64e (10 * val (l.take k)) (by omega) (by omega) ?_
        (conv => whnf)
        refine ⟨by simp; omega, ?_⟩
        rw [show byteAt (bs l) (Int.toNat (k : Int)) = l[k].toNat from hb]
        (conv => whnf)
        refine ar_u8e (dv l[k]) (by omega) (by omega) ?_
        (conv => whnf)
        refine ar_u64e (dv l[k]) rfl (by omega) ?_
        (conv => whnf)
        refine ar_u64e (val (l.take (k + 1))) (by omega) (by omega) ?_
        (conv => whnf)
        refine ar_i64e (k + 1) (by omega) (by omega) ?_
        (conv => whnf)
        exact ih (k + 1) _ _ (by omega) ⟨rfl, rfl, rfl, trivial⟩ ⟨rfl, h3'⟩
      · have h3' : k = l.length := by have := of_decide_eq_false h3; simp at this; omega
        subst h3'
        (conv => whnf); (refine ⟨_, rfl, ?_⟩)
        rw [List.take_length]
        exact hk
end Go.Proofs.Ytpilfppdiifbjaa.Am

namespace Go.Proofs.Ytpilfppdiifbjaa.Am
open Go.Proofs.Ytpilfppdiifbjaa.Nt
variable {C : FuncId → Option AFn} {base : Cl} {n : Nat} {h : H} {K : Value → H → Prop}
theorem pair_sl (a b : List UInt8) (h : H) : Sl (h.push (.cells [Value.string (bs a), .string (bs b)] 9 true false)) (some ⟨h.next, 0, none⟩) 2 (strs [a, b]) := (Own.push (strs [a, b]) 9 false).sl (by simp)
theorem all_two (a b : List UInt8) : [a, b].all right = (right a && right b) := by simp
theorem sub_told {a b : List UInt8} (ha : right a = true) : told (val a - val b) = (dec (val a - val b), 0) := by
  rw [told, if_pos]
  have := dec_len_mono (Nat.sub_le (val a) (val b))
  rw [dec_right ha] at this
  exact Nat.le_trans this (right_len600 ha)
theorem right_natural {a : List UInt8} (ha : right a = true) : natural a = true := by
  unfold right at ha
  simp only [Bool.and_eq_true] at ha
  exact ha.2

theorem RAdd_ok (T : Tab C) (a b : List UInt8) (hk : ∀ h', Ext h h' → K (sv (addR a b)) h') : acall C base (n + 4) 27 [.string (bs a), .string (bs b)] h K := by
  refine acall_of T.f27 ?_
  (conv => whnf)
  refine ⟨_, rfl, ?_⟩
  have he0 : Ext h (h.push (.cells [Value.string (bs a), .string (bs b)] 9 true false)) := (Ext.refl _).push _
  (conv => whnf)
  refine rights_ok T (L := [a, b]) (pair_sl a b h) (by simp) ?_
  rw [all_two]
  cases hab : right a && right b with
  | false =>
    rw [addR, hab, if_neg (by decide)] at hk
    (conv => whnf); (refine ⟨_, rfl, ?_⟩)
    exact hk _ he0
  | true =>
    rw [addR, hab, if_pos rfl] at hk
    have ha : right a = true := (Bool.and_eq_true_iff.1 hab).1
    have hb : right b = true := (Bool.and_eq_true_iff.1 hab).2
    have la := right_len600 ha
    have lb := right_len600 hb
    have na := right_natural ha
    have nb := right_natural hb
    rw [← dec_right ha] at la he0 ⊢
    rw [← dec_right hb] at lb he0 ⊢
    (conv => whnf)
    refine Plus_ok T (by omega) (by omega) fun h1 he1 => ?_
    (conv => whnf)
    refine small_ok T ?_
    (conv => whnf); refine ⟨_, rfl, ?_⟩
    (conv => whnf); refine ⟨_, rfl, ?_⟩
    (conv => whnf); (refine ⟨_, rfl, ?_⟩)
    exact hk _ (he0.trans he1)

theorem RMul_ok (T : Tab C) (a b : List UInt8) (hk : ∀ h', Ext h h' → K (sv (mulR a b)) h') : acall C base (n + 4) 31 [.string (bs a), .string (bs b)] h K := by
  refine acall_of T.f31 ?_
  (conv => whnf)
  refine ⟨_, rfl, ?_⟩
  have he0 : Ext h (h.push (.cells [Value.string (bs a), .string (bs b)] 9 true false)) := (Ext.refl _).push _
  (conv => whnf)
  refine rights_ok T (L := [a, b]) (pair_sl a b h) (by simp) ?_
  rw [all_two]
  cases hab : right a && right b with
  | false =>
    rw [mulR, hab, if_neg (by decide)] at hk
    (conv => whnf); (refine ⟨_, rfl, ?_⟩)
    exact hk _ he0
  | true =>
    rw [mulR, hab, if_pos rfl] at hk
    have ha : right a = true := (Bool.and_eq_true_iff.1 hab).1
    have hb : right b = true := (Bool.and_eq_true_iff.1 hab).2
    have la := right_len600 ha
    have lb := right_len600 hb
    have na := right_natural ha
    have nb := right_natural hb
    rw [← dec_right ha] at la he0 ⊢
    rw [← dec_right hb] at lb he0 ⊢
    (conv => whnf)
    refine Times_ok T (by omega) (by omega) fun h1 he1 => ?_
    (conv => whnf)
    refine small_ok T ?_
    (conv => whnf); refine ⟨_, rfl, ?_⟩
    (conv => whnf); refine ⟨_, rfl, ?_⟩
    (conv => whnf); (refine ⟨_, rfl, ?_⟩)
    exact hk _ (he0.trans he1)
theorem RSub_ok (T : Tab C) (a b : List UInt8) (hk : ∀ h', Ext h h' → K (sv (subR a b)) h') : acall C base (n + 4) 29 [.string (bs a), .string (bs b)] h K := by
  refine acall_of T.f29 ?_
  (conv => whnf)
  refine ⟨_, rfl, ?_⟩
  have he0 : Ext h (h.push (.cells [Value.string (bs a), .string (bs b)] 9 true false)) := (Ext.refl _).push _
  (conv => whnf)
  refine rights_ok T (L := [a, b]) (pair_sl a b h) (by simp) ?_
  rw [all_two]
  cases hab : right a && right b with
  | false =>
    rw [subR, hab, if_neg (by decide)] at hk
    (conv => whnf); (refine ⟨_, rfl, ?_⟩)
    exact hk _ he0
  | true =>
    rw [subR, hab, if_pos rfl] at hk
    have ha : right a = true := (Bool.and_eq_true_iff.1 hab).1
    have hb : right b = true := (Bool.and_eq_true_iff.1 hab).2
    have la := right_len600 ha
    have lb := right_len600 hb
    have na := right_natural ha
    have nb := right_natural hb
    rw [← dec_right ha] at la he0 ⊢
    rw [← dec_right hb] at lb he0 ⊢
    (conv => whnf)
    refine Compare_ok T (natural_dec _) (natural_dec _) ?_
    rw [val_dec, val_dec]
    (conv => whnf); (refine obool_intro (fun h1 => ?_) (fun h1 => ?_))
    · rw [if_pos (cmp_neg.1 (of_decide_eq_true h1))] at hk
      (conv => whnf); (refine ⟨_, rfl, ?_⟩)
      exact hk _ he0
    · have h1' : ¬ val a < val b := fun h => of_decide_eq_false h1 (cmp_neg.2 h)
      rw [if_neg h1', sub_told ha] at hk
      (conv => whnf)
      refine Minus_ok T (by omega) (by omega) fun h1 he1 => ?_
      (conv => whnf); (refine ⟨_, rfl, ?_⟩)
      exact hk _ (he0.trans he1)
theorem RDivMod_ok (T : Tab C) (a b : List UInt8) (hk : ∀ h', Ext h h' → K (sv3 (divR a b)) h') : acall C base (n + 5) 37 [.string (bs a), .string (bs b)] h K := by
  refine acall_of T.f37 ?_
  (conv => whnf)
  refine ⟨_, rfl, ?_⟩
  have he0 : Ext h (h.push (.cells [Value.string (bs a), .string (bs b)] 9 true false)) := (Ext.refl _).push _
  (conv => whnf)
  refine rights_ok T (L := [a, b]) (pair_sl a b h) (by simp) ?_
  rw [all_two]
  cases hab : right a && right b with
  | false =>
    rw [divR, hab, if_neg (by decide)] at hk
    (conv => whnf); (refine ⟨_, rfl, ?_⟩)
    exact hk _ he0
  | true =>
    rw [divR, hab, if_pos rfl] at hk
    have ha : right a = true := (Bool.and_eq_true_iff.1 hab).1
    have hb : right b = true := (Bool.and_eq_true_iff.1 hab).2
    have la := right_len600 ha
    have lb := right_len600 hb
    have na := right_natural ha
    have nb := right_natural hb
    rw [← dec_right ha] at la he0 ⊢
    rw [← dec_right hb] at lb he0 ⊢
    (conv => whnf)
    refine obool_intro (fun h1 => ?_) (fun h1 => ?_)
    · have h2 : ((bs (dec (val b))).toList == (bs [48]).toList) = true := h1
      rw [bs_toList, bs_toList] at h2
      have h3 : val b = 0 := by rw [← val_dec (val b), eq_of_beq h2]; rfl
      rw [if_pos h3] at hk
      (conv => whnf); (refine ⟨_, rfl, ?_⟩)
      exact hk _ he0
    · have h3 : val b ≠ 0 := by
        intro e
        have h2 : ((bs (dec (val b))).toList == (bs [48]).toList) = false := h1
        rw [bs_toList, bs_toList, e, dec_zero] at h2
        exact absurd h2 (by decide)
      rw [if_neg h3] at hk
      (conv => whnf)
      refine Divide_ok T (by omega) (by omega) (by omega) fun h1 he1 => ?_
      (conv => whnf); refine ⟨_, rfl, ?_⟩
      (conv => whnf); refine ⟨_, rfl, ?_⟩
      (conv => whnf); (refine ⟨_, rfl, ?_⟩)
      exact hk _ (he0.trans he1)
theorem RGcd_ok (T : Tab C) (a b : List UInt8) (hk : ∀ h', Ext h h' → K (sv (gcdR a b)) h') : acall C base (n + 6) 39 [.string (bs a), .string (bs b)] h K := by
  refine acall_of T.f39 ?_
  (conv => whnf)
  refine ⟨_, rfl, ?_⟩
  have he0 : Ext h (h.push (.cells [Value.string (bs a), .string (bs b)] 9 true false)) := (Ext.refl _).push _
  (conv => whnf)
  refine rights_ok T (L := [a, b]) (pair_sl a b h) (by simp) ?_
  rw [all_two]
  cases hab : right a && right b with
  | false =>
    rw [gcdR, hab, if_neg (by decide)] at hk
    (conv => whnf); (refine ⟨_, rfl, ?_⟩)
    exact hk _ he0
  | true =>
    rw [gcdR, hab, if_pos rfl] at hk
    have ha : right a = true := (Bool.and_eq_true_iff.1 hab).1
    have hb : right b = true := (Bool.and_eq_true_iff.1 hab).2
    have la := right_len600 ha
    have lb := right_len600 hb
    have na := right_natural ha
    have nb := right_natural hb
    rw [← dec_right ha] at la he0 ⊢
    rw [← dec_right hb] at lb he0 ⊢
    (conv => whnf)
    refine Common_ok T (by omega) (by omega) fun h1 he1 => ?_
    (conv => whnf); (refine ⟨_, rfl, ?_⟩)
    exact hk _ (he0.trans he1)

theorem sumV_lt {k : Nat} (hk : 600 ≤ k) (L : List (List UInt8)) (h : L.all right = true) : sumV L ≤ L.length * 10 ^ k := by
  induction L with
  | nil => simp [sumV]
  | cons a l ih =>
    rw [List.all_cons, Bool.and_eq_true] at h
    have h1 := ih h.2
    have h2 : val a < 10 ^ k := lt_pow_of_le (val_lt (right_dig h.1)) (Nat.le_trans (right_len600 h.1) hk)
    rw [sumV, List.length_cons, Nat.add_mul, Nat.one_mul]
    omega
theorem RSum_ok (T : Tab C) {b : Option Addr} {c : Nat} {L : List (List UInt8)} (hs : Sl h b c (strs L)) (hL : L.length ≤ 140737488355328) (hk : ∀ h', Ext h h' → K (sv (sumR L)) h') : acall C base (n + 4) 22 [.slice b L.length c] h K := by
  refine acall_of T.f22 ?_
  (conv => whnf)
  refine rights_ok T hs hL ?_
  cases hall : L.all right with
  | false =>
    rw [sumR, hall, if_neg (by decide)] at hk
    (conv => whnf); (refine ⟨_, rfl, ?_⟩)
    exact hk _ (Ext.refl _)
  | true =>
    rw [sumR, hall, if_pos rfl] at hk
    have hr : ∀ j (hj : j < L.length), right L[j] = true := fun j hj => List.all_eq_true.1 hall _ (List.getElem_mem hj)
    have hbig : ∀ i, (dec (sumV (L.take i))).length ≤ 616 := by
      intro i
      obtain ⟨k, hk⟩ : ∃ k, k = 600 := ⟨_, rfl⟩
      have h1 := sumV_lt (k := k) (by omega) (L.take i) (by rw [List.all_eq_true] at hall ⊢; exact fun a ha => hall a (List.mem_of_mem_take ha))
      have h2 : (L.take i).length < 10 ^ 16 := by rw [List.length_take]; omega
      have := mul_ten h1 h2 (by decide)
      omega
    (conv => whnf)
    refine loop_upd (X := Nat) (fun i => [(0, .slice b L.length c), (4, .string (bs (dec (sumV (L.take i))))), (5, .int .i64 (i : Int))])
      (fun i h' => Ext h h' ∧ i ≤ L.length) (fun i => L.length - i) ?_ 0 _ _ ⟨rfl, rfl, rfl, trivial⟩ ⟨Ext.refl _, by simp⟩
    intro n i f h' ⟨he, hi⟩ ih
    have hb := hbig i
    (conv => whnf); (refine obool_intro (fun h1 => ?_) (fun h1 => ?_))
    · have h1' : i < L.length := by have := of_decide_eq_true h1; omega
      have hri := hr i h1'
      have hli := right_len600 hri
      obtain ⟨bi, bo, rfl, _, hat⟩ := hs.allS (by omega)
      (conv => whnf)
      refine ⟨by omega, ?_⟩
      (conv => whnf)
      refine ⟨_, hat _ he _ i rfl h1', ?_⟩
      rw [show Value.string (bs L[i]) = Value.string (bs (dec (val L[i]))) from by rw [dec_right hri]]
      (conv => whnf)
      refine Plus_ok T (by omega) (by rw [dec_right hri]; omega) fun h2 he2 => ?_
      rw [← sumV_take L i h1']
      (conv => whnf)
      refine ar_i64e (i + 1) (by omega) (by omega) ?_
      (conv => whnf)
      exact ih (i + 1) _ _ (by omega) ⟨rfl, rfl, rfl, trivial⟩ ⟨he.trans he2, h1'⟩
    · have h1' : i = L.length := by have := of_decide_eq_false h1; omega
      subst h1'
      rw [List.take_length]
      (conv => whnf)
      refine small_ok T ?_
      (conv => whnf); refine ⟨_, rfl, ?_⟩
      (conv => whnf); refine ⟨_, rfl, ?_⟩
      (conv => whnf); (refine ⟨_, rfl, ?_⟩)
      exact hk _ he

theorem RProd_ok (T : Tab C) {b : Option Addr} {c : Nat} {L : List (List UInt8)} (hs : Sl h b c (strs L)) (hL : L.length ≤ 140737488355328) (hk : ∀ h', Ext h h' → K (sv (prodR L)) h') : acall C base (n + 4) 24 [.slice b L.length c] h K := by
  refine acall_of T.f24 ?_
  (conv => whnf)
  refine rights_ok T hs hL ?_
  cases hall : L.all right with
  | false =>
    rw [prodR, hall, if_neg (by decide)] at hk
    (conv => whnf); (refine ⟨_, rfl, ?_⟩)
    exact hk _ (Ext.refl _)
  | true =>
    rw [prodR, hall, if_pos rfl] at hk
    have hr : ∀ j (hj : j < L.length), right L[j] = true := fun j hj => List.all_eq_true.1 hall _ (List.getElem_mem hj)
    (conv => whnf)
    refine loop_upd (X := Nat) (fun i => [(0, .slice b L.length c), (4, .int .i64 (i : Int))])
      (fun i h' => h' = h ∧ i ≤ L.length ∧ ∀ j (hj : j < L.length), j < i → val L[j] ≠ 0) (fun i => L.length - i) ?_ 0 _ _ ⟨rfl, rfl, trivial⟩ ⟨rfl, by simp, fun _ _ h => absurd h (by omega)⟩
    intro n i f h' ⟨he, hi, hz⟩ ih
    subst he
    (conv => whnf); (refine obool_intro (fun h1 => ?_) (fun h1 => ?_))
    · have h1' : i < L.length := by have := of_decide_eq_true h1; omega
      have hri := hr i h1'
      obtain ⟨bi, bo, rfl, _, hat⟩ := hs.allS (by omega)
      (conv => whnf)
      refine ⟨by omega, ?_⟩
      (conv => whnf)
      refine ⟨_, hat _ (Ext.refl _) _ i rfl h1', ?_⟩
      (conv => whnf)
      refine obool_intro (fun h2 => ?_) (fun h2 => ?_)
      · have h3 : ((bs L[i]).toList == (bs [48]).toList) = true := h2
        rw [bs_toList, bs_toList] at h3
        rw [prodV_zero (List.getElem_mem h1') ((val_zero_right hri).2 (eq_of_beq h3))] at hk
        (conv => whnf); (refine ⟨_, rfl, ?_⟩)
        exact hk _ (Ext.refl _)
      · have h3 : ((bs L[i]).toList == (bs [48]).toList) = false := h2
        rw [bs_toList, bs_toList] at h3
        (conv => whnf)
        refine ar_i64e (i + 1) (by omega) (by omega) ?_
        (conv => whnf)
        refine ih (i + 1) _ _ (by omega) ⟨rfl, rfl, trivial⟩ ⟨rfl, h1', fun j hj hji => ?_⟩
        by_cases e : j = i
        · subst e
          intro h0
          rw [(val_zero_right hri).1 h0] at h3
          exact absurd h3 (by decide)
        · exact hz j hj (by omega)
    · have h1' : i = L.length := by have := of_decide_eq_false h1; omega
      subst h1'
      have hne : ∀ a ∈ L, val a ≠ 0 := by
        intro a ha
        obtain ⟨j, hj, rfl⟩ := List.mem_iff_getElem.1 ha
        exact hz j hj hj
      have d1 : dec 1 = [49] := dec_small (by decide)
      have l1 : (dec 1).length ≤ 600 := by rw [d1]; decide
      (conv => whnf)
      refine loop_upd (X := Nat) (fun i => [(0, .slice b L.length c), (5, .string (bs (dec (prodV (L.take i))))), (6, .int .i64 (i : Int))])
        (fun i h2 => Ext h' h2 ∧ i ≤ L.length ∧ (dec (prodV (L.take i))).length ≤ 600) (fun i => L.length - i) ?_ 0 _ _ ⟨rfl, ?_, rfl, trivial⟩ ⟨Ext.refl _, by simp, l1⟩
      · intro n i f h2 ⟨he, hi, hd⟩ ih2
        (conv => whnf); (refine obool_intro (fun h2 => ?_) (fun h2 => ?_))
        · have h2' : i < L.length := by have := of_decide_eq_true h2; omega
          have hri := hr i h2'
          have hli := right_len600 hri
          obtain ⟨bi, bo, rfl, _, hat⟩ := hs.allS (by omega)
          (conv => whnf)
          refine ⟨by omega, ?_⟩
          (conv => whnf)
          refine ⟨_, hat _ he _ i rfl h2', ?_⟩
          rw [show Value.string (bs L[i]) = Value.string (bs (dec (val L[i]))) from by rw [dec_right hri]]
          (conv => whnf)
          refine Times_ok T (by omega) (by rw [dec_right hri]; omega) fun h3 he3 => ?_
          rw [← prodV_take L i h2']
          (conv => whnf); (refine obool_intro (fun h6 => ?_) (fun h6 => ?_))
          · have h6' : 600 < (dec (prodV (L.take (i + 1)))).length := by have := of_decide_eq_true h6; simp at this; omega
            have := hk _ (he.trans he3)
            rw [told, if_neg (by have := dec_len_mono (prodV_le hne (i + 1)); omega)] at this
            (conv => whnf); (refine ⟨_, rfl, ?_⟩)
            exact this
          · have h6' : (dec (prodV (L.take (i + 1)))).length ≤ 600 := by have := of_decide_eq_false h6; simp at this; omega
            (conv => whnf)
            refine ar_i64e (i + 1) (by omega) (by omega) ?_
            (conv => whnf)
            exact ih2 (i + 1) _ _ (by omega) ⟨rfl, rfl, rfl, trivial⟩ ⟨he.trans he3, h2', h6'⟩
        · have h2' : i = L.length := by have := of_decide_eq_false h2; omega
          subst h2'
          rw [List.take_length] at hd ⊢
          have := hk _ he
          rw [told, if_pos hd] at this
          (conv => whnf); (refine ⟨_, rfl, ?_⟩)
          exact this
      · show Value.string (bs [49]) = Value.string (bs (dec 1))
        rw [d1]
end Go.Proofs.Ytpilfppdiifbjaa.Am

namespace Go.Proofs.Ytpilfppdiifbjaa.Am
open Go.Proofs.Ytpilfppdiifbjaa.Nt
variable {C : FuncId → Option AFn} {base : Cl} {n : Nat} {h : H} {K : Value → H → Prop}
theorem pow_lenD {x k l : Nat} (h : x < 10 ^ l) : (dec (x ^ k)).length ≤ l * k + 1 := by
  refine (dec_len_le (by omega)).2 ?_
  have h1 : x ^ k ≤ (10 ^ l) ^ k := Nat.pow_le_pow_left (Nat.le_of_lt h) k
  rw [← Nat.pow_mul] at h1
  rw [Nat.pow_succ]
  have := Nat.pow_pos (n := l * k) (show 0 < 10 by omega)
  omega
theorem right_ge {a : List UInt8} (ha : right a = true) (h : 1 < a.length) : 10 ^ (a.length - 1) ≤ val a := by
  rcases Nat.lt_or_ge (val a) (10 ^ (a.length - 1)) with g | g
  · have := (dec_len_le (n := val a) (k := a.length - 1) (by omega)).2 g
    rw [dec_right ha] at this; omega
  · exact g

theorem RPow_ok (T : Tab C) (a : List UInt8) (k : Int) (hk : ∀ h', Ext h h' → K (sv (powR a k)) h') : acall C base (n + 5) 41 [.string (bs a), .int .i64 k] h K := by
  refine acall_of T.f41 ?_
  (conv => whnf)
  refine RRight_ok T a ?_
  cases ha : right a with
  | false =>
    rw [powR, ha, if_neg (by decide)] at hk
    (conv => whnf); (refine ⟨_, rfl, ?_⟩)
    exact hk _ (Ext.refl _)
  | true =>
    rw [powR, ha, if_pos rfl] at hk
    have hlen := right_len600 ha
    have hv : val a < 10 ^ a.length := val_lt (right_dig ha)
    (conv => whnf); (refine obool_intro (fun h1 => ?_) (fun h1 => ?_))
    · have h1' : k < 0 := of_decide_eq_true h1
      rw [if_pos (.inl h1')] at hk
      (conv => whnf); (refine ⟨_, rfl, ?_⟩)
      exact hk _ (Ext.refl _)
    have h1' : ¬ k < 0 := of_decide_eq_false h1
    (conv => whnf); (refine obool_intro (fun h2 => ?_) (fun h2 => ?_))
    · have h2' : k > 4096 := of_decide_eq_true h2
      rw [if_pos (.inr h2')] at hk
      (conv => whnf); (refine ⟨_, rfl, ?_⟩)
      exact hk _ (Ext.refl _)
    have h2' : ¬ k > 4096 := of_decide_eq_false h2
    rw [if_neg (by omega)] at hk
    obtain ⟨m, rfl⟩ : ∃ m : Nat, k = (m : Int) := ⟨k.toNat, by omega⟩
    rw [Int.toNat_natCast] at hk
    have hpl := pow_lenD (k := m) hv
    have hpl2 : a.length * m ≤ 600 * 4096 := Nat.mul_le_mul hlen (by omega)
    obtain ⟨p, hp⟩ : ∃ p, p = (a.length - 1) * m := ⟨_, rfl⟩
    have hp9 : p ≤ 600 * 4096 := by rw [hp]; exact Nat.mul_le_mul (by omega) (by omega)
    have hbig : 1 < a.length → 600 < p → told (val a ^ m) = ([], 7) := by
      intro h3 h4
      have h5 : 10 ^ p ≤ val a ^ m := by
        rw [hp, Nat.pow_mul]
        exact Nat.pow_le_pow_left (right_ge ha h3) m
      rw [told, if_neg]
      have := len_of_pow h5
      omega
    have fin : ∀ (f : Prop), f → f := fun _ h => h
    (conv => whnf); (refine obool_intro (fun h3 => ?_) (fun h3 => ?_))
    · have h3' : 1 < a.length := by have := of_decide_eq_true h3; simp at this; omega
      (conv => whnf)
      refine ar_i64e (a.length - 1) (by simp; omega) (by omega) ?_
      (conv => whnf)
      refine ar_i64e p (by rw [hp]; simp) (by omega) ?_
      (conv => whnf); (refine obool_intro (fun h4 => ?_) (fun h4 => ?_))
      · have h4' : 600 < p := by have := of_decide_eq_true h4; omega
        have := hk _ (Ext.refl _)
        rw [hbig h3' h4'] at this
        (conv => whnf); (refine ⟨_, rfl, ?_⟩)
        exact this
      · rw [← dec_right ha]
        (conv => whnf)
        refine Power_ok T m (by omega) (by rw [dec_right ha]; omega) (by omega) fun h5 he5 => ?_
        (conv => whnf)
        refine small_ok T ?_
        (conv => whnf); refine ⟨_, rfl, ?_⟩
        (conv => whnf); refine ⟨_, rfl, ?_⟩
        (conv => whnf); (refine ⟨_, rfl, ?_⟩)
        exact hk _ he5
    · rw [← dec_right ha]
      (conv => whnf)
      refine Power_ok T m (by omega) (by rw [dec_right ha]; omega) (by omega) fun h5 he5 => ?_
      (conv => whnf)
      refine small_ok T ?_
      (conv => whnf); refine ⟨_, rfl, ?_⟩
      (conv => whnf); refine ⟨_, rfl, ?_⟩
      (conv => whnf); (refine ⟨_, rfl, ?_⟩)
      exact hk _ he5

theorem plain_ok (T : Tab C) {j c : Nat} {r : List UInt8} {op : Bool} (ho : Own h j (u8s r) 5 op) (hc : r.length ≤ c) (hr : r.all isDig = true) (hr0 : 0 < r.length) (hL : r.length ≤ 1099511627776) (hk : K (.string (bs (dec (val r)))) h) :
    acall C base (n + 1) 75 [.slice (some ⟨j, 0, none⟩) r.length c] h K := by
  refine acall_of T.f75 ?_
  (conv => whnf)
  refine loop_upd (X := Nat) (fun k => [(0, .slice (some ⟨j, 0, none⟩) r.length c), (3, .int .i64 (k : Int))])
    (fun k h' => h' = h ∧ k < r.length ∧ ∀ p (hp : p < r.length), p < k → r[p] = 48) (fun k => r.length - k) ?_ 0 _ _ ⟨rfl, rfl, trivial⟩ ⟨rfl, hr0, fun _ _ _ => by omega⟩
  intro n k f h' ⟨he, hkr, hz⟩ ih
  subst he
  have fin : (r[k] ≠ 48 ∨ k + 1 = r.length) → r.drop k = dec (val r) := fun h1 => dec_drop hr hkr hz h1
  (conv => whnf); (refine ar_i64 (by omega) ?_); (conv => whnf); (refine obool_intro (fun h1 => ?_) (fun h1 => ?_))
  · have h1' : k + 1 < r.length := by have := of_decide_eq_true h1; omega
    (conv => whnf)
    refine ⟨by omega, ?_⟩
    (conv => whnf)
    refine ⟨_, ho.cell8 _ k rfl hkr, ?_⟩
    (conv => whnf); (refine obool_intro (fun h2 => ?_) (fun h2 => ?_))
    · have h2' : r[k] = 48 := by
        apply UInt8.toNat_inj.1
        have := eq_of_beq h2
        simp at this ⊢; omega
      (conv => whnf); (refine ar_i64 (by omega) ?_); (conv => whnf)
      refine ih (k + 1) _ _ (by omega) ⟨rfl, rfl, trivial⟩ ⟨rfl, h1', fun p hp hpk => ?_⟩
      by_cases e : p = k
      · subst e; exact h2'
      · exact hz p hp (by omega)
    · have h2' : r[k] ≠ 48 := by
        intro e; rw [e] at h2
        exact absurd h2 (by decide)
      have hf := fin (.inl h2')
      (conv => whnf)
      refine ⟨by omega, ?_⟩
      refine ⟨fun _ => ⟨.inr ho.tag, ?_⟩, fun hle => absurd hle (by simp; omega)⟩
      (conv => whnf)
      refine ⟨_, ho.rd (0 + Int.toNat (k : Int) * 1) (r.length - Int.toNat (k : Int)) (by simp; omega), dec (val r), ?_, ?_⟩
      · rw [Nat.zero_add, Nat.mul_one, Int.toNat_natCast, u8s_drop, u8s_take, hf, List.take_of_length_le (by rw [← hf]; simp), bytesOf_u8s]
      (conv => whnf); (refine ⟨_, rfl, ?_⟩)
      exact hk
  · have h1' : k + 1 = r.length := by have := of_decide_eq_false h1; omega
    have hf := fin (.inr h1')
    (conv => whnf)
    refine ⟨by omega, ?_⟩
    refine ⟨fun _ => ⟨.inr ho.tag, ?_⟩, fun hle => absurd hle (by simp; omega)⟩
    (conv => whnf)
    refine ⟨_, ho.rd (0 + Int.toNat (k : Int) * 1) (r.length - Int.toNat (k : Int)) (by simp; omega), dec (val r), ?_, ?_⟩
    · rw [Nat.zero_add, Nat.mul_one, Int.toNat_natCast, u8s_drop, u8s_take, hf, List.take_of_length_le (by rw [← hf]; simp), bytesOf_u8s]
    (conv => whnf); (refine ⟨_, rfl, ?_⟩)
    exact hk

theorem RRoot_ok (T : Tab C) (a : List UInt8) (m : Nat) (ha : right a = true) (hm0 : 0 < m) (hm4 : m ≤ 4096)
    (hk : ∀ h' r, Ext h h' → IsRoot (val a) m r → K (.string (bs (dec r))) h') : acall C base (n + 5) 67 [.string (bs a), .int .i64 (m : Int)] h K := by
  have hlen := right_len600 ha
  have hnat := right_natural ha
  have hpos : 0 < a.length := List.length_pos_iff.2 (natural_ne hnat)
  have hv : val a < 10 ^ a.length := val_lt (right_dig ha)
  refine acall_of T.f67 ?_
  (conv => whnf)
  refine ar_i64e (4 * a.length) (by simp) (by omega) ?_
  (conv => whnf); (refine obool_intro (fun h1 => ?_) (fun h1 => ?_))
  · have h1' : 4 * a.length ≤ m := by have := of_decide_eq_true h1; omega
    (conv => whnf)
    refine obool_intro (fun h2 => ?_) (fun h2 => ?_)
    · have h3 : ((bs a).toList == (bs [48]).toList) = true := h2
      rw [bs_toList, bs_toList] at h3
      have h4 := (val_zero_right ha).2 (eq_of_beq h3)
      (conv => whnf); (refine ⟨_, rfl, ?_⟩)
      have := hk _ 0 (Ext.refl _) ⟨by rw [Nat.zero_pow hm0]; omega, by rw [h4, Nat.zero_add, Nat.one_pow]; decide⟩
      rw [dec_zero] at this; exact this
    · have h3 : ((bs a).toList == (bs [48]).toList) = false := h2
      rw [bs_toList, bs_toList] at h3
      have h4 : val a ≠ 0 := by
        intro e
        rw [(val_zero_right ha).1 e] at h3
        exact absurd h3 (by decide)
      have h5 : val a < 2 ^ m := by
        refine Nat.lt_of_lt_of_le hv (Nat.le_trans (Nat.pow_le_pow_left (show 10 ≤ 2 ^ 4 by decide) a.length) ?_)
        rw [← Nat.pow_mul]
        exact Nat.pow_le_pow_right (by decide) h1'
      (conv => whnf); (refine ⟨_, rfl, ?_⟩)
      have := hk _ 1 (Ext.refl _) ⟨by rw [Nat.one_pow]; omega, h5⟩
      rw [dec_small (by decide)] at this; exact this
  have h1' : m < 4 * a.length := by have := of_decide_eq_false h1; omega
  obtain ⟨sz, hsz⟩ : ∃ sz, sz = (a.length - 1) / m + 1 := ⟨_, rfl⟩
  have hszm : sz * m ≤ a.length - 1 + m := by rw [hsz, Nat.add_mul, Nat.one_mul]; have := Nat.div_mul_le_self (a.length - 1) m; omega
  have hszm2 : a.length ≤ sz * m := by
    have := Nat.lt_mul_div_succ (a.length - 1) hm0
    rw [hsz, Nat.mul_comm]
    generalize m * ((a.length - 1) / m + 1) = P at this ⊢
    omega
  have hsz9 : sz ≤ 600 := by rw [hsz]; have := Nat.div_le_self (a.length - 1) m; omega
  have hsz0 : 0 < sz := by rw [hsz]; exact Nat.succ_pos _
  (conv => whnf)
  refine ar_i64e (a.length - 1) (by simp; omega) (by omega) ?_
  (conv => whnf)
  refine ⟨by omega, ?_⟩
  refine ar_i64e ((a.length - 1) / m) (tdiv_nat _ _) (by have := Nat.div_le_self (a.length - 1) m; omega) ?_
  (conv => whnf)
  refine ar_i64e sz (by omega) (by omega) ?_
  (conv => whnf)
  refine ⟨by omega, ?_⟩
  (conv => whnf)
  have ho0 : Own (h.push (.cells (List.replicate (Int.toNat (sz : Int)) [Value.int .u8 0]).flatten 5 true false)) h.next (u8s (List.replicate 0 48 ++ List.replicate (sz - 0) 0)) 5 false := by
    rw [flat_u8]
    exact Own.push _ _ _
  refine loop_upd (X := Nat) (fun i => [(0, .string (bs a)), (1, .int .i64 (m : Int)), (5, .int .i64 (sz : Int)), (6, .slice (some ⟨h.next, 0, none⟩) sz sz), (7, .int .i64 (i : Int))])
    (fun i h' => Ext h h' ∧ Own h' h.next (u8s (List.replicate i 48 ++ List.replicate (sz - i) 0)) 5 false ∧ i ≤ sz) (fun i => sz - i) ?_ 0 _ _ ⟨rfl, rfl, rfl, rfl, rfl, trivial⟩ ⟨(Ext.refl _).push _, ho0, by simp⟩
  clear ho0
  intro n i f h' ⟨he, ho, hi⟩ ih
  (conv => whnf); (refine obool_intro (fun h2 => ?_) (fun h2 => ?_))
  · have h2' : i < sz := by have := of_decide_eq_true h2; omega
    (conv => whnf)
    refine ⟨by omega, ?_⟩
    (dsimp only [force, steps]); (dsimp only [stepW, AOp.strict]); (dsimp only [sst]); (conv => whnf)
    refine ⟨rfl, ?_⟩
    obtain ⟨h6, hw6, ho6, hext6, hnx6, hg6⟩ := ho.set8 (i : Int) i 48 48 rfl (by simp; omega) rfl
    refine ⟨h6, hw6, ?_⟩
    (conv => whnf); (refine ar_i64 (by omega) ?_); (conv => whnf)
    refine ih (i + 1) _ _ (by omega) ⟨rfl, rfl, rfl, rfl, rfl, trivial⟩ ⟨hext6 _ he (Nat.le_refl _), ?_, h2'⟩
    have e : (List.replicate i (48 : UInt8) ++ List.replicate (sz - i) 0).set i 48 = List.replicate (i + 1) 48 ++ List.replicate (sz - (i + 1)) 0 := by
      rw [List.set_append_right _ _ (by simp), List.length_replicate, Nat.sub_self, show sz - i = (sz - (i + 1)) + 1 from by omega, List.replicate_succ, List.set_cons_zero, List.replicate_succ']
      simp
    rw [← e]; exact ho6
  have h2' : i = sz := by have := of_decide_eq_false h2; omega
  subst h2'
  rw [Nat.sub_self, List.replicate_zero, List.append_nil] at ho
  have hz0 : val (List.replicate i (48 : UInt8)) = 0 := val_zeros fun c hc => List.eq_of_mem_replicate hc
  (conv => whnf)
  refine loop_upd (X := Nat × List UInt8) (fun v => [(0, .string (bs a)), (1, .int .i64 (m : Int)), (5, .int .i64 (i : Int)), (6, .slice (some ⟨h.next, 0, none⟩) i i), (8, .int .i64 (v.1 : Int))])
    (fun v h' => Ext h h' ∧ Own h' h.next (u8s v.2) 5 false ∧ v.2.length = i ∧ v.2.all isDig = true ∧ v.1 ≤ i ∧ val v.2 ^ m ≤ val a ∧ val a < (val v.2 + 10 ^ (i - v.1)) ^ m ∧ ∀ p (hp : p < v.2.length), v.1 ≤ p → v.2[p] = 48) (fun v => i - v.1) ?_ ⟨0, List.replicate i 48⟩ _ _ ⟨rfl, rfl, rfl, rfl, rfl, trivial⟩ ⟨he, ho, by simp, ?_, by simp, ?_, ?_, by simp⟩
  · clear ho
    intro n ⟨t, r⟩ f h' ⟨he, ho, hrl, hrd, ht, hle, hlt, hz⟩ ih
    dsimp only at ih ho hrl hrd ht hle hlt hz ⊢
    (conv => whnf); (refine obool_intro (fun h3 => ?_) (fun h3 => ?_))
    · have h3' : t < i := by have := of_decide_eq_true h3; omega
      obtain ⟨s, hs⟩ : ∃ s, s = 10 ^ (i - 1 - t) := ⟨_, rfl⟩
      have hs10 : 10 ^ (i - t) = 10 * s := by rw [hs, ← Nat.pow_succ']; congr 1; omega
      have hspos : 0 < s := by rw [hs]; exact Nat.pow_pos (by decide)
      have hrt : r[t]'(by omega) = 48 := hz t (by omega) (Nat.le_refl _)
      (conv => whnf)
      refine loop_upd (X := List UInt8) (fun r => [(0, .string (bs a)), (1, .int .i64 (m : Int)), (5, .int .i64 (i : Int)), (6, .slice (some ⟨h.next, 0, none⟩) i i), (8, .int .i64 (t : Int))])
        (fun r h' => Ext h h' ∧ Own h' h.next (u8s r) 5 false ∧ r.length = i ∧ r.all isDig = true ∧ val r ^ m ≤ val a ∧ (∃ ht : t < r.length, val a < (val r + (10 - dv r[t]) * s) ^ m) ∧ ∀ p (hp : p < r.length), t + 1 ≤ p → r[p] = 48) (fun r => 57 - (r[t]?.getD 0).toNat) ?_ r _ _ ⟨rfl, rfl, rfl, rfl, rfl, trivial⟩ ⟨he, ho, hrl, hrd, hle, ⟨by omega, ?_⟩, fun p hp hpt => hz p hp (by omega)⟩
      · clear ho hrl hrd hle hlt hz hrt
        intro n r f h' ⟨he, ho, hrl, hrd, hle, ⟨htl, hlt⟩, hz⟩ ih2
        dsimp only at ih2 ⊢
        have hd := isDig_toNat (all_get hrd htl)
        have hd9 := dv_lt (all_get hrd htl)
        have eg : r[t]?.getD 0 = r[t] := by rw [List.getElem?_eq_getElem htl]; rfl
        have done : ∀ h'', Ext h h'' → Own h'' h.next (u8s r) 5 false → val a < (val r + s) ^ m → ∀ f'', holds f'' [(0, .string (bs a)), (1, .int .i64 (m : Int)), (5, .int .i64 (i : Int)), (6, .slice (some ⟨h.next, 0, none⟩) i i), (8, .int .i64 ((t + 1 : Nat) : Int))] → True := fun _ _ _ _ _ _ => trivial
        (conv => whnf)
        refine ⟨by omega, ?_⟩
        (conv => whnf)
        refine ⟨_, ho.cell8 _ t rfl htl, ?_⟩
        (conv => whnf); (refine obool_intro (fun h4 => ?_) (fun h4 => ?_))
        · have h4' : dv r[t] < 9 := by have := of_decide_eq_true h4; omega
          obtain ⟨r1, hr1⟩ : ∃ r1, r1 = r.set t (dch (dv r[t] + 1)) := ⟨_, rfl⟩
          have hr1l : r1.length = i := by rw [hr1, List.length_set, hrl]
          have hr1d : r1.all isDig = true := by
            rw [List.all_eq_true]
            intro c hc
            rw [hr1] at hc
            rcases List.mem_or_eq_of_mem_set hc with hc | hc
            · exact List.all_eq_true.1 hrd c hc
            · rw [hc]; exact isDig_dch (by omega)
          have hr1v : val r1 = val r + s := by
            have := val_set r t (dch (dv r[t] + 1)) htl
            rw [dv_dch (by omega), Nat.mul_add, Nat.mul_one, hrl, ← hs, ← hr1] at this
            omega
          have hr1t : r1[t]'(by omega) = dch (dv r[t] + 1) := by simp only [hr1]; exact List.getElem_set_self _
          (conv => whnf)
          refine ⟨by omega, ?_⟩
          (conv => whnf)
          refine ⟨_, ho.cell8 _ t rfl htl, ?_⟩
          (conv => whnf)
          refine ar_u8e (dch (dv r[t] + 1)).toNat (by rw [dch_toNat (by omega)]; omega) (by rw [dch_toNat (by omega)]; omega) ?_
          (conv => whnf)
          refine ⟨by omega, ?_⟩
          (dsimp only [force, steps]); (dsimp only [stepW, AOp.strict]); (dsimp only [sst]); (conv => whnf)
          refine ⟨rfl, ?_⟩
          obtain ⟨h6, hw6, ho6, hext6, hnx6, hg6⟩ := ho.set8 (t : Int) t ((dch (dv r[t] + 1)).toNat : Int) (dch (dv r[t] + 1)) rfl htl rfl
          refine ⟨h6, hw6, ?_⟩
          rw [← hr1] at ho6
          have he6 : Ext h h6 := hext6 _ he (Nat.le_refl _)
          (conv => whnf)
          rw [show Value.slice (some ⟨h.next, 0, none⟩) i i = Value.slice (some ⟨h.next, 0, none⟩) r1.length i from by rw [hr1l]]
          refine plain_ok T ho6 (by omega) hr1d (by omega) (by omega) ?_
          rw [hr1v]
          have hvl : val r + s < 10 ^ i := by rw [← hr1v, ← hr1l]; exact val_lt hr1d
          have hpl := pow_lenD (k := m) hvl
          have hsl : (dec (val r + s)).length ≤ i := (dec_len_le (by omega)).2 hvl
          (conv => whnf)
          refine Power_ok T m (by omega) (by omega) (by omega) fun h7 he7 => ?_
          have ho7 := ho6.ext he7
          (conv => whnf)
          refine Compare_ok T (natural_dec _) hnat ?_
          rw [val_dec]
          (conv => whnf); (refine obool_intro (fun h8 => ?_) (fun h8 => ?_))
          · have h8' : val a < (val r + s) ^ m := by
              rcases Nat.lt_or_ge (val a) ((val r + s) ^ m) with g | g
              · exact g
              · have := cmp_le.2 g; have := of_decide_eq_true h8; omega
            rw [hr1l]
            (conv => whnf)
            refine ⟨by omega, ?_⟩
            (conv => whnf)
            refine ⟨_, ho7.cell8 _ t rfl (by omega), ?_⟩
            rw [hr1t]
            (conv => whnf)
            refine ar_u8e (r[t]).toNat (by rw [dch_toNat (by omega)]; omega) (by omega) ?_
            (conv => whnf)
            refine ⟨by omega, ?_⟩
            (dsimp only [force, steps]); (dsimp only [stepW, AOp.strict]); (dsimp only [sst]); (conv => whnf)
            refine ⟨rfl, ?_⟩
            obtain ⟨h9, hw9, ho9, hext9, hnx9, hg9⟩ := ho7.set8 (t : Int) t ((r[t]).toNat : Int) (r[t]) rfl (by omega) rfl
            refine ⟨h9, hw9, ?_⟩
            have e : r1.set t r[t] = r := by rw [hr1, List.set_set, List.set_getElem_self]
            rw [e] at ho9
            (conv => whnf); (refine ar_i64 (by omega) ?_); (conv => whnf)
            refine ih ⟨t + 1, r⟩ _ _ (by dsimp only; omega) ⟨rfl, rfl, rfl, rfl, rfl, trivial⟩ ⟨hext9 _ (he6.trans he7) (Nat.le_refl _), ho9, hrl, hrd, h3', hle, ?_, hz⟩
            dsimp only
            rw [show i - (t + 1) = i - 1 - t from by omega, ← hs]; exact h8'
          · have h8' : (val r + s) ^ m ≤ val a := cmp_le.1 (by have := of_decide_eq_false h8; omega)
            rw [hr1l]
            (conv => whnf)
            refine ih2 r1 _ _ ?_ ⟨rfl, rfl, rfl, rfl, rfl, trivial⟩ ⟨he6.trans he7, ho7, hr1l, hr1d, by rw [hr1v]; exact h8', ⟨by omega, ?_⟩, ?_⟩
            · have eg1 : r1[t]?.getD 0 = r1[t]'(by omega) := by rw [List.getElem?_eq_getElem (by omega)]; rfl
              rw [eg, eg1, hr1t, dch_toNat (by omega)]; omega
            · rw [hr1t, dv_dch (by omega), hr1v]
              rw [show 10 - dv r[t] = (10 - (dv r[t] + 1)) + 1 from by omega, Nat.add_mul, Nat.one_mul] at hlt
              rw [Nat.add_assoc, Nat.add_comm s]; exact hlt
            · intro p hp hpt
              simp only [hr1]
              rw [List.getElem_set_ne (by omega)]
              exact hz p (by omega) hpt
        · have h4' : dv r[t] = 9 := by have := of_decide_eq_false h4; omega
          rw [h4', show 10 - 9 = 1 from rfl, Nat.one_mul] at hlt
          (conv => whnf); (refine ar_i64 (by omega) ?_); (conv => whnf)
          refine ih ⟨t + 1, r⟩ _ _ (by dsimp only; omega) ⟨rfl, rfl, rfl, rfl, rfl, trivial⟩ ⟨he, ho, hrl, hrd, h3', hle, ?_, hz⟩
          dsimp only
          rw [show i - (t + 1) = i - 1 - t from by omega, ← hs]; exact hlt
      · rw [hrt, show dv 48 = 0 from rfl, Nat.sub_zero, ← hs10]; exact hlt
    · have h3' : t = i := by have := of_decide_eq_false h3; omega
      subst h3'
      rw [Nat.sub_self, Nat.pow_zero] at hlt
      (conv => whnf)
      rw [← hrl]
      refine plain_ok T ho (Nat.le_refl _) hrd (by omega) (by omega) ?_
      (conv => whnf); (refine ⟨_, rfl, ?_⟩)
      exact hk _ _ he ⟨hle, hlt⟩
  · rw [List.all_eq_true]
    intro c hc
    rw [List.eq_of_mem_replicate hc]; decide
  · dsimp only
    rw [hz0, Nat.zero_pow hm0]; omega
  · dsimp only
    rw [hz0, Nat.zero_add, Nat.sub_zero, ← Nat.pow_mul]
    exact Nat.lt_of_lt_of_le hv (Nat.pow_le_pow_right (by decide) hszm2)
end Go.Proofs.Ytpilfppdiifbjaa.Am
