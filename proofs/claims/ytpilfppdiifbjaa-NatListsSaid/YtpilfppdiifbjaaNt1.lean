/- What the functions of nat compute: quotients, powers, roots, lists. -/
import Derived.Test.YtpilfppdiifbjaaNt0
set_option linter.unusedVariables false
set_option linter.unusedSimpArgs false
set_option maxRecDepth 100000
namespace Go.Proofs.Ytpilfppdiifbjaa.Am
open Go.Proofs.Ytpilfppdiifbjaa.Nt
variable {C : FuncId → Option AFn} {base : Cl} {n : Nat} {h : H} {K : Value → H → Prop}

theorem isDig_toNat {c : UInt8} (h : isDig c = true) : c.toNat = 48 + dv c := by
  have := isDig_ge h; unfold dv; omega
theorem all_get {l : List UInt8} (ha : l.all isDig = true) {i : Nat} (hi : i < l.length) : isDig l[i] = true := List.all_eq_true.1 ha _ (List.getElem_mem hi)
theorem bs_cut (l : List UInt8) (a b : Nat) (h : b ≤ l.length) : (bs l).extract a b = bs ((l.drop a).take (b - a)) := (bs_extract (bs l) a b h).symm

theorem read_ok (T : Tab C) {l : List UInt8} (ha : l.all isDig = true) (hL : l.length ≤ 1099511627776)
    (hk : ∀ h' b c, Ext h h' → Nm h' b c (val l) → K (nv b c (val l)) h') : acall C base (n + 2) 49 [.string (bs l)] h K := by
  refine acall_of T.f49 ?_
  (conv => whnf)
  refine loop_upd (X := Option Addr × Nat × List Nat) (fun v => [(0, .string (bs l)), (3, .slice v.1 v.2.2.length v.2.1), (4, .int .i64 ((l.length : Int) - 9 * (v.2.2.length : Int)))])
    (fun v h' => Grow 53 h h' v.1 v.2.1 (u32s v.2.2) ∧ (∀ d ∈ v.2.2, d < 1000000000) ∧ 9 * v.2.2.length < l.length + 9 ∧ ofD 1000000000 v.2.2 = val (l.drop (l.length - 9 * v.2.2.length)))
    (fun v => l.length + 9 - 9 * v.2.2.length) ?_ ⟨none, 0, []⟩ _ _ ⟨rfl, rfl, ?_, trivial⟩ ⟨Grow.nil _ (Ext.refl _), by simp, by simp, by simp [ofD, val]⟩
  · intro n ⟨b1, c1, r⟩ f h' ⟨hg, hr, hq, hs⟩ ih
    dsimp only at ih hg hr hq hs ⊢
    (conv => whnf); (refine obool_intro (fun h2 => ?_) (fun h2 => ?_))
    · have h2' : 9 * r.length < l.length := by simp at h2; omega
      obtain ⟨e, he⟩ : ∃ e, e = l.length - 9 * r.length := ⟨_, rfl⟩
      (conv => whnf)
      refine ar_i64 (by omega) ?_
      obtain ⟨ch, hch⟩ : ∃ ch, ch = (l.drop (e - 9)).take (e - (e - 9)) := ⟨_, rfl⟩
      have hcl : ch.length = e - (e - 9) := by rw [hch, List.length_take, List.length_drop]; omega
      have hca : ch.all isDig = true := by rw [hch]; exact all_take (all_drop ha _) _
      have hx : ∀ a b : Int, a.toNat = e - 9 → b.toNat = e → (bs l).extract a.toNat b.toNat = bs ch := by
        intro a b h1 h2
        rw [h1, h2, bs_cut _ _ _ (by omega), hch]
      (conv => whnf)
      refine ⟨by simp; omega, ?_⟩
      (conv => whnf)
      refine ⟨by simp only [if_true]; split <;> omega, ?_⟩
      (conv => whnf)
      refine loop_upd (X := Nat) (fun k => [(0, .string (bs l)), (3, .slice b1 r.length c1), (4, .int .i64 ((l.length : Int) - 9 * (r.length : Int))), (5, .int .u32 (val (ch.take k) : Int)), (20, .slice (some ⟨h'.next, 0, none⟩) ch.length ch.length), (21, .int .i64 (ch.length : Int)), (22, .int .i64 (k : Int))])
        (fun k h'' => Ext h' h'' ∧ Own h'' h'.next (u8s ch) 5 true ∧ k ≤ ch.length) (fun k => ch.length - k) ?_ 0 _ _ ⟨rfl, rfl, rfl, ?_, ?_, ?_, rfl, trivial⟩ ⟨(Ext.refl _).push _, ?_, by simp⟩
      · intro n k f h'' ⟨he2, ho2, hk2⟩ ih2
        have hv := val_take_lt hca k
        (conv => whnf); (refine obool_intro (fun h3 => ?_) (fun h3 => ?_))
        · have h3' : k < ch.length := by simp at h3; omega
          have hv9 : val (ch.take k) < 100000000 := Nat.lt_of_lt_of_le hv (show 10 ^ k ≤ 10 ^ 8 from Nat.pow_le_pow_right (by omega) (by omega))
          have hd := isDig_toNat (all_get hca h3')
          have hd9 := dv_lt (all_get hca h3')
          have hst := val_take_succ ch k h3'
          (conv => whnf)
          refine ⟨by omega, ?_⟩
          (conv => whnf)
          refine ⟨_, ho2.cell8 _ k rfl h3', ?_⟩
          (conv => whnf)
          refine ar_u32e (val (ch.take k) * 10) (by omega) (by omega) ?_
          (conv => whnf)
          refine ar_u8e (dv ch[k]) (by omega) (by omega) ?_
          (conv => whnf)
          refine ar_u32e (dv ch[k]) rfl (by omega) ?_
          (conv => whnf)
          refine ar_u32e (val (ch.take (k + 1))) (by omega) (by omega) ?_
          (conv => whnf)
          refine ar_i64e (k + 1) (by omega) (by omega) ?_
          (conv => whnf)
          exact ih2 (k + 1) _ _ (by omega) ⟨rfl, rfl, rfl, rfl, rfl, rfl, rfl, trivial⟩ ⟨he2, ho2, h3'⟩
        · have h3' : k = ch.length := by simp at h3; omega
          subst h3'
          rw [List.take_length]
          have hv9 : val ch < 1000000000 := Nat.lt_of_lt_of_le (val_lt hca) (show 10 ^ ch.length ≤ 10 ^ 9 from Nat.pow_le_pow_right (by omega) (by omega))
          obtain ⟨p, hp, hp1, hg'⟩ := (hg.ext he2).one (m := r.length) (by simp) (.int .u32 (val ch : Int))
          (conv => whnf)
          refine ⟨_, rfl, ?_⟩
          (conv => whnf)
          refine ⟨1, rfl, _, src_lit _ _ _, fun hle => absurd hle (by have := hg.cap; simp at this; omega), fun _ => ⟨by omega, p, hp, ?_⟩⟩
          (conv => whnf)
          refine ar_i64i ((l.length : Int) - 9 * ((r.length + 1 : Nat) : Int)) (by omega) (by omega) ?_
          (conv => whnf)
          rw [show u32s r ++ [Value.int .u32 (val ch : Int)] = u32s (r ++ [val ch]) from u32s_app r [val ch]] at hg'
          refine ih ⟨some ⟨h''.next + 1, 0, none⟩, r.length + 1, r ++ [val ch]⟩ _ _ ?_ ⟨rfl, ?_, ?_, trivial⟩ ⟨hg', ?_, ?_, ?_⟩
          · simp; omega
          · show Value.slice (some ⟨h''.next + 1, 0, none⟩) (r.length + 1) (r.length + 1) = _
            simp
          · show Value.int _ ((l.length : Int) - 9 * ((r.length + 1 : Nat) : Int)) = _
            simp
          · intro d hd
            rcases List.mem_append.1 hd with hd | hd
            · exact hr d hd
            · rw [List.mem_singleton.1 hd]; exact hv9
          · simp; omega
          · dsimp only
            have e1 := val_cut l (a := e - 9) (e := e) (by omega) (by omega)
            rw [ofD_snoc, hs, ← he, List.length_append, List.length_singleton, show l.length - 9 * (r.length + 1) = e - 9 from by omega, e1, ← hch, show l.length - e = 9 * r.length from by omega, Nat.pow_mul, show (10 : Nat) ^ 9 = 1000000000 from rfl]
            omega
      · show Value.int .u32 0 = _
        simp [val]
      · show Value.slice (some ⟨h'.next, 0, none⟩) ((bs l).extract (Int.toNat _) (Int.toNat _)).size ((bs l).extract (Int.toNat _) (Int.toNat _)).size = _
        rw [hx _ _ (by simp only [if_true]; split <;> omega) (by omega)]
        rfl
      · show Value.int .i64 (((bs l).extract (Int.toNat _) (Int.toNat _)).size : Int) = _
        rw [hx _ _ (by simp only [if_true]; split <;> omega) (by omega)]
        rfl
      · show Own (h'.push (.cells (((bs l).extract (Int.toNat _) (Int.toNat _)).data.toList.map fun b => .int .u8 b.toNat) 5 true true)) _ _ _ _
        rw [hx _ _ (by simp only [if_true]; split <;> omega) (by omega)]
        exact Own.push _ _ _
    · have h2' : l.length ≤ 9 * r.length := by simp at h2; omega
      rw [show l.length - 9 * r.length = 0 from by omega, List.drop_zero] at hs
      (conv => whnf)
      refine trim_ok T.f45 hg.sl hr (by omega) fun hn => ?_
      rw [hs] at hn ⊢
      (conv => whnf); (refine ⟨_, rfl, ?_⟩)
      exact hk _ _ _ hg.e hn
  · show Value.int _ _ = Value.int _ _
    simp
theorem right_len {l : List UInt8} (hr : right l = true) : (digs 1000000000 (val l)).length ≤ 67 := by
  unfold right at hr
  simp only [Bool.and_eq_true, decide_eq_true_eq] at hr
  exact digs_len_le (by decide) 67 _ (Nat.lt_of_lt_of_le (val_lt (natural_all hr.2)) (pow_le_B9 (by omega)))
theorem right_dig {l : List UInt8} (hr : right l = true) : l.all isDig = true := by
  unfold right at hr
  simp only [Bool.and_eq_true] at hr
  exact natural_all hr.2
theorem right_len600 {l : List UInt8} (hr : right l = true) : l.length ≤ 600 := by
  unfold right at hr
  simp only [Bool.and_eq_true, decide_eq_true_eq] at hr
  exact hr.1
theorem dec_right {l : List UInt8} (hr : right l = true) : dec (val l) = l := by
  unfold right at hr
  simp only [Bool.and_eq_true] at hr
  exact dec_val hr.2

theorem two_ok (T : Tab C) (a b : List UInt8) (hk1 : right a = true → right b = true → ∀ h' b1 c1 b2 c2, Ext h h' → Nm h' b1 c1 (val a) → Nm h' b2 c2 (val b) → K (.tuple #[nv b1 c1 (val a), nv b2 c2 (val b), .int .i64 0]) h')
    (hk2 : (right a && right b) = false → K (.tuple #[.slice none 0 0, .slice none 0 0, .int .i64 3]) h) : acall C base (n + 3) 56 [.string (bs a), .string (bs b)] h K := by
  refine acall_of T.f56 ?_
  (conv => whnf)
  refine right_ok T.f18 a ?_
  cases ha : right a with
  | false =>
    (conv => whnf); (refine ⟨_, rfl, ?_⟩)
    exact hk2 (by rw [ha]; rfl)
  | true =>
    (conv => whnf)
    refine right_ok T.f18 b ?_
    cases hb : right b with
    | false =>
      (conv => whnf); (refine ⟨_, rfl, ?_⟩)
      exact hk2 (by rw [ha, hb]; rfl)
    | true =>
      (conv => whnf)
      refine read_ok T (right_dig ha) (by have := right_len600 ha; omega) fun h1 b1 c1 he1 hn1 => ?_
      (conv => whnf)
      refine read_ok T (right_dig hb) (by have := right_len600 hb; omega) fun h2 b2 c2 he2 hn2 => ?_
      (conv => whnf); (refine ⟨_, rfl, ?_⟩)
      exact hk1 ha hb _ _ _ _ _ (he1.trans he2) (hn1.ext he2) hn2

theorem le_of_cmp {x y : Nat} (h : cmpN x y < 0) : x < y := by
  unfold cmpN at h
  split at h
  · assumption
  · split at h <;> omega
theorem cmp_neg {x y : Nat} : cmpN x y < 0 ↔ x < y := by
  unfold cmpN
  split
  · simp; omega
  · split <;> simp <;> omega
theorem cmp_le {x y : Nat} : cmpN x y ≤ 0 ↔ x ≤ y := by
  unfold cmpN
  split
  · simp; omega
  · split <;> simp <;> omega
theorem cmp_zero {x y : Nat} : cmpN x y = 0 ↔ x = y := by
  unfold cmpN
  split
  · simp; omega
  · split <;> simp <;> omega

/-- Digits of d and then those of x. -/
theorem ofD_digs_cons (d x : Nat) : ofD 1000000000 (d :: digs 1000000000 x) = d + 1000000000 * x := by rw [ofD, ofD_digs (by decide)]

theorem div_ok (T : Tab C) {b b' : Option Addr} {c c' x y : Nat} (hx : Nm h b c x) (hy : Nm h b' c' y) (hX : (digs 1000000000 x).length ≤ 8589934592) (hY : (digs 1000000000 y).length ≤ 8589934592) (hy0 : 0 < y)
    (hk : ∀ h' b1 c1 b2 c2, Ext h h' → Nm h' b1 c1 (x / y) → Nm h' b2 c2 (x % y) → K (.tuple #[nv b1 c1 (x / y), nv b2 c2 (x % y)]) h') : acall C base (n + 4) 61 [nv b c x, nv b' c' y] h K := by
  obtain ⟨la, hla⟩ : ∃ L, L = (digs 1000000000 x).length := ⟨_, rfl⟩
  have dx := digs_lt (B := 1000000000) (by decide) x
  have ex := ofD_digs (B := 1000000000) (by decide) x
  refine acall_of T.f61 ?_
  (conv => whnf)
  refine ⟨by omega, ?_⟩
  (conv => whnf)
  have ho0 : Own (h.push (.cells (List.replicate (Int.toNat (((digs 1000000000 x).length : Nat) : Int)) [Value.int .u32 0]).flatten 53 true false)) h.next (u32s (List.replicate la 0)) 53 false := by
    rw [flat_u32, show Int.toNat (((digs 1000000000 x).length : Nat) : Int) = la from by omega]
    exact Own.push _ _ _
  refine ar_i64 (by omega) ?_
  (conv => whnf)
  refine loop_upd (X := Nat × List Nat × Option Addr × Nat × Nat) (fun v => [(0, nv b c x), (1, nv b' c' y), (6, .slice (some ⟨h.next, 0, none⟩) la la), (7, nv v.2.2.1 v.2.2.2.1 v.2.2.2.2), (8, .int .i64 ((v.1 : Int) - 1))])
    (fun v h' => Ext h h' ∧ Own h' h.next (u32s v.2.1) 53 false ∧ v.2.1.length = la ∧ (∀ d ∈ v.2.1, d < 1000000000) ∧ v.1 ≤ la ∧ Nm h' v.2.2.1 v.2.2.2.1 v.2.2.2.2 ∧ v.2.2.2.2 < y ∧ ofD 1000000000 ((digs 1000000000 x).drop v.1) = ofD 1000000000 (v.2.1.drop v.1) * y + v.2.2.2.2 ∧ ∀ p (hp : p < v.2.1.length), p < v.1 → v.2.1[p] = 0)
    (fun v => v.1) ?_ ⟨la, List.replicate la 0, none, 0, 0⟩ _ _ ⟨rfl, rfl, ?_, ?_, ?_, trivial⟩ ⟨(Ext.refl _).push _, ho0, by simp, ?_, by simp, ?_, hy0, ?_, ?_⟩
  · intro n ⟨k, q, rb, rc, r⟩ f h' ⟨he, ho, hlen, hlt, hkl, hr, hry, hs, hz⟩ ih
    dsimp only at ih ho hlen hlt hkl hr hry hs hz ⊢
    (conv => whnf); (refine obool_intro (fun h2 => ?_) (fun h2 => ?_))
    · have h2' : 0 < k := by simp at h2; omega
      obtain ⟨i, hi⟩ : ∃ i, k = i + 1 := ⟨k - 1, by omega⟩
      subst hi
      obtain ⟨bi, bo, rfl, hi', hat⟩ := Sl.all32 hx (by omega)
      obtain ⟨xi, hxi⟩ : ∃ xi, xi = (digs 1000000000 x)[i]'(by omega) := ⟨_, rfl⟩
      have xilt : xi < 1000000000 := by rw [hxi]; exact dx _ (List.getElem_mem _)
      have ei : (digs 1000000000 x)[i]?.getD 0 = xi := by rw [List.getElem?_eq_getElem (by omega), hxi]; rfl
      have hrY : (digs 1000000000 r).length ≤ 8589934592 := Nat.le_trans (digs_len_mono (by decide) (by omega : r ≤ y)) hY
      obtain ⟨r2, hr2⟩ : ∃ r2, r2 = xi + 1000000000 * r := ⟨_, rfl⟩
      have hr2B : r2 < y * 1000000000 := by have := Nat.mul_le_mul_left 1000000000 (show r + 1 ≤ y from hry); omega
      have hxdrop : ofD 1000000000 ((digs 1000000000 x).drop i) = ofD 1000000000 (q.drop (i + 1)) * (y * 1000000000) + r2 := by
        rw [ofD_drop, ei, hs, hr2, Nat.mul_add, Nat.mul_comm 1000000000 (ofD 1000000000 (q.drop (i + 1)) * y), Nat.mul_assoc]; omega
      (conv => whnf)
      refine ⟨by omega, ?_⟩
      (conv => whnf)
      refine ⟨_, hat _ he _ i (by omega) (by omega), ?_⟩
      rw [← hxi]
      (conv => whnf)
      refine ⟨_, rfl, ?_⟩
      have hlit : Own (h'.push (.cells [Value.int .u32 (xi : Int)] 53 true false)) h'.next (u32s [xi]) 53 false := Own.push _ _ _
      have hxl : ∀ d ∈ xi :: digs 1000000000 r, d < 1000000000 := by
        intro d hd
        rcases List.mem_cons.1 hd with rfl | hd
        · exact xilt
        · exact digs_lt (by decide) r d hd
      by_cases hr0 : (digs 1000000000 r).length = 0
      · obtain ⟨h2, hw2, hlit2, hext2, hnx2, hg2⟩ := hlit.wr_nil 1 (by simp)
        have he2 : Ext h h2 := hext2 _ (he.push _) he.1
        have ho2 : Own h2 h.next (u32s q) 53 false := (ho.ext ((Ext.refl _).push _)).other hnx2 hg2 (by have := ho.lt; omega)
        have hrn : digs 1000000000 r = [] := List.length_eq_zero_iff.1 hr0
        have hsl : Sl h2 (some ⟨h'.next, 0, none⟩) 1 (u32s (xi :: digs 1000000000 r)) := by rw [hrn]; exact hlit2.sl (by simp)
        (conv => whnf)
        refine ⟨_, rfl, [], ?_, fun hle => ⟨h2, ?_, ?_⟩, fun hlt => absurd hlt (by simp [hr0])⟩
        · refine (Sl.src (hr.ext ((Ext.refl _).push _)) (Ext.refl _) (m := (digs 1000000000 r).length) (n := (digs 1000000000 r).length) (by simp)).trans ?_
          rw [hrn]; rfl
        · exact hw2
        rw [show 1 + (digs 1000000000 r).length = (xi :: digs 1000000000 r).length from by simp; omega]
        have hne : ∀ a o, (some (⟨h'.next, 0, none⟩ : Addr)) = some ⟨a, o, none⟩ → a ≠ h.next := by
          intro a o e
          have : h'.next = a := by injection e with e; injection e
          have := ho.lt; omega
        (conv => whnf)
        refine trim_ok (l := xi :: digs 1000000000 r) T.f45 hsl hxl (by simp; omega) fun hn => ?_
        rw [ofD_digs_cons, ← hr2] at hn ⊢
        have hr2l : (digs 1000000000 r2).length ≤ 8589934593 := by
          have := cons_len (x := r) xilt
          rw [← hr2] at this
          omega
        (conv => whnf)
        refine cmp_ok T.f58 hn (hy.ext he2) (by omega) (by omega) ?_
        (conv => whnf); (refine obool_intro (fun h3 => ?_) (fun h3 => ?_))
        · have h3' : r2 < y := cmp_neg.1 (by simpa using h3)
          (conv => whnf)
          refine ar_i64i ((i : Int) - 1) (by omega) (by omega) ?_
          (conv => whnf)
          refine ih ⟨i, q, some ⟨h'.next, 0, none⟩, 1, r2⟩ _ _ (by dsimp only; omega) ⟨rfl, rfl, rfl, rfl, rfl, trivial⟩ ⟨he2, ho2, hlen, hlt, by dsimp only; omega, hn, h3', ?_, fun p hp hpi => hz p hp (by dsimp only at hpi; omega)⟩
          dsimp only
          rw [hxdrop, ofD_drop _ q i, List.getElem?_eq_getElem (by omega), Option.getD_some, hz i (by omega) (by omega), Nat.zero_add, Nat.mul_comm 1000000000, Nat.mul_assoc, Nat.mul_comm 1000000000 y]
        · have h3' : y ≤ r2 := by
            rcases Nat.lt_or_ge r2 y with h | h
            · have := cmp_neg.2 h; simp at h3; omega
            · exact h
          (conv => whnf)
          refine loop_upd (X := Nat × Nat) (fun v => [(0, nv (some ⟨bi, bo, none⟩) c x), (1, nv b' c' y), (6, .slice (some ⟨h.next, 0, none⟩) la la), (7, nv (some ⟨h'.next, 0, none⟩) (1) r2), (8, .int .i64 (((i + 1 : Nat) : Int) - 1)), (9, .int .u32 (v.1 : Int)), (10, .int .u32 (v.2 : Int))])
            (fun v h'' => Ext h2 h'' ∧ v.1 < v.2 ∧ v.2 ≤ 1000000000 ∧ y * v.1 ≤ r2 ∧ r2 < y * v.2) (fun v => v.2 - v.1) ?_ ⟨0, 1000000000⟩ _ _ ⟨rfl, rfl, rfl, rfl, rfl, rfl, rfl, trivial⟩ ⟨Ext.refl _, by decide, by simp, by simp, hr2B⟩
          intro n ⟨low, high⟩ f h3 ⟨he3, hlh, hhB, hlow, hhigh⟩ ih2
          dsimp only at ih2 hlh hhB hlow hhigh ⊢
          (conv => whnf)
          refine ar_u32e (high - low) (by omega) (by omega) ?_
          (conv => whnf); (refine obool_intro (fun h4 => ?_) (fun h4 => ?_))
          · have h4' : 1 < high - low := by simp at h4; omega
            obtain ⟨mid, hmid⟩ : ∃ mid, mid = low + (high - low) / 2 := ⟨_, rfl⟩
            have hm1 : low < mid := by omega
            have hm2 : mid < high := by omega
            (conv => whnf)
            refine ar_u32e (high - low) (by omega) (by omega) ?_
            (conv => whnf)
            refine ⟨by decide, ?_⟩
            refine ar_u32e ((high - low) / 2) rfl (by omega) ?_
            (conv => whnf)
            refine ar_u32e mid (by omega) (by omega) ?_
            (conv => whnf)
            refine times_ok T.f66 T.f53 T.f45 (hy.ext (he2.trans he3)) (by omega) (by omega) fun h5 b5 c5 he5 hn5 => ?_
            have hml : (digs 1000000000 (y * mid)).length ≤ 8589934593 := by
              have := small_len (B := 1000000000) (x := y) (m := mid) (by decide) (by omega)
              omega
            (conv => whnf)
            refine cmp_ok T.f58 hn5 (hn.ext (he3.trans he5)) (by omega) (by omega) ?_
            (conv => whnf); (refine obool_intro (fun h6 => ?_) (fun h6 => ?_))
            · have h6' : y * mid ≤ r2 := cmp_le.1 (by simpa using h6)
              (conv => whnf)
              exact ih2 ⟨mid, high⟩ _ _ (by dsimp only; omega) ⟨rfl, rfl, rfl, rfl, rfl, rfl, rfl, trivial⟩ ⟨he3.trans he5, hm2, hhB, h6', hhigh⟩
            · have h6' : r2 < y * mid := by
                rcases Nat.lt_or_ge r2 (y * mid) with h | h
                · exact h
                · have := cmp_le.2 h; simp at h6; omega
              (conv => whnf)
              exact ih2 ⟨low, mid⟩ _ _ (by dsimp only; omega) ⟨rfl, rfl, rfl, rfl, rfl, rfl, rfl, trivial⟩ ⟨he3.trans he5, hm1, by dsimp only; omega, hlow, h6'⟩
          · have h4' : high = low + 1 := by simp at h4; omega
            subst h4'
            have ho3 := ho2.ext he3
            (conv => whnf)
            refine ⟨by omega, ?_⟩
            (dsimp only [force, steps]); (dsimp only [stepW, AOp.strict]); (dsimp only [sst]); (conv => whnf)
            refine ⟨rfl, ?_⟩
            obtain ⟨h6, hw6, ho6, hext6, hnx6, hg6⟩ := ho3.set32 (((i + 1 : Nat) : Int) - 1) i (low : Int) low (by omega) (by omega) rfl
            refine ⟨h6, hw6, ?_⟩
            have he6 : Ext h h6 := hext6 _ (he2.trans he3) (Nat.le_refl _)
            have hn6 : Nm h6 (some ⟨h'.next, 0, none⟩) (1) r2 := Sl.upd (hn.ext he3) hnx6 hg6 hne
            (conv => whnf)
            refine times_ok T.f66 T.f53 T.f45 (hy.ext he6) (by omega) (by omega) fun h7 b7 c7 he7 hn7 => ?_
            have hml : (digs 1000000000 (y * low)).length ≤ 8589934593 := Nat.le_trans (digs_len_mono (by decide) hlow) hr2l
            (conv => whnf)
            refine sub_ok T.f59 T.f45 (hn6.ext he7) hn7 (by omega) (by omega) hlow fun h8 b8 c8 he8 hn8 => ?_
            have he68 := he7.trans he8
            (conv => whnf)
            refine ar_i64i ((i : Int) - 1) (by omega) (by omega) ?_
            (conv => whnf)
            rw [Nat.mul_add, Nat.mul_one] at hhigh
            refine ih ⟨i, q.set i low, b8, c8, r2 - y * low⟩ _ _ (by dsimp only; omega) ⟨rfl, rfl, rfl, rfl, rfl, trivial⟩ ⟨he6.trans he68, ho6.ext he68, by simpa using hlen, ?_, by dsimp only; omega, hn8, by dsimp only; omega, ?_, ?_⟩
            · intro d hd
              rcases List.mem_or_eq_of_mem_set hd with hd | hd
              · exact hlt d hd
              · rw [hd]; omega
            · dsimp only
              rw [hxdrop, ofD_drop _ (q.set i low) i, List.getElem?_set_self (by omega), Option.getD_some, List.drop_set_of_lt (by omega), Nat.add_mul, Nat.mul_comm low y, Nat.mul_comm 1000000000, Nat.mul_assoc, Nat.mul_comm 1000000000 y]
              omega
            · intro p hp hpi
              dsimp only at hp hpi ⊢
              rw [List.getElem_set_ne (by omega)]
              exact hz p (by simpa using hp) (by omega)
      · obtain ⟨h2, hh2⟩ : ∃ h2, h2 = (h'.push (.cells [Value.int .u32 (xi : Int)] 53 true false)).push (.cells (u32s [xi] ++ u32s (digs 1000000000 r)) 53 true true) := ⟨_, rfl⟩
        have he2 : Ext h h2 := by rw [hh2]; exact (he.push _).push _
        have ho2 : Own h2 h.next (u32s q) 53 false := by rw [hh2]; exact ho.ext (((Ext.refl _).push _).push _)
        have hsl : Sl h2 (some ⟨h'.next + 1, 0, none⟩) (1 + (digs 1000000000 r).length) (u32s (xi :: digs 1000000000 r)) := by
          rw [hh2]
          exact (Own.push (u32s ([xi] ++ digs 1000000000 r)) 53 true).sl (by simp; omega)
        have hne : ∀ a o, (some (⟨h'.next + 1, 0, none⟩ : Addr)) = some ⟨a, o, none⟩ → a ≠ h.next := by
          intro a o e
          have : h'.next + 1 = a := by injection e with e; injection e
          have := ho.lt; omega
        (conv => whnf)
        refine ⟨_, rfl, u32s (digs 1000000000 r), ?_, fun hle => absurd hle (by omega), fun hlt2 => ⟨by omega, _, hlit.take_closed 1 1 (by simp), ?_⟩⟩
        · refine (Sl.src (hr.ext ((Ext.refl _).push _)) (Ext.refl _) (m := (digs 1000000000 r).length) (n := (digs 1000000000 r).length) (by simp)).trans ?_
          rw [List.take_of_length_le (by simp)]
        dsimp only
        rw [← hh2]
        rw [show 1 + (digs 1000000000 r).length = (xi :: digs 1000000000 r).length from by simp; omega]
        rw [show 1 + (digs 1000000000 r).length = (xi :: digs 1000000000 r).length from by simp; omega] at hsl
        (conv => whnf)
        refine trim_ok (l := xi :: digs 1000000000 r) T.f45 hsl hxl (by simp; omega) fun hn => ?_
        rw [ofD_digs_cons, ← hr2] at hn ⊢
        have hr2l : (digs 1000000000 r2).length ≤ 8589934593 := by
          have := cons_len (x := r) xilt
          rw [← hr2] at this
          omega
        (conv => whnf)
        refine cmp_ok T.f58 hn (hy.ext he2) (by omega) (by omega) ?_
        (conv => whnf); (refine obool_intro (fun h3 => ?_) (fun h3 => ?_))
        · have h3' : r2 < y := cmp_neg.1 (by simpa using h3)
          (conv => whnf)
          refine ar_i64i ((i : Int) - 1) (by omega) (by omega) ?_
          (conv => whnf)
          refine ih ⟨i, q, some ⟨h'.next + 1, 0, none⟩, (xi :: digs 1000000000 r).length, r2⟩ _ _ (by dsimp only; omega) ⟨rfl, rfl, rfl, rfl, rfl, trivial⟩ ⟨he2, ho2, hlen, hlt, by dsimp only; omega, hn, h3', ?_, fun p hp hpi => hz p hp (by dsimp only at hpi; omega)⟩
          dsimp only
          rw [hxdrop, ofD_drop _ q i, List.getElem?_eq_getElem (by omega), Option.getD_some, hz i (by omega) (by omega), Nat.zero_add, Nat.mul_comm 1000000000, Nat.mul_assoc, Nat.mul_comm 1000000000 y]
        · have h3' : y ≤ r2 := by
            rcases Nat.lt_or_ge r2 y with h | h
            · have := cmp_neg.2 h; simp at h3; omega
            · exact h
          (conv => whnf)
          refine loop_upd (X := Nat × Nat) (fun v => [(0, nv (some ⟨bi, bo, none⟩) c x), (1, nv b' c' y), (6, .slice (some ⟨h.next, 0, none⟩) la la), (7, nv (some ⟨h'.next + 1, 0, none⟩) ((xi :: digs 1000000000 r).length) r2), (8, .int .i64 (((i + 1 : Nat) : Int) - 1)), (9, .int .u32 (v.1 : Int)), (10, .int .u32 (v.2 : Int))])
            (fun v h'' => Ext h2 h'' ∧ v.1 < v.2 ∧ v.2 ≤ 1000000000 ∧ y * v.1 ≤ r2 ∧ r2 < y * v.2) (fun v => v.2 - v.1) ?_ ⟨0, 1000000000⟩ _ _ ⟨rfl, rfl, rfl, rfl, rfl, rfl, rfl, trivial⟩ ⟨Ext.refl _, by decide, by simp, by simp, hr2B⟩
          intro n ⟨low, high⟩ f h3 ⟨he3, hlh, hhB, hlow, hhigh⟩ ih2
          dsimp only at ih2 hlh hhB hlow hhigh ⊢
          (conv => whnf)
          refine ar_u32e (high - low) (by omega) (by omega) ?_
          (conv => whnf); (refine obool_intro (fun h4 => ?_) (fun h4 => ?_))
          · have h4' : 1 < high - low := by simp at h4; omega
            obtain ⟨mid, hmid⟩ : ∃ mid, mid = low + (high - low) / 2 := ⟨_, rfl⟩
            have hm1 : low < mid := by omega
            have hm2 : mid < high := by omega
            (conv => whnf)
            refine ar_u32e (high - low) (by omega) (by omega) ?_
            (conv => whnf)
            refine ⟨by decide, ?_⟩
            refine ar_u32e ((high - low) / 2) rfl (by omega) ?_
            (conv => whnf)
            refine ar_u32e mid (by omega) (by omega) ?_
            (conv => whnf)
            refine times_ok T.f66 T.f53 T.f45 (hy.ext (he2.trans he3)) (by omega) (by omega) fun h5 b5 c5 he5 hn5 => ?_
            have hml : (digs 1000000000 (y * mid)).length ≤ 8589934593 := by
              have := small_len (B := 1000000000) (x := y) (m := mid) (by decide) (by omega)
              omega
            (conv => whnf)
            refine cmp_ok T.f58 hn5 (hn.ext (he3.trans he5)) (by omega) (by omega) ?_
            (conv => whnf); (refine obool_intro (fun h6 => ?_) (fun h6 => ?_))
            · have h6' : y * mid ≤ r2 := cmp_le.1 (by simpa using h6)
              (conv => whnf)
              exact ih2 ⟨mid, high⟩ _ _ (by dsimp only; omega) ⟨rfl, rfl, rfl, rfl, rfl, rfl, rfl, trivial⟩ ⟨he3.trans he5, hm2, hhB, h6', hhigh⟩
            · have h6' : r2 < y * mid := by
                rcases Nat.lt_or_ge r2 (y * mid) with h | h
                · exact h
                · have := cmp_le.2 h; simp at h6; omega
              (conv => whnf)
              exact ih2 ⟨low, mid⟩ _ _ (by dsimp only; omega) ⟨rfl, rfl, rfl, rfl, rfl, rfl, rfl, trivial⟩ ⟨he3.trans he5, hm1, by dsimp only; omega, hlow, h6'⟩
          · have h4' : high = low + 1 := by simp at h4; omega
            subst h4'
            have ho3 := ho2.ext he3
            (conv => whnf)
            refine ⟨by omega, ?_⟩
            (dsimp only [force, steps]); (dsimp only [stepW, AOp.strict]); (dsimp only [sst]); (conv => whnf)
            refine ⟨rfl, ?_⟩
            obtain ⟨h6, hw6, ho6, hext6, hnx6, hg6⟩ := ho3.set32 (((i + 1 : Nat) : Int) - 1) i (low : Int) low (by omega) (by omega) rfl
            refine ⟨h6, hw6, ?_⟩
            have he6 : Ext h h6 := hext6 _ (he2.trans he3) (Nat.le_refl _)
            have hn6 : Nm h6 (some ⟨h'.next + 1, 0, none⟩) ((xi :: digs 1000000000 r).length) r2 := Sl.upd (hn.ext he3) hnx6 hg6 hne
            (conv => whnf)
            refine times_ok T.f66 T.f53 T.f45 (hy.ext he6) (by omega) (by omega) fun h7 b7 c7 he7 hn7 => ?_
            have hml : (digs 1000000000 (y * low)).length ≤ 8589934593 := Nat.le_trans (digs_len_mono (by decide) hlow) hr2l
            (conv => whnf)
            refine sub_ok T.f59 T.f45 (hn6.ext he7) hn7 (by omega) (by omega) hlow fun h8 b8 c8 he8 hn8 => ?_
            have he68 := he7.trans he8
            (conv => whnf)
            refine ar_i64i ((i : Int) - 1) (by omega) (by omega) ?_
            (conv => whnf)
            rw [Nat.mul_add, Nat.mul_one] at hhigh
            refine ih ⟨i, q.set i low, b8, c8, r2 - y * low⟩ _ _ (by dsimp only; omega) ⟨rfl, rfl, rfl, rfl, rfl, trivial⟩ ⟨he6.trans he68, ho6.ext he68, by simpa using hlen, ?_, by dsimp only; omega, hn8, by dsimp only; omega, ?_, ?_⟩
            · intro d hd
              rcases List.mem_or_eq_of_mem_set hd with hd | hd
              · exact hlt d hd
              · rw [hd]; omega
            · dsimp only
              rw [hxdrop, ofD_drop _ (q.set i low) i, List.getElem?_set_self (by omega), Option.getD_some, List.drop_set_of_lt (by omega), Nat.add_mul, Nat.mul_comm low y, Nat.mul_comm 1000000000, Nat.mul_assoc, Nat.mul_comm 1000000000 y]
              omega
            · intro p hp hpi
              dsimp only at hp hpi ⊢
              rw [List.getElem_set_ne (by omega)]
              exact hz p (by simpa using hp) (by omega)
    · have h2' : k = 0 := by simp at h2; omega
      subst h2'
      rw [List.drop_zero, List.drop_zero, ex] at hs
      have hq : ofD 1000000000 q = x / y := by
        rw [hs, Nat.mul_comm, Nat.mul_add_div hy0, Nat.div_eq_of_lt hry, Nat.add_zero]
      have hrr : r = x % y := by
        rw [hs, Nat.mul_comm, Nat.mul_add_mod, Nat.mod_eq_of_lt hry]
      (conv => whnf)
      rw [← hlen]
      refine trim_ok T.f45 (ho.sl (by simp)) hlt (by omega) fun hn => ?_
      rw [hq] at hn ⊢
      (conv => whnf); (refine ⟨_, rfl, ?_⟩)
      subst hrr
      exact hk _ _ _ _ _ he hn hr
  · show Value.slice _ _ _ = Value.slice _ _ _
    congr 1 <;> omega
  · show Value.slice none 0 0 = _
    rw [nv, digs_zero]; rfl
  · show Value.int _ _ = Value.int _ _
    congr 1; omega
  · intro d hd
    rw [List.eq_of_mem_replicate hd]; decide
  · show Sl _ _ _ _
    rw [digs_zero]; exact Sl.nil _
  · dsimp only
    rw [List.drop_eq_nil_of_le (by omega), List.drop_eq_nil_of_le (by simp)]
    simp [ofD]
  · intro p hp _
    simp
end Go.Proofs.Ytpilfppdiifbjaa.Am

namespace Go.Proofs.Ytpilfppdiifbjaa.Am
open Go.Proofs.Ytpilfppdiifbjaa.Nt
variable {C : FuncId → Option AFn} {base : Cl} {n : Nat} {h : H} {K : Value → H → Prop}

def told (x : Nat) : List UInt8 × Int := if (dec x).length ≤ 600 then (dec x, 0) else ([], 7)
def sv (p : List UInt8 × Int) : Value := .tuple #[.string (bs p.1), .int .i64 p.2]
theorem told_sv (x : Nat) : sv (told x) = .tuple (if (dec x).length ≤ 600 then #[.string (bs (dec x)), .int .i64 0] else #[.string (bs []), .int .i64 7]) := by
  unfold sv told
  split <;> rfl
theorem told_ok' (T : Tab C) {b : Option Addr} {c x : Nat} (hx : Nm h b c x) (hX : (digs 1000000000 x).length ≤ 1099511627776)
    (hk : ∀ h', Ext h h' → K (sv (told x)) h') : acall C base (n + 2) 57 [nv b c x] h K :=
  told_ok T.f57 T.f46 hx hX fun h' he => by rw [← told_sv]; exact hk h' he

theorem right_lt {l : List UInt8} (hr : right l = true) : val l < 1000000000 ^ 67 := by
  unfold right at hr
  simp only [Bool.and_eq_true, decide_eq_true_eq] at hr
  exact Nat.lt_of_lt_of_le (val_lt (natural_all hr.2)) (pow_le_B9 (by omega))
theorem add_len {x y k : Nat} (hx : x < 1000000000 ^ k) (hy : y < 1000000000 ^ k) : (digs 1000000000 (x + y)).length ≤ k + 1 := by
  refine digs_len_le (by decide) _ _ ?_
  rw [Nat.pow_succ]; omega
theorem mul_len {x y k m : Nat} (hx : x < 1000000000 ^ k) (hy : y < 1000000000 ^ m) : (digs 1000000000 (x * y)).length ≤ k + m := by
  refine digs_len_le (by decide) _ _ ?_
  rw [Nat.pow_add]
  exact Nat.mul_lt_mul_of_lt_of_le hx (Nat.le_of_lt hy) (Nat.pow_pos (by decide))
theorem len_of_lt {x k : Nat} (hx : x < 1000000000 ^ k) : (digs 1000000000 x).length ≤ k := digs_len_le (by decide) _ _ hx

def addR (a b : List UInt8) : List UInt8 × Int := if (right a && right b) = true then told (val a + val b) else ([], 3)
def subR (a b : List UInt8) : List UInt8 × Int := if (right a && right b) = true then (if val a < val b then ([], 9) else told (val a - val b)) else ([], 3)
def mulR (a b : List UInt8) : List UInt8 × Int := if (right a && right b) = true then told (val a * val b) else ([], 3)
def gcdR (a b : List UInt8) : List UInt8 × Int := if (right a && right b) = true then (dec (Nat.gcd (val a) (val b)), 0) else ([], 3)
def cmpR (a b : List UInt8) : Int × Int := if (right a && right b) = true then (cmpN (val a) (val b), 0) else (0, 3)
def divR (a b : List UInt8) : List UInt8 × List UInt8 × Int :=
  if (right a && right b) = true then (if val b = 0 then ([], [], 8) else (dec (val a / val b), dec (val a % val b), 0)) else ([], [], 3)
def sv3 (p : List UInt8 × List UInt8 × Int) : Value := .tuple #[.string (bs p.1), .string (bs p.2.1), .int .i64 p.2.2]
def iv (p : Int × Int) : Value := .tuple #[.int .i64 p.1, .int .i64 p.2]


theorem Add_ok (T : Tab C) (a b : List UInt8) (hk : ∀ h', Ext h h' → K (sv (addR a b)) h') : acall C base (n + 4) 26 [.string (bs a), .string (bs b)] h K := by
  refine acall_of T.f26 ?_
  (conv => whnf)
  refine two_ok T a b (fun ha hb h1 b1 c1 b2 c2 he hn1 hn2 => ?_) (fun hf => ?_)
  · have la := right_lt ha
    have lb := right_lt hb
    rw [addR, ha, hb, if_pos (by rfl)] at hk
    (conv => whnf); refine ⟨_, rfl, ?_⟩
    (conv => whnf); refine ⟨_, rfl, ?_⟩
    (conv => whnf); refine ⟨_, rfl, ?_⟩
    (conv => whnf)
    refine add_ok T.f48 T.f45 hn1 hn2 (by have := len_of_lt la; omega) (by have := len_of_lt lb; omega) fun h2 b3 c3 he2 hn3 => ?_
    (conv => whnf)
    refine told_ok' T hn3 (by have := add_len la lb; omega) fun h3 he3 => ?_
    (conv => whnf); refine ⟨_, rfl, ?_⟩
    (conv => whnf); refine ⟨_, rfl, ?_⟩
    (conv => whnf); (refine ⟨_, rfl, ?_⟩)
    exact hk _ ((he.trans he2).trans he3)
  · rw [addR, hf, if_neg (by decide)] at hk
    (conv => whnf); refine ⟨_, rfl, ?_⟩
    (conv => whnf); refine ⟨_, rfl, ?_⟩
    (conv => whnf); refine ⟨_, rfl, ?_⟩
    (conv => whnf); (refine ⟨_, rfl, ?_⟩)
    exact hk _ (Ext.refl _)

theorem Sub_ok (T : Tab C) (a b : List UInt8) (hk : ∀ h', Ext h h' → K (sv (subR a b)) h') : acall C base (n + 4) 28 [.string (bs a), .string (bs b)] h K := by
  refine acall_of T.f28 ?_
  (conv => whnf)
  refine two_ok T a b (fun ha hb h1 b1 c1 b2 c2 he hn1 hn2 => ?_) (fun hf => ?_)
  · have la := right_lt ha
    have lb := right_lt hb
    rw [subR, ha, hb, if_pos (by rfl)] at hk
    (conv => whnf); refine ⟨_, rfl, ?_⟩
    (conv => whnf); refine ⟨_, rfl, ?_⟩
    (conv => whnf); refine ⟨_, rfl, ?_⟩
    (conv => whnf)
    refine cmp_ok T.f58 hn1 hn2 (by have := len_of_lt la; omega) (by have := len_of_lt lb; omega) ?_
    (conv => whnf); (refine obool_intro (fun h1 => ?_) (fun h1 => ?_))
    · rw [if_pos (cmp_neg.1 (by simpa using h1))] at hk
      (conv => whnf); (refine ⟨_, rfl, ?_⟩)
      exact hk _ he
    · have h1' : ¬ val a < val b := fun h => by have := cmp_neg.2 h; simp at h1; omega
      rw [if_neg h1'] at hk
      (conv => whnf)
      refine sub_ok T.f59 T.f45 hn1 hn2 (by have := len_of_lt la; omega) (by have := len_of_lt lb; omega) (by omega) fun h2 b3 c3 he2 hn3 => ?_
      (conv => whnf)
      refine told_ok' T hn3 (by have := len_of_lt (Nat.lt_of_le_of_lt (Nat.sub_le (val a) (val b)) la); omega) fun h3 he3 => ?_
      (conv => whnf); refine ⟨_, rfl, ?_⟩
      (conv => whnf); refine ⟨_, rfl, ?_⟩
      (conv => whnf); (refine ⟨_, rfl, ?_⟩)
      exact hk _ ((he.trans he2).trans he3)
  · rw [subR, hf, if_neg (by decide)] at hk
    (conv => whnf); refine ⟨_, rfl, ?_⟩
    (conv => whnf); refine ⟨_, rfl, ?_⟩
    (conv => whnf); refine ⟨_, rfl, ?_⟩
    (conv => whnf); (refine ⟨_, rfl, ?_⟩)
    exact hk _ (Ext.refl _)

theorem Mul_ok (T : Tab C) (a b : List UInt8) (hk : ∀ h', Ext h h' → K (sv (mulR a b)) h') : acall C base (n + 4) 30 [.string (bs a), .string (bs b)] h K := by
  refine acall_of T.f30 ?_
  (conv => whnf)
  refine two_ok T a b (fun ha hb h1 b1 c1 b2 c2 he hn1 hn2 => ?_) (fun hf => ?_)
  · have la := right_lt ha
    have lb := right_lt hb
    rw [mulR, ha, hb, if_pos (by rfl)] at hk
    (conv => whnf); refine ⟨_, rfl, ?_⟩
    (conv => whnf); refine ⟨_, rfl, ?_⟩
    (conv => whnf); refine ⟨_, rfl, ?_⟩
    (conv => whnf)
    refine mul_ok T.f53 T.f45 hn1 hn2 (by have := len_of_lt la; omega) (by have := len_of_lt lb; omega) fun h2 b3 c3 he2 hn3 => ?_
    (conv => whnf)
    refine told_ok' T hn3 (by have := mul_len la lb; omega) fun h3 he3 => ?_
    (conv => whnf); refine ⟨_, rfl, ?_⟩
    (conv => whnf); refine ⟨_, rfl, ?_⟩
    (conv => whnf); (refine ⟨_, rfl, ?_⟩)
    exact hk _ ((he.trans he2).trans he3)
  · rw [mulR, hf, if_neg (by decide)] at hk
    (conv => whnf); refine ⟨_, rfl, ?_⟩
    (conv => whnf); refine ⟨_, rfl, ?_⟩
    (conv => whnf); refine ⟨_, rfl, ?_⟩
    (conv => whnf); (refine ⟨_, rfl, ?_⟩)
    exact hk _ (Ext.refl _)

theorem Cmp_ok (T : Tab C) (a b : List UInt8) (hk : ∀ h', Ext h h' → K (iv (cmpR a b)) h') : acall C base (n + 4) 32 [.string (bs a), .string (bs b)] h K := by
  refine acall_of T.f32 ?_
  (conv => whnf)
  refine two_ok T a b (fun ha hb h1 b1 c1 b2 c2 he hn1 hn2 => ?_) (fun hf => ?_)
  · have la := right_lt ha
    have lb := right_lt hb
    rw [cmpR, ha, hb, if_pos (by rfl)] at hk
    (conv => whnf); refine ⟨_, rfl, ?_⟩
    (conv => whnf); refine ⟨_, rfl, ?_⟩
    (conv => whnf); refine ⟨_, rfl, ?_⟩
    (conv => whnf)
    refine cmp_ok T.f58 hn1 hn2 (by have := len_of_lt la; omega) (by have := len_of_lt lb; omega) ?_
    (conv => whnf); (refine ⟨_, rfl, ?_⟩)
    exact hk _ he
  · rw [cmpR, hf, if_neg (by decide)] at hk
    (conv => whnf); refine ⟨_, rfl, ?_⟩
    (conv => whnf); refine ⟨_, rfl, ?_⟩
    (conv => whnf); refine ⟨_, rfl, ?_⟩
    (conv => whnf); (refine ⟨_, rfl, ?_⟩)
    exact hk _ (Ext.refl _)

theorem Digits_ok (T : Tab C) (a : List UInt8) (hk : K (iv (if right a = true then ((a.length : Int), 0) else (0, 3))) h) : acall C base (n + 2) 16 [.string (bs a)] h K := by
  refine acall_of T.f16 ?_
  (conv => whnf)
  refine right_ok T.f18 a ?_
  cases ha : right a with
  | true =>
    rw [ha, if_pos rfl] at hk
    (conv => whnf); (refine ⟨_, rfl, ?_⟩)
    exact hk
  | false =>
    rw [ha, if_neg (by decide)] at hk
    (conv => whnf); (refine ⟨_, rfl, ?_⟩)
    exact hk

theorem DivMod_ok (T : Tab C) (a b : List UInt8) (hk : ∀ h', Ext h h' → K (sv3 (divR a b)) h') : acall C base (n + 5) 36 [.string (bs a), .string (bs b)] h K := by
  refine acall_of T.f36 ?_
  (conv => whnf)
  refine two_ok T a b (fun ha hb h1 b1 c1 b2 c2 he hn1 hn2 => ?_) (fun hf => ?_)
  · have la := right_lt ha
    have lb := right_lt hb
    have lla := len_of_lt la
    have llb := len_of_lt lb
    rw [divR, ha, hb, if_pos (by rfl)] at hk
    (conv => whnf); refine ⟨_, rfl, ?_⟩
    (conv => whnf); refine ⟨_, rfl, ?_⟩
    (conv => whnf); refine ⟨_, rfl, ?_⟩
    (conv => whnf); (refine obool_intro (fun h1 => ?_) (fun h1 => ?_))
    · have h1' : val b = 0 := (digs_len_zero (B := 1000000000) (by decide)).1 (by simpa using h1)
      rw [if_pos h1'] at hk
      (conv => whnf); (refine ⟨_, rfl, ?_⟩)
      exact hk _ he
    · have h1' : val b ≠ 0 := by intro e; rw [e, digs_zero] at h1; simp at h1
      rw [if_neg h1'] at hk
      (conv => whnf)
      refine div_ok T hn1 hn2 (by omega) (by omega) (by omega) fun h2 b3 c3 b4 c4 he2 hn3 hn4 => ?_
      (conv => whnf); refine ⟨_, rfl, ?_⟩
      (conv => whnf); refine ⟨_, rfl, ?_⟩
      (conv => whnf)
      refine text_ok T.f46 hn3 (by have := len_of_lt (Nat.lt_of_le_of_lt (Nat.div_le_self (val a) (val b)) la); omega) fun h3 he3 => ?_
      (conv => whnf)
      refine text_ok T.f46 (hn4.ext he3) (by have := len_of_lt (Nat.lt_of_le_of_lt (Nat.mod_le (val a) (val b)) la); omega) fun h4 he4 => ?_
      (conv => whnf); (refine ⟨_, rfl, ?_⟩)
      exact hk _ (((he.trans he2).trans he3).trans he4)
  · rw [divR, hf, if_neg (by decide)] at hk
    (conv => whnf); refine ⟨_, rfl, ?_⟩
    (conv => whnf); refine ⟨_, rfl, ?_⟩
    (conv => whnf); refine ⟨_, rfl, ?_⟩
    (conv => whnf); (refine ⟨_, rfl, ?_⟩)
    exact hk _ (Ext.refl _)

theorem Gcd_ok (T : Tab C) (a b : List UInt8) (hk : ∀ h', Ext h h' → K (sv (gcdR a b)) h') : acall C base (n + 5) 38 [.string (bs a), .string (bs b)] h K := by
  refine acall_of T.f38 ?_
  (conv => whnf)
  refine two_ok T a b (fun ha hb h1 b1 c1 b2 c2 he hn1 hn2 => ?_) (fun hf => ?_)
  · have la := right_lt ha
    have lb := right_lt hb
    rw [gcdR, ha, hb, if_pos (by rfl)] at hk
    (conv => whnf); refine ⟨_, rfl, ?_⟩
    (conv => whnf); refine ⟨_, rfl, ?_⟩
    (conv => whnf); refine ⟨_, rfl, ?_⟩
    (conv => whnf)
    refine loop_upd (X := (Option Addr × Nat × Nat) × (Option Addr × Nat × Nat)) (fun v => [(6, nv v.1.1 v.1.2.1 v.1.2.2), (7, nv v.2.1 v.2.2.1 v.2.2.2)])
      (fun v h' => Ext h h' ∧ Nm h' v.1.1 v.1.2.1 v.1.2.2 ∧ Nm h' v.2.1 v.2.2.1 v.2.2.2 ∧ v.1.2.2 < 1000000000 ^ 67 ∧ v.2.2.2 < 1000000000 ^ 67 ∧ Nat.gcd v.1.2.2 v.2.2.2 = Nat.gcd (val a) (val b)) (fun v => v.2.2.2) ?_ ⟨(b1, c1, val a), (b2, c2, val b)⟩ _ _ ⟨rfl, rfl, trivial⟩ ⟨he, hn1, hn2, la, lb, rfl⟩
    intro n ⟨⟨p1, q1, x⟩, ⟨p2, q2, y⟩⟩ f h' ⟨he, hx, hy, lx, ly, hg⟩ ih
    dsimp only at ih hx hy lx ly hg ⊢
    have llx := len_of_lt lx
    have lly := len_of_lt ly
    (conv => whnf); (refine obool_intro (fun h2 => ?_) (fun h2 => ?_))
    · have h2' : 0 < y := by
        rcases Nat.eq_zero_or_pos y with e | e
        · subst e; rw [digs_zero] at h2; simp at h2
        · exact e
      (conv => whnf)
      refine div_ok T hx hy (by omega) (by omega) h2' fun h2 b3 c3 b4 c4 he2 hn3 hn4 => ?_
      (conv => whnf); refine ⟨_, rfl, ?_⟩
      (conv => whnf); refine ⟨_, rfl, ?_⟩
      (conv => whnf)
      have hm := Nat.mod_lt x h2'
      refine ih ⟨(p2, q2, y), (b4, c4, x % y)⟩ _ _ hm ⟨rfl, rfl, trivial⟩ ⟨he.trans he2, hy.ext he2, hn4, ly, by dsimp only; omega, ?_⟩
      dsimp only
      rw [← hg, Nat.gcd_comm x y, Nat.gcd_rec y x, Nat.gcd_comm]
    · have h2' : y = 0 := (digs_len_zero (B := 1000000000) (by decide)).1 (by have := of_decide_eq_false h2; omega)
      subst h2'
      rw [Nat.gcd_zero_right] at hg
      (conv => whnf)
      refine text_ok T.f46 hx (by omega) fun h3 he3 => ?_
      (conv => whnf); (refine ⟨_, rfl, ?_⟩)
      subst hg
      exact hk _ (he.trans he3)
  · rw [gcdR, hf, if_neg (by decide)] at hk
    (conv => whnf); refine ⟨_, rfl, ?_⟩
    (conv => whnf); refine ⟨_, rfl, ?_⟩
    (conv => whnf); refine ⟨_, rfl, ?_⟩
    (conv => whnf); (refine ⟨_, rfl, ?_⟩)
    exact hk _ (Ext.refl _)

theorem Of_ok (T : Tab C) (x : Nat) (hx : x < 18446744073709551616) (hk : ∀ h', Ext h h' → K (.string (bs (dec x))) h') : acall C base (n + 2) 13 [.int .u64 (x : Int)] h K := by
  refine acall_of T.f13 ?_
  (conv => whnf)
  refine ⟨by decide, ?_⟩
  (conv => whnf)
  refine ar_u32e (x % 1000000000) (tmod9 x) (by omega) ?_
  (conv => whnf)
  refine ⟨by decide, ?_⟩
  refine ar_u64e (x / 1000000000) (tdiv9 x) (by omega) ?_
  (conv => whnf)
  refine ⟨by decide, ?_⟩
  (conv => whnf)
  refine ar_u32e (x / 1000000000 % 1000000000) (tmod9 _) (by omega) ?_
  (conv => whnf)
  refine ⟨by decide, ?_⟩
  refine ar_u64e (x / 1000000000) (tdiv9 x) (by omega) ?_
  (conv => whnf)
  refine ⟨by decide, ?_⟩
  refine ar_u64e (x / 1000000000 / 1000000000) (tdiv9 _) (by omega) ?_
  (conv => whnf)
  refine ar_u32e (x / 1000000000 / 1000000000) rfl (by omega) ?_
  (conv => whnf)
  refine ⟨_, rfl, ?_⟩
  have hlit : Own (h.push (.cells [Value.int .u32 ((x % 1000000000 : Nat) : Int), .int .u32 ((x / 1000000000 % 1000000000 : Nat) : Int), .int .u32 ((x / 1000000000 / 1000000000 : Nat) : Int)] 53 true false)) h.next (u32s [x % 1000000000, x / 1000000000 % 1000000000, x / 1000000000 / 1000000000]) 53 false := Own.push _ _ _
  have e : ofD 1000000000 [x % 1000000000, x / 1000000000 % 1000000000, x / 1000000000 / 1000000000] = x := by simp only [ofD]; omega
  have hl : (digs 1000000000 x).length ≤ 3 := digs_len_le (by decide) 3 x (by omega)
  (conv => whnf)
  refine trim_ok T.f45 (hlit.sl (by simp)) (by intro d hd; simp at hd; omega) (by simp) fun hn => ?_
  rw [e] at hn ⊢
  (conv => whnf)
  refine text_ok T.f46 hn (by omega) fun h3 he3 => ?_
  (conv => whnf); (refine ⟨_, rfl, ?_⟩)
  exact hk _ (((Ext.refl _).push _).trans he3)

def intR (a : List UInt8) : Nat × Int := if right a = true then (if val a < 18446744073709551616 then (val a, 0) else (0, 7)) else (0, 3)
theorem Int_ok (T : Tab C) (l : List UInt8) (hk : ∀ h', Ext h h' → K (.tuple #[.int .u64 ((intR l).1 : Int), .int .i64 (intR l).2]) h') : acall C base (n + 2) 12 [.string (bs l)] h K := by
  refine acall_of T.f12 ?_
  (conv => whnf)
  refine right_ok T.f18 l ?_
  cases ha : right l with
  | false =>
    rw [intR, ha, if_neg (by decide)] at hk
    (conv => whnf); (refine ⟨_, rfl, ?_⟩)
    exact hk _ (Ext.refl _)
  | true =>
    rw [intR, ha, if_pos rfl] at hk
    have hca := right_dig ha
    have hlen := right_len600 ha
    (conv => whnf)
    refine loop_upd (X := Nat) (fun k => [(4, .int .u64 (val (l.take k) : Int)), (12, .slice (some ⟨h.next, 0, none⟩) l.length l.length), (13, .int .i64 (l.length : Int)), (14, .int .i64 (k : Int))])
      (fun k h' => Ext h h' ∧ Own h' h.next (u8s l) 5 true ∧ k ≤ l.length ∧ val (l.take k) < 18446744073709551616) (fun k => l.length - k) ?_ 0 _ _ ⟨rfl, rfl, rfl, rfl, trivial⟩ ⟨(Ext.refl _).push _, Own.push _ _ _, by simp, by simp [val]⟩
    intro n k f h' ⟨he, ho, hk2, hv⟩ ih
    (conv => whnf); (refine obool_intro (fun h3 => ?_) (fun h3 => ?_))
    · have h3' : k < l.length := by simp at h3; omega
      have hd := isDig_toNat (all_get hca h3')
      have hd9 := dv_lt (all_get hca h3')
      have hst := val_take_succ l k h3'
      (conv => whnf)
      refine ⟨by omega, ?_⟩
      (conv => whnf)
      refine ⟨_, ho.cell8 _ k rfl h3', ?_⟩
      (conv => whnf)
      refine ar_u8e (dv l[k]) (by omega) (by omega) ?_
      (conv => whnf)
      refine ar_u64e (dv l[k]) rfl (by omega) ?_
      (conv => whnf)
      refine ar_u64e (18446744073709551615 - dv l[k]) (by omega) (by omega) ?_
      (conv => whnf)
      refine ⟨by decide, ?_⟩
      refine ar_u64e ((18446744073709551615 - dv l[k]) / 10) rfl (by omega) ?_
      (conv => whnf); (refine obool_intro (fun h4 => ?_) (fun h4 => ?_))
      · have h4' : (18446744073709551615 - dv l[k]) / 10 < val (l.take k) := by simp at h4; omega
        have hbig : ¬ val l < 18446744073709551616 := by
          have h5 : val (l.take (k + 1)) ≤ val l := by
            conv => rhs; rw [← List.take_append_drop (k + 1) l, val_append]
            have := Nat.le_mul_of_pos_left (val (l.take (k + 1))) (Nat.pow_pos (n := (l.drop (k + 1)).length) (show 0 < 10 by omega))
            omega
          omega
        rw [if_neg hbig] at hk
        (conv => whnf); (refine ⟨_, rfl, ?_⟩)
        exact hk _ he
      · have h4' : val (l.take k) ≤ (18446744073709551615 - dv l[k]) / 10 := by simp at h4; omega
        (conv => whnf)
        refine ar_u64e (val (l.take k) * 10) (by omega) (by omega) ?_
        (conv => whnf)
        refine ar_u64e (val (l.take (k + 1))) (by omega) (by omega) ?_
        (conv => whnf)
        refine ar_i64e (k + 1) (by omega) (by omega) ?_
        (conv => whnf)
        exact ih (k + 1) _ _ (by omega) ⟨rfl, rfl, rfl, rfl, trivial⟩ ⟨he, ho, h3', by omega⟩
    · have h3' : k = l.length := by simp at h3; omega
      subst h3'
      rw [List.take_length] at hv
      rw [if_pos hv] at hk
      (conv => whnf); (refine ⟨_, rfl, ?_⟩)
      rw [List.take_length]
      exact hk _ he
end Go.Proofs.Ytpilfppdiifbjaa.Am

namespace Go.Proofs.Ytpilfppdiifbjaa.Am
open Go.Proofs.Ytpilfppdiifbjaa.Nt
variable {C : FuncId → Option AFn} {base : Cl} {n : Nat} {h : H} {K : Value → H → Prop}

theorem dec_len_big {x : Nat} (h : 67 < (digs 1000000000 x).length) : 600 < (dec x).length := by
  rcases Nat.lt_or_ge 600 (dec x).length with h' | h'
  · exact h'
  · exfalso
    have h2 := digs_len_le (B := 1000000000) (by decide) 67 x (Nat.lt_of_lt_of_le (lt_pow_dec x) (pow_le_B9 (by omega)))
    omega
theorem pow_le_pow_base {x i k : Nat} (hx : 0 < x) (h : i ≤ k) : x ^ i ≤ x ^ k := Nat.pow_le_pow_right hx h
theorem one_sl {v : Nat} (h : H) : Own (h.push (.cells [Value.int .u32 (v : Int)] 53 true false)) h.next (u32s [v]) 53 false := Own.push _ _ _
theorem digs_one {v : Nat} (h0 : 0 < v) (h1 : v < 1000000000) : digs 1000000000 v = [v] := by
  rw [digs_pos (by decide) h0, Nat.div_eq_of_lt h1, digs_zero, Nat.mod_eq_of_lt h1]
theorem one_nm {v : Nat} (h0 : 0 < v) (h1 : v < 1000000000) (h : H) : Nm (h.push (.cells [Value.int .u32 (v : Int)] 53 true false)) (some ⟨h.next, 0, none⟩) 1 v := by
  unfold Nm
  rw [digs_one h0 h1]
  exact (one_sl h).sl (by simp)

theorem power_ok (T : Tab C) {b : Option Addr} {c x : Nat} (k : Nat) (hx : Nm h b c x) (hX : (digs 1000000000 x).length ≤ 1000) (hk4 : k ≤ 4096)
    (hk : ∀ h' b c, Ext h h' → Nm h' b c (x ^ k) → (digs 1000000000 (x ^ k)).length ≤ 1000 → K (.tuple #[nv b c (x ^ k), .bool (decide ((dec (x ^ k)).length ≤ 600))]) h')
    (hk2 : ∀ h', Ext h h' → 600 < (dec (x ^ k)).length → K (.tuple #[.slice none 0 0, .bool false]) h') : acall C base (n + 3) 64 [nv b c x, .int .i64 (k : Int)] h K := by
  refine acall_of T.f64 ?_
  have e1 : (digs 1000000000 1).length = 1 := by rw [digs_one (by decide) (by decide)]; rfl
  have n1 : Nm (h.push (.cells [Value.int .u32 1] 53 true false)) (some ⟨h.next, 0, none⟩) 1 1 := one_nm (v := 1) (by decide) (by decide) h
  have he1 : Ext h (h.push (.cells [Value.int .u32 1] 53 true false)) := (Ext.refl _).push _
  (conv => whnf)
  refine ⟨_, rfl, ?_⟩
  rw [show Value.slice (some ⟨h.next, 0, none⟩) 1 1 = nv (some ⟨h.next, 0, none⟩) 1 1 from by rw [nv, e1]]
  have small : x = 0 ∨ x = 1 → (dec (x ^ k)).length ≤ 600 ∧ x ^ k ≤ 1 := by
    intro hs
    have : x ^ k ≤ 1 := by
      rcases hs with rfl | rfl
      · rcases Nat.eq_zero_or_pos k with e | e
        · subst e; decide
        · rw [Nat.zero_pow e]; decide
      · rw [Nat.one_pow]; decide
    exact ⟨dec_le10 (by omega) (by decide), this⟩
  (conv => whnf); (refine obool_intro (fun h1 => ?_) (fun h1 => ?_))
  · have h1' : x = 0 := (digs_len_zero (B := 1000000000) (by decide)).1 (by have := eq_of_beq h1; omega)
    (conv => whnf); (refine obool_intro (fun h2 => ?_) (fun h2 => ?_))
    · have h2' : k = 0 := by simp at h2; omega
      subst h2'
      have hs := small (.inl h1')
      (conv => whnf); (refine ⟨_, rfl, ?_⟩)
      have := hk _ _ _ he1 (by rw [Nat.pow_zero]; exact n1) (by rw [Nat.pow_zero, e1]; decide)
      rw [decide_eq_true hs.1, Nat.pow_zero] at this
      exact this
    · have h2' : k ≠ 0 := by intro e; subst e; simp at h2
      have hs := small (.inl h1')
      have e : x ^ k = x := by rw [h1', Nat.zero_pow (by omega)]
      (conv => whnf); (refine ⟨_, rfl, ?_⟩)
      have := hk _ _ _ he1 (by rw [e]; exact hx.ext he1) (by rw [e]; exact hX)
      rw [decide_eq_true hs.1, e] at this
      exact this
  · have h1' : x ≠ 0 := by intro e; subst e; rw [digs_zero] at h1; simp at h1
    (conv => whnf)
    refine cmp_ok T.f58 (hx.ext he1) n1 (by omega) (by omega) ?_
    (conv => whnf); (refine obool_intro (fun h2 => ?_) (fun h2 => ?_))
    · have h2' : x = 1 := cmp_zero.1 (by simpa using h2)
      (conv => whnf); (refine obool_intro (fun h3 => ?_) (fun h3 => ?_))
      · have h3' : k = 0 := by simp at h3; omega
        subst h3'
        have hs := small (.inr h2')
        (conv => whnf); (refine ⟨_, rfl, ?_⟩)
        have := hk _ _ _ he1 (by rw [Nat.pow_zero]; exact n1) (by rw [Nat.pow_zero, e1]; decide)
        rw [decide_eq_true hs.1, Nat.pow_zero] at this
        exact this
      · have hs := small (.inr h2')
        have e : x ^ k = x := by rw [h2', Nat.one_pow]
        (conv => whnf); (refine ⟨_, rfl, ?_⟩)
        have := hk _ _ _ he1 (by rw [e]; exact hx.ext he1) (by rw [e]; exact hX)
        rw [decide_eq_true hs.1, e] at this
        exact this
    · have h2' : x ≠ 1 := by intro e; rw [cmp_zero.2 e] at h2; simp at h2
      (conv => whnf)
      refine loop_upd (X := Nat × Option Addr × Nat) (fun v => [(0, nv b c x), (6, nv v.2.1 v.2.2 (x ^ v.1)), (21, .int .i64 (k : Int)), (22, .int .i64 (v.1 : Int))])
        (fun v h' => Ext h h' ∧ Nm h' v.2.1 v.2.2 (x ^ v.1) ∧ v.1 ≤ k ∧ (digs 1000000000 (x ^ v.1)).length ≤ 67) (fun v => k - v.1) ?_ ⟨0, some ⟨h.next, 0, none⟩, 1⟩ _ _ ⟨rfl, ?_, rfl, rfl, trivial⟩ ⟨he1, by dsimp only; rw [Nat.pow_zero]; exact n1, by simp, by simp [e1]⟩
      · intro n ⟨i, b1, c1⟩ f h' ⟨he, hn, hi, hl⟩ ih
        dsimp only at ih hn hi hl ⊢
        (conv => whnf); (refine obool_intro (fun h3 => ?_) (fun h3 => ?_))
        · have h3' : i < k := by simp at h3; omega
          (conv => whnf)
          refine mul_ok T.f53 T.f45 hn (hx.ext he) (by omega) (by omega) fun h2 b2 c2 he2 hn2 => ?_
          rw [show x ^ i * x = x ^ (i + 1) from (Nat.pow_succ ..).symm] at hn2 ⊢
          have hl2 : (digs 1000000000 (x ^ (i + 1))).length ≤ 1067 := by
            rw [Nat.pow_succ]
            have := mul_len (lt_pow_len (B := 1000000000) (by decide) (x ^ i)) (lt_pow_len (B := 1000000000) (by decide) x)
            omega
          (conv => whnf); (refine obool_intro (fun h4 => ?_) (fun h4 => ?_))
          · have h4' : 67 < (digs 1000000000 (x ^ (i + 1))).length := by have := of_decide_eq_true h4; omega
            have hbig : 600 < (dec (x ^ k)).length := Nat.lt_of_lt_of_le (dec_len_big h4') (dec_len_mono (pow_le_pow_base (by omega) h3'))
            (conv => whnf); (refine ⟨_, rfl, ?_⟩)
            exact hk2 _ (he.trans he2) hbig
          · have h4' : (digs 1000000000 (x ^ (i + 1))).length ≤ 67 := by have := of_decide_eq_false h4; omega
            (conv => whnf)
            refine ar_i64e (i + 1) (by omega) (by omega) ?_
            (conv => whnf)
            exact ih ⟨i + 1, b2, c2⟩ _ _ (by dsimp only; omega) ⟨rfl, rfl, rfl, rfl, trivial⟩ ⟨he.trans he2, hn2, h3', h4'⟩
        · have h3' : i = k := by simp at h3; omega
          subst h3'
          (conv => whnf)
          refine text_ok T.f46 hn (by omega) fun h2 he2 => ?_
          (conv => whnf); (refine ⟨_, rfl, ?_⟩)
          have := hk _ _ _ (he.trans he2) (hn.ext he2) (by omega)
          have e : decide (((bs (dec (x ^ i))).size : Int) ≤ 600) = decide ((dec (x ^ i)).length ≤ 600) := by
            rw [decide_eq_decide, bs_size]; omega
          rw [← e] at this
          exact this
      · show nv (some ⟨h.next, 0, none⟩) 1 1 = nv (some ⟨h.next, 0, none⟩) 1 (x ^ 0)
        rw [Nat.pow_zero]

def powR (a : List UInt8) (k : Int) : List UInt8 × Int := if right a = true then (if k < 0 ∨ 4096 < k then ([], 1) else told (val a ^ k.toNat)) else ([], 3)
theorem Pow_ok (T : Tab C) (a : List UInt8) (k : Int) (hk : ∀ h', Ext h h' → K (sv (powR a k)) h') : acall C base (n + 4) 40 [.string (bs a), .int .i64 k] h K := by
  refine acall_of T.f40 ?_
  (conv => whnf)
  refine right_ok T.f18 a ?_
  cases ha : right a with
  | false =>
    rw [powR, ha, if_neg (by decide)] at hk
    (conv => whnf); (refine ⟨_, rfl, ?_⟩)
    exact hk _ (Ext.refl _)
  | true =>
    rw [powR, ha, if_pos rfl] at hk
    have hlen := right_len600 ha
    have hl := right_len ha
    (conv => whnf); (refine obool_intro (fun h1 => ?_) (fun h1 => ?_))
    · have h1' : k < 0 := of_decide_eq_true h1
      rw [if_pos (.inl h1')] at hk
      (conv => whnf); (refine ⟨_, rfl, ?_⟩)
      exact hk _ (Ext.refl _)
    · have h1' : ¬ k < 0 := of_decide_eq_false h1
      (conv => whnf); (refine obool_intro (fun h2 => ?_) (fun h2 => ?_))
      · have h2' : k > 4096 := of_decide_eq_true h2
        rw [if_pos (.inr h2')] at hk
        (conv => whnf); (refine ⟨_, rfl, ?_⟩)
        exact hk _ (Ext.refl _)
      · have h2' : ¬ k > 4096 := of_decide_eq_false h2
        rw [if_neg (by omega)] at hk
        obtain ⟨m, rfl⟩ : ∃ m : Nat, k = (m : Int) := ⟨k.toNat, by omega⟩
        rw [Int.toNat_natCast] at hk
        (conv => whnf)
        refine read_ok T (right_dig ha) (by omega) fun h1 b1 c1 he1 hn1 => ?_
        (conv => whnf)
        refine power_ok T m hn1 (by omega) (by omega) (fun h2 b2 c2 he2 hn2 hl2 => ?_) (fun h2 he2 hb => ?_)
        · (conv => whnf); refine ⟨_, rfl, ?_⟩
          (conv => whnf); refine ⟨_, rfl, ?_⟩
          (conv => whnf)
          refine obool_intro (fun h3 => ?_) (fun h3 => ?_)
          · have h3' : ¬ (dec (val a ^ m)).length ≤ 600 := by simp at h3; omega
            have := hk _ (he1.trans he2)
            rw [told, if_neg h3'] at this
            (conv => whnf); (refine ⟨_, rfl, ?_⟩)
            exact this
          · (conv => whnf)
            refine told_ok' T hn2 (by omega) fun h4 he4 => ?_
            (conv => whnf); refine ⟨_, rfl, ?_⟩
            (conv => whnf); refine ⟨_, rfl, ?_⟩
            (conv => whnf); (refine ⟨_, rfl, ?_⟩)
            exact hk _ ((he1.trans he2).trans he4)
        · (conv => whnf); refine ⟨_, rfl, ?_⟩
          (conv => whnf); refine ⟨_, rfl, ?_⟩
          have := hk _ (he1.trans he2)
          rw [told, if_neg (by omega)] at this
          (conv => whnf); (refine ⟨_, rfl, ?_⟩)
          exact this

/-- The whole root. -/
def IsRoot (x k r : Nat) : Prop := r ^ k ≤ x ∧ x < (r + 1) ^ k
theorem IsRoot.unique {x k r s : Nat} (hr : IsRoot x k r) (hs : IsRoot x k s) : r = s := by
  rcases Nat.lt_trichotomy r s with h | h | h
  · have := Nat.pow_le_pow_left (show r + 1 ≤ s from h) k
    have := hr.2; have := hs.1; omega
  · exact h
  · have := Nat.pow_le_pow_left (show s + 1 ≤ r from h) k
    have := hs.2; have := hr.1; omega
theorem le_pow_self {r k : Nat} (hk : 0 < k) : r ≤ r ^ k := by
  rcases Nat.eq_zero_or_pos r with e | e
  · omega
  · have := Nat.pow_le_pow_right e hk
    simpa using this
theorem pow_ten_len {j : Nat} (hj : j ≤ 600) : (digs 1000000000 (10 ^ j)).length ≤ 67 := by
  exact digs_len_le (by decide) _ _ (Nat.lt_of_lt_of_le (Nat.pow_lt_pow_right (show 1 < 10 by decide) (Nat.lt_succ_self j)) (pow_le_B9 (by omega)))

theorem Root_ok (T : Tab C) (a : List UInt8) (k : Int) (hk3 : right a = false → K (sv ([], 3)) h) (hk1 : right a = true → (k < 1 ∨ 4096 < k) → K (sv ([], 1)) h)
    (hk : right a = true → ∀ m : Nat, k = (m : Int) → 0 < m → m ≤ 4096 → ∀ h' r, Ext h h' → IsRoot (val a) m r → K (sv (dec r, 0)) h') : acall C base (n + 5) 42 [.string (bs a), .int .i64 k] h K := by
  refine acall_of T.f42 ?_
  (conv => whnf)
  refine right_ok T.f18 a ?_
  cases ha : right a with
  | false =>
    (conv => whnf); (refine ⟨_, rfl, ?_⟩)
    exact hk3 ha
  | true =>
    have hlen := right_len600 ha
    have hl := right_len ha
    have hw10 : val a < 10 ^ a.length := val_lt (right_dig ha)
    (conv => whnf); (refine obool_intro (fun h1 => ?_) (fun h1 => ?_))
    · have h1' : k < 1 := of_decide_eq_true h1
      (conv => whnf); (refine ⟨_, rfl, ?_⟩)
      exact hk1 ha (.inl h1')
    · have h1' : ¬ k < 1 := of_decide_eq_false h1
      (conv => whnf); (refine obool_intro (fun h2 => ?_) (fun h2 => ?_))
      · have h2' : k > 4096 := of_decide_eq_true h2
        (conv => whnf); (refine ⟨_, rfl, ?_⟩)
        exact hk1 ha (.inr h2')
      · have h2' : ¬ k > 4096 := of_decide_eq_false h2
        obtain ⟨m, rfl⟩ : ∃ m : Nat, k = (m : Int) := ⟨k.toNat, by omega⟩
        have hk := hk ha m rfl (by omega) (by omega)
        have e1 : (digs 1000000000 1).length = 1 := by rw [digs_one (by decide) (by decide)]; rfl
        obtain ⟨q, hq⟩ : ∃ q, q = a.length / m := ⟨_, rfl⟩
        have hq6 : q ≤ 600 := by rw [hq]; exact Nat.le_trans (Nat.div_le_self _ _) hlen
        (conv => whnf)
        refine read_ok T (right_dig ha) (by omega) fun h1 b1 c1 he1 hn1 => ?_
        (conv => whnf)
        refine ⟨_, rfl, ?_⟩
        rw [show Value.slice (some ⟨h1.next, 0, none⟩) 1 1 = nv (some ⟨h1.next, 0, none⟩) 1 1 from by rw [nv, e1]]
        have n1 : Nm (h1.push (.cells [Value.int .u32 1] 53 true false)) (some ⟨h1.next, 0, none⟩) 1 1 := one_nm (v := 1) (by decide) (by decide) h1
        (conv => whnf)
        refine ⟨by omega, ?_⟩
        refine ar_i64e q (by rw [hq]; exact tdiv_nat _ _) (by omega) ?_
        (conv => whnf)
        refine loop_upd (X := Nat × Option Addr × Nat) (fun v => [(1, .int .i64 (m : Int)), (6, nv b1 c1 (val a)), (7, .slice none 0 0), (8, nv v.2.1 v.2.2 (10 ^ v.1)), (27, .int .i64 (q : Int)), (28, .int .i64 (v.1 : Int))])
          (fun v h' => Ext h h' ∧ Nm h' b1 c1 (val a) ∧ Nm h' v.2.1 v.2.2 (10 ^ v.1) ∧ v.1 ≤ q) (fun v => q - v.1) ?_ ⟨0, some ⟨h1.next, 0, none⟩, 1⟩ _ _ ⟨rfl, rfl, rfl, ?_, rfl, rfl, trivial⟩ ⟨he1.push _, hn1.ext ((Ext.refl _).push _), by dsimp only; rw [Nat.pow_zero]; exact n1, by simp⟩
        · intro n ⟨i, b2, c2⟩ f h' ⟨he, hna, hns, hi⟩ ih
          dsimp only at ih hna hns hi ⊢
          have hsl := pow_ten_len (j := i) (by omega)
          (conv => whnf); (refine obool_intro (fun h3 => ?_) (fun h3 => ?_))
          · have h3' : i < q := by simp at h3; omega
            (conv => whnf)
            refine times_ok (y := 10) T.f66 T.f53 T.f45 hns (by omega) (by decide) fun h2 b3 c3 he2 hn2 => ?_
            rw [show 10 ^ i * 10 = 10 ^ (i + 1) from (Nat.pow_succ ..).symm] at hn2 ⊢
            (conv => whnf)
            refine ar_i64e (i + 1) (by omega) (by omega) ?_
            (conv => whnf)
            exact ih ⟨i + 1, b3, c3⟩ _ _ (by dsimp only; omega) ⟨rfl, rfl, rfl, rfl, rfl, rfl, trivial⟩ ⟨he.trans he2, hna.ext he2, hn2, h3'⟩
          · have h3' : i = q := by simp at h3; omega
            subst h3'
            (conv => whnf)
            have hstart : val a < (0 + 10 * 10 ^ i) ^ m := by
              rw [Nat.zero_add, ← Nat.pow_succ', ← Nat.pow_mul]
              refine Nat.lt_of_lt_of_le hw10 (Nat.pow_le_pow_right (by omega) ?_)
              have h5 := Nat.lt_mul_div_succ a.length (show 0 < m by omega)
              rw [← hq, Nat.mul_comm] at h5
              exact Nat.le_of_lt h5
            refine loop_upd (X := (Option Addr × Nat × Nat) × (Option Addr × Nat × Nat)) (fun v => [(1, .int .i64 (m : Int)), (6, nv b1 c1 (val a)), (7, nv v.1.1 v.1.2.1 v.1.2.2), (8, nv v.2.1 v.2.2.1 v.2.2.2)])
              (fun v h' => Ext h h' ∧ Nm h' b1 c1 (val a) ∧ Nm h' v.1.1 v.1.2.1 v.1.2.2 ∧ Nm h' v.2.1 v.2.2.1 v.2.2.2 ∧ v.1.2.2 ^ m ≤ val a ∧ ((v.2.2.2 = 0 ∧ val a < (v.1.2.2 + 1) ^ m) ∨ ∃ j, j ≤ 600 ∧ v.2.2.2 = 10 ^ j ∧ val a < (v.1.2.2 + 10 * v.2.2.2) ^ m)) (fun v => v.2.2.2) ?_ ⟨(none, 0, 0), (b2, c2, 10 ^ i)⟩ _ _ ⟨rfl, rfl, ?_, rfl, trivial⟩ ⟨he, hna, ?_, hns, ?_, .inr ⟨i, by omega, rfl, hstart⟩⟩
            · intro n ⟨⟨p1, q1, r⟩, ⟨p2, q2, s⟩⟩ f h' ⟨he, hna, hnr, hns, hr, hs⟩ ih
              dsimp only at ih hna hnr hns hr hs ⊢
              have hrle : r ≤ val a := Nat.le_trans (le_pow_self (by omega)) hr
              have hrl : (digs 1000000000 r).length ≤ 67 := Nat.le_trans (digs_len_mono (by decide) hrle) hl
              (conv => whnf); (refine obool_intro (fun h3 => ?_) (fun h3 => ?_))
              · have hs0 : s ≠ 0 := by intro e; subst e; rw [digs_zero] at h3; simp at h3
                rcases hs with ⟨e, _⟩ | ⟨j, hj, hsj, hlt⟩
                · exact absurd e hs0
                have hsl := pow_ten_len (j := j) hj
                rw [← hsj] at hsl
                (conv => whnf)
                refine loop_upd (X := Nat × Option Addr × Nat × Nat) (fun v => [(1, .int .i64 (m : Int)), (6, nv b1 c1 (val a)), (7, nv v.2.1 v.2.2.1 v.2.2.2), (8, nv p2 q2 s), (36, .int .i64 (v.1 : Int))])
                  (fun v h' => Ext h h' ∧ Nm h' b1 c1 (val a) ∧ Nm h' v.2.1 v.2.2.1 v.2.2.2 ∧ Nm h' p2 q2 s ∧ v.2.2.2 ^ m ≤ val a ∧ v.1 ≤ 9 ∧ val a < (v.2.2.2 + (10 - v.1) * s) ^ m) (fun v => 9 - v.1) ?_ ⟨0, p1, q1, r⟩ _ _ ⟨rfl, rfl, rfl, rfl, rfl, trivial⟩ ⟨he, hna, hnr, hns, hr, by simp, by simpa using hlt⟩
                intro n ⟨t, p3, q3, r3⟩ f h' ⟨he, hna, hnr, hns, hr, ht, hlt⟩ ih2
                dsimp only at ih2 hna hnr hns hr ht hlt ⊢
                have hrle : r3 ≤ val a := Nat.le_trans (le_pow_self (by omega)) hr
                have hrl : (digs 1000000000 r3).length ≤ 67 := Nat.le_trans (digs_len_mono (by decide) hrle) hl
                (conv => whnf); (refine obool_intro (fun h4 => ?_) (fun h4 => ?_))
                · have h4' : t < 9 := by simp at h4; omega
                  (conv => whnf)
                  refine add_ok T.f48 T.f45 hnr hns (by omega) (by omega) fun h2 b4 c4 he2 hn2 => ?_
                  have hml : (digs 1000000000 (r3 + s)).length ≤ 68 := by
                    have a1 := Nat.lt_of_lt_of_le (lt_pow_len (B := 1000000000) (by decide) r3) (Nat.pow_le_pow_right (by decide) hrl)
                    have a2 := Nat.lt_of_lt_of_le (lt_pow_len (B := 1000000000) (by decide) s) (Nat.pow_le_pow_right (by decide) hsl)
                    have := add_len a1 a2
                    omega
                  (conv => whnf)
                  refine power_ok T m hn2 (by omega) (by omega) (fun h5 b5 c5 he5 hn5 hl5 => ?_) (fun h5 he5 hb => ?_)
                  · (conv => whnf); refine ⟨_, rfl, ?_⟩
                    (conv => whnf); refine ⟨_, rfl, ?_⟩
                    (conv => whnf)
                    refine obool_intro (fun h6 => ?_) (fun h6 => ?_)
                    · have h6' : ¬ (dec ((r3 + s) ^ m)).length ≤ 600 := by simp at h6; omega
                      have hgt : val a < (r3 + s) ^ m := by
                        rcases Nat.lt_or_ge (val a) ((r3 + s) ^ m) with g | g
                        · exact g
                        · exfalso
                          have := dec_len_mono g
                          rw [dec_right ha] at this
                          omega
                      (conv => whnf)
                      refine ⟨_, rfl, ?_⟩
                      have e10 : (digs 1000000000 10).length = 1 := by rw [digs_one (by decide) (by decide)]; rfl
                      rw [show Value.slice (some ⟨(h5).next, 0, none⟩) 1 1 = nv (some ⟨(h5).next, 0, none⟩) 1 10 from by rw [nv, e10]]
                      have n10 : Nm ((h5).push (.cells [Value.int .u32 10] 53 true false)) (some ⟨(h5).next, 0, none⟩) 1 10 := one_nm (v := 10) (by decide) (by decide) (h5)
                      have heA := (he2.trans he5).push (.cells [Value.int .u32 10] 53 true false)
                      (conv => whnf)
                      refine div_ok T (hns.ext heA) n10 (by omega) (by omega) (by decide) fun h8 b8 c8 b9 c9 he8 hn8 hn9 => ?_
                      (conv => whnf); refine ⟨_, rfl, ?_⟩
                      (conv => whnf); refine ⟨_, rfl, ?_⟩
                      (conv => whnf)
                      refine ih ⟨(p3, q3, r3), (b8, c8, s / 10)⟩ _ _ (by dsimp only; omega) ⟨rfl, rfl, rfl, rfl, trivial⟩ ⟨he.trans (heA.trans he8), hna.ext (heA.trans he8), hnr.ext (heA.trans he8), hn8, hr, ?_⟩
                      rcases Nat.eq_zero_or_pos j with ej | ej
                      · left
                        rw [ej, Nat.pow_zero] at hsj
                        rw [hsj] at hgt
                        exact ⟨by dsimp only; rw [hsj], hgt⟩
                      · right
                        have e : 10 ^ j = 10 * 10 ^ (j - 1) := by rw [← Nat.pow_succ']; congr 1; omega
                        refine ⟨j - 1, by omega, by dsimp only; omega, ?_⟩
                        dsimp only
                        rw [show 10 * (s / 10) = s from by omega]
                        exact hgt
                    · (conv => whnf)
                      refine cmp_ok T.f58 hn5 (hna.ext (he2.trans he5)) (by omega) (by omega) ?_
                      (conv => whnf); (refine obool_intro (fun h7 => ?_) (fun h7 => ?_))
                      · have hgt : val a < (r3 + s) ^ m := by
                          have := of_decide_eq_true h7
                          rcases Nat.lt_or_ge (val a) ((r3 + s) ^ m) with g | g
                          · exact g
                          · have := cmp_le.2 g; omega
                        (conv => whnf)
                        refine ⟨_, rfl, ?_⟩
                        have e10 : (digs 1000000000 10).length = 1 := by rw [digs_one (by decide) (by decide)]; rfl
                        rw [show Value.slice (some ⟨(h5).next, 0, none⟩) 1 1 = nv (some ⟨(h5).next, 0, none⟩) 1 10 from by rw [nv, e10]]
                        have n10 : Nm ((h5).push (.cells [Value.int .u32 10] 53 true false)) (some ⟨(h5).next, 0, none⟩) 1 10 := one_nm (v := 10) (by decide) (by decide) (h5)
                        have heA := (he2.trans he5).push (.cells [Value.int .u32 10] 53 true false)
                        (conv => whnf)
                        refine div_ok T (hns.ext heA) n10 (by omega) (by omega) (by decide) fun h8 b8 c8 b9 c9 he8 hn8 hn9 => ?_
                        (conv => whnf); refine ⟨_, rfl, ?_⟩
                        (conv => whnf); refine ⟨_, rfl, ?_⟩
                        (conv => whnf)
                        refine ih ⟨(p3, q3, r3), (b8, c8, s / 10)⟩ _ _ (by dsimp only; omega) ⟨rfl, rfl, rfl, rfl, trivial⟩ ⟨he.trans (heA.trans he8), hna.ext (heA.trans he8), hnr.ext (heA.trans he8), hn8, hr, ?_⟩
                        rcases Nat.eq_zero_or_pos j with ej | ej
                        · left
                          rw [ej, Nat.pow_zero] at hsj
                          rw [hsj] at hgt
                          exact ⟨by dsimp only; rw [hsj], hgt⟩
                        · right
                          have e : 10 ^ j = 10 * 10 ^ (j - 1) := by rw [← Nat.pow_succ']; congr 1; omega
                          refine ⟨j - 1, by omega, by dsimp only; omega, ?_⟩
                          dsimp only
                          rw [show 10 * (s / 10) = s from by omega]
                          exact hgt
                      · have hle : (r3 + s) ^ m ≤ val a := cmp_le.1 (by have := of_decide_eq_false h7; omega)
                        (conv => whnf)
                        refine ar_i64e (t + 1) (by omega) (by omega) ?_
                        (conv => whnf)
                        refine ih2 ⟨t + 1, b4, c4, r3 + s⟩ _ _ (by dsimp only; omega) ⟨rfl, rfl, rfl, rfl, rfl, trivial⟩ ⟨he.trans (he2.trans he5), hna.ext (he2.trans he5), hn2.ext he5, hns.ext (he2.trans he5), hle, h4', ?_⟩
                        dsimp only
                        rw [show 10 - t = (10 - (t + 1)) + 1 from by omega, Nat.add_mul, Nat.one_mul] at hlt
                        rw [Nat.add_assoc, Nat.add_comm s]
                        exact hlt
                  · (conv => whnf); refine ⟨_, rfl, ?_⟩
                    (conv => whnf); refine ⟨_, rfl, ?_⟩
                    have hgt : val a < (r3 + s) ^ m := by
                      rcases Nat.lt_or_ge (val a) ((r3 + s) ^ m) with g | g
                      · exact g
                      · exfalso
                        have := dec_len_mono g
                        rw [dec_right ha] at this
                        omega
                    (conv => whnf)
                    (conv => whnf)
                    refine ⟨_, rfl, ?_⟩
                    have e10 : (digs 1000000000 10).length = 1 := by rw [digs_one (by decide) (by decide)]; rfl
                    rw [show Value.slice (some ⟨(h5).next, 0, none⟩) 1 1 = nv (some ⟨(h5).next, 0, none⟩) 1 10 from by rw [nv, e10]]
                    have n10 : Nm ((h5).push (.cells [Value.int .u32 10] 53 true false)) (some ⟨(h5).next, 0, none⟩) 1 10 := one_nm (v := 10) (by decide) (by decide) (h5)
                    have heA := (he2.trans he5).push (.cells [Value.int .u32 10] 53 true false)
                    (conv => whnf)
                    refine div_ok T (hns.ext heA) n10 (by omega) (by omega) (by decide) fun h8 b8 c8 b9 c9 he8 hn8 hn9 => ?_
                    (conv => whnf); refine ⟨_, rfl, ?_⟩
                    (conv => whnf); refine ⟨_, rfl, ?_⟩
                    (conv => whnf)
                    refine ih ⟨(p3, q3, r3), (b8, c8, s / 10)⟩ _ _ (by dsimp only; omega) ⟨rfl, rfl, rfl, rfl, trivial⟩ ⟨he.trans (heA.trans he8), hna.ext (heA.trans he8), hnr.ext (heA.trans he8), hn8, hr, ?_⟩
                    rcases Nat.eq_zero_or_pos j with ej | ej
                    · left
                      rw [ej, Nat.pow_zero] at hsj
                      rw [hsj] at hgt
                      exact ⟨by dsimp only; rw [hsj], hgt⟩
                    · right
                      have e : 10 ^ j = 10 * 10 ^ (j - 1) := by rw [← Nat.pow_succ']; congr 1; omega
                      refine ⟨j - 1, by omega, by dsimp only; omega, ?_⟩
                      dsimp only
                      rw [show 10 * (s / 10) = s from by omega]
                      exact hgt
                · have h4' : t = 9 := by simp at h4; omega
                  subst h4'
                  have hgt : val a < (r3 + s) ^ m := by simpa using hlt
                  have he2 := Ext.refl h'
                  have he5 := Ext.refl h'
                  (conv => whnf)
                  refine ⟨_, rfl, ?_⟩
                  have e10 : (digs 1000000000 10).length = 1 := by rw [digs_one (by decide) (by decide)]; rfl
                  rw [show Value.slice (some ⟨(h').next, 0, none⟩) 1 1 = nv (some ⟨(h').next, 0, none⟩) 1 10 from by rw [nv, e10]]
                  have n10 : Nm ((h').push (.cells [Value.int .u32 10] 53 true false)) (some ⟨(h').next, 0, none⟩) 1 10 := one_nm (v := 10) (by decide) (by decide) (h')
                  have heA := (he2.trans he5).push (.cells [Value.int .u32 10] 53 true false)
                  (conv => whnf)
                  refine div_ok T (hns.ext heA) n10 (by omega) (by omega) (by decide) fun h8 b8 c8 b9 c9 he8 hn8 hn9 => ?_
                  (conv => whnf); refine ⟨_, rfl, ?_⟩
                  (conv => whnf); refine ⟨_, rfl, ?_⟩
                  (conv => whnf)
                  refine ih ⟨(p3, q3, r3), (b8, c8, s / 10)⟩ _ _ (by dsimp only; omega) ⟨rfl, rfl, rfl, rfl, trivial⟩ ⟨he.trans (heA.trans he8), hna.ext (heA.trans he8), hnr.ext (heA.trans he8), hn8, hr, ?_⟩
                  rcases Nat.eq_zero_or_pos j with ej | ej
                  · left
                    rw [ej, Nat.pow_zero] at hsj
                    rw [hsj] at hgt
                    exact ⟨by dsimp only; rw [hsj], hgt⟩
                  · right
                    have e : 10 ^ j = 10 * 10 ^ (j - 1) := by rw [← Nat.pow_succ']; congr 1; omega
                    refine ⟨j - 1, by omega, by dsimp only; omega, ?_⟩
                    dsimp only
                    rw [show 10 * (s / 10) = s from by omega]
                    exact hgt
              · have hs0 : s = 0 := (digs_len_zero (B := 1000000000) (by decide)).1 (by have := of_decide_eq_false h3; omega)
                have hfin : val a < (r + 1) ^ m := by
                  rcases hs with ⟨_, h⟩ | ⟨j, _, hsj, _⟩
                  · exact h
                  · have := Nat.pow_pos (n := j) (show 0 < 10 by omega); omega
                (conv => whnf)
                refine text_ok T.f46 hnr (by omega) fun h2 he2 => ?_
                (conv => whnf); (refine ⟨_, rfl, ?_⟩)
                exact hk _ _ (he.trans he2) ⟨hr, hfin⟩
            · show Value.slice none 0 0 = _
              rw [nv, digs_zero]; rfl
            · show Sl _ _ _ _
              rw [digs_zero]; exact Sl.nil _
            · dsimp only
              rw [Nat.zero_pow (by omega)]; omega
        · show nv (some ⟨h1.next, 0, none⟩) 1 1 = nv (some ⟨h1.next, 0, none⟩) 1 (10 ^ 0)
          rw [Nat.pow_zero]
end Go.Proofs.Ytpilfppdiifbjaa.Am

namespace Go.Proofs.Ytpilfppdiifbjaa.Am
open Go.Proofs.Ytpilfppdiifbjaa.Nt
variable {C : FuncId → Option AFn} {base : Cl} {n : Nat} {h : H} {K : Value → H → Prop}

def sumV : List (List UInt8) → Nat
  | [] => 0
  | a :: l => val a + sumV l
def prodV : List (List UInt8) → Nat
  | [] => 1
  | a :: l => val a * prodV l
theorem sumV_append : ∀ a b, sumV (a ++ b) = sumV a + sumV b
  | [], b => by simp [sumV]
  | x :: a, b => by simp only [List.cons_append, sumV, sumV_append a b]; omega
theorem prodV_append : ∀ a b, prodV (a ++ b) = prodV a * prodV b
  | [], b => by simp [prodV]
  | x :: a, b => by simp only [List.cons_append, prodV, prodV_append a b, Nat.mul_assoc]
theorem sumV_take (L : List (List UInt8)) (i : Nat) (h : i < L.length) : sumV (L.take (i + 1)) = sumV (L.take i) + val L[i] := by
  rw [List.take_succ_eq_append_getElem h, sumV_append]; simp [sumV]
theorem prodV_take (L : List (List UInt8)) (i : Nat) (h : i < L.length) : prodV (L.take (i + 1)) = prodV (L.take i) * val L[i] := by
  rw [List.take_succ_eq_append_getElem h, prodV_append]; simp [prodV]
theorem sumV_le (L : List (List UInt8)) (i : Nat) : sumV (L.take i) ≤ sumV L := by
  conv => rhs; rw [← List.take_append_drop i L, sumV_append]
  omega
theorem prodV_pos : ∀ {L : List (List UInt8)}, (∀ a ∈ L, val a ≠ 0) → 0 < prodV L
  | [], _ => by simp [prodV]
  | a :: l, h => by
    rw [prodV]
    exact Nat.mul_pos (by have := h a (List.mem_cons_self ..); omega) (prodV_pos fun b hb => h b (List.mem_cons_of_mem _ hb))
theorem prodV_le {L : List (List UInt8)} (h : ∀ a ∈ L, val a ≠ 0) (i : Nat) : prodV (L.take i) ≤ prodV L := by
  conv => rhs; rw [← List.take_append_drop i L, prodV_append]
  exact Nat.le_mul_of_pos_right _ (prodV_pos fun a ha => h a (List.mem_of_mem_drop ha))
theorem prodV_zero : ∀ {L : List (List UInt8)} {a : List UInt8}, a ∈ L → val a = 0 → prodV L = 0
  | b :: l, a, h, h0 => by
    rw [prodV]
    rcases List.mem_cons.1 h with rfl | h
    · rw [h0, Nat.zero_mul]
    · rw [prodV_zero h h0, Nat.mul_zero]
def sumR (L : List (List UInt8)) : List UInt8 × Int := if L.all right = true then told (sumV L) else ([], 3)
def prodR (L : List (List UInt8)) : List UInt8 × Int := if L.all right = true then told (prodV L) else ([], 3)
theorem all_right_false {L : List (List UInt8)} {i : Nat} (hi : i < L.length) (h : right L[i] = false) : ¬ L.all right = true := by
  intro ha
  have := List.all_eq_true.1 ha _ (List.getElem_mem hi)
  rw [h] at this; cases this
theorem all_right_true {L : List (List UInt8)} (h : ∀ i (hi : i < L.length), right L[i] = true) : L.all right = true := by
  rw [List.all_eq_true]
  intro a ha
  obtain ⟨i, hi, rfl⟩ := List.mem_iff_getElem.1 ha
  exact h i hi
theorem lt_of_dec {x : Nat} (h : (dec x).length ≤ 600) : x < 1000000000 ^ 67 := by
  exact Nat.lt_of_lt_of_le (lt_pow_dec x) (pow_le_B9 (by omega))

theorem Sum_ok (T : Tab C) {b : Option Addr} {c : Nat} {L : List (List UInt8)} (hs : Sl h b c (strs L)) (hL : L.length ≤ 140737488355328) (hk : ∀ h', Ext h h' → K (sv (sumR L)) h') : acall C base (n + 3) 21 [.slice b L.length c] h K := by
  refine acall_of T.f21 ?_
  (conv => whnf)
  refine loop_upd (X := Nat) (fun i => [(0, .slice b L.length c), (9, .slice b L.length c), (10, .int .i64 (L.length : Int)), (11, .int .i64 (i : Int))])
    (fun i h' => h' = h ∧ i ≤ L.length ∧ ∀ j (hj : j < L.length), j < i → right L[j] = true) (fun i => L.length - i) ?_ 0 _ _ ⟨rfl, rfl, rfl, rfl, trivial⟩ ⟨rfl, by simp, fun _ _ h => absurd h (by omega)⟩
  intro n i f h' ⟨he, hi, hr⟩ ih
  subst he
  (conv => whnf); (refine obool_intro (fun h1 => ?_) (fun h1 => ?_))
  · have h1' : i < L.length := by simp at h1; omega
    obtain ⟨bi, bo, rfl, _, hat⟩ := hs.allS (by omega)
    (conv => whnf)
    refine ⟨by omega, ?_⟩
    (conv => whnf)
    refine ⟨_, hat _ (Ext.refl _) _ i rfl h1', ?_⟩
    (conv => whnf)
    refine right_ok T.f18 _ ?_
    cases ha : right L[i] with
    | false =>
      rw [sumR, if_neg (all_right_false h1' ha)] at hk
      (conv => whnf); (refine ⟨_, rfl, ?_⟩)
      exact hk _ (Ext.refl _)
    | true =>
      (conv => whnf)
      refine ar_i64e (i + 1) (by omega) (by omega) ?_
      (conv => whnf)
      refine ih (i + 1) _ _ (by omega) ⟨rfl, rfl, rfl, rfl, trivial⟩ ⟨rfl, h1', fun j hj hji => ?_⟩
      by_cases e : j = i
      · subst e; exact ha
      · exact hr j hj (by omega)
  · have h1' : i = L.length := by simp at h1; omega
    subst h1'
    have hall := all_right_true fun i hi => hr i hi hi
    rw [sumR, if_pos hall] at hk
    (conv => whnf)
    refine loop_upd (X := Nat × Option Addr × Nat) (fun v => [(6, nv v.2.1 v.2.2 (sumV (L.take v.1))), (19, .slice b L.length c), (20, .int .i64 (L.length : Int)), (21, .int .i64 (v.1 : Int))])
      (fun v h2 => Ext h' h2 ∧ Nm h2 v.2.1 v.2.2 (sumV (L.take v.1)) ∧ v.1 ≤ L.length ∧ (dec (sumV (L.take v.1))).length ≤ 600) (fun v => L.length - v.1) ?_ ⟨0, none, 0⟩ _ _ ⟨?_, rfl, rfl, rfl, trivial⟩ ⟨Ext.refl _, ?_, by simp, ?_⟩
    · intro n ⟨i, b1, c1⟩ f h2 ⟨he, hn, hi, hd⟩ ih2
      dsimp only at ih2 hn hi hd ⊢
      have hlt := lt_of_dec hd
      (conv => whnf); (refine obool_intro (fun h2 => ?_) (fun h2 => ?_))
      · have h2' : i < L.length := by simp at h2; omega
        have ha := hr i h2' h2'
        have hla := right_lt ha
        obtain ⟨bi, bo, rfl, _, hat⟩ := hs.allS (by omega)
        (conv => whnf)
        refine ⟨by omega, ?_⟩
        (conv => whnf)
        refine ⟨_, hat _ he _ i rfl h2', ?_⟩
        (conv => whnf)
        refine read_ok T (right_dig ha) (by have := right_len600 ha; omega) fun h3 b3 c3 he3 hn3 => ?_
        (conv => whnf)
        refine add_ok T.f48 T.f45 (hn.ext he3) hn3 (by have := len_of_lt hlt; omega) (by have := len_of_lt hla; omega) fun h4 b4 c4 he4 hn4 => ?_
        rw [← sumV_take L i h2'] at hn4 ⊢
        have hl4 : (digs 1000000000 (sumV (L.take (i + 1)))).length ≤ 68 := by rw [sumV_take L i h2']; exact add_len hlt hla
        (conv => whnf)
        refine text_ok T.f46 hn4 (by omega) fun h5 he5 => ?_
        have he' := he.trans (he3.trans (he4.trans he5))
        (conv => whnf); (refine obool_intro (fun h6 => ?_) (fun h6 => ?_))
        · have h6' : 600 < (dec (sumV (L.take (i + 1)))).length := by have := of_decide_eq_true h6; simp at this; omega
          have := hk _ he'
          rw [told, if_neg (by have := dec_len_mono (sumV_le L (i + 1)); omega)] at this
          (conv => whnf); (refine ⟨_, rfl, ?_⟩)
          exact this
        · have h6' : (dec (sumV (L.take (i + 1)))).length ≤ 600 := by have := of_decide_eq_false h6; simp at this; omega
          (conv => whnf)
          refine ar_i64e (i + 1) (by omega) (by omega) ?_
          (conv => whnf)
          exact ih2 ⟨i + 1, b4, c4⟩ _ _ (by dsimp only; omega) ⟨rfl, rfl, rfl, rfl, trivial⟩ ⟨he', hn4.ext he5, h2', h6'⟩
      · have h2' : i = L.length := by simp at h2; omega
        subst h2'
        rw [List.take_length] at hn hd hlt
        (conv => whnf)
        rw [List.take_length]
        refine text_ok T.f46 hn (by have := len_of_lt hlt; omega) fun h5 he5 => ?_
        (conv => whnf); (refine ⟨_, rfl, ?_⟩)
        have := hk _ (he.trans he5)
        rw [told, if_pos hd] at this
        exact this
    · show Value.slice none 0 0 = _
      simp [nv, sumV, digs_zero]
    · show Sl _ _ _ _
      simp only [List.take_zero, sumV, digs_zero]; exact Sl.nil _
    · simp [sumV, dec_zero]

theorem val_zero_right {l : List UInt8} (hr : right l = true) : val l = 0 ↔ l = [48] := by
  constructor
  · intro h
    have := dec_right hr
    rw [h, dec_zero] at this
    exact this.symm
  · rintro rfl; rfl

theorem Prod_ok (T : Tab C) {b : Option Addr} {c : Nat} {L : List (List UInt8)} (hs : Sl h b c (strs L)) (hL : L.length ≤ 140737488355328) (hk : ∀ h', Ext h h' → K (sv (prodR L)) h') : acall C base (n + 3) 23 [.slice b L.length c] h K := by
  refine acall_of T.f23 ?_
  (conv => whnf)
  refine loop_upd (X := Nat) (fun i => [(0, .slice b L.length c), (4, .bool (decide (∃ a, a ∈ L.take i ∧ val a = 0))), (10, .slice b L.length c), (11, .int .i64 (L.length : Int)), (12, .int .i64 (i : Int))])
    (fun i h' => h' = h ∧ i ≤ L.length ∧ ∀ j (hj : j < L.length), j < i → right L[j] = true) (fun i => L.length - i) ?_ 0 _ _ ⟨rfl, ?_, rfl, rfl, rfl, trivial⟩ ⟨rfl, by simp, fun _ _ h => absurd h (by omega)⟩
  · intro n i f h' ⟨he, hi, hr⟩ ih
    subst he
    (conv => whnf); (refine obool_intro (fun h1 => ?_) (fun h1 => ?_))
    · have h1' : i < L.length := by simp at h1; omega
      obtain ⟨bi, bo, rfl, _, hat⟩ := hs.allS (by omega)
      (conv => whnf)
      refine ⟨by omega, ?_⟩
      (conv => whnf)
      refine ⟨_, hat _ (Ext.refl _) _ i rfl h1', ?_⟩
      (conv => whnf)
      refine right_ok T.f18 _ ?_
      cases ha : right L[i] with
      | false =>
        rw [prodR, if_neg (all_right_false h1' ha)] at hk
        (conv => whnf); (refine ⟨_, rfl, ?_⟩)
        exact hk _ (Ext.refl _)
      | true =>
        have hstep : ∀ j (hj : j < L.length), j < i + 1 → right L[j] = true := by
          intro j hj hji
          by_cases e : j = i
          · subst e; exact ha
          · exact hr j hj (by omega)
        have hmem : (∃ a, a ∈ L.take (i + 1) ∧ val a = 0) ↔ ((∃ a, a ∈ L.take i ∧ val a = 0) ∨ val L[i] = 0) := by
          rw [List.take_succ_eq_append_getElem h1']
          constructor
          · rintro ⟨a, ha, h0⟩
            rcases List.mem_append.1 ha with ha | ha
            · exact .inl ⟨a, ha, h0⟩
            · rw [List.mem_singleton.1 ha] at h0; exact .inr h0
          · rintro (⟨a, ha, h0⟩ | h0)
            · exact ⟨a, List.mem_append_left _ ha, h0⟩
            · exact ⟨_, List.mem_append_right _ (List.mem_singleton.2 rfl), h0⟩
        (conv => whnf); (refine obool_intro (fun h2 => ?_) (fun h2 => ?_))
        · have h2' := of_decide_eq_true h2
          (conv => whnf)
          refine ar_i64e (i + 1) (by omega) (by omega) ?_
          (conv => whnf)
          refine ih (i + 1) _ _ (by omega) ⟨rfl, ?_, rfl, rfl, rfl, trivial⟩ ⟨rfl, h1', hstep⟩
          show Value.bool true = _
          rw [decide_eq_true (hmem.2 (.inl h2'))]
        · have h2' := of_decide_eq_false h2
          (conv => whnf)
          refine ar_i64e (i + 1) (by omega) (by omega) ?_
          (conv => whnf)
          refine ih (i + 1) _ _ (by omega) ⟨rfl, ?_, rfl, rfl, rfl, trivial⟩ ⟨rfl, h1', hstep⟩
          show Value.bool ((bs L[i]).toList == (bs [48]).toList) = _
          rw [bs_toList, bs_toList]
          congr 1
          by_cases h0 : val L[i] = 0
          · rw [(val_zero_right ha).1 h0, decide_eq_true (hmem.2 (.inr h0))]; rfl
          · rw [decide_eq_false (fun hh => by rcases hmem.1 hh with hh | hh; exact h2' hh; exact h0 hh)]
            apply beq_false_of_ne
            exact fun e => h0 ((val_zero_right ha).2 e)
    · have h1' : i = L.length := by simp at h1; omega
      subst h1'
      have hall := all_right_true fun i hi => hr i hi hi
      rw [prodR, if_pos hall] at hk
      rw [List.take_length]
      (conv => whnf); (refine obool_intro (fun h2 => ?_) (fun h2 => ?_))
      · obtain ⟨a, ha, h0⟩ := of_decide_eq_true h2
        rw [prodV_zero ha h0] at hk
        (conv => whnf); (refine ⟨_, rfl, ?_⟩)
        exact hk _ (Ext.refl _)
      · have h2' := of_decide_eq_false h2
        have hne : ∀ a ∈ L, val a ≠ 0 := fun a ha h0 => h2' ⟨a, ha, h0⟩
        have e1 : (digs 1000000000 1).length = 1 := by rw [digs_one (by decide) (by decide)]; rfl
        have n1 : Nm (h'.push (.cells [Value.int .u32 1] 53 true false)) (some ⟨h'.next, 0, none⟩) 1 1 := one_nm (v := 1) (by decide) (by decide) h'
        (conv => whnf)
        refine ⟨_, rfl, ?_⟩
        rw [show Value.slice (some ⟨h'.next, 0, none⟩) 1 1 = nv (some ⟨h'.next, 0, none⟩) 1 1 from by rw [nv, e1]]
        (conv => whnf)
        refine loop_upd (X := Nat × Option Addr × Nat) (fun v => [(7, nv v.2.1 v.2.2 (prodV (L.take v.1))), (27, .slice b L.length c), (28, .int .i64 (L.length : Int)), (29, .int .i64 (v.1 : Int))])
          (fun v h2 => Ext h' h2 ∧ Nm h2 v.2.1 v.2.2 (prodV (L.take v.1)) ∧ v.1 ≤ L.length ∧ (dec (prodV (L.take v.1))).length ≤ 600) (fun v => L.length - v.1) ?_ ⟨0, some ⟨h'.next, 0, none⟩, 1⟩ _ _ ⟨?_, rfl, rfl, rfl, trivial⟩ ⟨(Ext.refl _).push _, ?_, by simp, ?_⟩
        · intro n ⟨i, b1, c1⟩ f h2 ⟨he, hn, hi, hd⟩ ih2
          dsimp only at ih2 hn hi hd ⊢
          have hlt := lt_of_dec hd
          (conv => whnf); (refine obool_intro (fun h2 => ?_) (fun h2 => ?_))
          · have h2' : i < L.length := by simp at h2; omega
            have ha := hr i h2' h2'
            have hla := right_lt ha
            obtain ⟨bi, bo, rfl, _, hat⟩ := hs.allS (by omega)
            (conv => whnf)
            refine ⟨by omega, ?_⟩
            (conv => whnf)
            refine ⟨_, hat _ he _ i rfl h2', ?_⟩
            (conv => whnf)
            refine read_ok T (right_dig ha) (by have := right_len600 ha; omega) fun h3 b3 c3 he3 hn3 => ?_
            (conv => whnf)
            refine mul_ok T.f53 T.f45 (hn.ext he3) hn3 (by have := len_of_lt hlt; omega) (by have := len_of_lt hla; omega) fun h4 b4 c4 he4 hn4 => ?_
            rw [← prodV_take L i h2'] at hn4 ⊢
            have hl4 : (digs 1000000000 (prodV (L.take (i + 1)))).length ≤ 134 := by rw [prodV_take L i h2']; exact mul_len hlt hla
            (conv => whnf)
            refine text_ok T.f46 hn4 (by omega) fun h5 he5 => ?_
            have he' := he.trans (he3.trans (he4.trans he5))
            (conv => whnf); (refine obool_intro (fun h6 => ?_) (fun h6 => ?_))
            · have h6' : 600 < (dec (prodV (L.take (i + 1)))).length := by have := of_decide_eq_true h6; simp at this; omega
              have := hk _ he'
              rw [told, if_neg (by have := dec_len_mono (prodV_le hne (i + 1)); omega)] at this
              (conv => whnf); (refine ⟨_, rfl, ?_⟩)
              exact this
            · have h6' : (dec (prodV (L.take (i + 1)))).length ≤ 600 := by have := of_decide_eq_false h6; simp at this; omega
              (conv => whnf)
              refine ar_i64e (i + 1) (by omega) (by omega) ?_
              (conv => whnf)
              exact ih2 ⟨i + 1, b4, c4⟩ _ _ (by dsimp only; omega) ⟨rfl, rfl, rfl, rfl, trivial⟩ ⟨he', hn4.ext he5, h2', h6'⟩
          · have h2' : i = L.length := by simp at h2; omega
            subst h2'
            rw [List.take_length] at hn hd hlt
            (conv => whnf)
            rw [List.take_length]
            refine text_ok T.f46 hn (by have := len_of_lt hlt; omega) fun h5 he5 => ?_
            (conv => whnf); (refine ⟨_, rfl, ?_⟩)
            have := hk _ (he.trans he5)
            rw [told, if_pos hd] at this
            exact this
        · rfl
        · exact n1
        · show (dec 1).length ≤ 600
          exact dec_le10 (by decide) (by decide)
  · show Value.bool false = _
    rw [decide_eq_false]
    rintro ⟨a, ha, _⟩
    simp at ha
end Go.Proofs.Ytpilfppdiifbjaa.Am
