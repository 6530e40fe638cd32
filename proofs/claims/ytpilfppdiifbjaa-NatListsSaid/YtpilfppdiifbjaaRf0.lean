/- What the functions of the document answer compute: sums, differences, products. -/
import Derived.Test.YtpilfppdiifbjaaNt1
set_option linter.unusedVariables false
set_option linter.unusedSimpArgs false
set_option maxRecDepth 100000
namespace Go.Proofs.Ytpilfppdiifbjaa.Am
open Go.Proofs.Ytpilfppdiifbjaa.Nt
variable {C : FuncId → Option AFn} {base : Cl} {n : Nat} {h : H} {K : Value → H → Prop}

def Ni (h : H) (b : Option Addr) (c x : Nat) : Prop := Sl h b c (i64s (digs 10000 x))
abbrev niv (b : Option Addr) (c x : Nat) : Value := .slice b (digs 10000 x).length c
theorem Ni.ext {h h' : H} {b : Option Addr} {c x : Nat} (m : Ni h b c x) (e : Ext h h') : Ni h' b c x := Sl.ext m e
theorem tmod4 (a : Nat) : Int.tmod (a : Int) 10000 = ((a % 10000 : Nat) : Int) := rfl
theorem tdiv4 (a : Nat) : Int.tdiv (a : Int) 10000 = ((a / 10000 : Nat) : Int) := rfl

theorem natural_false_dig {l : List UInt8} {i : Nat} (hi : i < l.length) (h : isDig l[i] = false) : natural l = false := by
  cases hr : natural l with
  | false => rfl
  | true =>
    have := List.all_eq_true.1 (natural_all hr) l[i] (List.getElem_mem hi)
    rw [this] at h; cases h
theorem natural_false_lead {l : List UInt8} (h1 : 1 < l.length) (h : l[0] = 48) : natural l = false := by
  unfold natural
  have : l[0]? = some 48 := by rw [List.getElem?_eq_getElem (by omega), h]
  simp [this, h1]
theorem natural_true {l : List UInt8} (h0 : l ≠ []) (h2 : ¬ (l[0]? = some 48 ∧ 1 < l.length)) (h3 : ∀ i (h : i < l.length), isDig l[i] = true) : natural l = true := by
  unfold natural
  simp only [Bool.and_eq_true, decide_eq_true_eq, Bool.not_eq_true', Bool.and_eq_false_iff, decide_eq_false_iff_not, List.all_eq_true]
  refine ⟨⟨h0, ?_⟩, ?_⟩
  · by_cases h : l[0]? = some 48
    · exact .inl fun h' => h2 ⟨h, h'⟩
    · exact .inr h
  · intro c hc
    obtain ⟨i, hi, rfl⟩ := List.mem_iff_getElem.1 hc
    exact h3 i hi
theorem natural_ok (T : Tab C) (l : List UInt8) (hL : l.length ≤ 1099511627776) (hk : K (.bool (natural l)) h) : acall C base (n + 1) 47 [.string (bs l)] h K := by
  refine acall_of T.f47 ?_
  (conv => whnf); (refine obool_intro (fun h1 => ?_) (fun h1 => ?_))
  · have : l = [] := by rw [bs_toList] at h1; simpa using eq_of_beq h1
    subst this
    (conv => whnf); (refine ⟨_, rfl, ?_⟩); exact hk
  have h0 : l ≠ [] := by intro e; subst e; rw [bs_toList] at h1; simp at h1
  have hpos : 0 < l.length := List.length_pos_iff.2 h0
  have hb : byteAt (bs l) 0 = l[0].toNat := bs_byteAt_lt hpos
  (conv => whnf)
  refine ⟨by simp; omega, ?_⟩
  (conv => whnf); (refine obool_intro (fun h3 => ?_) (fun h3 => ?_))
  · (conv => whnf); (refine obool_intro (fun h4 => ?_) (fun h4 => ?_))
    · (conv => whnf); (refine ⟨_, rfl, ?_⟩)
      have h4' : 1 < l.length := by simp at h4; omega
      rw [natural_false_lead h4' (by simp [hb] at h3; exact UInt8.toNat_inj.1 (by simp; omega))] at hk; exact hk
    have h5 : ¬ (l[0]? = some 48 ∧ 1 < l.length) := by simp at h4; omega
    (conv => whnf)
    refine loop_upd (X := Nat) (fun i => [(0, .string (bs l)), (3, .int .i64 i)]) (fun i h' => h' = h ∧ i ≤ l.length ∧ ∀ j (hj : j < l.length), j < i → isDig l[j] = true) (fun i => l.length - i) ?_ 0 _ _ ⟨rfl, rfl, trivial⟩ ⟨rfl, Nat.zero_le _, fun _ _ h => absurd h (by omega)⟩
    intro n i f h' ⟨he, hi, hd⟩ ih
    subst he
    (conv => whnf); (refine obool_intro (fun h6 => ?_) (fun h6 => ?_))
    · have hi' : i < l.length := by simpa using h6
      (conv => whnf)
      refine ⟨by simp; omega, ?_⟩
      have hb : byteAt (bs l) i = l[i].toNat := bs_byteAt_lt hi'
      (conv => whnf); (refine obool_intro (fun h7 => ?_) (fun h7 => ?_))
      · (conv => whnf); (refine ⟨_, rfl, ?_⟩)
        rw [natural_false_dig hi' (by unfold isDig; simp [hb] at h7 ⊢; omega)] at hk; exact hk
      · (conv => whnf)
        refine ⟨by simp; omega, ?_⟩
        (conv => whnf); (refine obool_intro (fun h8 => ?_) (fun h8 => ?_))
        · (conv => whnf); (refine ⟨_, rfl, ?_⟩)
          rw [natural_false_dig hi' (by unfold isDig; simp [hb] at h7 h8 ⊢; omega)] at hk; exact hk
        · (conv => whnf)
          refine ar_i64e (i + 1) (by omega) (by omega) ?_
          (conv => whnf)
          refine ih (i + 1) _ _ (by omega) ⟨rfl, rfl, trivial⟩ ⟨rfl, hi', fun j hj hji => ?_⟩
          by_cases hj' : j = i
          · subst hj'; unfold isDig; simp [hb] at h7 h8 ⊢; omega
          · exact hd j hj (by omega)
    · have hi' : i = l.length := by simp at h6; omega
      subst hi'
      (conv => whnf); (refine ⟨_, rfl, ?_⟩)
      rw [natural_true h0 h5 (fun i hi => hd i hi hi)] at hk; exact hk
  have h5 : ¬ (l[0]? = some 48 ∧ 1 < l.length) := by
    rintro ⟨h, -⟩
    rw [List.getElem?_eq_getElem hpos, Option.some.injEq] at h
    simp [hb, h] at h3
  (conv => whnf)
  refine loop_upd (X := Nat) (fun i => [(0, .string (bs l)), (3, .int .i64 i)]) (fun i h' => h' = h ∧ i ≤ l.length ∧ ∀ j (hj : j < l.length), j < i → isDig l[j] = true) (fun i => l.length - i) ?_ 0 _ _ ⟨rfl, rfl, trivial⟩ ⟨rfl, Nat.zero_le _, fun _ _ h => absurd h (by omega)⟩
  intro n i f h' ⟨he, hi, hd⟩ ih
  subst he
  (conv => whnf); (refine obool_intro (fun h6 => ?_) (fun h6 => ?_))
  · have hi' : i < l.length := by simpa using h6
    (conv => whnf)
    refine ⟨by simp; omega, ?_⟩
    have hb : byteAt (bs l) i = l[i].toNat := bs_byteAt_lt hi'
    (conv => whnf); (refine obool_intro (fun h7 => ?_) (fun h7 => ?_))
    · (conv => whnf); (refine ⟨_, rfl, ?_⟩)
      rw [natural_false_dig hi' (by unfold isDig; simp [hb] at h7 ⊢; omega)] at hk; exact hk
    · (conv => whnf)
      refine ⟨by simp; omega, ?_⟩
      (conv => whnf); (refine obool_intro (fun h8 => ?_) (fun h8 => ?_))
      · (conv => whnf); (refine ⟨_, rfl, ?_⟩)
        rw [natural_false_dig hi' (by unfold isDig; simp [hb] at h7 h8 ⊢; omega)] at hk; exact hk
      · (conv => whnf)
        refine ar_i64e (i + 1) (by omega) (by omega) ?_
        (conv => whnf)
        refine ih (i + 1) _ _ (by omega) ⟨rfl, rfl, trivial⟩ ⟨rfl, hi', fun j hj hji => ?_⟩
        by_cases hj' : j = i
        · subst hj'; unfold isDig; simp [hb] at h7 h8 ⊢; omega
        · exact hd j hj (by omega)
  · have hi' : i = l.length := by simp at h6; omega
    subst hi'
    (conv => whnf); (refine ⟨_, rfl, ?_⟩)
    rw [natural_true h0 h5 (fun i hi => hd i hi hi)] at hk; exact hk

theorem RRight_ok (T : Tab C) (l : List UInt8) (hk : K (.bool (right l)) h) : acall C base (n + 2) 17 [.string (bs l)] h K := by
  refine acall_of T.f17 ?_
  (conv => whnf); (refine obool_intro (fun h1 => ?_) (fun h1 => ?_))
  · have h1' : l.length ≤ 600 := by have := of_decide_eq_true h1; simp at this; omega
    (conv => whnf)
    refine natural_ok T l (by omega) ?_
    (conv => whnf); (refine ⟨_, rfl, ?_⟩)
    rw [right, decide_eq_true h1', Bool.true_and] at hk
    exact hk
  · have h1' : ¬ l.length ≤ 600 := by have := of_decide_eq_false h1; simp at this; omega
    (conv => whnf); (refine ⟨_, rfl, ?_⟩)
    rw [right, decide_eq_false h1', Bool.false_and] at hk
    exact hk

theorem itrim_ok (T : Tab C) {b : Option Addr} {c : Nat} {l : List Nat} (hs : Sl h b c (i64s l)) (hl : ∀ d ∈ l, d < 10000) (hL : l.length ≤ 1099511627776)
    (hk : Ni h b c (ofD 10000 l) → K (niv b c (ofD 10000 l)) h) : acall C base (n + 1) 70 [.slice b l.length c] h K := by
  refine acall_of T.f70 ?_
  (conv => whnf)
  refine loop_upd (X := Nat) (fun k => [(0, .slice b k c)]) (fun k h' => h' = h ∧ k ≤ l.length ∧ ∀ i (hi : i < l.length), k ≤ i → l[i] = 0) (fun k => k) ?_ l.length _ _ ⟨rfl, trivial⟩ ⟨rfl, Nat.le_refl _, fun _ _ _ => by omega⟩
  intro n k f h' ⟨he, hkl, hz⟩ ih
  subst he
  (conv => whnf); (refine obool_intro (fun h1 => ?_) (fun h1 => ?_))
  · have h1' : 0 < k := by simp at h1; omega
    obtain ⟨i, o, rfl, hi, hat⟩ := hs.all64 (by omega)
    (conv => whnf)
    (refine ar_i64 (by omega) ?_); (conv => whnf)
    refine ⟨by omega, ?_⟩
    (conv => whnf)
    refine ⟨_, hat _ (Ext.refl _) _ (k - 1) (by omega) (by omega), ?_⟩
    (conv => whnf); (refine obool_intro (fun h2 => ?_) (fun h2 => ?_))
    · have h2' : l[k - 1] = 0 := by simp at h2; omega
      (conv => whnf)
      (refine ar_i64 (by omega) ?_); (conv => whnf)
      refine ⟨by have := hs.cap; simp at this; omega, ?_⟩
      (conv => whnf)
      refine ih (k - 1) _ _ (by omega) ⟨?_, trivial⟩ ⟨rfl, by omega, fun j hj hkj => ?_⟩
      · show Value.slice _ _ _ = Value.slice _ _ _
        congr 1; omega
      · by_cases hjk : j = k - 1
        · subst hjk; exact h2'
        · exact hz j hj (by omega)
    · have h2' : l[k - 1] ≠ 0 := by simp at h2; omega
      (conv => whnf); (refine ⟨_, rfl, ?_⟩)
      have e := digs_take (B := 10000) (by decide) hl hkl hz (fun _ _ => h2')
      have el : (digs 10000 (ofD 10000 l)).length = k := by rw [e, List.length_take]; omega
      have := hk (by unfold Ni; rw [e, ← i64s_take]; exact hs.take k)
      rw [niv, el] at this; exact this
  · have h1' : k = 0 := by simp at h1; omega
    subst h1'
    (conv => whnf); (refine ⟨_, rfl, ?_⟩)
    have e := digs_take (B := 10000) (by decide) hl hkl hz (fun _ h => absurd h (by omega))
    have el : (digs 10000 (ofD 10000 l)).length = 0 := by rw [e]; rfl
    have := hk (by unfold Ni; rw [e, ← i64s_take]; exact hs.take 0)
    rw [niv, el] at this; exact this

theorem limbs_own (T : Tab C) {l : List UInt8} (ha : l.all isDig = true) (hL : l.length ≤ 1099511627776)
    (hk : ∀ h' b c r, Grow 3 h h' b c (i64s r) → Ni h' b c (val l) → K (niv b c (val l)) h') : acall C base (n + 2) 68 [.string (bs l)] h K := by
  refine acall_of T.f68 ?_
  (conv => whnf)
  refine loop_upd (X := Option Addr × Nat × List Nat) (fun v => [(0, .string (bs l)), (3, .slice v.1 v.2.2.length v.2.1), (4, .int .i64 ((l.length : Int) - 4 * (v.2.2.length : Int)))])
    (fun v h' => Grow 3 h h' v.1 v.2.1 (i64s v.2.2) ∧ (∀ d ∈ v.2.2, d < 10000) ∧ 4 * v.2.2.length < l.length + 4 ∧ ofD 10000 v.2.2 = val (l.drop (l.length - 4 * v.2.2.length)))
    (fun v => l.length + 4 - 4 * v.2.2.length) ?_ ⟨none, 0, []⟩ _ _ ⟨rfl, rfl, ?_, trivial⟩ ⟨Grow.nil _ (Ext.refl _), by simp, by simp, by simp [ofD, val]⟩
  · intro n ⟨b1, c1, r⟩ f h' ⟨hg, hr, hq, hs⟩ ih
    dsimp only at ih hg hr hq hs ⊢
    (conv => whnf); (refine obool_intro (fun h2 => ?_) (fun h2 => ?_))
    · have h2' : 4 * r.length < l.length := by simp at h2; omega
      obtain ⟨e, he⟩ : ∃ e, e = l.length - 4 * r.length := ⟨_, rfl⟩
      obtain ⟨ch, hch⟩ : ∃ ch, ch = (l.drop (e - 4)).take (e - (e - 4)) := ⟨_, rfl⟩
      have hcl : ch.length = e - (e - 4) := by rw [hch, List.length_take, List.length_drop]; omega
      have hca : ch.all isDig = true := by rw [hch]; exact all_take (all_drop ha _) _
      have hcg : ∀ k (hk : k < ch.length), ch[k] = l[e - 4 + k]'(by omega) := by
        intro k hk
        simp only [hch, List.getElem_take, List.getElem_drop]
      (conv => whnf)
      refine ar_i64i ((e : Int) - 4) (by omega) (by omega) ?_
      (conv => whnf); (refine obool_intro (fun h5 => ?_) (fun h5 => ?_))
      · have h5' : e < 4 := by have := of_decide_eq_true h5; omega
        (conv => whnf)
        refine loop_upd (X := Nat) (fun k => [(0, .string (bs l)), (3, .slice b1 r.length c1), (4, .int .i64 ((l.length : Int) - 4 * (r.length : Int))), (6, .int .i64 (val (ch.take k) : Int)), (7, .int .i64 ((e - 4 + k : Nat) : Int))])
          (fun k h'' => h'' = h' ∧ k ≤ ch.length) (fun k => ch.length - k) ?_ 0 _ _ ⟨rfl, rfl, rfl, ?_, ?_, trivial⟩ ⟨rfl, by simp⟩
        · intro n k f h'' ⟨he2, hk2⟩ ih2
          subst he2
          have hv := val_take_lt hca k
          (conv => whnf); (refine obool_intro (fun h3 => ?_) (fun h3 => ?_))
          · have h3' : k < ch.length := by have := of_decide_eq_true h3; omega
            have hv9 : val (ch.take k) < 1000 := Nat.lt_of_lt_of_le hv (show 10 ^ k ≤ 10 ^ 3 from Nat.pow_le_pow_right (by omega) (by omega))
            have hd := isDig_toNat (all_get hca h3')
            have hd9 := dv_lt (all_get hca h3')
            have hst := val_take_succ ch k h3'
            have hb : byteAt (bs l) (e - 4 + k) = ch[k].toNat := by rw [hcg k h3']; exact bs_byteAt_lt _
            (conv => whnf)
            refine ar_i64e (10 * val (ch.take k)) (by omega) (by omega) ?_
            (conv => whnf)
            refine ⟨by simp; omega, ?_⟩
            rw [show byteAt (bs l) (Int.toNat ((e - 4 + k : Nat) : Int)) = ch[k].toNat from hb]
            (conv => whnf)
            refine ar_u8e (dv ch[k]) (by omega) (by omega) ?_
            (conv => whnf)
            refine ar_i64e (dv ch[k]) rfl (by omega) ?_
            (conv => whnf)
            refine ar_i64e (val (ch.take (k + 1))) (by omega) (by omega) ?_
            (conv => whnf)
            refine ar_i64e (e - 4 + (k + 1)) (by omega) (by omega) ?_
            (conv => whnf)
            exact ih2 (k + 1) _ _ (by omega) ⟨rfl, rfl, rfl, rfl, rfl, trivial⟩ ⟨rfl, h3'⟩
          · have h3' : k = ch.length := by have := of_decide_eq_false h3; omega
            subst h3'
            rw [List.take_length]
            have hv9 : val ch < 10000 := Nat.lt_of_lt_of_le (val_lt hca) (show 10 ^ ch.length ≤ 10 ^ 4 from Nat.pow_le_pow_right (by omega) (by omega))
            obtain ⟨p, hp, hp1, hg'⟩ := hg.one (m := r.length) (by simp) (.int .i64 (val ch : Int))
            (conv => whnf)
            refine ⟨_, rfl, ?_⟩
            (conv => whnf)
            refine ⟨1, rfl, _, src_lit _ _ _, fun hle => absurd hle (by have := hg.cap; simp at this; omega), fun _ => ⟨by omega, p, hp, ?_⟩⟩
            (conv => whnf)
            refine ar_i64i ((l.length : Int) - 4 * ((r.length + 1 : Nat) : Int)) (by omega) (by omega) ?_
            (conv => whnf)
            rw [show i64s r ++ [Value.int .i64 (val ch : Int)] = i64s (r ++ [val ch]) from i64s_app r [val ch]] at hg'
            refine ih ⟨some ⟨h''.next + 1, 0, none⟩, r.length + 1, r ++ [val ch]⟩ _ _ ?_ ⟨rfl, ?_, ?_, trivial⟩ ⟨hg', ?_, ?_, ?_⟩
            · simp; omega
            · show Value.slice (some ⟨h''.next + 1, 0, none⟩) (r.length + 1) (r.length + 1) = _
              simp
            · show Value.int _ ((l.length : Int) - 4 * ((r.length + 1 : Nat) : Int)) = _
              simp
            · intro d hd
              rcases List.mem_append.1 hd with hd | hd
              · exact hr d hd
              · rw [List.mem_singleton.1 hd]; exact hv9
            · simp; omega
            · dsimp only
              have e1 := val_cut l (a := e - 4) (e := e) (by omega) (by omega)
              rw [ofD_snoc, hs, ← he, List.length_append, List.length_singleton, show l.length - 4 * (r.length + 1) = e - 4 from by omega, e1, ← hch, show l.length - e = 4 * r.length from by omega, Nat.pow_mul, show (10 : Nat) ^ 4 = 10000 from rfl]
              omega
        · show Value.int .i64 0 = _
          simp [val]
        · show Value.int _ _ = Value.int _ _
          congr 1; omega
      · have h5' : 4 ≤ e := by have := of_decide_eq_false h5; omega
        (conv => whnf)
        refine loop_upd (X := Nat) (fun k => [(0, .string (bs l)), (3, .slice b1 r.length c1), (4, .int .i64 ((l.length : Int) - 4 * (r.length : Int))), (6, .int .i64 (val (ch.take k) : Int)), (7, .int .i64 ((e - 4 + k : Nat) : Int))])
          (fun k h'' => h'' = h' ∧ k ≤ ch.length) (fun k => ch.length - k) ?_ 0 _ _ ⟨rfl, rfl, rfl, ?_, ?_, trivial⟩ ⟨rfl, by simp⟩
        · intro n k f h'' ⟨he2, hk2⟩ ih2
          subst he2
          have hv := val_take_lt hca k
          (conv => whnf); (refine obool_intro (fun h3 => ?_) (fun h3 => ?_))
          · have h3' : k < ch.length := by have := of_decide_eq_true h3; omega
            have hv9 : val (ch.take k) < 1000 := Nat.lt_of_lt_of_le hv (show 10 ^ k ≤ 10 ^ 3 from Nat.pow_le_pow_right (by omega) (by omega))
            have hd := isDig_toNat (all_get hca h3')
            have hd9 := dv_lt (all_get hca h3')
            have hst := val_take_succ ch k h3'
            have hb : byteAt (bs l) (e - 4 + k) = ch[k].toNat := by rw [hcg k h3']; exact bs_byteAt_lt _
            (conv => whnf)
            refine ar_i64e (10 * val (ch.take k)) (by omega) (by omega) ?_
            (conv => whnf)
            refine ⟨by simp; omega, ?_⟩
            rw [show byteAt (bs l) (Int.toNat ((e - 4 + k : Nat) : Int)) = ch[k].toNat from hb]
            (conv => whnf)
            refine ar_u8e (dv ch[k]) (by omega) (by omega) ?_
            (conv => whnf)
            refine ar_i64e (dv ch[k]) rfl (by omega) ?_
            (conv => whnf)
            refine ar_i64e (val (ch.take (k + 1))) (by omega) (by omega) ?_
            (conv => whnf)
            refine ar_i64e (e - 4 + (k + 1)) (by omega) (by omega) ?_
            (conv => whnf)
            exact ih2 (k + 1) _ _ (by omega) ⟨rfl, rfl, rfl, rfl, rfl, trivial⟩ ⟨rfl, h3'⟩
          · have h3' : k = ch.length := by have := of_decide_eq_false h3; omega
            subst h3'
            rw [List.take_length]
            have hv9 : val ch < 10000 := Nat.lt_of_lt_of_le (val_lt hca) (show 10 ^ ch.length ≤ 10 ^ 4 from Nat.pow_le_pow_right (by omega) (by omega))
            obtain ⟨p, hp, hp1, hg'⟩ := hg.one (m := r.length) (by simp) (.int .i64 (val ch : Int))
            (conv => whnf)
            refine ⟨_, rfl, ?_⟩
            (conv => whnf)
            refine ⟨1, rfl, _, src_lit _ _ _, fun hle => absurd hle (by have := hg.cap; simp at this; omega), fun _ => ⟨by omega, p, hp, ?_⟩⟩
            (conv => whnf)
            refine ar_i64i ((l.length : Int) - 4 * ((r.length + 1 : Nat) : Int)) (by omega) (by omega) ?_
            (conv => whnf)
            rw [show i64s r ++ [Value.int .i64 (val ch : Int)] = i64s (r ++ [val ch]) from i64s_app r [val ch]] at hg'
            refine ih ⟨some ⟨h''.next + 1, 0, none⟩, r.length + 1, r ++ [val ch]⟩ _ _ ?_ ⟨rfl, ?_, ?_, trivial⟩ ⟨hg', ?_, ?_, ?_⟩
            · simp; omega
            · show Value.slice (some ⟨h''.next + 1, 0, none⟩) (r.length + 1) (r.length + 1) = _
              simp
            · show Value.int _ ((l.length : Int) - 4 * ((r.length + 1 : Nat) : Int)) = _
              simp
            · intro d hd
              rcases List.mem_append.1 hd with hd | hd
              · exact hr d hd
              · rw [List.mem_singleton.1 hd]; exact hv9
            · simp; omega
            · dsimp only
              have e1 := val_cut l (a := e - 4) (e := e) (by omega) (by omega)
              rw [ofD_snoc, hs, ← he, List.length_append, List.length_singleton, show l.length - 4 * (r.length + 1) = e - 4 from by omega, e1, ← hch, show l.length - e = 4 * r.length from by omega, Nat.pow_mul, show (10 : Nat) ^ 4 = 10000 from rfl]
              omega
        · show Value.int .i64 0 = _
          simp [val]
        · show Value.int _ _ = Value.int _ _
          congr 1; omega
    · have h2' : l.length ≤ 4 * r.length := by simp at h2; omega
      rw [show l.length - 4 * r.length = 0 from by omega, List.drop_zero] at hs
      (conv => whnf)
      refine itrim_ok T hg.sl hr (by omega) fun hn => ?_
      rw [hs] at hn ⊢
      (conv => whnf); (refine ⟨_, rfl, ?_⟩)
      exact hk _ _ _ _ hg hn
  · show Value.int _ _ = Value.int _ _
    simp
theorem limbs_ok (T : Tab C) {l : List UInt8} (ha : l.all isDig = true) (hL : l.length ≤ 1099511627776)
    (hk : ∀ h' b c, Ext h h' → Ni h' b c (val l) → K (niv b c (val l)) h') : acall C base (n + 2) 68 [.string (bs l)] h K :=
  limbs_own T ha hL fun h' b c r hg hn => hk h' b c hg.e hn
theorem limbs_dec (T : Tab C) {x : Nat} (hL : (dec x).length ≤ 1099511627776)
    (hk : ∀ h' b c, Ext h h' → Ni h' b c x → K (niv b c x) h') : acall C base (n + 2) 68 [.string (bs (dec x))] h K :=
  limbs_ok T (natural_all (natural_dec x)) hL fun h' b c he hn => by rw [val_dec] at hn ⊢; exact hk h' b c he hn
theorem i64s_inj : ∀ {a b : List Nat}, i64s a = i64s b → a = b
  | [], [], _ => rfl
  | [], _ :: _, h => by simp [i64s] at h
  | _ :: _, [], h => by simp [i64s] at h
  | a :: l, b :: r, h => by
    simp only [i64s, List.map_cons, List.cons.injEq, Value.int.injEq, true_and] at h
    rw [i64s_inj (a := l) (b := r) h.2]
    congr 1; omega
/-- A number that lies in a block of one's own. -/
theorem Ni.own {h : H} {j c x : Nat} {r : List Nat} {t : TypeId} {op : Bool} (hn : Ni h (some ⟨j, 0, none⟩) c x) (ho : Own h j (i64s r) t op) : (digs 10000 x).length ≤ r.length ∧ r.take (digs 10000 x).length = digs 10000 x := by
  rcases hn with ⟨hb, _⟩ | ⟨i, o, all, t', own, opn, hb, hc, hi, hg, hl, ht⟩
  · cases hb
  · injection hb with hb
    injection hb with h1 h2 h3
    subst h1 h2
    rw [ho.2] at hg
    injection hg with hg
    injection hg with h4 h5 h6 h7
    subst h4
    simp only [i64s_length, List.drop_zero, Nat.zero_add] at hl ht
    refine ⟨hl, i64s_inj ?_⟩
    rw [← i64s_take]; exact ht
theorem limbs_dec_own (T : Tab C) {x : Nat} (hL : (dec x).length ≤ 1099511627776)
    (hk : ∀ h' b c, Ext h h' → Ni h' b c x → (x ≠ 0 → ∃ j r, b = some ⟨j, 0, none⟩ ∧ h.next ≤ j ∧ Own h' j (i64s r) 3 true ∧ r = digs 10000 x ++ r.drop (digs 10000 x).length ∧ c = r.length) → K (niv b c x) h') : acall C base (n + 2) 68 [.string (bs (dec x))] h K :=
  limbs_own T (natural_all (natural_dec x)) hL fun h' b c r hg hn => by
    rw [val_dec] at hn ⊢
    refine hk h' b c hg.e hn fun hx => ?_
    have hcap := hg.cap
    rcases hg.2 with ⟨rfl, rfl, hr⟩ | ⟨j, rfl, rfl, hj, ho⟩
    · exfalso
      rcases hn with ⟨_, _, h3⟩ | ⟨i, o, all, t', own, opn, hb, _⟩
      · have : digs 10000 x = [] := i64s_inj h3
        exact hx ((digs_nil (by decide)).1 this)
      · cases hb
    · have := hn.own ho
      refine ⟨j, r, rfl, hj, ho, ?_, i64s_length r⟩
      conv => lhs; rw [← List.take_append_drop (digs 10000 x).length r]
      rw [this.2]
theorem len4_le (x : Nat) : (digs 10000 x).length ≤ (dec x).length := by
  refine digs_len_le (by decide) _ _ (Nat.lt_of_lt_of_le ((dec_len_le (dec_len_pos x)).1 (Nat.le_refl _)) ?_)
  exact Nat.pow_le_pow_left (by decide) _
end Go.Proofs.Ytpilfppdiifbjaa.Am

namespace Go.Proofs.Ytpilfppdiifbjaa.Am
open Go.Proofs.Ytpilfppdiifbjaa.Nt
variable {C : FuncId → Option AFn} {base : Cl} {n : Nat} {h : H} {K : Value → H → Prop}

theorem tdiv10 (a : Nat) : Int.tdiv (a : Int) 10 = ((a / 10 : Nat) : Int) := rfl
theorem tmod10 (a : Nat) : Int.tmod (a : Int) 10 = ((a % 10 : Nat) : Int) := rfl
theorem tdiv100 (a : Nat) : Int.tdiv (a : Int) 100 = ((a / 100 : Nat) : Int) := rfl
theorem tdiv1000 (a : Nat) : Int.tdiv (a : Int) 1000 = ((a / 1000 : Nat) : Int) := rfl
theorem dch_int {d : Nat} (h : d < 10) : ((48 + d : Nat) : Int) = ((dch d).toNat : Int) := by rw [dch_toNat h]

theorem itext_ok (T : Tab C) {b : Option Addr} {c x : Nat} (hx : Ni h b c x) (hX : (digs 10000 x).length ≤ 1099511627776)
    (hk : ∀ h', Ext h h' → K (.string (bs (dec x))) h') : acall C base (n + 1) 69 [niv b c x] h K := by
  refine acall_of T.f69 ?_
  (conv => whnf); (refine obool_intro (fun h1 => ?_) (fun h1 => ?_))
  · have h1' : x = 0 := (digs_len_zero (B := 10000) (by decide)).1 (by have := eq_of_beq h1; omega)
    subst h1'
    (conv => whnf); (refine ⟨_, rfl, ?_⟩)
    exact hk _ (Ext.refl _)
  have h1' : (digs 10000 x).length ≠ 0 := by intro e; rw [e] at h1; simp at h1
  have hx0 : x ≠ 0 := fun e => h1' ((digs_len_zero (by decide)).2 e)
  obtain ⟨L, hL⟩ : ∃ L, L = (digs 10000 x).length := ⟨_, rfl⟩
  have dx := digs_lt (B := 10000) (by decide) x
  (conv => whnf)
  refine ar_i64e (4 * L) (by omega) (by omega) ?_
  (conv => whnf)
  refine ⟨by omega, ?_⟩
  (conv => whnf); (refine ar_i64 (by omega) ?_); (conv => whnf)
  refine loop_upd (X := Nat × List UInt8) (fun v => [(0, niv b c x), (3, .slice (some ⟨h.next, 0, none⟩) v.2.length (4 * L)), (4, .int .i64 ((v.1 : Int) - 1))])
    (fun v h' => Ext h h' ∧ Own h' h.next (u8s (v.2 ++ List.replicate (4 * L - v.2.length) 0)) 5 false ∧ v.2.length = 4 * (L - v.1) ∧ v.1 ≤ L ∧ v.2 = digN (4 * (L - v.1)) (ofD 10000 ((digs 10000 x).drop v.1))) (fun v => v.1) ?_ ⟨L, []⟩ _ _ ⟨rfl, ?_, ?_, trivial⟩ ⟨(Ext.refl _).push _, ?_, by simp, by simp, by simp [digN]⟩
  · intro n ⟨k, w⟩ f h' ⟨he, ho, hlen, hk1, hw⟩ ih
    dsimp only at ih ho hlen hk1 hw ⊢
    (conv => whnf); (refine obool_intro (fun h2 => ?_) (fun h2 => ?_))
    · have h2' : 0 < k := by simp at h2; omega
      obtain ⟨i, hi⟩ : ∃ i, k = i + 1 := ⟨k - 1, by omega⟩
      subst hi
      obtain ⟨bi, bo, rfl, hi', hat⟩ := Sl.all64 hx (by omega)
      obtain ⟨d, hd⟩ : ∃ d, d = (digs 10000 x)[i]'(by omega) := ⟨_, rfl⟩
      have dlt : d < 10000 := by rw [hd]; exact dx _ (List.getElem_mem _)
      have ed : (digs 10000 x)[i]?.getD 0 = d := by rw [List.getElem?_eq_getElem (by omega), hd]; rfl
      (conv => whnf)
      refine ⟨by omega, ?_⟩
      (conv => whnf)
      refine ⟨_, hat _ he _ i (by omega) (by omega), ?_⟩
      rw [← hd]
      (conv => whnf)
      refine ⟨by decide, ?_⟩
      refine ar_i64e (d / 1000) (tdiv1000 d) (by omega) ?_
      (conv => whnf)
      refine ar_i64e (48 + d / 1000) (by omega) (by omega) ?_
      (conv => whnf)
      refine ar_u8e (dch (d / 1000)).toNat (dch_int (by omega)) (by rw [dch_toNat (by omega)]; omega) ?_
      (conv => whnf)
      refine ⟨by omega, ?_⟩
      (conv => whnf)
      refine ⟨_, hat _ he _ i (by omega) (by omega), ?_⟩
      rw [← hd]
      (conv => whnf)
      refine ⟨by decide, ?_⟩
      refine ar_i64e (d / 100) (tdiv100 d) (by omega) ?_
      (conv => whnf)
      refine ⟨by decide, ?_⟩
      rw [tmod10]
      (conv => whnf)
      refine ar_i64e (48 + d / 100 % 10) (by omega) (by omega) ?_
      (conv => whnf)
      refine ar_u8e (dch (d / 100 % 10)).toNat (dch_int (by omega)) (by rw [dch_toNat (by omega)]; omega) ?_
      (conv => whnf)
      refine ⟨by omega, ?_⟩
      (conv => whnf)
      refine ⟨_, hat _ he _ i (by omega) (by omega), ?_⟩
      rw [← hd]
      (conv => whnf)
      refine ⟨by decide, ?_⟩
      refine ar_i64e (d / 10) (tdiv10 d) (by omega) ?_
      (conv => whnf)
      refine ⟨by decide, ?_⟩
      rw [tmod10]
      (conv => whnf)
      refine ar_i64e (48 + d / 10 % 10) (by omega) (by omega) ?_
      (conv => whnf)
      refine ar_u8e (dch (d / 10 % 10)).toNat (dch_int (by omega)) (by rw [dch_toNat (by omega)]; omega) ?_
      (conv => whnf)
      refine ⟨by omega, ?_⟩
      (conv => whnf)
      refine ⟨_, hat _ he _ i (by omega) (by omega), ?_⟩
      rw [← hd]
      (conv => whnf)
      refine ⟨by decide, ?_⟩
      rw [tmod10]
      (conv => whnf)
      refine ar_i64e (48 + d % 10) (by omega) (by omega) ?_
      (conv => whnf)
      refine ar_u8e (dch (d % 10)).toNat (dch_int (by omega)) (by rw [dch_toNat (by omega)]; omega) ?_
      (conv => whnf)
      refine ⟨_, rfl, ?_⟩
      obtain ⟨q, hq⟩ : ∃ q : List UInt8, q = [dch (d / 1000), dch (d / 100 % 10), dch (d / 10 % 10), dch (d % 10)] := ⟨_, rfl⟩
      have hql : q.length = 4 := by rw [hq]; rfl
      have hlit : Own (h'.push (.cells [Value.int .u8 ((dch (d / 1000)).toNat : Int), .int .u8 ((dch (d / 100 % 10)).toNat : Int), .int .u8 ((dch (d / 10 % 10)).toNat : Int), .int .u8 ((dch (d % 10)).toNat : Int)] 5 true false)) h'.next (u8s q) 5 false := by rw [hq]; exact Own.push _ _ _
      have ho2 := ho.ext ((Ext.refl _).push (.cells [Value.int .u8 ((dch (d / 1000)).toNat : Int), .int .u8 ((dch (d / 100 % 10)).toNat : Int), .int .u8 ((dch (d / 10 % 10)).toNat : Int), .int .u8 ((dch (d % 10)).toNat : Int)] 5 true false))
      obtain ⟨h3, hw3, ho3, hext3, hnx3, hg3⟩ := ho2.wrm (0 + w.length * 1) (u8s q) (by simp; omega)
      (conv => whnf)
      refine ⟨4, rfl, u8s q, ?_, fun hle => ⟨h3, hw3, ?_⟩, fun hlt => absurd hlt (by omega)⟩
      · refine (hlit.src 0 0 4 4 4 4 rfl (by simp; omega) rfl).trans ?_
        rw [List.drop_zero, List.take_of_length_le (by simp; omega)]
      (conv => whnf); (refine ar_i64 (by omega) ?_); (conv => whnf)
      refine ih ⟨i, w ++ q⟩ _ _ (by dsimp only; omega) ⟨rfl, ?_, ?_, trivial⟩ ⟨hext3 _ (he.push _) (Nat.le_refl _), ?_, ?_, by dsimp only; omega, ?_⟩
      · show Value.slice (some ⟨h.next, 0, none⟩) (w.length + 4) (4 * L) = _
        rw [List.length_append, hql]
      · show Value.int _ _ = Value.int _ _
        congr 1; omega
      · dsimp only
        have e : (u8s (w ++ List.replicate (4 * L - w.length) 0)).take (0 + w.length * 1) ++ u8s q ++ (u8s (w ++ List.replicate (4 * L - w.length) 0)).drop (0 + w.length * 1 + (u8s q).length) = u8s (w ++ q ++ List.replicate (4 * L - (w ++ q).length) 0) := by
          rw [u8s_take, u8s_drop, u8s_app, u8s_app]
          congr 1
          rw [Nat.zero_add, Nat.mul_one, List.take_left, u8s_length, List.drop_append, List.drop_eq_nil_of_le (by omega), List.nil_append, List.drop_replicate, List.length_append]
          congr 2; omega
        rw [← e]; exact ho3
      · dsimp only
        rw [List.length_append, hql, hlen]; omega
      · dsimp only
        rw [ofD_drop, ed, show 4 * (L - i) = 4 * (L - (i + 1)) + 4 from by omega, digN_four _ _ _ dlt, ← hw, hq]
    · have h2' : k = 0 := by simp at h2; omega
      subst h2'
      rw [List.drop_zero, ofD_digs (by decide), Nat.sub_zero] at hw
      have hval : val (digN (4 * L) x) = x := by
        rw [val_digN]
        apply Nat.mod_eq_of_lt
        have := lt_pow_len (B := 10000) (by decide) x
        rw [← hL, show (10000 : Nat) = 10 ^ 4 from rfl, ← Nat.pow_mul] at this
        exact this
      rw [Nat.sub_zero] at hlen
      rw [hlen, Nat.sub_self, List.replicate_zero, List.append_nil] at ho
      have hwd : w.all isDig = true := by rw [hw]; exact digN_dig _ _
      have hwv : val w = x := by rw [hw, hval]
      have hne : ∀ k, k ≤ 4 * L → (∀ p (hp : p < w.length), p < k → w[p] = 48) → k < 4 * L := by
        intro k hk hz
        rcases Nat.lt_or_ge k (4 * L) with h | h
        · exact h
        · exfalso
          have := val_zeros (l := w) fun c hc => by
            obtain ⟨p, hp, rfl⟩ := List.mem_iff_getElem.1 hc
            exact hz p hp (by omega)
          omega
      (conv => whnf)
      refine loop_upd (X := Nat) (fun k => [(3, .slice (some ⟨h.next, 0, none⟩) w.length (4 * L)), (5, .int .i64 (k : Int))])
        (fun k h'' => h'' = h' ∧ k < 4 * L ∧ ∀ p (hp : p < w.length), p < k → w[p] = 48) (fun k => 4 * L - k) ?_ 0 _ _ ⟨rfl, rfl, trivial⟩ ⟨rfl, by omega, fun _ _ _ => by omega⟩
      intro n k f h'' ⟨he'', hkq, hz⟩ ih2
      subst he''
      (conv => whnf)
      refine ⟨by omega, ?_⟩
      (conv => whnf)
      refine ⟨_, ho.cell8 _ k rfl (by omega), ?_⟩
      (conv => whnf); (refine obool_intro (fun h3 => ?_) (fun h3 => ?_))
      · have h3' : w[k]'(by omega) = 48 := by
          apply UInt8.toNat_inj.1
          simp at h3 ⊢; omega
        have hz' : ∀ p (hp : p < w.length), p < k + 1 → w[p] = 48 := by
          intro p hp hpk
          by_cases hpk' : p = k
          · subst hpk'; exact h3'
          · exact hz p hp (by omega)
        (conv => whnf); (refine ar_i64 (by omega) ?_); (conv => whnf)
        have := hne (k + 1) (by omega) hz'
        exact ih2 (k + 1) _ _ (by omega) ⟨rfl, rfl, trivial⟩ ⟨rfl, this, hz'⟩
      · have h3' : w[k]'(by omega) ≠ 48 := by
          intro e
          rw [e] at h3
          simp at h3
        have hfin := dec_drop hwd (by omega) hz (.inl h3')
        rw [hwv] at hfin
        (conv => whnf)
        refine ⟨by omega, ?_⟩
        refine ⟨fun _ => ⟨.inr ho.tag, ?_⟩, fun hle => absurd hle (by simp; omega)⟩
        (conv => whnf)
        refine ⟨_, ho.rd (0 + Int.toNat (k : Int) * 1) (w.length - Int.toNat (k : Int)) (by simp; omega), dec x, ?_, ?_⟩
        · rw [Nat.zero_add, Nat.mul_one, Int.toNat_natCast, u8s_drop, u8s_take, hfin, List.take_of_length_le (by rw [← hfin]; simp), bytesOf_u8s]
        (conv => whnf); (refine ⟨_, rfl, ?_⟩)
        exact hk _ he
  · show Value.slice _ _ _ = Value.slice _ _ _
    congr 1
  · show Value.int _ _ = Value.int _ _
    congr 1; omega
  · show Own (h.push (.cells (List.replicate _ [Value.int .u8 0]).flatten 5 true false)) _ _ _ _
    rw [flat_u8]
    exact Own.push _ _ _

theorem bytesLess_val : ∀ {a b : List UInt8}, a.length = b.length → a.all isDig = true → b.all isDig = true → Op.bytesLess a b = decide (val a < val b)
  | [], [], _, _, _ => rfl
  | [], _ :: _, h, _, _ => by simp at h
  | _ :: _, [], h, _, _ => by simp at h
  | c :: x, d :: y, h, ha, hb => by
    have hl : x.length = y.length := by simpa using h
    rw [List.all_cons, Bool.and_eq_true] at ha hb
    have ih := bytesLess_val hl ha.2 hb.2
    have hx := val_lt ha.2
    have hy := val_lt hb.2
    have hc := isDig_toNat ha.1
    have hd := isDig_toNat hb.1
    simp only [Op.bytesLess, ih, val_cons, ← hl]
    rw [← hl] at hy
    generalize 10 ^ x.length = P at *
    by_cases hlt : c < d
    · have h1 : dv c + 1 ≤ dv d := by rw [UInt8.lt_iff_toNat_lt] at hlt; omega
      have := Nat.mul_le_mul_left P h1
      rw [Nat.mul_add, Nat.mul_one] at this
      simp only [hlt, decide_true, Bool.true_or]
      symm; rw [decide_eq_true_eq]; omega
    · by_cases he : c = d
      · subst he
        simp
      · have h1 : dv d + 1 ≤ dv c := by
          rw [UInt8.lt_iff_toNat_lt] at hlt
          have : c.toNat ≠ d.toNat := fun e => he (UInt8.toNat_inj.1 e)
          omega
        have := Nat.mul_le_mul_left P h1
        rw [Nat.mul_add, Nat.mul_one] at this
        have e1 : (c == d) = false := by simpa using he
        simp only [hlt, decide_false, e1, Bool.false_and, Bool.or_false]
        symm; rw [decide_eq_false_iff_not]; omega

theorem natural_eq_of_val {a b : List UInt8} (ha : natural a = true) (hb : natural b = true) (h : val a = val b) : a = b := by rw [← dec_val ha, ← dec_val hb, h]
theorem natural_lt_of_len {a b : List UInt8} (ha : natural a = true) (hb : natural b = true) (h : a.length < b.length) : val a < val b := by
  rcases Nat.lt_or_ge (val a) (val b) with h' | h'
  · exact h'
  · have := dec_len_mono h'; rw [dec_val ha, dec_val hb] at this; omega

theorem Compare_ok (T : Tab C) {a b : List UInt8} (ha : natural a = true) (hb : natural b = true) (hk : K (.int .i64 (cmpN (val a) (val b))) h) : acall C base (n + 1) 33 [.string (bs a), .string (bs b)] h K := by
  refine acall_of T.f33 ?_
  (conv => whnf); (refine obool_intro (fun h1 => ?_) (fun h1 => ?_))
  · have h1' : a.length ≠ b.length := by simp at h1; omega
    (conv => whnf); (refine obool_intro (fun h2 => ?_) (fun h2 => ?_))
    · have h2' := natural_lt_of_len ha hb (by have := of_decide_eq_true h2; simp at this; omega)
      (conv => whnf); (refine ⟨_, rfl, ?_⟩)
      rw [cmpN, if_pos h2'] at hk; exact hk
    · have h2' := natural_lt_of_len hb ha (by have := of_decide_eq_false h2; simp at this; omega)
      (conv => whnf); (refine ⟨_, rfl, ?_⟩)
      rw [cmpN, if_neg (by omega), if_neg (by omega)] at hk; exact hk
  have h1' : a.length = b.length := by simp at h1; omega
  have hbl := bytesLess_val h1' (natural_all ha) (natural_all hb)
  (conv => whnf)
  refine obool_intro (fun h3 => ?_) (fun h3 => ?_)
  · rw [bs_toList, bs_toList, hbl] at h3
    (conv => whnf); (refine ⟨_, rfl, ?_⟩)
    rw [cmpN, if_pos (of_decide_eq_true h3)] at hk; exact hk
  · rw [bs_toList, bs_toList, hbl] at h3
    have h3' := of_decide_eq_false h3
    (conv => whnf)
    refine obool_intro (fun h4 => ?_) (fun h4 => ?_)
    · rw [bs_toList, bs_toList, hbl] at h4
      simp only [Bool.not_eq_true', Bool.or_eq_false_iff, decide_eq_false_iff_not] at h4
      have hne : val a ≠ val b := fun e => by rw [natural_eq_of_val ha hb e] at h4; simp at h4
      (conv => whnf); (refine ⟨_, rfl, ?_⟩)
      rw [cmpN, if_neg (by omega), if_neg hne] at hk; exact hk
    · rw [bs_toList, bs_toList, hbl] at h4
      have e : a = b := by
        simp only [Bool.not_eq_false', Bool.or_eq_true, decide_eq_true_eq] at h4
        rcases h4 with h | h
        · exact absurd h h3'
        · exact eq_of_beq h
      (conv => whnf); (refine ⟨_, rfl, ?_⟩)
      rw [cmpN, if_neg h3', if_pos (by rw [e])] at hk; exact hk
end Go.Proofs.Ytpilfppdiifbjaa.Am

namespace Go.Proofs.Ytpilfppdiifbjaa.Am
open Go.Proofs.Ytpilfppdiifbjaa.Nt
variable {C : FuncId → Option AFn} {base : Cl} {n : Nat} {h : H} {K : Value → H → Prop}

theorem add_lenD {x y k : Nat} (hx : (dec x).length ≤ k) (hy : (dec y).length ≤ k) : (dec (x + y)).length ≤ k + 1 := by
  have hk : 0 < k := Nat.lt_of_lt_of_le (dec_len_pos x) hx
  refine (dec_len_le (by omega)).2 ?_
  have := (dec_len_le hk).1 hx
  have := (dec_len_le hk).1 hy
  rw [Nat.pow_succ]; omega
theorem mul_lenD {x y k m : Nat} (hx : (dec x).length ≤ k) (hy : (dec y).length ≤ m) : (dec (x * y)).length ≤ k + m := by
  have hk : 0 < k := Nat.lt_of_lt_of_le (dec_len_pos x) hx
  have hm : 0 < m := Nat.lt_of_lt_of_le (dec_len_pos y) hy
  refine (dec_len_le (by omega)).2 ?_
  rw [Nat.pow_add]
  exact Nat.mul_lt_mul_of_lt_of_le ((dec_len_le hk).1 hx) (Nat.le_of_lt ((dec_len_le hm).1 hy)) (Nat.pow_pos (by decide))

theorem Plus_ok (T : Tab C) {x y : Nat} (hX : (dec x).length ≤ 1073741824) (hY : (dec y).length ≤ 1073741824)
    (hk : ∀ h', Ext h h' → K (.string (bs (dec (x + y)))) h') : acall C base (n + 3) 51 [.string (bs (dec x)), .string (bs (dec y))] h K := by
  have hlx := len4_le x
  have hly := len4_le y
  have hls := len4_le (x + y)
  have hlsD := add_lenD hX hY
  obtain ⟨M, hMx, hMy, hM⟩ : ∃ M, (digs 10000 x).length ≤ M ∧ (digs 10000 y).length ≤ M ∧ M ≤ 1073741824 := ⟨max (digs 10000 x).length (digs 10000 y).length, by omega, by omega, by omega⟩
  refine acall_of T.f51 ?_
  (conv => whnf)
  refine limbs_dec T (by omega) fun h1 b c he1 hx => ?_
  (conv => whnf)
  refine limbs_dec T (by omega) fun h2 b' c' he2 hy => ?_
  have hx := hx.ext he2
  have he12 := he1.trans he2
  (conv => whnf)
  refine loop_upd (X := Option Addr × Nat × List Nat × Nat) (fun v => [(5, niv b c x), (6, niv b' c' y), (7, .slice v.1 v.2.2.1.length v.2.1), (8, .int .i64 (v.2.2.2 : Int)), (9, .int .i64 (v.2.2.1.length : Int))])
    (fun v h' => Grow 3 h2 h' v.1 v.2.1 (i64s v.2.2.1) ∧ (∀ d ∈ v.2.2.1, d < 10000) ∧ v.2.2.2 ≤ 1 ∧ (v.2.2.1.length + v.2.2.2 ≤ M + 1) ∧
      ofD 10000 v.2.2.1 + 10000 ^ v.2.2.1.length * (v.2.2.2 + ofD 10000 ((digs 10000 x).drop v.2.2.1.length) + ofD 10000 ((digs 10000 y).drop v.2.2.1.length)) = x + y)
    (fun v => 2 * (((digs 10000 x).length - v.2.2.1.length) + ((digs 10000 y).length - v.2.2.1.length)) + v.2.2.2) ?_ ⟨none, 0, [], 0⟩ _ _ ⟨rfl, rfl, rfl, rfl, rfl, trivial⟩ ⟨Grow.nil _ (Ext.refl _), by simp, by simp, by simp, by simp [ofD, ofD_digs]⟩
  intro n ⟨b1, c1, l, cy⟩ f h' ⟨hg, hl, hcy, hlen, hs⟩ ih
  dsimp only at ih hg hl hcy hlen hs ⊢
  have dx := digs_lt (B := 10000) (by decide) x
  have dy := digs_lt (B := 10000) (by decide) y
  by_cases hA : l.length < (digs 10000 x).length
  · have eA : (digs 10000 x)[l.length]?.getD 0 = (digs 10000 x)[l.length] := by rw [List.getElem?_eq_getElem hA]; rfl
    have lA := dx _ (List.getElem_mem hA)
    obtain ⟨i, o, rfl, hi, hat⟩ := Sl.all64 hx (by omega)
    (conv => whnf); (refine obool_t (by first | (simp; done) | (simp; omega)) ?_); (conv => whnf); (refine obool_t (by first | (simp; done) | (simp; omega)) ?_); (conv => whnf)
    refine ⟨by omega, ?_⟩
    (conv => whnf)
    refine ⟨_, hat _ hg.e _ l.length rfl hA, ?_⟩
    (conv => whnf); (refine ar_i64 (by omega) ?_)
    by_cases hB : l.length < (digs 10000 y).length
    · have eB : (digs 10000 y)[l.length]?.getD 0 = (digs 10000 y)[l.length] := by rw [List.getElem?_eq_getElem hB]; rfl
      have lB := dy _ (List.getElem_mem hB)
      obtain ⟨i', o', rfl, hi', hat'⟩ := Sl.all64 hy (by omega)
      (conv => whnf); (refine obool_t (by first | (simp; done) | (simp; omega)) ?_); (conv => whnf)
      refine ⟨by omega, ?_⟩
      (conv => whnf)
      refine ⟨_, hat' _ hg.e _ l.length rfl hB, ?_⟩
      (conv => whnf); (refine ar_i64 (by omega) ?_)
      (conv => whnf)
      refine ⟨by decide, ?_⟩
      (conv => whnf)
      refine ⟨_, rfl, ?_⟩
      obtain ⟨p, hp, hp1, hg'⟩ := hg.one (m := l.length) (by simp) (.int .i64 (((cy + (digs 10000 x)[l.length] + (digs 10000 y)[l.length]) % 10000 : Nat) : Int))
      (conv => whnf)
      refine ⟨1, rfl, _, src_lit _ _ _, fun hle => absurd hle (by have := hg.cap; simp at this; omega), fun _ => ⟨by omega, p, hp, ?_⟩⟩
      (conv => whnf)
      refine ⟨by decide, ?_⟩
      refine ar_i64e ((cy + (digs 10000 x)[l.length] + (digs 10000 y)[l.length]) / 10000) (tdiv4 _) (by omega) ?_
      (conv => whnf); (refine ar_i64 (by omega) ?_); (conv => whnf)
      rw [show i64s l ++ [Value.int .i64 (((cy + (digs 10000 x)[l.length] + (digs 10000 y)[l.length]) % 10000 : Nat) : Int)] = i64s (l ++ [(cy + (digs 10000 x)[l.length] + (digs 10000 y)[l.length]) % 10000]) from i64s_app l [(cy + (digs 10000 x)[l.length] + (digs 10000 y)[l.length]) % 10000]] at hg'
      refine ih ⟨some ⟨h'.next + 1, 0, none⟩, l.length + 1, l ++ [(cy + (digs 10000 x)[l.length] + (digs 10000 y)[l.length]) % 10000], (cy + (digs 10000 x)[l.length] + (digs 10000 y)[l.length]) / 10000⟩ _ _ ?_ ⟨rfl, rfl, ?_, rfl, ?_, trivial⟩ ⟨hg', ?_, ?_, ?_, ?_⟩
      · simp; omega
      · show Value.slice (some ⟨h'.next + 1, 0, none⟩) (l.length + 1) (l.length + 1) = _
        simp
      · show Value.int _ _ = Value.int _ _
        simp
      · intro d hd
        rcases List.mem_append.1 hd with hd | hd
        · exact hl d hd
        · rw [List.mem_singleton.1 hd]; exact Nat.mod_lt _ (by decide)
      · dsimp only; omega
      · simp; omega
      · have e := carry_step (10000 ^ l.length) 10000 ((cy + (digs 10000 x)[l.length] + (digs 10000 y)[l.length])) (ofD 10000 ((digs 10000 x).drop (l.length + 1)) + ofD 10000 ((digs 10000 y).drop (l.length + 1)))
        dsimp only
        rw [ofD_snoc, List.length_append, List.length_singleton, Nat.pow_succ, Nat.add_assoc (((cy + (digs 10000 x)[l.length] + (digs 10000 y)[l.length])) / 10000), Nat.add_assoc, e, ← hs, ofD_drop _ _ l.length, ofD_drop _ (digs 10000 y) l.length, eA, eB]
        congr 2
        omega
    · have eB : (digs 10000 y)[l.length]?.getD 0 = 0 := by rw [List.getElem?_eq_none (by omega)]; rfl
      (conv => whnf); (refine obool_f (by first | (simp; done) | (simp; omega)) ?_)
      (conv => whnf)
      refine ⟨by decide, ?_⟩
      (conv => whnf)
      refine ⟨_, rfl, ?_⟩
      obtain ⟨p, hp, hp1, hg'⟩ := hg.one (m := l.length) (by simp) (.int .i64 (((cy + (digs 10000 x)[l.length]) % 10000 : Nat) : Int))
      (conv => whnf)
      refine ⟨1, rfl, _, src_lit _ _ _, fun hle => absurd hle (by have := hg.cap; simp at this; omega), fun _ => ⟨by omega, p, hp, ?_⟩⟩
      (conv => whnf)
      refine ⟨by decide, ?_⟩
      refine ar_i64e ((cy + (digs 10000 x)[l.length]) / 10000) (tdiv4 _) (by omega) ?_
      (conv => whnf); (refine ar_i64 (by omega) ?_); (conv => whnf)
      rw [show i64s l ++ [Value.int .i64 (((cy + (digs 10000 x)[l.length]) % 10000 : Nat) : Int)] = i64s (l ++ [(cy + (digs 10000 x)[l.length]) % 10000]) from i64s_app l [(cy + (digs 10000 x)[l.length]) % 10000]] at hg'
      refine ih ⟨some ⟨h'.next + 1, 0, none⟩, l.length + 1, l ++ [(cy + (digs 10000 x)[l.length]) % 10000], (cy + (digs 10000 x)[l.length]) / 10000⟩ _ _ ?_ ⟨rfl, rfl, ?_, rfl, ?_, trivial⟩ ⟨hg', ?_, ?_, ?_, ?_⟩
      · simp; omega
      · show Value.slice (some ⟨h'.next + 1, 0, none⟩) (l.length + 1) (l.length + 1) = _
        simp
      · show Value.int _ _ = Value.int _ _
        simp
      · intro d hd
        rcases List.mem_append.1 hd with hd | hd
        · exact hl d hd
        · rw [List.mem_singleton.1 hd]; exact Nat.mod_lt _ (by decide)
      · dsimp only; omega
      · simp; omega
      · have e := carry_step (10000 ^ l.length) 10000 ((cy + (digs 10000 x)[l.length])) (ofD 10000 ((digs 10000 x).drop (l.length + 1)) + ofD 10000 ((digs 10000 y).drop (l.length + 1)))
        dsimp only
        rw [ofD_snoc, List.length_append, List.length_singleton, Nat.pow_succ, Nat.add_assoc (((cy + (digs 10000 x)[l.length])) / 10000), Nat.add_assoc, e, ← hs, ofD_drop _ _ l.length, ofD_drop _ (digs 10000 y) l.length, eA, eB]
        congr 2
        omega
  · have eA : (digs 10000 x)[l.length]?.getD 0 = 0 := by rw [List.getElem?_eq_none (by omega)]; rfl
    by_cases hB : l.length < (digs 10000 y).length
    · have eB : (digs 10000 y)[l.length]?.getD 0 = (digs 10000 y)[l.length] := by rw [List.getElem?_eq_getElem hB]; rfl
      have lB := dy _ (List.getElem_mem hB)
      obtain ⟨i', o', rfl, hi', hat'⟩ := Sl.all64 hy (by omega)
      (conv => whnf); (refine obool_f (by first | (simp; done) | (simp; omega)) ?_); (conv => whnf); (refine obool_t (by first | (simp; done) | (simp; omega)) ?_); (conv => whnf); (refine obool_f (by first | (simp; done) | (simp; omega)) ?_); (conv => whnf); (refine obool_t (by first | (simp; done) | (simp; omega)) ?_); (conv => whnf)
      refine ⟨by omega, ?_⟩
      (conv => whnf)
      refine ⟨_, hat' _ hg.e _ l.length rfl hB, ?_⟩
      (conv => whnf); (refine ar_i64 (by omega) ?_)
      (conv => whnf)
      refine ⟨by decide, ?_⟩
      (conv => whnf)
      refine ⟨_, rfl, ?_⟩
      obtain ⟨p, hp, hp1, hg'⟩ := hg.one (m := l.length) (by simp) (.int .i64 (((cy + (digs 10000 y)[l.length]) % 10000 : Nat) : Int))
      (conv => whnf)
      refine ⟨1, rfl, _, src_lit _ _ _, fun hle => absurd hle (by have := hg.cap; simp at this; omega), fun _ => ⟨by omega, p, hp, ?_⟩⟩
      (conv => whnf)
      refine ⟨by decide, ?_⟩
      refine ar_i64e ((cy + (digs 10000 y)[l.length]) / 10000) (tdiv4 _) (by omega) ?_
      (conv => whnf); (refine ar_i64 (by omega) ?_); (conv => whnf)
      rw [show i64s l ++ [Value.int .i64 (((cy + (digs 10000 y)[l.length]) % 10000 : Nat) : Int)] = i64s (l ++ [(cy + (digs 10000 y)[l.length]) % 10000]) from i64s_app l [(cy + (digs 10000 y)[l.length]) % 10000]] at hg'
      refine ih ⟨some ⟨h'.next + 1, 0, none⟩, l.length + 1, l ++ [(cy + (digs 10000 y)[l.length]) % 10000], (cy + (digs 10000 y)[l.length]) / 10000⟩ _ _ ?_ ⟨rfl, rfl, ?_, rfl, ?_, trivial⟩ ⟨hg', ?_, ?_, ?_, ?_⟩
      · simp; omega
      · show Value.slice (some ⟨h'.next + 1, 0, none⟩) (l.length + 1) (l.length + 1) = _
        simp
      · show Value.int _ _ = Value.int _ _
        simp
      · intro d hd
        rcases List.mem_append.1 hd with hd | hd
        · exact hl d hd
        · rw [List.mem_singleton.1 hd]; exact Nat.mod_lt _ (by decide)
      · dsimp only; omega
      · simp; omega
      · have e := carry_step (10000 ^ l.length) 10000 ((cy + (digs 10000 y)[l.length])) (ofD 10000 ((digs 10000 x).drop (l.length + 1)) + ofD 10000 ((digs 10000 y).drop (l.length + 1)))
        dsimp only
        rw [ofD_snoc, List.length_append, List.length_singleton, Nat.pow_succ, Nat.add_assoc (((cy + (digs 10000 y)[l.length])) / 10000), Nat.add_assoc, e, ← hs, ofD_drop _ _ l.length, ofD_drop _ (digs 10000 y) l.length, eA, eB]
        congr 2
        omega
    · have eB : (digs 10000 y)[l.length]?.getD 0 = 0 := by rw [List.getElem?_eq_none (by omega)]; rfl
      (conv => whnf); (refine obool_f (by first | (simp; done) | (simp; omega)) ?_); (conv => whnf); (refine obool_f (by first | (simp; done) | (simp; omega)) ?_); (conv => whnf); (refine obool_intro (fun h1 => ?_) (fun h1 => ?_))
      · have h1' : cy = 1 := by simp at h1; omega
        (conv => whnf); (refine obool_f (by first | (simp; done) | (simp; omega)) ?_); (conv => whnf); (refine obool_f (by first | (simp; done) | (simp; omega)) ?_)
        (conv => whnf)
        refine ⟨by decide, ?_⟩
        (conv => whnf)
        refine ⟨_, rfl, ?_⟩
        obtain ⟨p, hp, hp1, hg'⟩ := hg.one (m := l.length) (by simp) (.int .i64 ((cy % 10000 : Nat) : Int))
        (conv => whnf)
        refine ⟨1, rfl, _, src_lit _ _ _, fun hle => absurd hle (by have := hg.cap; simp at this; omega), fun _ => ⟨by omega, p, hp, ?_⟩⟩
        (conv => whnf)
        refine ⟨by decide, ?_⟩
        refine ar_i64e (cy / 10000) (tdiv4 _) (by omega) ?_
        (conv => whnf); (refine ar_i64 (by omega) ?_); (conv => whnf)
        rw [show i64s l ++ [Value.int .i64 ((cy % 10000 : Nat) : Int)] = i64s (l ++ [cy % 10000]) from i64s_app l [cy % 10000]] at hg'
        refine ih ⟨some ⟨h'.next + 1, 0, none⟩, l.length + 1, l ++ [cy % 10000], cy / 10000⟩ _ _ ?_ ⟨rfl, rfl, ?_, rfl, ?_, trivial⟩ ⟨hg', ?_, ?_, ?_, ?_⟩
        · simp; omega
        · show Value.slice (some ⟨h'.next + 1, 0, none⟩) (l.length + 1) (l.length + 1) = _
          simp
        · show Value.int _ _ = Value.int _ _
          simp
        · intro d hd
          rcases List.mem_append.1 hd with hd | hd
          · exact hl d hd
          · rw [List.mem_singleton.1 hd]; exact Nat.mod_lt _ (by decide)
        · dsimp only; omega
        · simp; omega
        · have e := carry_step (10000 ^ l.length) 10000 (cy) (ofD 10000 ((digs 10000 x).drop (l.length + 1)) + ofD 10000 ((digs 10000 y).drop (l.length + 1)))
          dsimp only
          rw [ofD_snoc, List.length_append, List.length_singleton, Nat.pow_succ, Nat.add_assoc ((cy) / 10000), Nat.add_assoc, e, ← hs, ofD_drop _ _ l.length, ofD_drop _ (digs 10000 y) l.length, eA, eB]
          congr 2
          omega
      · have h1' : cy = 0 := by simp at h1; omega
        subst h1'
        have e0 : ofD 10000 l = x + y := by
          rw [List.drop_eq_nil_of_le (by omega), List.drop_eq_nil_of_le (by omega)] at hs
          simpa [ofD] using hs
        (conv => whnf)
        refine itrim_ok T hg.sl hl (by omega) fun hn => ?_
        rw [e0] at hn ⊢
        (conv => whnf)
        refine itext_ok T hn (by omega) fun h3 he3 => ?_
        (conv => whnf); (refine ⟨_, rfl, ?_⟩)
        exact hk _ ((he12.trans hg.e).trans he3)

theorem Minus_ok (T : Tab C) {x y : Nat} (hX : (dec x).length ≤ 1073741824) (hyx : y ≤ x)
    (hk : ∀ h', Ext h h' → K (.string (bs (dec (x - y)))) h') : acall C base (n + 3) 60 [.string (bs (dec x)), .string (bs (dec y))] h K := by
  have hlx := len4_le x
  have hly : (digs 10000 y).length ≤ (digs 10000 x).length := digs_len_mono (by decide) hyx
  have hY := dec_len_mono hyx
  have hls := len4_le (x - y)
  have hlsD := dec_len_mono (Nat.sub_le x y)
  have dx := digs_lt (B := 10000) (by decide) x
  have dy := digs_lt (B := 10000) (by decide) y
  refine acall_of T.f60 ?_
  (conv => whnf)
  refine limbs_dec_own T (by omega) fun h1 b c he1 hx hown => ?_
  (conv => whnf)
  refine limbs_dec_own T (by omega) fun h2 b' c' he2 hy hown' => ?_
  have hx := hx.ext he2
  have he12 := he1.trans he2
  by_cases hx0 : x = 0
  · subst hx0
    have hy0 : y = 0 := by omega
    subst hy0
    (conv => whnf)
    refine loop_upd (X := Unit) (fun v => [(5, niv b c 0), (8, .int .i64 0)]) (fun v h' => h' = h2) (fun v => 0) ?_ () _ _ ⟨rfl, rfl, trivial⟩ rfl
    intro n v f h' hh ih
    subst hh
    (conv => whnf)
    refine obool_f (by rw [digs_zero]; rfl) ?_
    (conv => whnf)
    refine itrim_ok T (l := digs 10000 0) hx (fun d hd => dx d hd) (by omega) fun hn => ?_
    rw [ofD_digs (by decide)] at hn ⊢
    (conv => whnf)
    refine itext_ok T hn (by omega) fun h3 he3 => ?_
    (conv => whnf); (refine ⟨_, rfl, ?_⟩)
    exact hk _ (he12.trans he3)
  obtain ⟨j, r, rfl, hj, ho, hr, hc⟩ := hown hx0
  have hjlt : j < h1.next := ho.1
  obtain ⟨tl, htl⟩ : ∃ tl, tl = r.drop (digs 10000 x).length := ⟨_, rfl⟩
  rw [← htl] at hr
  subst hr
  have ho := ho.ext he2
  obtain ⟨L, hL⟩ : ∃ L, L = (digs 10000 x).length := ⟨_, rfl⟩
  have hLc : L + tl.length = c := by rw [hc, List.length_append, ← hL]
  clear hc htl
  have hj2 : h.next ≤ j := hj
  (conv => whnf)
  refine loop_upd (X := List Nat × Nat) (fun v => [(5, niv (some ⟨j, 0, none⟩) c x), (6, niv b' c' y), (7, .int .i64 (v.2 : Int)), (8, .int .i64 (v.1.length : Int))])
    (fun v h' => h'.next = h2.next ∧ (∀ k, k ≠ j → h'.get k = h2.get k) ∧ Own h' j (i64s (v.1 ++ (digs 10000 x).drop v.1.length ++ tl)) 3 true ∧ v.2 ≤ 1 ∧ v.1.length ≤ L ∧ (∀ d ∈ v.1, d < 10000) ∧ ofD 10000 v.1 + ofD 10000 ((digs 10000 y).take v.1.length) = ofD 10000 ((digs 10000 x).take v.1.length) + 10000 ^ v.1.length * v.2)
    (fun v => L - v.1.length) ?_ ⟨[], 0⟩ _ _ ⟨rfl, rfl, rfl, rfl, trivial⟩ ⟨rfl, fun _ _ => rfl, by simpa using ho, by simp, by simp, by simp, by simp [ofD]⟩
  clear ho
  intro n ⟨w, br⟩ f h' ⟨hnx, hg, ho, hbr, hw, hl, hs⟩ ih
  dsimp only at ih ho hbr hw hl hs ⊢
  (conv => whnf); (refine obool_intro (fun h2 => ?_) (fun h2 => ?_))
  · have h2' : w.length < L := by have := of_decide_eq_true h2; omega
    have eA : (digs 10000 x)[w.length]?.getD 0 = (digs 10000 x)[w.length] := by rw [List.getElem?_eq_getElem (by omega)]; rfl
    have lA := dx _ (List.getElem_mem (show w.length < (digs 10000 x).length by omega))
    have hlen : (w ++ (digs 10000 x).drop w.length ++ tl).length = L + tl.length := by simp; omega
    have hget : (w ++ (digs 10000 x).drop w.length ++ tl)[w.length]'(by omega) = (digs 10000 x)[w.length] := by
      rw [List.getElem_append_left (by simp; omega), List.getElem_append_right (Nat.le_refl _)]; simp
    have step : ∀ (bi new br' : Nat), bi < 10000 → new < 10000 → br' ≤ 1 → new + bi + br = (digs 10000 x)[w.length] + 10000 * br' → (digs 10000 y)[w.length]?.getD 0 = bi →
        (∀ d ∈ w ++ [new], d < 10000) ∧ ofD 10000 (w ++ [new]) + ofD 10000 ((digs 10000 y).take (w ++ [new]).length) = ofD 10000 ((digs 10000 x).take (w ++ [new]).length) + 10000 ^ (w ++ [new]).length * br' := by
      intro bi new br' hbi hnew hbr' hsum eB
      refine ⟨fun d hd => ?_, ?_⟩
      · rcases List.mem_append.1 hd with hd | hd
        · exact hl d hd
        · rw [List.mem_singleton.1 hd]; exact hnew
      · rw [List.length_append, List.length_singleton, ofD_snoc, ofD_take_succ, ofD_take_succ, eA, eB, Nat.pow_succ, Nat.mul_assoc]
        have e := congrArg (10000 ^ w.length * ·) hsum
        simp only [Nat.mul_add] at e
        omega
    have hset : ∀ new : Nat, (w ++ (digs 10000 x).drop w.length ++ tl).set w.length new = (w ++ [new]) ++ (digs 10000 x).drop (w ++ [new]).length ++ tl := by
      intro new
      rw [List.append_assoc, List.set_append_right _ _ (Nat.le_refl _), Nat.sub_self, List.drop_eq_getElem_cons (by omega), List.cons_append, List.set_cons_zero]
      simp
    (conv => whnf)
    refine ⟨by omega, ?_⟩
    (conv => whnf)
    refine ⟨_, ho.cell64 _ w.length rfl (by omega), ?_⟩
    rw [hget]
    (conv => whnf)
    refine ar_i64i (((digs 10000 x)[w.length] : Int) - (br : Int)) rfl (by omega) ?_
    by_cases hB : w.length < (digs 10000 y).length
    · have eB : (digs 10000 y)[w.length]?.getD 0 = (digs 10000 y)[w.length] := by rw [List.getElem?_eq_getElem hB]; rfl
      have lB := dy _ (List.getElem_mem hB)
      have hy0 : y ≠ 0 := by intro e; subst e; rw [digs_zero] at hB; simp at hB
      obtain ⟨j', r', rfl, hj', ho', _, _⟩ := hown' hy0
      have hyn : Ni h' (some ⟨j', 0, none⟩) c' y := Sl.upd hy hnx hg (fun i o e => by injection e with e; injection e with e1; omega)
      obtain ⟨i', o', e', hi', hat'⟩ := Sl.all64 hyn (by omega)
      injection e' with e'; injection e' with e1 e2; subst e1 e2
      have hdd : ∀ e2 : Nat, (e2 : Int) = ((digs 10000 x)[w.length] : Int) - (br : Int) - ((digs 10000 y)[w.length] : Int) → ((digs 10000 x)[w.length] : Int) - (br : Int) - ((digs 10000 y)[w.length] : Int) = (e2 : Int) := fun _ h => h.symm
      (conv => whnf); (refine obool_t (by first | (simp; done) | (simp; omega)) ?_); (conv => whnf)
      refine ⟨by omega, ?_⟩
      (conv => whnf)
      refine ⟨_, hat' _ (Ext.refl _) _ w.length rfl hB, ?_⟩
      (conv => whnf)
      refine ar_i64i (((digs 10000 x)[w.length] : Int) - (br : Int) - ((digs 10000 y)[w.length] : Int)) rfl (by omega) ?_
      (conv => whnf)
      refine obool_intro (fun h3 => ?_) (fun h3 => ?_)
      · have h3' : (digs 10000 x)[w.length] < br + (digs 10000 y)[w.length] := by have := of_decide_eq_true h3; omega
        obtain ⟨e2, hee2⟩ : ∃ e2, e2 = (digs 10000 x)[w.length] + 10000 - (br + (digs 10000 y)[w.length]) := ⟨_, rfl⟩
        (conv => whnf)
        refine ar_i64e e2 (by omega) (by omega) ?_
        (conv => whnf)
        refine ⟨by omega, ?_⟩
        (dsimp only [force, steps]); (dsimp only [stepW, AOp.strict]); (dsimp only [sst]); (conv => whnf)
        refine ⟨rfl, ?_⟩
        obtain ⟨h6, hw6, ho6, hext6, hnx6, hg6⟩ := ho.set64 (w.length : Int) w.length (e2 : Int) e2 rfl (by simp; omega) rfl
        refine ⟨h6, hw6, ?_⟩
        (conv => whnf); (refine ar_i64 (by omega) ?_); (conv => whnf)
        obtain ⟨s1, s2⟩ := step (digs 10000 y)[w.length] e2 1 (by omega) (by omega) (by omega) (by omega) eB
        refine ih ⟨w ++ [e2], 1⟩ _ _ (by simp; omega) ⟨rfl, rfl, rfl, ?_, trivial⟩ ⟨hnx6.trans hnx, fun k hk => (hg6 k hk).trans (hg k hk), ?_, by simp, by simp; omega, s1, s2⟩
        · show Value.int _ _ = Value.int _ _
          simp
        · dsimp only
          rw [← hset]
          exact ho6
      · have h3' : br + (digs 10000 y)[w.length] ≤ (digs 10000 x)[w.length] := by have := of_decide_eq_false h3; omega
        obtain ⟨e2, hee2⟩ : ∃ e2, e2 = (digs 10000 x)[w.length] - (br + (digs 10000 y)[w.length]) := ⟨_, rfl⟩
        rw [hdd e2 (by omega)]
        (conv => whnf)
        refine ⟨by omega, ?_⟩
        (dsimp only [force, steps]); (dsimp only [stepW, AOp.strict]); (dsimp only [sst]); (conv => whnf)
        refine ⟨rfl, ?_⟩
        obtain ⟨h6, hw6, ho6, hext6, hnx6, hg6⟩ := ho.set64 (w.length : Int) w.length (e2 : Int) e2 rfl (by simp; omega) rfl
        refine ⟨h6, hw6, ?_⟩
        (conv => whnf); (refine ar_i64 (by omega) ?_); (conv => whnf)
        obtain ⟨s1, s2⟩ := step (digs 10000 y)[w.length] e2 0 (by omega) (by omega) (by omega) (by omega) eB
        refine ih ⟨w ++ [e2], 0⟩ _ _ (by simp; omega) ⟨rfl, rfl, rfl, ?_, trivial⟩ ⟨hnx6.trans hnx, fun k hk => (hg6 k hk).trans (hg k hk), ?_, by simp, by simp; omega, s1, s2⟩
        · show Value.int _ _ = Value.int _ _
          simp
        · dsimp only
          rw [← hset]
          exact ho6
    · have eB : (digs 10000 y)[w.length]?.getD 0 = 0 := by rw [List.getElem?_eq_none (by omega)]; rfl
      have hdd : ∀ e2 : Nat, (e2 : Int) = ((digs 10000 x)[w.length] : Int) - (br : Int) → ((digs 10000 x)[w.length] : Int) - (br : Int) = (e2 : Int) := fun _ h => h.symm
      (conv => whnf); (refine obool_f (by first | (simp; done) | (simp; omega)) ?_)
      (conv => whnf)
      refine obool_intro (fun h3 => ?_) (fun h3 => ?_)
      · have h3' : (digs 10000 x)[w.length] < br + 0 := by have := of_decide_eq_true h3; omega
        obtain ⟨e2, hee2⟩ : ∃ e2, e2 = (digs 10000 x)[w.length] + 10000 - (br + 0) := ⟨_, rfl⟩
        (conv => whnf)
        refine ar_i64e e2 (by omega) (by omega) ?_
        (conv => whnf)
        refine ⟨by omega, ?_⟩
        (dsimp only [force, steps]); (dsimp only [stepW, AOp.strict]); (dsimp only [sst]); (conv => whnf)
        refine ⟨rfl, ?_⟩
        obtain ⟨h6, hw6, ho6, hext6, hnx6, hg6⟩ := ho.set64 (w.length : Int) w.length (e2 : Int) e2 rfl (by simp; omega) rfl
        refine ⟨h6, hw6, ?_⟩
        (conv => whnf); (refine ar_i64 (by omega) ?_); (conv => whnf)
        obtain ⟨s1, s2⟩ := step 0 e2 1 (by omega) (by omega) (by omega) (by omega) eB
        refine ih ⟨w ++ [e2], 1⟩ _ _ (by simp; omega) ⟨rfl, rfl, rfl, ?_, trivial⟩ ⟨hnx6.trans hnx, fun k hk => (hg6 k hk).trans (hg k hk), ?_, by simp, by simp; omega, s1, s2⟩
        · show Value.int _ _ = Value.int _ _
          simp
        · dsimp only
          rw [← hset]
          exact ho6
      · have h3' : br + 0 ≤ (digs 10000 x)[w.length] := by have := of_decide_eq_false h3; omega
        obtain ⟨e2, hee2⟩ : ∃ e2, e2 = (digs 10000 x)[w.length] - (br + 0) := ⟨_, rfl⟩
        rw [hdd e2 (by omega)]
        (conv => whnf)
        refine ⟨by omega, ?_⟩
        (dsimp only [force, steps]); (dsimp only [stepW, AOp.strict]); (dsimp only [sst]); (conv => whnf)
        refine ⟨rfl, ?_⟩
        obtain ⟨h6, hw6, ho6, hext6, hnx6, hg6⟩ := ho.set64 (w.length : Int) w.length (e2 : Int) e2 rfl (by simp; omega) rfl
        refine ⟨h6, hw6, ?_⟩
        (conv => whnf); (refine ar_i64 (by omega) ?_); (conv => whnf)
        obtain ⟨s1, s2⟩ := step 0 e2 0 (by omega) (by omega) (by omega) (by omega) eB
        refine ih ⟨w ++ [e2], 0⟩ _ _ (by simp; omega) ⟨rfl, rfl, rfl, ?_, trivial⟩ ⟨hnx6.trans hnx, fun k hk => (hg6 k hk).trans (hg k hk), ?_, by simp, by simp; omega, s1, s2⟩
        · show Value.int _ _ = Value.int _ _
          simp
        · dsimp only
          rw [← hset]
          exact ho6
  · have h2' : w.length = L := by have := of_decide_eq_false h2; omega
    have hb0 : br = 0 := by
      rcases Nat.lt_or_ge br 1 with h | h
      · omega
      · exfalso
        have : br = 1 := by omega
        subst this
        rw [List.take_of_length_le (by omega), List.take_of_length_le (by omega), ofD_digs (by decide), ofD_digs (by decide)] at hs
        have := ofD_lt hl
        omega
    subst hb0
    rw [List.take_of_length_le (by omega), List.take_of_length_le (by omega), ofD_digs (by decide), ofD_digs (by decide)] at hs
    rw [h2', hL, List.drop_eq_nil_of_le (Nat.le_refl _), List.append_nil] at ho
    have e0 : ofD 10000 w = x - y := by omega
    have hsl : Sl h' (some ⟨j, 0, none⟩) c (i64s w) := by
      have := (ho.sl (c := c) (by simp; omega)).take w.length
      rw [i64s_take, List.take_left] at this
      exact this
    (conv => whnf)
    rw [← hL, ← h2']
    refine itrim_ok T hsl hl (by omega) fun hn => ?_
    rw [e0] at hn ⊢
    (conv => whnf)
    refine itext_ok T hn (by omega) fun h3 he3 => ?_
    (conv => whnf); (refine ⟨_, rfl, ?_⟩)
    exact hk _ ((he12.other hj2 hnx hg).trans he3)
end Go.Proofs.Ytpilfppdiifbjaa.Am

namespace Go.Proofs.Ytpilfppdiifbjaa.Am
open Go.Proofs.Ytpilfppdiifbjaa.Nt
variable {C : FuncId → Option AFn} {base : Cl} {n : Nat} {h : H} {K : Value → H → Prop}

theorem itimes_ok (T : Tab C) {b b' : Option Addr} {c c' x y : Nat} (hx : Ni h b c x) (hy : Ni h b' c' y) (hX : (digs 10000 x).length ≤ 8589934592) (hY : (digs 10000 y).length ≤ 8589934592)
    (hk : ∀ h' b c, Ext h h' → Ni h' b c (x * y) → K (niv b c (x * y)) h') : acall C base (n + 2) 71 [niv b c x, niv b' c' y] h K := by
  obtain ⟨la, hla⟩ : ∃ L, L = (digs 10000 x).length := ⟨_, rfl⟩
  obtain ⟨lb, hlb⟩ : ∃ L, L = (digs 10000 y).length := ⟨_, rfl⟩
  have dx := digs_lt (B := 10000) (by decide) x
  have dy := digs_lt (B := 10000) (by decide) y
  have ex := ofD_digs (B := 10000) (by decide) x
  have ey := ofD_digs (B := 10000) (by decide) y
  refine acall_of T.f71 ?_
  (conv => whnf)
  refine ar_i64e (la + lb) (by omega) (by omega) ?_
  (conv => whnf)
  refine ⟨by omega, ?_⟩
  (conv => whnf)
  have ho0 : Own (h.push (.cells (List.replicate (Int.toNat ((la + lb : Nat) : Int)) [Value.int .i64 0]).flatten 3 true false)) h.next (i64s (List.replicate (la + lb) 0)) 3 false := by
    rw [flat_i64, show Int.toNat ((la + lb : Nat) : Int) = la + lb from by omega]
    exact Own.push _ _ _
  refine loop_upd (X := Nat × List Nat) (fun v => [(0, niv b c x), (1, niv b' c' y), (5, .slice (some ⟨h.next, 0, none⟩) (la + lb) (la + lb)), (6, .int .i64 (v.1 : Int))])
    (fun v h' => Ext h h' ∧ Own h' h.next (i64s v.2) 3 false ∧ v.2.length = la + lb ∧ (∀ d ∈ v.2, d < 10000) ∧ v.1 ≤ la ∧ (∀ p (hp : p < v.2.length), v.1 + lb ≤ p → v.2[p] = 0) ∧ ofD 10000 v.2 = ofD 10000 ((digs 10000 x).take v.1) * y)
    (fun v => la - v.1) ?_ ⟨0, List.replicate (la + lb) 0⟩ _ _ ⟨rfl, rfl, rfl, rfl, trivial⟩ ⟨(Ext.refl _).push _, ho0, by simp, ?_, by simp, ?_, ?_⟩
  · intro n ⟨i, o⟩ f h' ⟨he, ho, hlen, hlt, hi, hz, hs⟩ ih
    dsimp only at ih ho hlen hlt hi hz hs ⊢
    (conv => whnf); (refine obool_intro (fun h2 => ?_) (fun h2 => ?_))
    · have h2' : i < la := by have := of_decide_eq_true h2; omega
      obtain ⟨bi, bo, rfl, hi', hat⟩ := Sl.all64 hx (by omega)
      obtain ⟨xi, hxi⟩ : ∃ xi, xi = (digs 10000 x)[i]'(by omega) := ⟨_, rfl⟩
      have xilt : xi < 10000 := by rw [hxi]; exact dx _ (List.getElem_mem _)
      have ei : (digs 10000 x)[i]?.getD 0 = xi := by rw [List.getElem?_eq_getElem (by omega), hxi]; rfl
      (conv => whnf)
      refine loop_upd (X := Nat × List Nat × Nat) (fun v => [(0, niv (some ⟨bi, bo, none⟩) c x), (1, niv b' c' y), (5, .slice (some ⟨h.next, 0, none⟩) (la + lb) (la + lb)), (6, .int .i64 (i : Int)), (7, .int .i64 (v.2.2 : Int)), (8, .int .i64 (v.1 : Int))])
        (fun v h' => Ext h h' ∧ Own h' h.next (i64s v.2.1) 3 false ∧ v.2.1.length = la + lb ∧ (∀ d ∈ v.2.1, d < 10000) ∧ v.1 ≤ lb ∧ v.2.2 < 10000 ∧ (∀ p (hp : p < v.2.1.length), i + lb ≤ p → v.2.1[p] = 0) ∧ ofD 10000 v.2.1 + 10000 ^ (i + v.1) * v.2.2 = ofD 10000 ((digs 10000 x).take i) * y + 10000 ^ i * (xi * ofD 10000 ((digs 10000 y).take v.1)))
        (fun v => lb - v.1) ?_ ⟨0, o, 0⟩ _ _ ⟨rfl, rfl, rfl, rfl, rfl, rfl, trivial⟩ ⟨he, ho, hlen, hlt, by simp, by simp, hz, by simp [ofD, hs]⟩
      intro n ⟨k, o, cy⟩ f h' ⟨he, ho, hlen, hlt, hk, hcy, hz, hs⟩ ih2
      dsimp only at ih2 ho hlen hlt hk hcy hz hs ⊢
      (conv => whnf); (refine obool_intro (fun h3 => ?_) (fun h3 => ?_))
      · have h3' : k < lb := by have := of_decide_eq_true h3; omega
        obtain ⟨bi', bo', rfl, hi'', hat'⟩ := Sl.all64 hy (by omega)
        obtain ⟨yk, hyk⟩ : ∃ yk, yk = (digs 10000 y)[k]'(by omega) := ⟨_, rfl⟩
        have yklt : yk < 10000 := by rw [hyk]; exact dy _ (List.getElem_mem _)
        have ek : (digs 10000 y)[k]?.getD 0 = yk := by rw [List.getElem?_eq_getElem (by omega), hyk]; rfl
        obtain ⟨oik, hoik⟩ : ∃ oik, oik = o[i + k]'(by omega) := ⟨_, rfl⟩
        have oiklt : oik < 10000 := by rw [hoik]; exact hlt _ (List.getElem_mem _)
        obtain ⟨p, hp⟩ : ∃ p, p = xi * yk := ⟨_, rfl⟩
        have plt : p ≤ 9999 * 9999 := by rw [hp]; exact Nat.mul_le_mul (by omega) (by omega)
        obtain ⟨t, ht⟩ : ∃ t, t = cy + (oik + p) := ⟨_, rfl⟩
        (conv => whnf)
        refine ar_i64e (i + k) (by omega) (by omega) ?_
        (conv => whnf)
        refine ⟨by omega, ?_⟩
        (conv => whnf)
        refine ⟨_, ho.cell64 _ (i + k) rfl (by omega), ?_⟩
        rw [← hoik]
        (conv => whnf)
        refine ar_i64e (cy + oik) (by omega) (by omega) ?_
        (conv => whnf)
        refine ⟨by omega, ?_⟩
        (conv => whnf)
        refine ⟨_, hat _ he _ i rfl (by omega), ?_⟩
        rw [← hxi]
        (conv => whnf)
        refine ⟨by omega, ?_⟩
        (conv => whnf)
        refine ⟨_, hat' _ he _ k rfl (by omega), ?_⟩
        rw [← hyk]
        (conv => whnf)
        refine ar_i64e p (by rw [hp]; simp) (by omega) ?_
        (conv => whnf)
        refine ar_i64e t (by omega) (by omega) ?_
        (conv => whnf)
        refine ar_i64e (i + k) (by omega) (by omega) ?_
        (conv => whnf)
        refine ⟨by decide, ?_⟩
        rw [tmod4]
        (conv => whnf)
        refine ⟨by omega, ?_⟩
        (dsimp only [force, steps]); (dsimp only [stepW, AOp.strict]); (dsimp only [sst]); (conv => whnf)
        refine ⟨rfl, ?_⟩
        obtain ⟨h6, hw6, ho6, hext6, hnx6, hg6⟩ := ho.set64 ((i + k : Nat) : Int) (i + k) ((t % 10000 : Nat) : Int) (t % 10000) rfl (by omega) rfl
        refine ⟨h6, hw6, ?_⟩
        (conv => whnf)
        refine ⟨by decide, ?_⟩
        refine ar_i64e (t / 10000) (tdiv4 t) (by omega) ?_
        (conv => whnf)
        refine ar_i64e (k + 1) (by omega) (by omega) ?_
        (conv => whnf)
        refine ih2 ⟨k + 1, o.set (i + k) (t % 10000), t / 10000⟩ _ _ (by dsimp only; omega) ⟨rfl, rfl, rfl, rfl, rfl, rfl, trivial⟩ ⟨hext6 _ he (Nat.le_refl _), ho6, by simpa using hlen, ?_, by dsimp only; omega, by dsimp only; omega, ?_, ?_⟩
        · intro d hd
          rcases List.mem_or_eq_of_mem_set hd with hd | hd
          · exact hlt d hd
          · rw [hd]; exact Nat.mod_lt _ (by decide)
        · intro p hp hip
          dsimp only at hp ⊢
          rw [List.getElem_set_ne (by omega)]
          exact hz p (by simpa using hp) hip
        · dsimp only
          rw [ofD_take_succ, ek]
          exact mul_step (hoik ▸ ofD_set 10000 o (i + k) (t % 10000) (by omega)) (by rw [ht, hp]) hs
      · have h3' : k = lb := by have := of_decide_eq_false h3; omega
        subst h3'
        clear ho0
        have ey' : ofD 10000 ((digs 10000 y).take k) = y := by rw [List.take_of_length_le (by omega), ey]
        rw [ey'] at hs
        (conv => whnf)
        refine ar_i64e (i + k) (by omega) (by omega) ?_
        (conv => whnf)
        refine loop_upd (X := Nat × List Nat × Nat) (fun v => [(0, niv (some ⟨bi, bo, none⟩) c x), (1, niv b' c' y), (5, .slice (some ⟨h.next, 0, none⟩) (la + k) (la + k)), (6, .int .i64 (i : Int)), (7, .int .i64 (v.2.2 : Int)), (9, .int .i64 ((i + k + v.1 : Nat) : Int))])
          (fun v h' => Ext h h' ∧ Own h' h.next (i64s v.2.1) 3 false ∧ v.2.1.length = la + k ∧ (∀ d ∈ v.2.1, d < 10000) ∧ v.1 ≤ 1 ∧ v.2.2 < 10000 ∧ (v.1 = 1 → v.2.2 = 0) ∧ (∀ p (hp : p < v.2.1.length), i + k + v.1 ≤ p → v.2.1[p] = 0) ∧ ofD 10000 v.2.1 + 10000 ^ (i + k) * v.2.2 = ofD 10000 ((digs 10000 x).take i) * y + 10000 ^ i * (xi * y))
          (fun v => 1 - v.1) ?_ ⟨0, o, cy⟩ _ _ ⟨rfl, rfl, rfl, rfl, rfl, rfl, trivial⟩ ⟨he, ho, hlen, hlt, by simp, hcy, by simp, by simpa using hz, hs⟩
        intro n ⟨st, o, cy⟩ f h' ⟨he, ho, hlen, hlt, hst, hcy, hsc, hz, hs⟩ ih3
        dsimp only at ih3 ho hlen hlt hst hcy hsc hz hs ⊢
        (conv => whnf); (refine obool_intro (fun h4 => ?_) (fun h4 => ?_))
        · have h4' : 0 < cy := by have := of_decide_eq_true h4; omega
          have hst0 : st = 0 := by
            rcases Nat.lt_or_ge st 1 with h | h
            · omega
            · have := hsc (by omega); omega
          subst hst0
          have h0 := hz (i + k) (by omega) (by omega)
          (conv => whnf)
          refine ⟨by omega, ?_⟩
          (conv => whnf)
          refine ⟨_, ho.cell64 _ (i + k) rfl (by omega), ?_⟩
          rw [h0]
          (conv => whnf)
          refine ar_i64e cy (by omega) (by omega) ?_
          (conv => whnf)
          refine ⟨by decide, ?_⟩
          rw [tmod4, Nat.mod_eq_of_lt hcy]
          (conv => whnf)
          refine ⟨by omega, ?_⟩
          (dsimp only [force, steps]); (dsimp only [stepW, AOp.strict]); (dsimp only [sst]); (conv => whnf)
          refine ⟨rfl, ?_⟩
          obtain ⟨h6, hw6, ho6, hext6, hnx6, hg6⟩ := ho.set64 ((i + k + 0 : Nat) : Int) (i + k) (cy : Int) cy rfl (by omega) rfl
          refine ⟨h6, hw6, ?_⟩
          (conv => whnf)
          refine ⟨by decide, ?_⟩
          refine ar_i64e 0 (by rw [tdiv4, Nat.div_eq_of_lt hcy]) (by omega) ?_
          (conv => whnf)
          refine ar_i64e (i + k + 1) (by omega) (by omega) ?_
          (conv => whnf)
          refine ih3 ⟨1, o.set (i + k) cy, 0⟩ _ _ (by dsimp only; omega) ⟨rfl, rfl, rfl, rfl, rfl, rfl, trivial⟩ ⟨hext6 _ he (Nat.le_refl _), ho6, by simpa using hlen, ?_, by simp, by simp, by simp, ?_, ?_⟩
          · intro d hd
            rcases List.mem_or_eq_of_mem_set hd with hd | hd
            · exact hlt d hd
            · rw [hd]; exact hcy
          · intro p hp hip
            dsimp only at hp hip ⊢
            rw [List.getElem_set_ne (by omega)]
            exact hz p (by simpa using hp) (by omega)
          · have e := ofD_set 10000 o (i + k) cy (by omega)
            rw [h0] at e
            dsimp only
            rw [← hs]; omega
        · have h4' : cy = 0 := by have := of_decide_eq_false h4; omega
          subst h4'
          (conv => whnf)
          refine ar_i64e (i + 1) (by omega) (by omega) ?_
          (conv => whnf)
          refine ih ⟨i + 1, o⟩ _ _ (by dsimp only; omega) ⟨rfl, rfl, rfl, rfl, trivial⟩ ⟨he, ho, hlen, hlt, by dsimp only; omega, fun p hp hip => hz p hp (by dsimp only at hip; omega), ?_⟩
          dsimp only
          rw [ofD_take_succ, ei, Nat.add_mul, Nat.mul_assoc, ← hs, Nat.mul_zero, Nat.add_zero]
    · have h2' : i = la := by have := of_decide_eq_false h2; omega
      clear ho0
      subst h2'
      rw [List.take_of_length_le (by omega), ex] at hs
      (conv => whnf)
      rw [← hlen]
      refine itrim_ok T (ho.sl (by simp)) hlt (by omega) fun hn => ?_
      rw [hs] at hn ⊢
      (conv => whnf); (refine ⟨_, rfl, ?_⟩)
      exact hk _ _ _ he hn
  · intro d hd
    rw [List.eq_of_mem_replicate hd]; decide
  · intro p hp _
    simp
  · dsimp only
    rw [ofD_zeros _ _ fun d hd => List.eq_of_mem_replicate hd]; simp [ofD]

theorem Times_ok (T : Tab C) {x y : Nat} (hX : (dec x).length ≤ 1073741824) (hY : (dec y).length ≤ 1073741824)
    (hk : ∀ h', Ext h h' → K (.string (bs (dec (x * y)))) h') : acall C base (n + 3) 54 [.string (bs (dec x)), .string (bs (dec y))] h K := by
  have hlx := len4_le x
  have hly := len4_le y
  have hls := len4_le (x * y)
  have hlsD := mul_lenD hX hY
  refine acall_of T.f54 ?_
  (conv => whnf)
  refine limbs_dec T (by omega) fun h1 b c he1 hx => ?_
  (conv => whnf)
  refine limbs_dec T (by omega) fun h2 b' c' he2 hy => ?_
  (conv => whnf)
  refine itimes_ok T (hx.ext he2) hy (by omega) (by omega) fun h3 b3 c3 he3 hn3 => ?_
  (conv => whnf)
  refine itext_ok T hn3 (by omega) fun h4 he4 => ?_
  (conv => whnf); (refine ⟨_, rfl, ?_⟩)
  exact hk _ (((he1.trans he2).trans he3).trans he4)

theorem less_ok (T : Tab C) {b b' : Option Addr} {c c' x y : Nat} (hx : Ni h b c x) (hy : Ni h b' c' y) (hX : (digs 10000 x).length ≤ 1099511627776) (hY : (digs 10000 y).length ≤ 1099511627776)
    (hk : K (.bool (decide (x < y))) h) : acall C base (n + 1) 72 [niv b c x, niv b' c' y] h K := by
  refine acall_of T.f72 ?_
  (conv => whnf); (refine obool_intro (fun h1 => ?_) (fun h1 => ?_))
  · have h1' : (digs 10000 x).length ≠ (digs 10000 y).length := by simp at h1; omega
    (conv => whnf); (refine ⟨_, rfl, ?_⟩)
    have e : decide (((digs 10000 x).length : Int) < ((digs 10000 y).length : Int)) = decide (x < y) := by
      rw [decide_eq_decide]
      constructor
      · intro h; exact lt_of_len (B := 10000) (by decide) (by omega)
      · intro h
        have := digs_len_mono (B := 10000) (by decide) (Nat.le_of_lt h)
        omega
    rw [← e] at hk; exact hk
  have h1' : (digs 10000 x).length = (digs 10000 y).length := by simp at h1; omega
  (conv => whnf); (refine ar_i64 (by omega) ?_); (conv => whnf)
  refine loop_upd (X := Nat) (fun k => [(0, niv b c x), (1, niv b' c' y), (5, .int .i64 ((k : Int) - 1))]) (fun k h' => h' = h ∧ k ≤ (digs 10000 x).length ∧ ∀ i (hi : i < (digs 10000 x).length) (hj : i < (digs 10000 y).length), k ≤ i → (digs 10000 x)[i] = (digs 10000 y)[i]) (fun k => k) ?_ (digs 10000 x).length _ _ ⟨rfl, rfl, rfl, trivial⟩ ⟨rfl, Nat.le_refl _, fun _ _ _ _ => by omega⟩
  intro n k f h' ⟨he, hkl, hz⟩ ih
  subst he
  (conv => whnf); (refine obool_intro (fun h2 => ?_) (fun h2 => ?_))
  · have h2' : 0 < k := by have := of_decide_eq_true h2; omega
    obtain ⟨i, o, rfl, hi, hat⟩ := Sl.all64 hx (by omega)
    obtain ⟨i', o', rfl, hi', hat'⟩ := Sl.all64 hy (by omega)
    (conv => whnf)
    refine ⟨by omega, ?_⟩
    (conv => whnf)
    refine ⟨_, hat _ (Ext.refl _) _ (k - 1) (by omega) (by omega), ?_⟩
    (conv => whnf)
    refine ⟨by omega, ?_⟩
    (conv => whnf)
    refine ⟨_, hat' _ (Ext.refl _) _ (k - 1) (by omega) (by omega), ?_⟩
    (conv => whnf); (refine obool_intro (fun h3 => ?_) (fun h3 => ?_))
    · have h3' : (digs 10000 x)[k - 1] ≠ (digs 10000 y)[k - 1] := by simp at h3; omega
      (conv => whnf)
      refine ⟨by omega, ?_⟩
      (conv => whnf)
      refine ⟨_, hat _ (Ext.refl _) _ (k - 1) (by omega) (by omega), ?_⟩
      (conv => whnf)
      refine ⟨by omega, ?_⟩
      (conv => whnf)
      refine ⟨_, hat' _ (Ext.refl _) _ (k - 1) (by omega) (by omega), ?_⟩
      have eX := ofD_digs (B := 10000) (by decide) x
      have eY := ofD_digs (B := 10000) (by decide) y
      have e : decide ((((digs 10000 x)[k - 1] : Nat) : Int) < (((digs 10000 y)[k - 1] : Nat) : Int)) = decide (x < y) := by
        rw [decide_eq_decide]
        constructor
        · intro h
          have := ofD_lt_of_top (B := 10000) (digs_lt (by decide) x) h1' (by omega) (by omega) (show (digs 10000 x)[k - 1] < (digs 10000 y)[k - 1] by omega) (fun i hi hi' hki => hz i hi hi' (by omega))
          omega
        · intro h
          rcases Nat.lt_or_ge (digs 10000 x)[k - 1] (digs 10000 y)[k - 1] with g | g
          · omega
          · exfalso
            have := ofD_lt_of_top (B := 10000) (digs_lt (by decide) y) h1'.symm (by omega) (by omega) (show (digs 10000 y)[k - 1] < (digs 10000 x)[k - 1] by omega) (fun i hi hi' hki => (hz i hi' hi (by omega)).symm)
            omega
      (conv => whnf); (refine ⟨_, rfl, ?_⟩)
      rw [← e] at hk; exact hk
    · have h3' : (digs 10000 x)[k - 1] = (digs 10000 y)[k - 1] := by simp at h3; omega
      (conv => whnf); (refine ar_i64 (by omega) ?_); (conv => whnf)
      refine ih (k - 1) _ _ (by omega) ⟨rfl, rfl, ?_, trivial⟩ ⟨rfl, by omega, fun j hj hj' hkj => ?_⟩
      · show Value.int _ _ = Value.int _ _
        congr 1; omega
      · by_cases hjk : j = k - 1
        · subst hjk; exact h3'
        · exact hz j hj hj' (by omega)
  · have h2' : k = 0 := by have := of_decide_eq_false h2; omega
    subst h2'
    (conv => whnf); (refine ⟨_, rfl, ?_⟩)
    have e : digs 10000 x = digs 10000 y := List.ext_getElem h1' fun i hi hi' => hz i hi hi' (Nat.zero_le _)
    have eX := ofD_digs (B := 10000) (by decide) x
    have eY := ofD_digs (B := 10000) (by decide) y
    have : x = y := by rw [← eX, ← eY, e]
    rw [decide_eq_false (by omega)] at hk; exact hk
end Go.Proofs.Ytpilfppdiifbjaa.Am
