/- What the functions of nat compute: sums, differences, products. -/
import Derived.Test.YtpilfppdiifbjaaMs0
import Derived.Test.YtpilfppdiifbjaaFn
set_option linter.unusedVariables false
set_option linter.unusedSimpArgs false
set_option maxRecDepth 100000
namespace Go.Proofs.Ytpilfppdiifbjaa.Am
open Go.Proofs.Ytpilfppdiifbjaa.Nt

variable {C : FuncId → Option AFn} {base : Cl} {n : Nat} {h : H} {K : Value → H → Prop}

theorem isDig_ge {c : UInt8} (h : isDig c = true) : 48 ≤ c.toNat := by
  simp only [isDig, Bool.and_eq_true, decide_eq_true_eq] at h; exact h.1
theorem isDig_le {c : UInt8} (h : isDig c = true) : c.toNat ≤ 57 := by
  simp only [isDig, Bool.and_eq_true, decide_eq_true_eq] at h; exact h.2
theorem right_false_long {l : List UInt8} (h : 600 < l.length) : right l = false := by
  unfold right; simp; omega
theorem right_false_dig {l : List UInt8} {i : Nat} (hi : i < l.length) (h : isDig l[i] = false) : right l = false := by
  cases hr : right l with
  | false => rfl
  | true =>
    unfold right at hr
    simp only [Bool.and_eq_true] at hr
    have := List.all_eq_true.1 (natural_all hr.2) l[i] (List.getElem_mem hi)
    rw [this] at h; cases h
theorem right_false_lead {l : List UInt8} (h1 : 1 < l.length) (h : l[0] = 48) : right l = false := by
  unfold right natural
  have : l[0]? = some 48 := by rw [List.getElem?_eq_getElem (by omega), h]
  simp [this, h1]
theorem right_true {l : List UInt8} (h0 : l ≠ []) (h1 : l.length ≤ 600) (h2 : ¬ (l[0]? = some 48 ∧ 1 < l.length)) (h3 : ∀ i (h : i < l.length), isDig l[i] = true) : right l = true := by
  unfold right natural
  simp only [Bool.and_eq_true, decide_eq_true_eq, Bool.not_eq_true', Bool.and_eq_false_iff, decide_eq_false_iff_not, List.all_eq_true]
  refine ⟨h1, ⟨h0, ?_⟩, ?_⟩
  · by_cases h : l[0]? = some 48
    · exact .inl fun h' => h2 ⟨h, h'⟩
    · exact .inr h
  · intro c hc
    obtain ⟨i, hi, rfl⟩ := List.mem_iff_getElem.1 hc
    exact h3 i hi

theorem right_ok (hC : C 18 = some F18) (l : List UInt8) (hk : K (.bool (right l)) h) : acall C base (n + 1) 18 [.string (bs l)] h K := by
  refine acall_of hC ?_
  (conv => whnf); (refine obool_intro (fun h1 => ?_) (fun h1 => ?_))
  · (conv => whnf); (refine ⟨_, rfl, ?_⟩)
    have : l = [] := by simpa using h1
    subst this; exact hk
  have h0 : l ≠ [] := by intro h; subst h; simp at h1
  (conv => whnf); (refine obool_intro (fun h2 => ?_) (fun h2 => ?_))
  · (conv => whnf); (refine ⟨_, rfl, ?_⟩)
    rw [right_false_long (by simp at h2; omega)] at hk; exact hk
  have h2' : l.length ≤ 600 := by simp at h2; omega
  have hpos : 0 < l.length := List.length_pos_iff.2 h0
  have hb : byteAt (bs l) 0 = l[0].toNat := bs_byteAt_lt hpos
  (conv => whnf)
  refine ⟨by simp; omega, ?_⟩
  (conv => whnf); (refine obool_intro (fun h3 => ?_) (fun h3 => ?_))
  · (conv => whnf); (refine obool_intro (fun h4 => ?_) (fun h4 => ?_))
    · (conv => whnf); (refine ⟨_, rfl, ?_⟩)
      have h4' : 1 < l.length := by simp at h4; omega
      rw [right_false_lead h4' (by simp [hb] at h3; exact UInt8.toNat_inj.1 (by simp; omega))] at hk; exact hk
    have h5 : ¬ (l[0]? = some 48 ∧ 1 < l.length) := by simp at h4; omega
    (conv => whnf)
    refine loop_upd (X := Nat) (fun i => [(0, .string (bs l)), (23, .int .i64 l.length), (24, .int .i64 i)]) (fun i h' => h' = h ∧ i ≤ l.length ∧ ∀ j (hj : j < l.length), j < i → isDig l[j] = true) (fun i => l.length - i) ?_ 0 _ _ ⟨rfl, rfl, rfl, trivial⟩ ⟨rfl, Nat.zero_le _, fun _ _ h => absurd h (by omega)⟩
    intro n i f h' ⟨he, hi, hd⟩ ih
    subst he
    (conv => whnf); (refine obool_intro (fun h6 => ?_) (fun h6 => ?_))
    · have hi' : i < l.length := by simpa using h6
      (conv => whnf)
      refine ⟨by simp; omega, ?_⟩
      have hb : byteAt (bs l) i = l[i].toNat := bs_byteAt_lt hi'
      (conv => whnf); (refine obool_intro (fun h7 => ?_) (fun h7 => ?_))
      · (conv => whnf); (refine ⟨_, rfl, ?_⟩)
        rw [right_false_dig hi' (by unfold isDig; simp [hb] at h7 ⊢; omega)] at hk; exact hk
      · (conv => whnf)
        refine ⟨by simp; omega, ?_⟩
        (conv => whnf); (refine obool_intro (fun h8 => ?_) (fun h8 => ?_))
        · (conv => whnf); (refine ⟨_, rfl, ?_⟩)
          rw [right_false_dig hi' (by unfold isDig; simp [hb] at h7 h8 ⊢; omega)] at hk; exact hk
        · (conv => whnf)
          refine ar_i64 (by omega) ?_
          (conv => whnf)
          refine ih (i + 1) _ _ (by omega) ⟨rfl, rfl, rfl, trivial⟩ ⟨rfl, hi', fun j hj hji => ?_⟩
          by_cases hj' : j = i
          · subst hj'; unfold isDig; simp [hb] at h7 h8 ⊢; omega
          · exact hd j hj (by omega)
    · have hi' : i = l.length := by simp at h6; omega
      subst hi'
      (conv => whnf); (refine ⟨_, rfl, ?_⟩)
      rw [right_true h0 h2' h5 (fun i hi => hd i hi hi)] at hk; exact hk
  have h5 : ¬ (l[0]? = some 48 ∧ 1 < l.length) := by
    rintro ⟨h, -⟩
    rw [List.getElem?_eq_getElem hpos, Option.some.injEq] at h
    simp [hb, h] at h3
  (conv => whnf)
  refine loop_upd (X := Nat) (fun i => [(0, .string (bs l)), (23, .int .i64 l.length), (24, .int .i64 i)]) (fun i h' => h' = h ∧ i ≤ l.length ∧ ∀ j (hj : j < l.length), j < i → isDig l[j] = true) (fun i => l.length - i) ?_ 0 _ _ ⟨rfl, rfl, rfl, trivial⟩ ⟨rfl, Nat.zero_le _, fun _ _ h => absurd h (by omega)⟩
  intro n i f h' ⟨he, hi, hd⟩ ih
  subst he
  (conv => whnf); (refine obool_intro (fun h6 => ?_) (fun h6 => ?_))
  · have hi' : i < l.length := by simpa using h6
    (conv => whnf)
    refine ⟨by simp; omega, ?_⟩
    have hb : byteAt (bs l) i = l[i].toNat := bs_byteAt_lt hi'
    (conv => whnf); (refine obool_intro (fun h7 => ?_) (fun h7 => ?_))
    · (conv => whnf); (refine ⟨_, rfl, ?_⟩)
      rw [right_false_dig hi' (by unfold isDig; simp [hb] at h7 ⊢; omega)] at hk; exact hk
    · (conv => whnf)
      refine ⟨by simp; omega, ?_⟩
      (conv => whnf); (refine obool_intro (fun h8 => ?_) (fun h8 => ?_))
      · (conv => whnf); (refine ⟨_, rfl, ?_⟩)
        rw [right_false_dig hi' (by unfold isDig; simp [hb] at h7 h8 ⊢; omega)] at hk; exact hk
      · (conv => whnf)
        refine ar_i64 (by omega) ?_
        (conv => whnf)
        refine ih (i + 1) _ _ (by omega) ⟨rfl, rfl, rfl, trivial⟩ ⟨rfl, hi', fun j hj hji => ?_⟩
        by_cases hj' : j = i
        · subst hj'; unfold isDig; simp [hb] at h7 h8 ⊢; omega
        · exact hd j hj (by omega)
  · have hi' : i = l.length := by simp at h6; omega
    subst hi'
    (conv => whnf); (refine ⟨_, rfl, ?_⟩)
    rw [right_true h0 h2' h5 (fun i hi => hd i hi hi)] at hk; exact hk
end Go.Proofs.Ytpilfppdiifbjaa.Am

namespace Go.Proofs.Ytpilfppdiifbjaa.Am
open Go.Proofs.Ytpilfppdiifbjaa.Nt
variable {C : FuncId → Option AFn} {base : Cl} {n : Nat} {h : H} {K : Value → H → Prop}

/-- A number's limbs. -/
def Nm (h : H) (b : Option Addr) (c x : Nat) : Prop := Sl h b c (u32s (digs 1000000000 x))
abbrev nv (b : Option Addr) (c x : Nat) : Value := .slice b (digs 1000000000 x).length c
theorem Nm.ext {h h' : H} {b : Option Addr} {c x : Nat} (m : Nm h b c x) (e : Ext h h') : Nm h' b c x := Sl.ext m e

theorem trim_ok (hC : C 45 = some F45) {b : Option Addr} {c : Nat} {l : List Nat} (hs : Sl h b c (u32s l)) (hl : ∀ d ∈ l, d < 1000000000) (hL : l.length ≤ 1099511627776)
    (hk : Nm h b c (ofD 1000000000 l) → K (nv b c (ofD 1000000000 l)) h) : acall C base (n + 1) 45 [.slice b l.length c] h K := by
  refine acall_of hC ?_
  (conv => whnf)
  refine loop_upd (X := Nat) (fun k => [(0, .slice b k c)]) (fun k h' => h' = h ∧ k ≤ l.length ∧ ∀ i (hi : i < l.length), k ≤ i → l[i] = 0) (fun k => k) ?_ l.length _ _ ⟨rfl, trivial⟩ ⟨rfl, Nat.le_refl _, fun _ _ _ => by omega⟩
  intro n k f h' ⟨he, hkl, hz⟩ ih
  subst he
  (conv => whnf); (refine obool_intro (fun h1 => ?_) (fun h1 => ?_))
  · have h1' : 0 < k := by simp at h1; omega
    obtain ⟨i, o, rfl, hi, hat⟩ := hs.all32 (by omega)
    (conv => whnf)
    (refine ar_i64 (by omega) ?_); (conv => whnf)
    refine ⟨by omega, ?_⟩
    (conv => whnf)
    refine ⟨_, hat _ (Ext.refl _) _ (k - 1) (by omega) (by omega), ?_⟩
    (conv => whnf); (refine obool_intro (fun h2 => ?_) (fun h2 => ?_))
    · have h2' : l[k - 1] = 0 := by simp at h2; omega
      (conv => whnf)
      (refine ar_i64 (by omega) ?_); (conv => whnf)
      refine ⟨by have := hs.cap; simp at this; omega, ?_⟩
      (conv => whnf)
      refine ih (k - 1) _ _ (by omega) ⟨?_, trivial⟩ ⟨rfl, by omega, fun j hj hkj => ?_⟩
      · show Value.slice _ _ _ = Value.slice _ _ _
        congr 1; omega
      · by_cases hjk : j = k - 1
        · subst hjk; exact h2'
        · exact hz j hj (by omega)
    · have h2' : l[k - 1] ≠ 0 := by simp at h2; omega
      (conv => whnf); (refine ⟨_, rfl, ?_⟩)
      have e := digs_take (B := 1000000000) (by omega) hl hkl hz (fun _ _ => h2')
      have el : (digs 1000000000 (ofD 1000000000 l)).length = k := by rw [e, List.length_take]; omega
      have := hk (by unfold Nm; rw [e, ← u32s_take]; exact hs.take k)
      rw [nv, el] at this; exact this
  · have h1' : k = 0 := by simp at h1; omega
    subst h1'
    (conv => whnf); (refine ⟨_, rfl, ?_⟩)
    have e := digs_take (B := 1000000000) (by omega) hl hkl hz (fun _ h => absurd h (by omega))
    have el : (digs 1000000000 (ofD 1000000000 l)).length = 0 := by rw [e]; rfl
    have := hk (by unfold Nm; rw [e, ← u32s_take]; exact hs.take 0)
    rw [nv, el] at this; exact this

def cmpN (x y : Nat) : Int := if x < y then -1 else if x = y then 0 else 1
theorem lt_of_len {B x y : Nat} (hB : 2 ≤ B) (h : (digs B x).length < (digs B y).length) : x < y := by
  rcases Nat.lt_or_ge x y with h' | h'
  · exact h'
  · have := digs_len_mono hB h'; omega

theorem cmp_ok (hC : C 58 = some F58) {b b' : Option Addr} {c c' x y : Nat} (hx : Nm h b c x) (hy : Nm h b' c' y) (hX : (digs 1000000000 x).length ≤ 1099511627776) (hY : (digs 1000000000 y).length ≤ 1099511627776)
    (hk : K (.int .i64 (cmpN x y)) h) : acall C base (n + 1) 58 [nv b c x, nv b' c' y] h K := by
  refine acall_of hC ?_
  (conv => whnf); (refine obool_intro (fun h1 => ?_) (fun h1 => ?_))
  · have h1' : (digs 1000000000 x).length ≠ (digs 1000000000 y).length := by simp at h1; omega
    (conv => whnf); (refine obool_intro (fun h2 => ?_) (fun h2 => ?_))
    · have h2' : x < y := lt_of_len (B := 1000000000) (by decide) (by simpa using h2)
      (conv => whnf); (refine ⟨_, rfl, ?_⟩)
      rw [cmpN, if_pos h2'] at hk; exact hk
    · have h2' : y < x := lt_of_len (B := 1000000000) (by decide) (by simp at h2; omega)
      (conv => whnf); (refine ⟨_, rfl, ?_⟩)
      rw [cmpN, if_neg (by omega), if_neg (by omega)] at hk; exact hk
  have h1' : (digs 1000000000 x).length = (digs 1000000000 y).length := by simp at h1; omega
  (conv => whnf); (refine ar_i64 (by omega) ?_); (conv => whnf)
  refine loop_upd (X := Nat) (fun k => [(0, nv b c x), (1, nv b' c' y), (5, .int .i64 ((k : Int) - 1))]) (fun k h' => h' = h ∧ k ≤ (digs 1000000000 x).length ∧ ∀ i (hi : i < (digs 1000000000 x).length) (hj : i < (digs 1000000000 y).length), k ≤ i → (digs 1000000000 x)[i] = (digs 1000000000 y)[i]) (fun k => k) ?_ (digs 1000000000 x).length _ _ ⟨rfl, rfl, rfl, trivial⟩ ⟨rfl, Nat.le_refl _, fun _ _ _ _ => by omega⟩
  intro n k f h' ⟨he, hkl, hz⟩ ih
  subst he
  (conv => whnf); (refine obool_intro (fun h2 => ?_) (fun h2 => ?_))
  · have h2' : 0 < k := by simp at h2; omega
    obtain ⟨i, o, rfl, hi, hat⟩ := Sl.all32 hx (by omega)
    obtain ⟨i', o', rfl, hi', hat'⟩ := Sl.all32 hy (by omega)
    (conv => whnf)
    refine ⟨by omega, ?_⟩
    (conv => whnf)
    refine ⟨_, hat _ (Ext.refl _) _ (k - 1) (by omega) (by omega), ?_⟩
    (conv => whnf)
    refine ⟨by omega, ?_⟩
    (conv => whnf)
    refine ⟨_, hat' _ (Ext.refl _) _ (k - 1) (by omega) (by omega), ?_⟩
    (conv => whnf); (refine obool_intro (fun h3 => ?_) (fun h3 => ?_))
    · have h3' : (digs 1000000000 x)[k - 1] ≠ (digs 1000000000 y)[k - 1] := by simp at h3; omega
      (conv => whnf)
      refine ⟨by omega, ?_⟩
      (conv => whnf)
      refine ⟨_, hat _ (Ext.refl _) _ (k - 1) (by omega) (by omega), ?_⟩
      (conv => whnf)
      refine ⟨by omega, ?_⟩
      (conv => whnf)
      refine ⟨_, hat' _ (Ext.refl _) _ (k - 1) (by omega) (by omega), ?_⟩
      have eX := ofD_digs (B := 1000000000) (by decide) x
      have eY := ofD_digs (B := 1000000000) (by decide) y
      (conv => whnf); (refine obool_intro (fun h4 => ?_) (fun h4 => ?_))
      · have h4' : (digs 1000000000 x)[k - 1] < (digs 1000000000 y)[k - 1] := by simp at h4; omega
        (conv => whnf); (refine ⟨_, rfl, ?_⟩)
        have := ofD_lt_of_top (B := 1000000000) (digs_lt (by decide) x) h1' (by omega) (by omega) h4' (fun i hi hi' hki => hz i hi hi' (by omega))
        rw [cmpN, if_pos (by omega)] at hk; exact hk
      · have h4' : (digs 1000000000 y)[k - 1] < (digs 1000000000 x)[k - 1] := by simp at h4; omega
        (conv => whnf); (refine ⟨_, rfl, ?_⟩)
        have := ofD_lt_of_top (B := 1000000000) (digs_lt (by decide) y) h1'.symm (by omega) (by omega) h4' (fun i hi hi' hki => (hz i hi' hi (by omega)).symm)
        rw [cmpN, if_neg (by omega), if_neg (by omega)] at hk; exact hk
    · have h3' : (digs 1000000000 x)[k - 1] = (digs 1000000000 y)[k - 1] := by simp at h3; omega
      (conv => whnf); (refine ar_i64 (by omega) ?_); (conv => whnf)
      refine ih (k - 1) _ _ (by omega) ⟨rfl, rfl, ?_, trivial⟩ ⟨rfl, by omega, fun j hj hj' hkj => ?_⟩
      · show Value.int _ _ = Value.int _ _
        congr 1; omega
      · by_cases hjk : j = k - 1
        · subst hjk; exact h3'
        · exact hz j hj hj' (by omega)
  · have h2' : k = 0 := by simp at h2; omega
    subst h2'
    (conv => whnf); (refine ⟨_, rfl, ?_⟩)
    have e : digs 1000000000 x = digs 1000000000 y := List.ext_getElem h1' fun i hi hi' => hz i hi hi' (Nat.zero_le _)
    have eX := ofD_digs (B := 1000000000) (by decide) x
    have eY := ofD_digs (B := 1000000000) (by decide) y
    have : x = y := by rw [← eX, ← eY, e]
    rw [cmpN, if_neg (by omega), if_pos this] at hk; exact hk

theorem add_ok (hC : C 48 = some F48) (hC' : C 45 = some F45) {b b' : Option Addr} {c c' x y : Nat} (hx : Nm h b c x) (hy : Nm h b' c' y) (hX : (digs 1000000000 x).length ≤ 549755813888) (hY : (digs 1000000000 y).length ≤ 549755813888)
    (hk : ∀ h' b c, Ext h h' → Nm h' b c (x + y) → K (nv b c (x + y)) h') : acall C base (n + 2) 48 [nv b c x, nv b' c' y] h K := by
  obtain ⟨M, hMx, hMy, hM⟩ : ∃ M, (digs 1000000000 x).length ≤ M ∧ (digs 1000000000 y).length ≤ M ∧ M ≤ 549755813888 := ⟨max (digs 1000000000 x).length (digs 1000000000 y).length, by omega, by omega, by omega⟩
  refine acall_of hC ?_
  (conv => whnf)
  refine loop_upd (X := Option Addr × Nat × List Nat × Nat) (fun v => [(0, nv b c x), (1, nv b' c' y), (5, .slice v.1 v.2.2.1.length v.2.1), (6, .int .u32 (v.2.2.2 : Int)), (7, .int .i64 (v.2.2.1.length : Int))])
    (fun v h' => Grow 53 h h' v.1 v.2.1 (u32s v.2.2.1) ∧ (∀ d ∈ v.2.2.1, d < 1000000000) ∧ v.2.2.2 ≤ 1 ∧ (v.2.2.1.length + v.2.2.2 ≤ M + 1) ∧
      ofD 1000000000 v.2.2.1 + 1000000000 ^ v.2.2.1.length * (v.2.2.2 + ofD 1000000000 ((digs 1000000000 x).drop v.2.2.1.length) + ofD 1000000000 ((digs 1000000000 y).drop v.2.2.1.length)) = x + y)
    (fun v => 2 * (((digs 1000000000 x).length - v.2.2.1.length) + ((digs 1000000000 y).length - v.2.2.1.length)) + v.2.2.2) ?_ ⟨none, 0, [], 0⟩ _ _ ⟨rfl, rfl, rfl, rfl, rfl, trivial⟩ ⟨Grow.nil _ (Ext.refl _), by simp, by simp, by simp, by simp [ofD, ofD_digs]⟩
  intro n ⟨b1, c1, l, cy⟩ f h' ⟨hg, hl, hcy, hlen, hs⟩ ih
  dsimp only at ih hg hl hcy hlen hs ⊢
  have dx := digs_lt (B := 1000000000) (by decide) x
  have dy := digs_lt (B := 1000000000) (by decide) y
  by_cases hA : l.length < (digs 1000000000 x).length
  · have eA : (digs 1000000000 x)[l.length]?.getD 0 = (digs 1000000000 x)[l.length] := by rw [List.getElem?_eq_getElem hA]; rfl
    have lA := dx _ (List.getElem_mem hA)
    obtain ⟨i, o, rfl, hi, hat⟩ := Sl.all32 hx (by omega)
    (conv => whnf); (refine obool_t (by first | (simp; done) | (simp; omega)) ?_); (conv => whnf); (refine obool_t (by first | (simp; done) | (simp; omega)) ?_); (conv => whnf)
    refine ⟨by omega, ?_⟩
    (conv => whnf)
    refine ⟨_, hat _ hg.e _ l.length rfl hA, ?_⟩
    (conv => whnf); (refine ar_u32 (by omega) ?_)
    by_cases hB : l.length < (digs 1000000000 y).length
    · have eB : (digs 1000000000 y)[l.length]?.getD 0 = (digs 1000000000 y)[l.length] := by rw [List.getElem?_eq_getElem hB]; rfl
      have lB := dy _ (List.getElem_mem hB)
      obtain ⟨i', o', rfl, hi', hat'⟩ := Sl.all32 hy (by omega)
      (conv => whnf); (refine obool_t (by first | (simp; done) | (simp; omega)) ?_); (conv => whnf)
      refine ⟨by omega, ?_⟩
      (conv => whnf)
      refine ⟨_, hat' _ hg.e _ l.length rfl hB, ?_⟩
      (conv => whnf); (refine ar_u32 (by omega) ?_)
      (conv => whnf)
      refine ⟨by decide, ?_⟩
      (conv => whnf)
      refine ⟨_, rfl, ?_⟩
      obtain ⟨p, hp, hp1, hg'⟩ := hg.one (m := l.length) (by simp) (.int .u32 (((cy + (digs 1000000000 x)[l.length] + (digs 1000000000 y)[l.length]) % 1000000000 : Nat) : Int))
      (conv => whnf)
      refine ⟨1, rfl, _, src_lit _ _ _, fun hle => absurd hle (by have := hg.cap; simp at this; omega), fun _ => ⟨by omega, p, hp, ?_⟩⟩
      (conv => whnf)
      refine ⟨by decide, ?_⟩
      refine ar_u32 (z := (((cy + (digs 1000000000 x)[l.length] + (digs 1000000000 y)[l.length]) / 1000000000 : Nat) : Int)) (by omega) ?_
      (conv => whnf); (refine ar_i64 (by omega) ?_); (conv => whnf)
      rw [show u32s l ++ [Value.int .u32 (((cy + (digs 1000000000 x)[l.length] + (digs 1000000000 y)[l.length]) % 1000000000 : Nat) : Int)] = u32s (l ++ [(cy + (digs 1000000000 x)[l.length] + (digs 1000000000 y)[l.length]) % 1000000000]) from u32s_app l [(cy + (digs 1000000000 x)[l.length] + (digs 1000000000 y)[l.length]) % 1000000000]] at hg'
      refine ih ⟨some ⟨h'.next + 1, 0, none⟩, l.length + 1, l ++ [(cy + (digs 1000000000 x)[l.length] + (digs 1000000000 y)[l.length]) % 1000000000], (cy + (digs 1000000000 x)[l.length] + (digs 1000000000 y)[l.length]) / 1000000000⟩ _ _ ?_ ⟨rfl, rfl, ?_, rfl, ?_, trivial⟩ ⟨hg', ?_, ?_, ?_, ?_⟩
      · simp; omega
      · show Value.slice (some ⟨h'.next + 1, 0, none⟩) (l.length + 1) (l.length + 1) = _
        simp
      · show Value.int _ _ = Value.int _ _
        simp
      · intro d hd
        rcases List.mem_append.1 hd with hd | hd
        · exact hl d hd
        · rw [List.mem_singleton.1 hd]; exact Nat.mod_lt _ (by decide)
      · dsimp only; omega
      · simp; omega
      · have e := carry_step (1000000000 ^ l.length) 1000000000 ((cy + (digs 1000000000 x)[l.length] + (digs 1000000000 y)[l.length])) (ofD 1000000000 ((digs 1000000000 x).drop (l.length + 1)) + ofD 1000000000 ((digs 1000000000 y).drop (l.length + 1)))
        dsimp only
        rw [ofD_snoc, List.length_append, List.length_singleton, Nat.pow_succ, Nat.add_assoc (((cy + (digs 1000000000 x)[l.length] + (digs 1000000000 y)[l.length])) / 1000000000), Nat.add_assoc, e, ← hs, ofD_drop _ _ l.length, ofD_drop _ (digs 1000000000 y) l.length, eA, eB]
        congr 2
        omega
    · have eB : (digs 1000000000 y)[l.length]?.getD 0 = 0 := by rw [List.getElem?_eq_none (by omega)]; rfl
      (conv => whnf); (refine obool_f (by first | (simp; done) | (simp; omega)) ?_)
      (conv => whnf)
      refine ⟨by decide, ?_⟩
      (conv => whnf)
      refine ⟨_, rfl, ?_⟩
      obtain ⟨p, hp, hp1, hg'⟩ := hg.one (m := l.length) (by simp) (.int .u32 (((cy + (digs 1000000000 x)[l.length]) % 1000000000 : Nat) : Int))
      (conv => whnf)
      refine ⟨1, rfl, _, src_lit _ _ _, fun hle => absurd hle (by have := hg.cap; simp at this; omega), fun _ => ⟨by omega, p, hp, ?_⟩⟩
      (conv => whnf)
      refine ⟨by decide, ?_⟩
      refine ar_u32 (z := (((cy + (digs 1000000000 x)[l.length]) / 1000000000 : Nat) : Int)) (by omega) ?_
      (conv => whnf); (refine ar_i64 (by omega) ?_); (conv => whnf)
      rw [show u32s l ++ [Value.int .u32 (((cy + (digs 1000000000 x)[l.length]) % 1000000000 : Nat) : Int)] = u32s (l ++ [(cy + (digs 1000000000 x)[l.length]) % 1000000000]) from u32s_app l [(cy + (digs 1000000000 x)[l.length]) % 1000000000]] at hg'
      refine ih ⟨some ⟨h'.next + 1, 0, none⟩, l.length + 1, l ++ [(cy + (digs 1000000000 x)[l.length]) % 1000000000], (cy + (digs 1000000000 x)[l.length]) / 1000000000⟩ _ _ ?_ ⟨rfl, rfl, ?_, rfl, ?_, trivial⟩ ⟨hg', ?_, ?_, ?_, ?_⟩
      · simp; omega
      · show Value.slice (some ⟨h'.next + 1, 0, none⟩) (l.length + 1) (l.length + 1) = _
        simp
      · show Value.int _ _ = Value.int _ _
        simp
      · intro d hd
        rcases List.mem_append.1 hd with hd | hd
        · exact hl d hd
        · rw [List.mem_singleton.1 hd]; exact Nat.mod_lt _ (by decide)
      · dsimp only; omega
      · simp; omega
      · have e := carry_step (1000000000 ^ l.length) 1000000000 ((cy + (digs 1000000000 x)[l.length])) (ofD 1000000000 ((digs 1000000000 x).drop (l.length + 1)) + ofD 1000000000 ((digs 1000000000 y).drop (l.length + 1)))
        dsimp only
        rw [ofD_snoc, List.length_append, List.length_singleton, Nat.pow_succ, Nat.add_assoc (((cy + (digs 1000000000 x)[l.length])) / 1000000000), Nat.add_assoc, e, ← hs, ofD_drop _ _ l.length, ofD_drop _ (digs 1000000000 y) l.length, eA, eB]
        congr 2
        omega
  · have eA : (digs 1000000000 x)[l.length]?.getD 0 = 0 := by rw [List.getElem?_eq_none (by omega)]; rfl
    by_cases hB : l.length < (digs 1000000000 y).length
    · have eB : (digs 1000000000 y)[l.length]?.getD 0 = (digs 1000000000 y)[l.length] := by rw [List.getElem?_eq_getElem hB]; rfl
      have lB := dy _ (List.getElem_mem hB)
      obtain ⟨i', o', rfl, hi', hat'⟩ := Sl.all32 hy (by omega)
      (conv => whnf); (refine obool_f (by first | (simp; done) | (simp; omega)) ?_); (conv => whnf); (refine obool_t (by first | (simp; done) | (simp; omega)) ?_); (conv => whnf); (refine obool_f (by first | (simp; done) | (simp; omega)) ?_); (conv => whnf); (refine obool_t (by first | (simp; done) | (simp; omega)) ?_); (conv => whnf)
      refine ⟨by omega, ?_⟩
      (conv => whnf)
      refine ⟨_, hat' _ hg.e _ l.length rfl hB, ?_⟩
      (conv => whnf); (refine ar_u32 (by omega) ?_)
      (conv => whnf)
      refine ⟨by decide, ?_⟩
      (conv => whnf)
      refine ⟨_, rfl, ?_⟩
      obtain ⟨p, hp, hp1, hg'⟩ := hg.one (m := l.length) (by simp) (.int .u32 (((cy + (digs 1000000000 y)[l.length]) % 1000000000 : Nat) : Int))
      (conv => whnf)
      refine ⟨1, rfl, _, src_lit _ _ _, fun hle => absurd hle (by have := hg.cap; simp at this; omega), fun _ => ⟨by omega, p, hp, ?_⟩⟩
      (conv => whnf)
      refine ⟨by decide, ?_⟩
      refine ar_u32 (z := (((cy + (digs 1000000000 y)[l.length]) / 1000000000 : Nat) : Int)) (by omega) ?_
      (conv => whnf); (refine ar_i64 (by omega) ?_); (conv => whnf)
      rw [show u32s l ++ [Value.int .u32 (((cy + (digs 1000000000 y)[l.length]) % 1000000000 : Nat) : Int)] = u32s (l ++ [(cy + (digs 1000000000 y)[l.length]) % 1000000000]) from u32s_app l [(cy + (digs 1000000000 y)[l.length]) % 1000000000]] at hg'
      refine ih ⟨some ⟨h'.next + 1, 0, none⟩, l.length + 1, l ++ [(cy + (digs 1000000000 y)[l.length]) % 1000000000], (cy + (digs 1000000000 y)[l.length]) / 1000000000⟩ _ _ ?_ ⟨rfl, rfl, ?_, rfl, ?_, trivial⟩ ⟨hg', ?_, ?_, ?_, ?_⟩
      · simp; omega
      · show Value.slice (some ⟨h'.next + 1, 0, none⟩) (l.length + 1) (l.length + 1) = _
        simp
      · show Value.int _ _ = Value.int _ _
        simp
      · intro d hd
        rcases List.mem_append.1 hd with hd | hd
        · exact hl d hd
        · rw [List.mem_singleton.1 hd]; exact Nat.mod_lt _ (by decide)
      · dsimp only; omega
      · simp; omega
      · have e := carry_step (1000000000 ^ l.length) 1000000000 ((cy + (digs 1000000000 y)[l.length])) (ofD 1000000000 ((digs 1000000000 x).drop (l.length + 1)) + ofD 1000000000 ((digs 1000000000 y).drop (l.length + 1)))
        dsimp only
        rw [ofD_snoc, List.length_append, List.length_singleton, Nat.pow_succ, Nat.add_assoc (((cy + (digs 1000000000 y)[l.length])) / 1000000000), Nat.add_assoc, e, ← hs, ofD_drop _ _ l.length, ofD_drop _ (digs 1000000000 y) l.length, eA, eB]
        congr 2
        omega
    · have eB : (digs 1000000000 y)[l.length]?.getD 0 = 0 := by rw [List.getElem?_eq_none (by omega)]; rfl
      (conv => whnf); (refine obool_f (by first | (simp; done) | (simp; omega)) ?_); (conv => whnf); (refine obool_f (by first | (simp; done) | (simp; omega)) ?_); (conv => whnf); (refine obool_intro (fun h1 => ?_) (fun h1 => ?_))
      · have h1' : cy = 1 := by simp at h1; omega
        (conv => whnf); (refine obool_f (by first | (simp; done) | (simp; omega)) ?_); (conv => whnf); (refine obool_f (by first | (simp; done) | (simp; omega)) ?_)
        (conv => whnf)
        refine ⟨by decide, ?_⟩
        (conv => whnf)
        refine ⟨_, rfl, ?_⟩
        obtain ⟨p, hp, hp1, hg'⟩ := hg.one (m := l.length) (by simp) (.int .u32 ((cy % 1000000000 : Nat) : Int))
        (conv => whnf)
        refine ⟨1, rfl, _, src_lit _ _ _, fun hle => absurd hle (by have := hg.cap; simp at this; omega), fun _ => ⟨by omega, p, hp, ?_⟩⟩
        (conv => whnf)
        refine ⟨by decide, ?_⟩
        refine ar_u32 (z := ((cy / 1000000000 : Nat) : Int)) (by omega) ?_
        (conv => whnf); (refine ar_i64 (by omega) ?_); (conv => whnf)
        rw [show u32s l ++ [Value.int .u32 ((cy % 1000000000 : Nat) : Int)] = u32s (l ++ [cy % 1000000000]) from u32s_app l [cy % 1000000000]] at hg'
        refine ih ⟨some ⟨h'.next + 1, 0, none⟩, l.length + 1, l ++ [cy % 1000000000], cy / 1000000000⟩ _ _ ?_ ⟨rfl, rfl, ?_, rfl, ?_, trivial⟩ ⟨hg', ?_, ?_, ?_, ?_⟩
        · simp; omega
        · show Value.slice (some ⟨h'.next + 1, 0, none⟩) (l.length + 1) (l.length + 1) = _
          simp
        · show Value.int _ _ = Value.int _ _
          simp
        · intro d hd
          rcases List.mem_append.1 hd with hd | hd
          · exact hl d hd
          · rw [List.mem_singleton.1 hd]; exact Nat.mod_lt _ (by decide)
        · dsimp only; omega
        · simp; omega
        · have e := carry_step (1000000000 ^ l.length) 1000000000 (cy) (ofD 1000000000 ((digs 1000000000 x).drop (l.length + 1)) + ofD 1000000000 ((digs 1000000000 y).drop (l.length + 1)))
          dsimp only
          rw [ofD_snoc, List.length_append, List.length_singleton, Nat.pow_succ, Nat.add_assoc ((cy) / 1000000000), Nat.add_assoc, e, ← hs, ofD_drop _ _ l.length, ofD_drop _ (digs 1000000000 y) l.length, eA, eB]
          congr 2
          omega
      · have h1' : cy = 0 := by simp at h1; omega
        subst h1'
        have e0 : ofD 1000000000 l = x + y := by
          rw [List.drop_eq_nil_of_le (by omega), List.drop_eq_nil_of_le (by omega)] at hs
          simpa [ofD] using hs
        (conv => whnf)
        refine trim_ok hC' hg.sl hl (by omega) fun hn => ?_
        rw [e0] at hn ⊢
        (conv => whnf); (refine ⟨_, rfl, ?_⟩)
        exact hk _ _ _ hg.e hn
end Go.Proofs.Ytpilfppdiifbjaa.Am

namespace Go.Proofs.Ytpilfppdiifbjaa.Am
open Go.Proofs.Ytpilfppdiifbjaa.Nt
variable {C : FuncId → Option AFn} {base : Cl} {n : Nat} {h : H} {K : Value → H → Prop}

theorem dch_toNat {d : Nat} (h : d < 10) : (dch d).toNat = 48 + d := by
  unfold dch
  rw [UInt8.toNat_ofNat']
  exact Nat.mod_eq_of_lt (by omega)

theorem text_ok (hC : C 46 = some F46) {b : Option Addr} {c x : Nat} (hx : Nm h b c x) (hX : (digs 1000000000 x).length ≤ 1099511627776)
    (hk : ∀ h', Ext h h' → K (.string (bs (dec x))) h') : acall C base (n + 1) 46 [nv b c x] h K := by
  refine acall_of hC ?_
  (conv => whnf); (refine obool_intro (fun h1 => ?_) (fun h1 => ?_))
  · have h1' : x = 0 := (digs_len_zero (B := 1000000000) (by decide)).1 (by simpa using h1)
    subst h1'
    (conv => whnf); (refine ⟨_, rfl, ?_⟩)
    exact hk _ (Ext.refl _)
  have h1' : (digs 1000000000 x).length ≠ 0 := by intro e; rw [e] at h1; simp at h1
  have hx0 : x ≠ 0 := fun e => h1' ((digs_len_zero (by decide)).2 e)
  (conv => whnf); (refine ar_i64 (by omega) ?_); (conv => whnf)
  refine ⟨by omega, ?_⟩
  obtain ⟨L, hL⟩ : ∃ L, L = (digs 1000000000 x).length := ⟨_, rfl⟩
  obtain ⟨i, o, rfl, hi, hat⟩ := Sl.all32 hx (by omega)
  have full : ∀ o1 : List UInt8, o1.length = L * 9 → (∀ m, m < L * 9 → ∀ (hp : L * 9 - 1 - m < o1.length), o1[L * 9 - 1 - m] = dch (x / 10 ^ m % 10)) → o1 = digN (L * 9) x := by
    intro o1 hl ho
    apply List.ext_getElem
    · rw [hl, digN_length]
    · intro p hp hp'
      have e1 := ho (L * 9 - 1 - p) (by omega) (by omega)
      have e2 := digN_get (L * 9) x (L * 9 - 1 - p) (by omega) (by rw [digN_length]; omega)
      rw [← e1] at e2
      have e : L * 9 - 1 - (L * 9 - 1 - p) = p := by omega
      simp only [e] at e2
      exact e2.symm
  have hval : val (digN (L * 9) x) = x := by
    rw [val_digN]
    apply Nat.mod_eq_of_lt
    have := lt_pow_len (B := 1000000000) (by decide) x
    rw [← hL, show (1000000000 : Nat) = 10 ^ 9 from rfl, ← Nat.pow_mul, Nat.mul_comm] at this
    exact this
  (conv => whnf)
  refine loop_upd (X := Nat × List UInt8) (fun v => [(3, .slice (some ⟨h.next, 0, none⟩) (L * 9) (L * 9)), (16, nv (some ⟨i, o, none⟩) c x), (17, .int .i64 (L : Int)), (18, .int .i64 (v.1 : Int))])
    (fun v h' => Ext h h' ∧ Own h' h.next (u8s v.2) 5 false ∧ v.2.length = L * 9 ∧ v.1 ≤ L ∧ ∀ m, m < 9 * v.1 → ∀ (hp : L * 9 - 1 - m < v.2.length), v.2[L * 9 - 1 - m] = dch (x / 10 ^ m % 10)) (fun v => L - v.1) ?_ ⟨0, List.replicate (L * 9) 0⟩ _ _ ⟨?_, rfl, ?_, rfl, trivial⟩ ⟨(Ext.refl _).push _, ?_, by simp, by simp, fun m hm => by omega⟩
  · intro n ⟨q, o1⟩ f h' ⟨he, hown, hlen, hq, hd⟩ ih
    dsimp only at ih hown hlen hq hd ⊢
    (conv => whnf); (refine obool_intro (fun h2 => ?_) (fun h2 => ?_))
    · have h2' : q < L := by simp at h2; omega
      (conv => whnf)
      refine ⟨by omega, ?_⟩
      (conv => whnf)
      refine ⟨_, hat _ he _ q rfl (by omega), ?_⟩
      (conv => whnf)
      obtain ⟨d, hdd⟩ : ∃ d, d = (digs 1000000000 x)[q]'(by omega) := ⟨_, rfl⟩
      have dlt : d < 1000000000 := by rw [hdd]; exact digs_lt (by decide) x _ (List.getElem_mem _)
      refine loop_upd (X := Nat × List UInt8) (fun v => [(3, .slice (some ⟨h.next, 0, none⟩) (L * 9) (L * 9)), (16, nv (some ⟨i, o, none⟩) c x), (17, .int .i64 (L : Int)), (18, .int .i64 (q : Int)), (4, .int .i64 (q : Int)), (5, .int .u32 ((d / 10 ^ v.1 : Nat) : Int)), (23, .int .i64 (v.1 : Int))])
        (fun v h' => Ext h h' ∧ Own h' h.next (u8s v.2) 5 false ∧ v.2.length = L * 9 ∧ v.1 ≤ 9 ∧ ∀ m, m < 9 * q + v.1 → ∀ (hp : L * 9 - 1 - m < v.2.length), v.2[L * 9 - 1 - m] = dch (x / 10 ^ m % 10)) (fun v => 9 - v.1) ?_ ⟨0, o1⟩ _ _ ⟨rfl, rfl, rfl, rfl, rfl, ?_, rfl, trivial⟩ ⟨he, hown, hlen, by simp, fun m hm => hd m (by simpa using hm)⟩
      · intro n ⟨k, o2⟩ f h' ⟨he, hown, hlen, hq, hd⟩ ih2
        dsimp only at ih2 hown hlen hq hd ⊢
        have dk : d / 10 ^ k ≤ d := Nat.div_le_self _ _
        (conv => whnf); (refine obool_intro (fun h3 => ?_) (fun h3 => ?_))
        · have h3' : k < 9 := by simp at h3; omega
          (conv => whnf); (refine ar_i64 (by omega) ?_); (conv => whnf); (refine ar_i64 (by omega) ?_); (conv => whnf); (refine ar_i64 (by omega) ?_); (conv => whnf); (refine ar_i64 (by omega) ?_); (conv => whnf)
          refine ⟨by decide, ?_⟩
          (conv => whnf)
          refine ar_u32 (z := ((48 + d / 10 ^ k % 10 : Nat) : Int)) (by omega) ?_
          (conv => whnf)
          refine ar_u8 (z := ((48 + d / 10 ^ k % 10 : Nat) : Int)) (by omega) ?_
          (conv => whnf)
          refine ⟨by omega, ?_⟩
          (conv => whnf)
          refine ⟨rfl, ?_⟩
          obtain ⟨h2, hw, hown2, hext, hnx, _⟩ := hown.set8 ((L * 9 : Int) - 1 - q * 9 - k) (L * 9 - 1 - (9 * q + k)) ((48 + d / 10 ^ k % 10 : Nat) : Int) (dch (d / 10 ^ k % 10)) (by omega) (by omega) (by rw [dch_toNat (Nat.mod_lt _ (by decide))])
          refine ⟨h2, hw, ?_⟩
          (conv => whnf)
          refine ⟨by decide, ?_⟩
          refine ar_u32 (z := ((d / 10 ^ k / 10 : Nat) : Int)) (by generalize d / 10 ^ k = e at dk; omega) ?_
          (conv => whnf); (refine ar_i64 (by omega) ?_); (conv => whnf)
          refine ih2 ⟨k + 1, o2.set (L * 9 - 1 - (9 * q + k)) (dch (d / 10 ^ k % 10))⟩ _ _ (by dsimp only; omega) ⟨rfl, rfl, rfl, rfl, rfl, ?_, rfl, trivial⟩ ⟨hext _ he (Nat.le_refl _), hown2, by simp [hlen], by dsimp only; omega, ?_⟩
          · show Value.int .u32 ((d / 10 ^ k / 10 : Nat) : Int) = _
            rw [Nat.div_div_eq_div_mul, ← Nat.pow_succ]
          · intro m hm hp
            dsimp only at hm hp ⊢
            rw [List.getElem_set]
            split
            · rename_i e
              have : m = 9 * q + k := by rw [List.length_set] at hp; omega
              subst this
              rw [hdd, limb_digit _ h3']
            · rename_i e
              exact hd m (by omega) (by rw [List.length_set] at hp; exact hp)
        · have h3' : k = 9 := by simp at h3; omega
          subst h3'
          (conv => whnf); (refine ar_i64 (by omega) ?_); (conv => whnf)
          exact ih ⟨q + 1, o2⟩ _ _ (by dsimp only; omega) ⟨rfl, rfl, rfl, rfl, trivial⟩ ⟨he, hown, hlen, by dsimp only; omega, fun m hm => hd m (by dsimp only at hm; omega)⟩
      · show Value.int .u32 ((((digs 1000000000 x)[q]'(by omega) : Nat)) : Int) = _
        rw [hdd]; simp
    · have h2' : q = L := by simp at h2; omega
      subst h2'
      have e := full o1 hlen (fun m hm hp => hd m (by omega) hp)
      subst e
      have hne : ∀ k, k ≤ q * 9 → (∀ p (hp : p < (digN (q * 9) x).length), p < k → (digN (q * 9) x)[p] = 48) → k < q * 9 := by
        intro k hk hz
        rcases Nat.lt_or_ge k (q * 9) with h | h
        · exact h
        · exfalso
          have := val_zeros (l := digN (q * 9) x) fun c hc => by
            obtain ⟨p, hp, rfl⟩ := List.mem_iff_getElem.1 hc
            exact hz p hp (by omega)
          omega
      (conv => whnf)
      refine loop_upd (X := Nat) (fun k => [(3, .slice (some ⟨h.next, 0, none⟩) (q * 9) (q * 9)), (7, .int .i64 (k : Int))])
        (fun k h'' => h'' = h' ∧ k < q * 9 ∧ ∀ p (hp : p < (digN (q * 9) x).length), p < k → (digN (q * 9) x)[p] = 48) (fun k => q * 9 - k) ?_ 0 _ _ ⟨rfl, rfl, trivial⟩ ⟨rfl, by omega, fun _ _ _ => by omega⟩
      intro n k f h'' ⟨he'', hkq, hz⟩ ih2
      subst he''
      (conv => whnf)
      refine ⟨by omega, ?_⟩
      (conv => whnf)
      refine ⟨_, hown.cell8 _ k rfl (by omega), ?_⟩
      (conv => whnf); (refine obool_intro (fun h3 => ?_) (fun h3 => ?_))
      · have h3' : (digN (q * 9) x)[k]'(by omega) = 48 := by
          apply UInt8.toNat_inj.1
          simp at h3 ⊢; omega
        have hz' : ∀ p (hp : p < (digN (q * 9) x).length), p < k + 1 → (digN (q * 9) x)[p] = 48 := by
          intro p hp hpk
          by_cases hpk' : p = k
          · subst hpk'; exact h3'
          · exact hz p hp (by omega)
        (conv => whnf); (refine ar_i64 (by omega) ?_); (conv => whnf)
        have := hne (k + 1) (by omega) hz'
        exact ih2 (k + 1) _ _ (by omega) ⟨rfl, rfl, trivial⟩ ⟨rfl, this, hz'⟩
      · have h3' : (digN (q * 9) x)[k]'(by omega) ≠ 48 := by
          intro e
          rw [e] at h3
          simp at h3
        have hfin := dec_drop (digN_dig _ _) (by omega) hz (.inl h3')
        rw [hval] at hfin
        (conv => whnf); (refine ar_i64 (by omega) ?_); (conv => whnf)
        refine ⟨by omega, ?_⟩
        (conv => whnf)
        refine ⟨by omega, ?_⟩
        have ho2 := hown.ext ((Ext.refl _).push (.cells (List.replicate (Int.toNat ((q * 9 : Nat) - (k : Int))) [Value.int .u8 0]).flatten 5 true false))
        refine ⟨fun _ => ⟨.inr ho2.tag, ?_⟩, fun hle => absurd hle (by simp; omega)⟩
        (conv => whnf)
        have hsh : Own (h''.push (.cells (List.replicate (Int.toNat ((q * 9 : Nat) - (k : Int))) [Value.int .u8 0]).flatten 5 true false)) h''.next (u8s (List.replicate (q * 9 - k) 0)) 5 false := by
          rw [flat_u8, show Int.toNat ((q * 9 : Nat) - (k : Int)) = q * 9 - k from by omega]
          exact Own.push _ _ _
        obtain ⟨h3, hw, hown3, hext3, hnx3, hg3⟩ := hsh.wr0 (u8s (dec x)) (by rw [← hfin]; simp [digN_length])
        refine ⟨q * 9 - k, rfl, u8s (dec x), ?_, h3, hw, ?_⟩
        · refine (ho2.src (k : Int) k (q * 9 - k) (q * 9 - k) (q * 9 - k) _ rfl (by simp; omega) (by omega)).trans ?_
          rw [u8s_drop, u8s_take, hfin, List.take_of_length_le (by rw [← hfin]; simp; omega)]
        (conv => whnf)
        have hdl : (dec x).length = q * 9 - k := by rw [← hfin]; simp [digN_length]
        refine ⟨_, hown3.rd 0 _ (by simp; omega), dec x, ?_, ?_⟩
        · rw [List.drop_zero, u8s_take, List.take_of_length_le (by omega), bytesOf_u8s]
        (conv => whnf); (refine ⟨_, rfl, ?_⟩)
        exact hk _ (hext3 _ (he.push _) he.1)
  · show Value.slice _ _ _ = Value.slice _ _ _
    congr 1 <;> omega
  · show Value.int _ _ = Value.int _ _
    congr 1; omega
  · show Own (h.push (.cells (List.replicate _ [Value.int .u8 0]).flatten 5 true false)) _ _ _ _
    rw [flat_u8, show Int.toNat ((((digs 1000000000 x).length : Nat) : Int) * 9) = L * 9 from by omega]
    exact Own.push _ _ _
theorem told_ok (hC : C 57 = some F57) (hC' : C 46 = some F46) {b : Option Addr} {c x : Nat} (hx : Nm h b c x) (hX : (digs 1000000000 x).length ≤ 1099511627776)
    (hk : ∀ h', Ext h h' → K (.tuple (if (dec x).length ≤ 600 then #[.string (bs (dec x)), .int .i64 0] else #[.string (bs []), .int .i64 7])) h') : acall C base (n + 2) 57 [nv b c x] h K := by
  refine acall_of hC ?_
  (conv => whnf)
  refine text_ok hC' hx hX fun h' he => ?_
  (conv => whnf); (refine obool_intro (fun h1 => ?_) (fun h1 => ?_))
  · have h1' : ¬ (dec x).length ≤ 600 := by simp at h1; omega
    (conv => whnf); (refine ⟨_, rfl, ?_⟩)
    have := hk _ he
    rw [if_neg h1'] at this; exact this
  · have h1' : (dec x).length ≤ 600 := by simp at h1; omega
    (conv => whnf); (refine ⟨_, rfl, ?_⟩)
    have := hk _ he
    rw [if_pos h1'] at this; exact this

theorem sub_ok (hC : C 59 = some F59) (hC' : C 45 = some F45) {b b' : Option Addr} {c c' x y : Nat} (hx : Nm h b c x) (hy : Nm h b' c' y) (hX : (digs 1000000000 x).length ≤ 549755813888) (hY : (digs 1000000000 y).length ≤ 549755813888) (hyx : y ≤ x)
    (hk : ∀ h' b c, Ext h h' → Nm h' b c (x - y) → K (nv b c (x - y)) h') : acall C base (n + 2) 59 [nv b c x, nv b' c' y] h K := by
  obtain ⟨L, hL⟩ : ∃ L, L = (digs 1000000000 x).length := ⟨_, rfl⟩
  have dx := digs_lt (B := 1000000000) (by decide) x
  have dy := digs_lt (B := 1000000000) (by decide) y
  have hYX : (digs 1000000000 y).length ≤ L := by rw [hL]; exact digs_len_mono (by decide) hyx
  refine acall_of hC ?_
  (conv => whnf)
  refine ⟨by omega, ?_⟩
  (conv => whnf)
  have ho : Own (h.push (.cells (List.replicate (Int.toNat ((digs 1000000000 x).length : Int)) [Value.int .u32 0]).flatten 53 true false)) h.next (u32s (List.replicate L 0)) 53 false := by
    rw [flat_u32, show Int.toNat ((digs 1000000000 x).length : Int) = L from by omega]
    exact Own.push _ _ _
  obtain ⟨h1, hw, ho1, hext1, hnx1, hg1⟩ := ho.wr0 (u32s (digs 1000000000 x)) (by simp; omega)
  refine ⟨_, rfl, u32s (digs 1000000000 x), ?_, h1, hw, ?_⟩
  · refine (Sl.src (h' := (h.push (.cells (List.replicate (Int.toNat ((digs 1000000000 x).length : Int)) [Value.int .u32 0]).flatten 53 true false))) hx ((Ext.refl _).push _) (m := (digs 1000000000 x).length) (by simp)).trans ?_
    rw [List.take_of_length_le (by simp)]
  have he1 : Ext h h1 := hext1 _ ((Ext.refl _).push _) (Nat.le_refl _)
  (conv => whnf)
  refine loop_upd (X := List Nat × Nat) (fun v => [(1, nv b' c' y), (5, .slice (some ⟨h.next, 0, none⟩) L L), (6, .int .u32 (v.2 : Int)), (16, .int .i64 (L : Int)), (17, .int .i64 (v.1.length : Int))])
    (fun v h' => Ext h h' ∧ Own h' h.next (u32s (v.1 ++ (digs 1000000000 x).drop v.1.length)) 53 false ∧ v.2 ≤ 1 ∧ v.1.length ≤ L ∧ (∀ d ∈ v.1, d < 1000000000) ∧ ofD 1000000000 v.1 + ofD 1000000000 ((digs 1000000000 y).take v.1.length) = ofD 1000000000 ((digs 1000000000 x).take v.1.length) + 1000000000 ^ v.1.length * v.2)
    (fun v => L - v.1.length) ?_ ⟨[], 0⟩ _ _ ⟨rfl, ?_, rfl, ?_, rfl, trivial⟩ ⟨he1, by simpa using ho1, by simp, by simp, by simp, by simp [ofD]⟩
  · intro n ⟨r, br⟩ f h' ⟨he, ho, hbr, hr, hl, hs⟩ ih
    dsimp only at ih ho hbr hr hl hs ⊢
    (conv => whnf); (refine obool_intro (fun h2 => ?_) (fun h2 => ?_))
    · have h2' : r.length < L := by simp at h2; omega
      have eA : (digs 1000000000 x)[r.length]?.getD 0 = (digs 1000000000 x)[r.length] := by rw [List.getElem?_eq_getElem (by omega)]; rfl
      have lA := dx _ (List.getElem_mem (show r.length < (digs 1000000000 x).length by omega))
      have hlen : (r ++ (digs 1000000000 x).drop r.length).length = L := by simp; omega
      have hget : (r ++ (digs 1000000000 x).drop r.length)[r.length]'(by omega) = (digs 1000000000 x)[r.length] := by
        rw [List.getElem_append_right (Nat.le_refl _)]; simp
      have step : ∀ (bi new br' : Nat), bi < 1000000000 → new < 1000000000 → br' ≤ 1 → new + bi + br = (digs 1000000000 x)[r.length] + 1000000000 * br' → (digs 1000000000 y)[r.length]?.getD 0 = bi →
          (∀ d ∈ r ++ [new], d < 1000000000) ∧ ofD 1000000000 (r ++ [new]) + ofD 1000000000 ((digs 1000000000 y).take (r ++ [new]).length) = ofD 1000000000 ((digs 1000000000 x).take (r ++ [new]).length) + 1000000000 ^ (r ++ [new]).length * br' := by
        intro bi new br' hbi hnew hbr' hsum eB
        refine ⟨fun d hd => ?_, ?_⟩
        · rcases List.mem_append.1 hd with hd | hd
          · exact hl d hd
          · rw [List.mem_singleton.1 hd]; exact hnew
        · rw [List.length_append, List.length_singleton, ofD_snoc, ofD_take_succ, ofD_take_succ, eA, eB, Nat.pow_succ, Nat.mul_assoc]
          have e := congrArg (1000000000 ^ r.length * ·) hsum
          rw [Nat.mul_add, Nat.mul_add, Nat.mul_add] at e
          omega
      have hset : ∀ new : Nat, (r ++ (digs 1000000000 x).drop r.length).set r.length new = (r ++ [new]) ++ (digs 1000000000 x).drop (r ++ [new]).length := by
        intro new
        rw [List.set_append_right _ _ (Nat.le_refl _), Nat.sub_self, List.drop_eq_getElem_cons (by omega), List.set_cons_zero]
        simp
      by_cases hB : r.length < (digs 1000000000 y).length
      · have eB : (digs 1000000000 y)[r.length]?.getD 0 = (digs 1000000000 y)[r.length] := by rw [List.getElem?_eq_getElem hB]; rfl
        have lB := dy _ (List.getElem_mem hB)
        obtain ⟨i', o', rfl, hi', hat'⟩ := Sl.all32 hy (by omega)
        (conv => whnf); (refine obool_t (by first | (simp; done) | (simp; omega)) ?_); (conv => whnf)
        refine ⟨by omega, ?_⟩
        (conv => whnf)
        refine ⟨_, hat' _ he _ r.length rfl hB, ?_⟩
        (conv => whnf); (refine ar_u32 (by omega) ?_)
        (conv => whnf)
        refine ⟨by omega, ?_⟩
        (conv => whnf)
        refine ⟨_, ho.cell32 _ r.length rfl (by omega), ?_⟩
        (conv => whnf)
        rw [hget]
        refine obool_intro (fun h3 => ?_) (fun h3 => ?_)
        · have h3' : (digs 1000000000 x)[r.length] < br + (digs 1000000000 y)[r.length] := by simp at h3; omega
          obtain ⟨e, hee⟩ : ∃ e, e = (digs 1000000000 x)[r.length] + 1000000000 := ⟨_, rfl⟩
          obtain ⟨e2, hee2⟩ : ∃ e2, e2 = e - (br + (digs 1000000000 y)[r.length]) := ⟨_, rfl⟩
          (conv => whnf)
          refine ⟨by omega, ?_⟩
          (conv => whnf)
          refine ⟨_, ho.cell32 _ r.length rfl (by omega), ?_⟩
          (conv => whnf)
          rw [hget]
          refine ar_u32e e (by omega) (by omega) ?_
          (conv => whnf)
          refine ⟨by omega, ?_⟩
          (dsimp only [force, steps]); (dsimp only [stepW, AOp.strict]); (dsimp only [sst]); (conv => whnf)
          refine ⟨rfl, ?_⟩
          obtain ⟨h5, hw5, ho5, hext5, hnx5, hg5⟩ := ho.set32 (r.length : Int) r.length (e : Int) e rfl (by omega) rfl
          refine ⟨h5, hw5, ?_⟩
          (conv => whnf)
          refine ⟨by omega, ?_⟩
          (conv => whnf)
          refine ⟨_, ho5.cell32 _ r.length rfl (by simp; omega), ?_⟩
          rw [List.getElem_set_self]
          (conv => whnf)
          refine ar_u32e e2 (by omega) (by omega) ?_
          (conv => whnf)
          refine ⟨by omega, ?_⟩
          (dsimp only [force, steps]); (dsimp only [stepW, AOp.strict]); (dsimp only [sst]); (conv => whnf)
          refine ⟨rfl, ?_⟩
          obtain ⟨h6, hw6, ho6, hext6, hnx6, hg6⟩ := ho5.set32 (r.length : Int) r.length (e2 : Int) e2 rfl (by simp; omega) rfl
          refine ⟨h6, hw6, ?_⟩
          (conv => whnf); (refine ar_i64 (by omega) ?_); (conv => whnf)
          obtain ⟨s1, s2⟩ := step (digs 1000000000 y)[r.length] e2 1 (by omega) (by omega) (by omega) (by omega) eB
          refine ih ⟨r ++ [e2], 1⟩ _ _ (by simp; omega) ⟨rfl, rfl, rfl, rfl, ?_, trivial⟩ ⟨hext6 _ (hext5 _ he (Nat.le_refl _)) (Nat.le_refl _), ?_, by simp, by simp; omega, s1, s2⟩
          · show Value.int _ _ = Value.int _ _
            simp
          · dsimp only
            rw [← hset, ← List.set_set (a := e)]
            exact ho6
        · have h3' : br + (digs 1000000000 y)[r.length] ≤ (digs 1000000000 x)[r.length] := by simp at h3; omega
          (conv => whnf)
          refine ⟨by omega, ?_⟩
          (conv => whnf)
          refine ⟨_, ho.cell32 _ r.length rfl (by omega), ?_⟩
          (conv => whnf)
          rw [hget]
          refine ar_u32 (by omega) ?_
          (conv => whnf)
          refine ⟨by omega, ?_⟩
          (conv => whnf)
          refine ⟨rfl, ?_⟩
          obtain ⟨h6, hw6, ho6, hext6, hnx6, hg6⟩ := ho.set32 (r.length : Int) r.length (((digs 1000000000 x)[r.length] : Int) - ((br : Int) + ((digs 1000000000 y)[r.length] : Nat))) ((digs 1000000000 x)[r.length] - (br + (digs 1000000000 y)[r.length])) rfl (by omega) (by omega)
          refine ⟨h6, hw6, ?_⟩
          (conv => whnf); (refine ar_i64 (by omega) ?_); (conv => whnf)
          obtain ⟨s1, s2⟩ := step (digs 1000000000 y)[r.length] ((digs 1000000000 x)[r.length] - (br + (digs 1000000000 y)[r.length])) 0 (by omega) (by omega) (by omega) (by omega) eB
          refine ih ⟨r ++ [(digs 1000000000 x)[r.length] - (br + (digs 1000000000 y)[r.length])], 0⟩ _ _ (by simp; omega) ⟨rfl, rfl, rfl, rfl, ?_, trivial⟩ ⟨hext6 _ he (Nat.le_refl _), ?_, by simp, by simp; omega, s1, s2⟩
          · show Value.int _ _ = Value.int _ _
            simp
          · dsimp only
            rw [← hset]
            exact ho6
      · have eB : (digs 1000000000 y)[r.length]?.getD 0 = 0 := by rw [List.getElem?_eq_none (by omega)]; rfl
        (conv => whnf); (refine obool_f (by first | (simp; done) | (simp; omega)) ?_)
        (conv => whnf)
        refine ⟨by omega, ?_⟩
        (conv => whnf)
        refine ⟨_, ho.cell32 _ r.length rfl (by omega), ?_⟩
        (conv => whnf)
        rw [hget]
        refine obool_intro (fun h3 => ?_) (fun h3 => ?_)
        · have h3' : (digs 1000000000 x)[r.length] < br + 0 := by simp at h3; omega
          obtain ⟨e, hee⟩ : ∃ e, e = (digs 1000000000 x)[r.length] + 1000000000 := ⟨_, rfl⟩
          obtain ⟨e2, hee2⟩ : ∃ e2, e2 = e - (br + 0) := ⟨_, rfl⟩
          (conv => whnf)
          refine ⟨by omega, ?_⟩
          (conv => whnf)
          refine ⟨_, ho.cell32 _ r.length rfl (by omega), ?_⟩
          (conv => whnf)
          rw [hget]
          refine ar_u32e e (by omega) (by omega) ?_
          (conv => whnf)
          refine ⟨by omega, ?_⟩
          (dsimp only [force, steps]); (dsimp only [stepW, AOp.strict]); (dsimp only [sst]); (conv => whnf)
          refine ⟨rfl, ?_⟩
          obtain ⟨h5, hw5, ho5, hext5, hnx5, hg5⟩ := ho.set32 (r.length : Int) r.length (e : Int) e rfl (by omega) rfl
          refine ⟨h5, hw5, ?_⟩
          (conv => whnf)
          refine ⟨by omega, ?_⟩
          (conv => whnf)
          refine ⟨_, ho5.cell32 _ r.length rfl (by simp; omega), ?_⟩
          rw [List.getElem_set_self]
          (conv => whnf)
          refine ar_u32e e2 (by omega) (by omega) ?_
          (conv => whnf)
          refine ⟨by omega, ?_⟩
          (dsimp only [force, steps]); (dsimp only [stepW, AOp.strict]); (dsimp only [sst]); (conv => whnf)
          refine ⟨rfl, ?_⟩
          obtain ⟨h6, hw6, ho6, hext6, hnx6, hg6⟩ := ho5.set32 (r.length : Int) r.length (e2 : Int) e2 rfl (by simp; omega) rfl
          refine ⟨h6, hw6, ?_⟩
          (conv => whnf); (refine ar_i64 (by omega) ?_); (conv => whnf)
          obtain ⟨s1, s2⟩ := step 0 e2 1 (by omega) (by omega) (by omega) (by omega) eB
          refine ih ⟨r ++ [e2], 1⟩ _ _ (by simp; omega) ⟨rfl, rfl, rfl, rfl, ?_, trivial⟩ ⟨hext6 _ (hext5 _ he (Nat.le_refl _)) (Nat.le_refl _), ?_, by simp, by simp; omega, s1, s2⟩
          · show Value.int _ _ = Value.int _ _
            simp
          · dsimp only
            rw [← hset, ← List.set_set (a := e)]
            exact ho6
        · have h3' : br + 0 ≤ (digs 1000000000 x)[r.length] := by simp at h3; omega
          (conv => whnf)
          refine ⟨by omega, ?_⟩
          (conv => whnf)
          refine ⟨_, ho.cell32 _ r.length rfl (by omega), ?_⟩
          (conv => whnf)
          rw [hget]
          refine ar_u32 (by omega) ?_
          (conv => whnf)
          refine ⟨by omega, ?_⟩
          (conv => whnf)
          refine ⟨rfl, ?_⟩
          obtain ⟨h6, hw6, ho6, hext6, hnx6, hg6⟩ := ho.set32 (r.length : Int) r.length (((digs 1000000000 x)[r.length] : Int) - ((br : Int))) ((digs 1000000000 x)[r.length] - (br + 0)) rfl (by omega) (by omega)
          refine ⟨h6, hw6, ?_⟩
          (conv => whnf); (refine ar_i64 (by omega) ?_); (conv => whnf)
          obtain ⟨s1, s2⟩ := step 0 ((digs 1000000000 x)[r.length] - (br + 0)) 0 (by omega) (by omega) (by omega) (by omega) eB
          refine ih ⟨r ++ [(digs 1000000000 x)[r.length] - (br + 0)], 0⟩ _ _ (by simp; omega) ⟨rfl, rfl, rfl, rfl, ?_, trivial⟩ ⟨hext6 _ he (Nat.le_refl _), ?_, by simp, by simp; omega, s1, s2⟩
          · show Value.int _ _ = Value.int _ _
            simp
          · dsimp only
            rw [← hset]
            exact ho6
    · have h2' : r.length = L := by simp at h2; omega
      have hb0 : br = 0 := by
        rcases Nat.lt_or_ge br 1 with h | h
        · omega
        · exfalso
          have : br = 1 := by omega
          subst this
          rw [List.take_of_length_le (by omega), List.take_of_length_le (by omega), ofD_digs (by decide), ofD_digs (by decide)] at hs
          have := ofD_lt hl
          omega
      subst hb0
      rw [List.take_of_length_le (by omega), List.take_of_length_le (by omega), ofD_digs (by decide), ofD_digs (by decide)] at hs
      rw [h2', hL, List.drop_eq_nil_of_le (Nat.le_refl _), List.append_nil] at ho
      have e0 : ofD 1000000000 r = x - y := by omega
      (conv => whnf)
      rw [← h2']
      refine trim_ok hC' (ho.sl (by simp)) hl (by omega) fun hn => ?_
      rw [e0] at hn ⊢
      (conv => whnf); (refine ⟨_, rfl, ?_⟩)
      exact hk _ _ _ he hn
  · show Value.slice _ _ _ = Value.slice _ _ _
    congr 1 <;> omega
  · show Value.int _ _ = Value.int _ _
    congr 1; omega
end Go.Proofs.Ytpilfppdiifbjaa.Am

namespace Go.Proofs.Ytpilfppdiifbjaa.Am
open Go.Proofs.Ytpilfppdiifbjaa.Nt
variable {C : FuncId → Option AFn} {base : Cl} {n : Nat} {h : H} {K : Value → H → Prop}

theorem tmod9 (a : Nat) : Int.tmod (a : Int) 1000000000 = ((a % 1000000000 : Nat) : Int) := rfl
theorem tdiv9 (a : Nat) : Int.tdiv (a : Int) 1000000000 = ((a / 1000000000 : Nat) : Int) := rfl

theorem mul_ok (hC : C 53 = some F53) (hC' : C 45 = some F45) {b b' : Option Addr} {c c' x y : Nat} (hx : Nm h b c x) (hy : Nm h b' c' y) (hX : (digs 1000000000 x).length ≤ 34359738368) (hY : (digs 1000000000 y).length ≤ 34359738368)
    (hk : ∀ h' b c, Ext h h' → Nm h' b c (x * y) → K (nv b c (x * y)) h') : acall C base (n + 2) 53 [nv b c x, nv b' c' y] h K := by
  obtain ⟨la, hla⟩ : ∃ L, L = (digs 1000000000 x).length := ⟨_, rfl⟩
  obtain ⟨lb, hlb⟩ : ∃ L, L = (digs 1000000000 y).length := ⟨_, rfl⟩
  have dx := digs_lt (B := 1000000000) (by decide) x
  have dy := digs_lt (B := 1000000000) (by decide) y
  have ex := ofD_digs (B := 1000000000) (by decide) x
  have ey := ofD_digs (B := 1000000000) (by decide) y
  refine acall_of hC ?_
  (conv => whnf)
  refine ar_i64e (la + lb) (by omega) (by omega) ?_
  (conv => whnf)
  refine ⟨by omega, ?_⟩
  (conv => whnf)
  have ho0 : Own (h.push (.cells (List.replicate (Int.toNat ((la + lb : Nat) : Int)) [Value.int .u32 0]).flatten 53 true false)) h.next (u32s (List.replicate (la + lb) 0)) 53 false := by
    rw [flat_u32, show Int.toNat ((la + lb : Nat) : Int) = la + lb from by omega]
    exact Own.push _ _ _
  refine loop_upd (X := Nat × List Nat) (fun v => [(1, nv b' c' y), (5, .slice (some ⟨h.next, 0, none⟩) (la + lb) (la + lb)), (17, nv b c x), (18, .int .i64 (la : Int)), (19, .int .i64 (v.1 : Int))])
    (fun v h' => Ext h h' ∧ Own h' h.next (u32s v.2) 53 false ∧ v.2.length = la + lb ∧ (∀ d ∈ v.2, d < 1000000000) ∧ v.1 ≤ la ∧ (∀ p (hp : p < v.2.length), v.1 + lb ≤ p → v.2[p] = 0) ∧ ofD 1000000000 v.2 = ofD 1000000000 ((digs 1000000000 x).take v.1) * y)
    (fun v => la - v.1) ?_ ⟨0, List.replicate (la + lb) 0⟩ _ _ ⟨rfl, rfl, rfl, ?_, rfl, trivial⟩ ⟨(Ext.refl _).push _, ho0, by simp, ?_, by simp, ?_, ?_⟩
  · intro n ⟨i, o⟩ f h' ⟨he, ho, hlen, hlt, hi, hz, hs⟩ ih
    dsimp only at ih ho hlen hlt hi hz hs ⊢
    (conv => whnf); (refine obool_intro (fun h2 => ?_) (fun h2 => ?_))
    · have h2' : i < la := by simp at h2; omega
      obtain ⟨bi, bo, rfl, hi', hat⟩ := Sl.all32 hx (by omega)
      obtain ⟨xi, hxi⟩ : ∃ xi, xi = (digs 1000000000 x)[i]'(by omega) := ⟨_, rfl⟩
      have xilt : xi < 1000000000 := by rw [hxi]; exact dx _ (List.getElem_mem _)
      have ei : (digs 1000000000 x)[i]?.getD 0 = xi := by rw [List.getElem?_eq_getElem (by omega), hxi]; rfl
      (conv => whnf)
      refine ⟨by omega, ?_⟩
      (conv => whnf)
      refine ⟨_, hat _ he _ i rfl (by omega), ?_⟩
      rw [← hxi]
      (conv => whnf)
      refine loop_upd (X := Nat × List Nat × Nat) (fun v => [(1, nv b' c' y), (5, .slice (some ⟨h.next, 0, none⟩) (la + lb) (la + lb)), (17, nv (some ⟨bi, bo, none⟩) c x), (18, .int .i64 (la : Int)), (19, .int .i64 (i : Int)), (6, .int .i64 (i : Int)), (7, .int .u32 (xi : Int)), (8, .int .u64 (v.2.2 : Int)), (24, nv b' c' y), (25, .int .i64 (lb : Int)), (26, .int .i64 (v.1 : Int))])
        (fun v h' => Ext h h' ∧ Own h' h.next (u32s v.2.1) 53 false ∧ v.2.1.length = la + lb ∧ (∀ d ∈ v.2.1, d < 1000000000) ∧ v.1 ≤ lb ∧ v.2.2 < 1000000000 ∧ (∀ p (hp : p < v.2.1.length), i + lb ≤ p → v.2.1[p] = 0) ∧ ofD 1000000000 v.2.1 + 1000000000 ^ (i + v.1) * v.2.2 = ofD 1000000000 ((digs 1000000000 x).take i) * y + 1000000000 ^ i * (xi * ofD 1000000000 ((digs 1000000000 y).take v.1)))
        (fun v => lb - v.1) ?_ ⟨0, o, 0⟩ _ _ ⟨rfl, rfl, rfl, rfl, rfl, rfl, rfl, rfl, rfl, ?_, rfl, trivial⟩ ⟨he, ho, hlen, hlt, by simp, by simp, hz, by simp [ofD, hs]⟩
      · intro n ⟨k, o, cy⟩ f h' ⟨he, ho, hlen, hlt, hk, hcy, hz, hs⟩ ih2
        dsimp only at ih2 ho hlen hlt hk hcy hz hs ⊢
        (conv => whnf); (refine obool_intro (fun h3 => ?_) (fun h3 => ?_))
        · have h3' : k < lb := by simp at h3; omega
          obtain ⟨bi', bo', rfl, hi'', hat'⟩ := Sl.all32 hy (by omega)
          obtain ⟨yk, hyk⟩ : ∃ yk, yk = (digs 1000000000 y)[k]'(by omega) := ⟨_, rfl⟩
          have yklt : yk < 1000000000 := by rw [hyk]; exact dy _ (List.getElem_mem _)
          have ek : (digs 1000000000 y)[k]?.getD 0 = yk := by rw [List.getElem?_eq_getElem (by omega), hyk]; rfl
          obtain ⟨oik, hoik⟩ : ∃ oik, oik = o[i + k]'(by omega) := ⟨_, rfl⟩
          have oiklt : oik < 1000000000 := by rw [hoik]; exact hlt _ (List.getElem_mem _)
          obtain ⟨p, hp⟩ : ∃ p, p = xi * yk := ⟨_, rfl⟩
          have plt : p ≤ 999999999 * 999999999 := by rw [hp]; exact Nat.mul_le_mul (by omega) (by omega)
          obtain ⟨t, ht⟩ : ∃ t, t = cy + (oik + p) := ⟨_, rfl⟩
          (conv => whnf)
          refine ⟨by omega, ?_⟩
          (conv => whnf)
          refine ⟨_, hat' _ he _ k rfl (by omega), ?_⟩
          rw [← hyk]
          (conv => whnf)
          refine ar_i64e (i + k) (by omega) (by omega) ?_
          (conv => whnf)
          refine ⟨by omega, ?_⟩
          (conv => whnf)
          refine ⟨_, ho.cell32 _ (i + k) rfl (by omega), ?_⟩
          rw [← hoik]
          (conv => whnf)
          refine ar_u64e oik rfl (by omega) ?_
          (conv => whnf)
          refine ar_u64e xi rfl (by omega) ?_
          (conv => whnf)
          refine ar_u64e yk rfl (by omega) ?_
          (conv => whnf)
          refine ar_u64e p (by rw [hp]; simp) (by omega) ?_
          (conv => whnf)
          refine ar_u64e (oik + p) (by omega) (by omega) ?_
          (conv => whnf)
          refine ar_u64e t (by omega) (by omega) ?_
          (conv => whnf)
          refine ar_i64e (i + k) (by omega) (by omega) ?_
          (conv => whnf)
          refine ⟨by decide, ?_⟩
          (conv => whnf)
          refine ar_u32e (t % 1000000000) (tmod9 t) (by omega) ?_
          (conv => whnf)
          refine ⟨by omega, ?_⟩
          (dsimp only [force, steps]); (dsimp only [stepW, AOp.strict]); (dsimp only [sst]); (conv => whnf)
          refine ⟨rfl, ?_⟩
          obtain ⟨h6, hw6, ho6, hext6, hnx6, hg6⟩ := ho.set32 ((i + k : Nat) : Int) (i + k) ((t % 1000000000 : Nat) : Int) (t % 1000000000) rfl (by omega) rfl
          refine ⟨h6, hw6, ?_⟩
          (conv => whnf)
          refine ⟨by decide, ?_⟩
          refine ar_u64e (t / 1000000000) (tdiv9 t) (by omega) ?_
          (conv => whnf)
          refine ar_i64e (k + 1) (by omega) (by omega) ?_
          (conv => whnf)
          refine ih2 ⟨k + 1, o.set (i + k) (t % 1000000000), t / 1000000000⟩ _ _ (by dsimp only; omega) ⟨rfl, rfl, rfl, rfl, rfl, rfl, rfl, rfl, rfl, rfl, rfl, trivial⟩ ⟨hext6 _ he (Nat.le_refl _), ho6, by simpa using hlen, ?_, by dsimp only; omega, by dsimp only; omega, ?_, ?_⟩
          · intro d hd
            rcases List.mem_or_eq_of_mem_set hd with hd | hd
            · exact hlt d hd
            · rw [hd]; exact Nat.mod_lt _ (by decide)
          · intro p hp hip
            dsimp only at hp ⊢
            rw [List.getElem_set_ne (by omega)]
            exact hz p (by simpa using hp) hip
          · dsimp only
            rw [ofD_take_succ, ek]
            exact mul_step (hoik ▸ ofD_set 1000000000 o (i + k) (t % 1000000000) (by omega)) (by rw [ht, hp]) hs
        · have h3' : k = lb := by simp at h3; omega
          subst h3'
          clear ho0
          have ey' : ofD 1000000000 ((digs 1000000000 y).take k) = y := by rw [List.take_of_length_le (by omega), ey]
          rw [ey'] at hs
          (conv => whnf)
          refine ar_i64e (i + k) (by omega) (by omega) ?_
          (conv => whnf)
          refine ar_u32e cy rfl (by omega) ?_
          (conv => whnf)
          refine ⟨by omega, ?_⟩
          (dsimp only [force, steps]); (dsimp only [stepW, AOp.strict]); (dsimp only [sst]); (conv => whnf)
          refine ⟨rfl, ?_⟩
          obtain ⟨h6, hw6, ho6, hext6, hnx6, hg6⟩ := ho.set32 ((i + k : Nat) : Int) (i + k) (cy : Int) cy rfl (by omega) rfl
          refine ⟨h6, hw6, ?_⟩
          (conv => whnf)
          refine ar_i64e (i + 1) (by omega) (by omega) ?_
          (conv => whnf)
          refine ih ⟨i + 1, o.set (i + k) cy⟩ _ _ (by dsimp only; omega) ⟨rfl, rfl, rfl, rfl, rfl, trivial⟩ ⟨hext6 _ he (Nat.le_refl _), ho6, by simpa using hlen, ?_, by dsimp only; omega, ?_, ?_⟩
          · intro d hd
            rcases List.mem_or_eq_of_mem_set hd with hd | hd
            · exact hlt d hd
            · rw [hd]; exact hcy
          · intro p hp hip
            dsimp only at hp hip ⊢
            rw [List.getElem_set_ne (by omega)]
            exact hz p (by simpa using hp) (by omega)
          · dsimp only
            rw [ofD_take_succ, ei]
            have h0 := hz (i + k) (by omega) (by omega)
            exact mul_end (h0 ▸ ofD_set 1000000000 o (i + k) cy (by omega)) hs
      · show Value.int _ _ = Value.int _ _
        rw [hlb]
    · have h2' : i = la := by simp at h2; omega
      clear ho0
      subst h2'
      rw [List.take_of_length_le (by omega), ex] at hs
      (conv => whnf)
      rw [← hlen]
      refine trim_ok hC' (ho.sl (by simp)) hlt (by omega) fun hn => ?_
      rw [hs] at hn ⊢
      (conv => whnf); (refine ⟨_, rfl, ?_⟩)
      exact hk _ _ _ he hn
  · show Value.int _ _ = Value.int _ _
    rw [hla]
  · intro d hd
    rw [List.eq_of_mem_replicate hd]; decide
  · intro p hp _
    simp
  · dsimp only
    rw [ofD_zeros _ _ fun d hd => List.eq_of_mem_replicate hd]; simp [ofD]

theorem times_ok (hC : C 66 = some F66) (hC53 : C 53 = some F53) (hC' : C 45 = some F45) {b : Option Addr} {c x y : Nat} (hx : Nm h b c x) (hX : (digs 1000000000 x).length ≤ 34359738368) (hY : y < 1000000000)
    (hk : ∀ h' b c, Ext h h' → Nm h' b c (x * y) → K (nv b c (x * y)) h') : acall C base (n + 3) 66 [nv b c x, .int .u32 (y : Int)] h K := by
  refine acall_of hC ?_
  (conv => whnf)
  refine ⟨_, rfl, ?_⟩
  (conv => whnf)
  have ho : Own (h.push (.cells [Value.int .u32 (y : Int)] 53 true false)) h.next (u32s [y]) 53 false := Own.push _ _ _
  refine trim_ok (l := [y]) hC' (ho.sl (by simp)) (by simpa using hY) (by simp) fun hn => ?_
  have e : ofD 1000000000 [y] = y := by simp [ofD]
  rw [e] at hn ⊢
  have hl : (digs 1000000000 y).length ≤ 1 := digs_len_le (by decide) 1 y (by omega)
  (conv => whnf)
  refine mul_ok hC53 hC' (hx.ext ((Ext.refl _).push _)) hn hX (by omega) fun h' b2 c2 he hn2 => ?_
  (conv => whnf); (refine ⟨_, rfl, ?_⟩)
  exact hk _ _ _ (((Ext.refl _).push _).trans he) hn2
end Go.Proofs.Ytpilfppdiifbjaa.Am
