/- The laws of nat over the plain machine: what is added, divided, read, raised. -/
import Derived.Test.YtpilfppdiifbjaaRf1
set_option linter.unusedVariables false
set_option linter.unusedSimpArgs false
set_option maxRecDepth 100000
namespace Go.Proofs.Ytpilfppdiifbjaa.Am
open Go.Proofs.Ytpilfppdiifbjaa.Nt
variable {C : FuncId → Option AFn} {base : Cl} {n : Nat} {h : H} {K : Value → H → Prop}
theorem told_1000 : addR [57, 57, 57] [49] = ([49, 48, 48, 48], 0) := by
  have e : dec (val [57, 57, 57] + val [49]) = [49, 48, 48, 48] := by
    have := dec_val (l := [49, 48, 48, 48]) (by decide)
    rw [← this]; rfl
  rw [addR, if_pos (by decide), told, e, if_pos (by decide)]
theorem known_ok (T : Tab C) (hk : ∀ h', Ext h h' → K (.bool true) h') : acall C base (n + 5) 14 [] h K := by
  refine acall_of T.f14 ?_
  (conv => whnf)
  refine Add_ok T [57, 57, 57] [49] fun h1 he1 => ?_
  rw [told_1000]
  (conv => whnf); refine ⟨_, rfl, ?_⟩
  (conv => whnf); refine ⟨_, rfl, ?_⟩
  (conv => whnf)
  refine obool_t (show ((bs [49, 48, 48, 48]).toList == (bs [49, 48, 48, 48]).toList) = true from beq_self_eq_true _) ?_
  (conv => whnf)
  refine right_ok T.f18 [55] ?_
  rw [show right [55] = true from by decide]
  (conv => whnf)
  refine right_ok T.f18 [48, 55] ?_
  rw [show right [48, 55] = false from by decide]
  (conv => whnf); (refine ⟨_, rfl, ?_⟩)
  exact hk _ he1

theorem natAdds_ok (T : Tab C) (a b : List UInt8) : acall C base (n + 6) 6 [.string (bs a), .string (bs b)] h (fun v _ => v = .bool true) := by
  refine acall_of T.f6 ?_
  (conv => whnf)
  refine Add_ok T a b fun h1 he1 => ?_
  (conv => whnf); refine ⟨_, rfl, ?_⟩
  (conv => whnf); refine ⟨_, rfl, ?_⟩
  (conv => whnf)
  refine RAdd_ok T a b fun h2 he2 => ?_
  (conv => whnf); refine ⟨_, rfl, ?_⟩
  (conv => whnf); refine ⟨_, rfl, ?_⟩
  (conv => whnf); (refine obool_f (by first | (simp; done) | (simp; omega)) ?_); (conv => whnf); (refine obool_f (by first | (simp; done) | (simp; omega)) ?_); (conv => whnf)
  refine Sub_ok T a b fun h1 he1 => ?_
  (conv => whnf); refine ⟨_, rfl, ?_⟩
  (conv => whnf); refine ⟨_, rfl, ?_⟩
  (conv => whnf)
  refine RSub_ok T a b fun h2 he2 => ?_
  (conv => whnf); refine ⟨_, rfl, ?_⟩
  (conv => whnf); refine ⟨_, rfl, ?_⟩
  (conv => whnf); (refine obool_f (by first | (simp; done) | (simp; omega)) ?_); (conv => whnf); (refine obool_f (by first | (simp; done) | (simp; omega)) ?_); (conv => whnf)
  refine Mul_ok T a b fun h1 he1 => ?_
  (conv => whnf); refine ⟨_, rfl, ?_⟩
  (conv => whnf); refine ⟨_, rfl, ?_⟩
  (conv => whnf)
  refine RMul_ok T a b fun h2 he2 => ?_
  (conv => whnf); refine ⟨_, rfl, ?_⟩
  (conv => whnf); refine ⟨_, rfl, ?_⟩
  (conv => whnf); (refine obool_f (by first | (simp; done) | (simp; omega)) ?_); (conv => whnf); (refine obool_f (by first | (simp; done) | (simp; omega)) ?_); (conv => whnf)
  refine Cmp_ok T a b fun h1 he1 => ?_
  cases ha : right a with
  | false =>
    rw [show cmpR a b = (0, 3) from by rw [cmpR, ha]; rfl]
    (conv => whnf); refine ⟨_, rfl, ?_⟩
    (conv => whnf); refine ⟨_, rfl, ?_⟩
    (conv => whnf)
    refine RRight_ok T a ?_
    rw [ha]
    (conv => whnf)
    refine known_ok T fun h3 he3 => ?_
    (conv => whnf); (refine ⟨_, rfl, ?_⟩); rfl
  | true =>
    cases hb : right b with
    | false =>
      rw [show cmpR a b = (0, 3) from by rw [cmpR, ha, hb]; rfl]
      (conv => whnf); refine ⟨_, rfl, ?_⟩
      (conv => whnf); refine ⟨_, rfl, ?_⟩
      (conv => whnf)
      refine RRight_ok T a ?_
      rw [ha]
      (conv => whnf)
      refine RRight_ok T b ?_
      rw [hb]
      (conv => whnf)
      refine known_ok T fun h3 he3 => ?_
      (conv => whnf); (refine ⟨_, rfl, ?_⟩); rfl
    | true =>
      rw [show cmpR a b = (cmpN (val a) (val b), 0) from by rw [cmpR, ha, hb]; rfl]
      (conv => whnf); refine ⟨_, rfl, ?_⟩
      (conv => whnf); refine ⟨_, rfl, ?_⟩
      (conv => whnf)
      refine RRight_ok T a ?_
      rw [ha]
      (conv => whnf)
      refine RRight_ok T b ?_
      rw [hb]
      (conv => whnf)
      refine Compare_ok T (right_natural ha) (right_natural hb) ?_
      (conv => whnf); (refine obool_t (by first | (simp; done) | (simp; omega)) ?_); (conv => whnf)
      refine known_ok T fun h3 he3 => ?_
      (conv => whnf); (refine ⟨_, rfl, ?_⟩); rfl

theorem natDivides_ok (T : Tab C) (a b : List UInt8) : acall C base (n + 7) 8 [.string (bs a), .string (bs b)] h (fun v _ => v = .bool true) := by
  refine acall_of T.f8 ?_
  (conv => whnf)
  refine DivMod_ok T a b fun h1 he1 => ?_
  (conv => whnf); refine ⟨_, rfl, ?_⟩
  (conv => whnf); refine ⟨_, rfl, ?_⟩
  (conv => whnf); refine ⟨_, rfl, ?_⟩
  (conv => whnf)
  refine RDivMod_ok T a b fun h2 he2 => ?_
  (conv => whnf); refine ⟨_, rfl, ?_⟩
  (conv => whnf); refine ⟨_, rfl, ?_⟩
  (conv => whnf); refine ⟨_, rfl, ?_⟩
  (conv => whnf)
  refine Gcd_ok T a b fun h1 he1 => ?_
  (conv => whnf); refine ⟨_, rfl, ?_⟩
  (conv => whnf); refine ⟨_, rfl, ?_⟩
  (conv => whnf)
  refine RGcd_ok T a b fun h2 he2 => ?_
  (conv => whnf); refine ⟨_, rfl, ?_⟩
  (conv => whnf); refine ⟨_, rfl, ?_⟩
  (conv => whnf); (refine obool_t (by first | (simp; done) | (simp; omega)) ?_); (conv => whnf); (refine obool_t (by first | (simp; done) | (simp; omega)) ?_); (conv => whnf); (refine obool_t (by first | (simp; done) | (simp; omega)) ?_); (conv => whnf); (refine obool_t (by first | (simp; done) | (simp; omega)) ?_); (conv => whnf); (refine obool_t (by first | (simp; done) | (simp; omega)) ?_); (conv => whnf)
  refine known_ok T fun h3 he3 => ?_
  (conv => whnf); (refine ⟨_, rfl, ?_⟩); rfl

theorem intR_dec {x : Nat} (hx : x < 18446744073709551616) : intR (dec x) = (x, 0) := by
  have hr : right (dec x) = true := by
    unfold right
    rw [natural_dec, decide_eq_true (by have := dec_len_u64 hx; omega)]; rfl
  rw [intR, if_pos hr, val_dec, if_pos hx]
theorem natBack_ok (T : Tab C) (x : Nat) (hx : x < 18446744073709551616) (s : List UInt8) : acall C base (n + 6) 3 [.int .u64 (x : Int), .string (bs s)] h (fun v _ => v = .bool true) := by
  refine acall_of T.f3 ?_
  (conv => whnf)
  refine Of_ok T x hx fun h1 he1 => ?_
  (conv => whnf)
  refine Int_ok T (dec x) fun h2 he2 => ?_
  rw [intR_dec hx]
  (conv => whnf); refine ⟨_, rfl, ?_⟩
  (conv => whnf); refine ⟨_, rfl, ?_⟩
  (conv => whnf); (refine obool_f (by first | (simp; done) | (simp; omega)) ?_); (conv => whnf)
  refine Int_ok T s fun h3 he3 => ?_
  by_cases hr : right s = true
  · by_cases hv : val s < 18446744073709551616
    · rw [show intR s = (val s, 0) from by rw [intR, if_pos hr, if_pos hv]]
      (conv => whnf); refine ⟨_, rfl, ?_⟩
      (conv => whnf); refine ⟨_, rfl, ?_⟩
      (conv => whnf)
      refine Of_ok T (val s) hv fun h4 he4 => ?_
      rw [dec_right hr]
      (conv => whnf); (refine obool_t (by first | (simp; done) | (simp; omega)) ?_); (conv => whnf)
      refine known_ok T fun h5 he5 => ?_
      (conv => whnf); (refine ⟨_, rfl, ?_⟩); rfl
    · rw [show intR s = (0, 7) from by rw [intR, if_pos hr, if_neg hv]]
      (conv => whnf); refine ⟨_, rfl, ?_⟩
      (conv => whnf); refine ⟨_, rfl, ?_⟩
      (conv => whnf)
      refine known_ok T fun h5 he5 => ?_
      (conv => whnf); (refine ⟨_, rfl, ?_⟩); rfl
  · rw [show intR s = (0, 3) from by rw [intR, if_neg hr]]
    (conv => whnf); refine ⟨_, rfl, ?_⟩
    (conv => whnf); refine ⟨_, rfl, ?_⟩
    (conv => whnf)
    refine known_ok T fun h5 he5 => ?_
    (conv => whnf); (refine ⟨_, rfl, ?_⟩); rfl

theorem natReads_ok (T : Tab C) (s : List UInt8) (x : Nat) (hx : x < 18446744073709551616) : acall C base (n + 6) 4 [.string (bs s), .int .u64 (x : Int)] h (fun v _ => v = .bool true) := by
  refine acall_of T.f4 ?_
  (conv => whnf)
  refine Int_ok T s fun h1 he1 => ?_
  (conv => whnf); refine ⟨_, rfl, ?_⟩
  (conv => whnf); refine ⟨_, rfl, ?_⟩
  (conv => whnf)
  refine RInt_ok T s ?_
  (conv => whnf); refine ⟨_, rfl, ?_⟩
  (conv => whnf); refine ⟨_, rfl, ?_⟩
  (conv => whnf)
  refine Digits_ok T s ?_
  cases hr : right s with
  | true =>
    rw [if_pos rfl]
    (conv => whnf); refine ⟨_, rfl, ?_⟩
    (conv => whnf); refine ⟨_, rfl, ?_⟩
    (conv => whnf)
    refine RRight_ok T s ?_
    rw [hr]
    (conv => whnf); (refine obool_f (by first | (simp; done) | (simp; omega)) ?_); (conv => whnf); (refine obool_f (by first | (simp; done) | (simp; omega)) ?_); (conv => whnf)
    refine right_ok T.f18 s ?_
    rw [hr]
    (conv => whnf)
    refine Of_ok T x hx fun h2 he2 => ?_
    (conv => whnf)
    refine ROf_ok T x hx fun h3 he3 => ?_
    (conv => whnf); (refine obool_f (by first | (simp; done) | (simp; omega)) ?_); (conv => whnf); (refine obool_t (by first | (simp; done) | (simp; omega)) ?_); (conv => whnf); (refine obool_intro (fun hz => ?_) (fun hz => ?_))
    · (conv => whnf)
      refine known_ok T fun h5 he5 => ?_
      (conv => whnf); (refine ⟨_, rfl, ?_⟩); rfl
    · (conv => whnf)
      refine known_ok T fun h5 he5 => ?_
      (conv => whnf); (refine ⟨_, rfl, ?_⟩); rfl
  | false =>
    rw [if_neg (by decide)]
    (conv => whnf); refine ⟨_, rfl, ?_⟩
    (conv => whnf); refine ⟨_, rfl, ?_⟩
    (conv => whnf)
    refine RRight_ok T s ?_
    rw [hr]
    (conv => whnf); (refine obool_f (by first | (simp; done) | (simp; omega)) ?_); (conv => whnf); (refine obool_f (by first | (simp; done) | (simp; omega)) ?_); (conv => whnf)
    refine right_ok T.f18 s ?_
    rw [hr]
    (conv => whnf)
    refine Of_ok T x hx fun h2 he2 => ?_
    (conv => whnf)
    refine ROf_ok T x hx fun h3 he3 => ?_
    (conv => whnf); (refine obool_f (by first | (simp; done) | (simp; omega)) ?_); (conv => whnf); (refine obool_intro (fun hz => ?_) (fun hz => ?_))
    · (conv => whnf)
      refine known_ok T fun h5 he5 => ?_
      (conv => whnf); (refine ⟨_, rfl, ?_⟩); rfl
    · (conv => whnf)
      refine known_ok T fun h5 he5 => ?_
      (conv => whnf); (refine ⟨_, rfl, ?_⟩); rfl

theorem Rooted_ok (T : Tab C) (a : List UInt8) (k : Int) (hk3 : right a = false → K (sv ([], 3)) h) (hk1 : right a = true → (k < 1 ∨ 4096 < k) → K (sv ([], 1)) h)
    (hk : right a = true → ∀ m : Nat, k = (m : Int) → 0 < m → m ≤ 4096 → ∀ h' r, Ext h h' → IsRoot (val a) m r → K (sv (dec r, 0)) h') : acall C base (n + 6) 43 [.string (bs a), .int .i64 k] h K := by
  refine acall_of T.f43 ?_
  (conv => whnf)
  refine RRight_ok T a ?_
  cases ha : right a with
  | false =>
    (conv => whnf); (refine ⟨_, rfl, ?_⟩)
    exact hk3 ha
  | true =>
    (conv => whnf); (refine obool_intro (fun h1 => ?_) (fun h1 => ?_))
    · have h1' : k < 1 := of_decide_eq_true h1
      (conv => whnf); (refine ⟨_, rfl, ?_⟩)
      exact hk1 ha (.inl h1')
    have h1' : ¬ k < 1 := of_decide_eq_false h1
    (conv => whnf); (refine obool_intro (fun h2 => ?_) (fun h2 => ?_))
    · have h2' : k > 4096 := of_decide_eq_true h2
      (conv => whnf); (refine ⟨_, rfl, ?_⟩)
      exact hk1 ha (.inr h2')
    have h2' : ¬ k > 4096 := of_decide_eq_false h2
    obtain ⟨m, rfl⟩ : ∃ m : Nat, k = (m : Int) := ⟨k.toNat, by omega⟩
    (conv => whnf)
    refine RRoot_ok T a m ha (by omega) (by omega) fun h3 r he3 hr => ?_
    (conv => whnf); (refine ⟨_, rfl, ?_⟩)
    exact hk ha m rfl (by omega) (by omega) _ _ he3 hr

theorem natPowers_ok (T : Tab C) (a : List UInt8) (k : Int) : acall C base (n + 7) 10 [.string (bs a), .int .i64 k] h (fun v _ => v = .bool true) := by
  refine acall_of T.f10 ?_
  (conv => whnf)
  refine Pow_ok T a k fun h1 he1 => ?_
  (conv => whnf); refine ⟨_, rfl, ?_⟩
  (conv => whnf); refine ⟨_, rfl, ?_⟩
  (conv => whnf)
  refine RPow_ok T a k fun h2 he2 => ?_
  (conv => whnf); refine ⟨_, rfl, ?_⟩
  (conv => whnf); refine ⟨_, rfl, ?_⟩
  (conv => whnf)
  refine Root_ok T a k (fun hf => ?_) (fun ha hb => ?_) (fun ha m hm h0 h4 h3 r he3 hr => ?_)
  · obtain ⟨p, hp⟩ : ∃ p, p = (([], 3) : List UInt8 × Int) := ⟨_, rfl⟩
    rw [← hp]
    (conv => whnf); refine ⟨_, rfl, ?_⟩
    (conv => whnf); refine ⟨_, rfl, ?_⟩
    (conv => whnf)
    refine Rooted_ok T a k (fun _ => ?_) (fun ha' _ => by rw [hf] at ha'; cases ha') (fun ha' => by rw [hf] at ha'; cases ha')
    rw [← hp]
    (conv => whnf); refine ⟨_, rfl, ?_⟩
    (conv => whnf); refine ⟨_, rfl, ?_⟩
    (conv => whnf); (refine obool_t (by first | (simp; done) | (simp; omega)) ?_); (conv => whnf); (refine obool_t (by first | (simp; done) | (simp; omega)) ?_); (conv => whnf); (refine obool_t (by first | (simp; done) | (simp; omega)) ?_); (conv => whnf); (refine obool_t (by first | (simp; done) | (simp; omega)) ?_); (conv => whnf)
    refine known_ok T fun h5 he5 => ?_
    (conv => whnf); (refine ⟨_, rfl, ?_⟩); rfl
  · obtain ⟨p, hp⟩ : ∃ p, p = (([], 1) : List UInt8 × Int) := ⟨_, rfl⟩
    rw [← hp]
    (conv => whnf); refine ⟨_, rfl, ?_⟩
    (conv => whnf); refine ⟨_, rfl, ?_⟩
    (conv => whnf)
    refine Rooted_ok T a k (fun hf => by rw [hf] at ha; cases ha) (fun _ _ => ?_) (fun _ m hm h0 h4 => by omega)
    rw [← hp]
    (conv => whnf); refine ⟨_, rfl, ?_⟩
    (conv => whnf); refine ⟨_, rfl, ?_⟩
    (conv => whnf); (refine obool_t (by first | (simp; done) | (simp; omega)) ?_); (conv => whnf); (refine obool_t (by first | (simp; done) | (simp; omega)) ?_); (conv => whnf); (refine obool_t (by first | (simp; done) | (simp; omega)) ?_); (conv => whnf); (refine obool_t (by first | (simp; done) | (simp; omega)) ?_); (conv => whnf)
    refine known_ok T fun h5 he5 => ?_
    (conv => whnf); (refine ⟨_, rfl, ?_⟩); rfl
  · obtain ⟨p, hp⟩ : ∃ p, p = ((dec r, 0) : List UInt8 × Int) := ⟨_, rfl⟩
    rw [← hp]
    (conv => whnf); refine ⟨_, rfl, ?_⟩
    (conv => whnf); refine ⟨_, rfl, ?_⟩
    (conv => whnf)
    refine Rooted_ok T a k (fun hf => by rw [hf] at ha; cases ha) (fun _ _ => by omega) (fun _ m' hm' h0' h4' h4 r' he4 hr' => ?_)
    obtain rfl : m' = m := by omega
    obtain rfl := hr.unique hr'
    rw [← hp]
    (conv => whnf); refine ⟨_, rfl, ?_⟩
    (conv => whnf); refine ⟨_, rfl, ?_⟩
    (conv => whnf); (refine obool_t (by first | (simp; done) | (simp; omega)) ?_); (conv => whnf); (refine obool_t (by first | (simp; done) | (simp; omega)) ?_); (conv => whnf); (refine obool_t (by first | (simp; done) | (simp; omega)) ?_); (conv => whnf); (refine obool_t (by first | (simp; done) | (simp; omega)) ?_); (conv => whnf)
    refine known_ok T fun h5 he5 => ?_
    (conv => whnf); (refine ⟨_, rfl, ?_⟩); rfl
end Go.Proofs.Ytpilfppdiifbjaa.Am

namespace Go.Proofs.Ytpilfppdiifbjaa.Am
open Go.Proofs.Ytpilfppdiifbjaa.Nt
variable {C : FuncId → Option AFn} {base : Cl} {n : Nat} {h : H} {K : Value → H → Prop}
theorem add34_ok (T : Tab C) (a b : List UInt8) (hk : ∀ h', Ext h h' → K (.string (bs (addR a b).1)) h') : acall C base (n + 5) 34 [.string (bs a), .string (bs b)] h K := by
  refine acall_of T.f34 ?_
  (conv => whnf)
  refine Add_ok T a b fun h1 he1 => ?_
  (conv => whnf); refine ⟨_, rfl, ?_⟩
  (conv => whnf); refine ⟨_, rfl, ?_⟩
  (conv => whnf); (refine ⟨_, rfl, ?_⟩)
  exact hk _ he1
theorem mul35_ok (T : Tab C) (a b : List UInt8) (hk : ∀ h', Ext h h' → K (.string (bs (mulR a b).1)) h') : acall C base (n + 5) 35 [.string (bs a), .string (bs b)] h K := by
  refine acall_of T.f35 ?_
  (conv => whnf)
  refine Mul_ok T a b fun h1 he1 => ?_
  (conv => whnf); refine ⟨_, rfl, ?_⟩
  (conv => whnf); refine ⟨_, rfl, ?_⟩
  (conv => whnf); (refine ⟨_, rfl, ?_⟩)
  exact hk _ he1
theorem cmp_gt {x y : Nat} : 0 < cmpN x y ↔ y < x := by
  unfold cmpN
  split
  · simp; omega
  · split <;> simp <;> omega
theorem right_dec {x : Nat} (h : (dec x).length ≤ 600) : right (dec x) = true := by
  unfold right
  rw [natural_dec, decide_eq_true h]; rfl
theorem told_pos {x : Nat} (h : (dec x).length ≤ 600) : told x = (dec x, 0) := by rw [told, if_pos h]
theorem told_neg {x : Nat} (h : ¬ (dec x).length ≤ 600) : told x = ([], 7) := by rw [told, if_neg h]
theorem str_eq_t {a b : List UInt8} (h : a = b) : ((bs a).toList == (bs b).toList) = true := by rw [bs_toList, bs_toList, h]; exact beq_self_eq_true _
theorem str_eq_f {a b : List UInt8} (h : a ≠ b) : ((bs a).toList == (bs b).toList) = false := by rw [bs_toList, bs_toList]; exact beq_false_of_ne h
theorem str_ne_t {a b : List UInt8} (h : a ≠ b) : (!((bs a).toList == (bs b).toList)) = true := by rw [str_eq_f h]; rfl
theorem str_ne_f {a b : List UInt8} (h : a = b) : (!((bs a).toList == (bs b).toList)) = false := by rw [str_eq_t h]; rfl
theorem len_of_right_le {a : List UInt8} (ha : right a = true) {x : Nat} (h : x ≤ val a) : (dec x).length ≤ 600 := by
  have := dec_len_mono h
  rw [dec_right ha] at this
  exact Nat.le_trans this (right_len600 ha)

theorem natQuotient_ok (T : Tab C) (a b : List UInt8) : acall C base (n + 7) 9 [.string (bs a), .string (bs b)] h (fun v _ => v = .bool true) := by
  refine acall_of T.f9 ?_
  (conv => whnf)
  refine DivMod_ok T a b fun h1 he1 => ?_
  cases ha : right a with
  | false =>
    rw [show divR a b = ([], [], 3) from by rw [divR, ha]; rfl]
    (conv => whnf); refine ⟨_, rfl, ?_⟩
    (conv => whnf); refine ⟨_, rfl, ?_⟩
    (conv => whnf); refine ⟨_, rfl, ?_⟩
    (conv => whnf)
    refine RRight_ok T a ?_
    rw [ha]
    (conv => whnf)
    refine known_ok T fun h3 he3 => ?_
    (conv => whnf); (refine ⟨_, rfl, ?_⟩); rfl
  | true =>
  cases hb : right b with
  | false =>
    rw [show divR a b = ([], [], 3) from by rw [divR, ha, hb]; rfl]
    (conv => whnf); refine ⟨_, rfl, ?_⟩
    (conv => whnf); refine ⟨_, rfl, ?_⟩
    (conv => whnf); refine ⟨_, rfl, ?_⟩
    (conv => whnf)
    refine RRight_ok T a ?_
    rw [ha]
    (conv => whnf)
    refine RRight_ok T b ?_
    rw [hb]
    (conv => whnf)
    refine known_ok T fun h3 he3 => ?_
    (conv => whnf); (refine ⟨_, rfl, ?_⟩); rfl
  | true =>
  have hab : (right a && right b) = true := by rw [ha, hb]; rfl
  by_cases h0 : val b = 0
  · have eb := (val_zero_right hb).1 h0
    rw [show divR a b = ([], [], 8) from by rw [divR, if_pos hab, if_pos h0]]
    (conv => whnf); refine ⟨_, rfl, ?_⟩
    (conv => whnf); refine ⟨_, rfl, ?_⟩
    (conv => whnf); refine ⟨_, rfl, ?_⟩
    (conv => whnf)
    refine RRight_ok T a ?_
    rw [ha]
    (conv => whnf)
    refine RRight_ok T b ?_
    rw [hb]
    (conv => whnf)
    refine obool_t (str_eq_t (b := [48]) eb) ?_
    (conv => whnf)
    refine Gcd_ok T a b fun h2 he2 => ?_
    rw [show gcdR a b = (a, 0) from by rw [gcdR, if_pos hab, h0, Nat.gcd_zero_right, dec_right ha]]
    (conv => whnf); refine ⟨_, rfl, ?_⟩
    (conv => whnf); refine ⟨_, rfl, ?_⟩
    (conv => whnf); (refine obool_t (by first | (simp; done) | (simp; omega)) ?_); (conv => whnf)
    refine known_ok T fun h3 he3 => ?_
    (conv => whnf); (refine ⟨_, rfl, ?_⟩); rfl
  · have hb0 : 0 < val b := by omega
    have ebn : b ≠ [48] := fun e => h0 ((val_zero_right hb).2 e)
    obtain ⟨q, hq⟩ : ∃ q, q = val a / val b := ⟨_, rfl⟩
    obtain ⟨r, hr⟩ : ∃ r, r = val a % val b := ⟨_, rfl⟩
    have hdm : q * val b + r = val a := by rw [hq, hr, Nat.mul_comm]; exact Nat.div_add_mod _ _
    have hrb : r < val b := by rw [hr]; exact Nat.mod_lt _ hb0
    have rq : right (dec q) = true := right_dec (len_of_right_le ha (by rw [hq]; exact Nat.div_le_self _ _))
    have rr : right (dec r) = true := right_dec (len_of_right_le ha (by omega))
    have lqb : (dec (q * val b)).length ≤ 600 := len_of_right_le ha (by omega)
    have rqb : right (dec (q * val b)) = true := right_dec lqb
    have la : (dec (val a)).length ≤ 600 := len_of_right_le ha (Nat.le_refl _)
    obtain ⟨g, hg⟩ : ∃ g, g = Nat.gcd (val a) (val b) := ⟨_, rfl⟩
    have hg0 : g ≠ 0 := by rw [hg]; have := Nat.gcd_pos_of_pos_right (val a) hb0; omega
    have rg : right (dec g) = true := right_dec (len_of_right_le hb (by rw [hg]; exact Nat.gcd_le_right _ hb0))
    have hgr : Nat.gcd (val b) r = g := by rw [hr, hg, Nat.gcd_comm (val b), ← Nat.gcd_rec, Nat.gcd_comm]
    obtain ⟨za, hza⟩ : ∃ z, z = val a % g := ⟨_, rfl⟩
    obtain ⟨zb, hzb⟩ : ∃ z, z = val b % g := ⟨_, rfl⟩
    have hza0 : za = 0 := by rw [hza, hg]; exact Nat.mod_eq_zero_of_dvd (Nat.gcd_dvd_left _ _)
    have hzb0 : zb = 0 := by rw [hzb, hg]; exact Nat.mod_eq_zero_of_dvd (Nat.gcd_dvd_right _ _)
    rw [show divR a b = (dec q, dec r, 0) from by rw [divR, if_pos hab, if_neg h0, hq, hr]]
    (conv => whnf); refine ⟨_, rfl, ?_⟩
    (conv => whnf); refine ⟨_, rfl, ?_⟩
    (conv => whnf); refine ⟨_, rfl, ?_⟩
    (conv => whnf)
    refine RRight_ok T a ?_
    rw [ha]
    (conv => whnf)
    refine RRight_ok T b ?_
    rw [hb]
    (conv => whnf)
    refine obool_f (str_eq_f (b := [48]) ebn) ?_
    (conv => whnf)
    refine Cmp_ok T (dec r) b fun h2 he2 => ?_
    rw [show cmpR (dec r) b = (cmpN r (val b), 0) from by rw [cmpR, rr, hb, val_dec]; rfl]
    (conv => whnf); refine ⟨_, rfl, ?_⟩
    (conv => whnf); refine ⟨_, rfl, ?_⟩
    (conv => whnf)
    refine obool_f (decide_eq_false (by have := cmp_neg.2 hrb; omega)) ?_
    (conv => whnf)
    refine mul35_ok T (dec q) b fun h3 he3 => ?_
    rw [show mulR (dec q) b = (dec (q * val b), 0) from by rw [mulR, rq, hb, if_pos (by rfl), val_dec, told_pos lqb]]
    (conv => whnf)
    refine add34_ok T (dec (q * val b)) (dec r) fun h4 he4 => ?_
    rw [show addR (dec (q * val b)) (dec r) = (a, 0) from by rw [addR, rqb, rr, if_pos (by rfl), val_dec, val_dec, hdm, told_pos la, dec_right ha]]
    (conv => whnf); (refine obool_f (by first | (simp; done) | (simp; omega)) ?_); (conv => whnf)
    refine Gcd_ok T a b fun h5 he5 => ?_
    rw [show gcdR a b = (dec g, 0) from by rw [gcdR, if_pos hab, hg]]
    (conv => whnf); refine ⟨_, rfl, ?_⟩
    (conv => whnf); refine ⟨_, rfl, ?_⟩
    (conv => whnf)
    refine Gcd_ok T b (dec r) fun h6 he6 => ?_
    rw [show gcdR b (dec r) = (dec g, 0) from by rw [gcdR, hb, rr, if_pos (by rfl), val_dec, hgr]]
    (conv => whnf); refine ⟨_, rfl, ?_⟩
    (conv => whnf); refine ⟨_, rfl, ?_⟩
    (conv => whnf)
    refine DivMod_ok T a (dec g) fun h7 he7 => ?_
    rw [show divR a (dec g) = (dec (val a / g), dec za, 0) from by rw [divR, ha, rg, if_pos (by rfl), val_dec, if_neg hg0, hza]]
    (conv => whnf); refine ⟨_, rfl, ?_⟩
    (conv => whnf); refine ⟨_, rfl, ?_⟩
    (conv => whnf); refine ⟨_, rfl, ?_⟩
    (conv => whnf)
    refine DivMod_ok T b (dec g) fun h8 he8 => ?_
    rw [show divR b (dec g) = (dec (val b / g), dec zb, 0) from by rw [divR, hb, rg, if_pos (by rfl), val_dec, if_neg hg0, hzb]]
    (conv => whnf); refine ⟨_, rfl, ?_⟩
    (conv => whnf); refine ⟨_, rfl, ?_⟩
    (conv => whnf); refine ⟨_, rfl, ?_⟩
    (conv => whnf); (refine obool_t (by first | (simp; done) | (simp; omega)) ?_); (conv => whnf)
    refine obool_t (str_eq_t (b := [48]) (by rw [hza0, dec_zero])) ?_
    (conv => whnf)
    refine obool_t (str_eq_t (b := [48]) (by rw [hzb0, dec_zero])) ?_
    (conv => whnf)
    refine known_ok T fun h9 he9 => ?_
    (conv => whnf); (refine ⟨_, rfl, ?_⟩); rfl

theorem Count_ok (T : Tab C) (k : Int) (hk : ∀ m : Nat, m < 2000 → K (.int .i64 (m : Int)) h) : acall C base (n + 1) 44 [.int .i64 k, .int .i64 2000] h K := by
  refine acall_of T.f44 ?_
  have h1 := Int.tmod_lt_of_pos k (show (0 : Int) < 2000 by decide)
  have h2 := Int.lt_tmod_of_pos k (show (0 : Int) < 2000 by decide)
  (conv => whnf)
  refine ⟨by decide, ?_⟩
  generalize Int.tmod k 2000 = z at *
  (conv => whnf); (refine obool_intro (fun h3 => ?_) (fun h3 => ?_))
  · have h3' := of_decide_eq_true h3
    obtain ⟨m, hm⟩ : ∃ m : Nat, z + 2000 = (m : Int) := ⟨(z + 2000).toNat, by omega⟩
    (conv => whnf)
    refine ar_i64e m hm (by omega) ?_
    (conv => whnf); (refine ⟨_, rfl, ?_⟩)
    exact hk m (by omega)
  · have h3' := of_decide_eq_false h3
    obtain ⟨m, rfl⟩ : ∃ m : Nat, z = (m : Int) := ⟨z.toNat, by omega⟩
    (conv => whnf); (refine ⟨_, rfl, ?_⟩)
    exact hk m (by omega)
end Go.Proofs.Ytpilfppdiifbjaa.Am

namespace Go.Proofs.Ytpilfppdiifbjaa.Am
open Go.Proofs.Ytpilfppdiifbjaa.Nt
variable {C : FuncId → Option AFn} {base : Cl} {n : Nat} {h : H} {K : Value → H → Prop}
theorem powR_nat {a : List UInt8} (ha : right a = true) {k : Nat} (hk : k ≤ 4096) : powR a (k : Int) = told (val a ^ k) := by
  rw [powR, if_pos ha, if_neg (by omega), Int.toNat_natCast]
theorem powR_false {a : List UInt8} (ha : right a = false) (k : Int) : powR a k = ([], 3) := by rw [powR, ha]; rfl

theorem natRaised_ok (T : Tab C) (a : List UInt8) (m0 n0 : Int) : acall C base (n + 7) 11 [.string (bs a), .int .i64 m0, .int .i64 n0] h (fun v _ => v = .bool true) := by
  refine acall_of T.f11 ?_
  (conv => whnf)
  refine Count_ok T m0 fun m hm => ?_
  (conv => whnf)
  refine Count_ok T n0 fun k0 hk0 => ?_
  obtain ⟨k, hk⟩ : ∃ k, k = 1 + k0 := ⟨_, rfl⟩
  (conv => whnf)
  refine ar_i64e k (by omega) (by omega) ?_
  (conv => whnf)
  refine Pow_ok T a (m : Nat) fun h1 he1 => ?_
  cases ha : right a with
  | false =>
    rw [powR_false ha]
    (conv => whnf); refine ⟨_, rfl, ?_⟩
    (conv => whnf); refine ⟨_, rfl, ?_⟩
    (conv => whnf)
    refine Pow_ok T a (k : Nat) fun h1 he1 => ?_
    rw [powR_false ha]
    (conv => whnf); refine ⟨_, rfl, ?_⟩
    (conv => whnf); refine ⟨_, rfl, ?_⟩
    (conv => whnf)
    refine ar_i64e (m + k) (by omega) (by omega) ?_
    (conv => whnf)
    refine Pow_ok T a (m + k : Nat) fun h1 he1 => ?_
    rw [powR_false ha]
    (conv => whnf); refine ⟨_, rfl, ?_⟩
    (conv => whnf); refine ⟨_, rfl, ?_⟩
    (conv => whnf)
    refine RRight_ok T a ?_
    rw [ha]
    (conv => whnf)
    refine known_ok T fun h9 he9 => ?_
    (conv => whnf); (refine ⟨_, rfl, ?_⟩); rfl
  | true =>
    rw [powR_nat ha (by omega)]
    by_cases hX : (dec (val a ^ m)).length ≤ 600
    · rw [told_pos hX]
      by_cases hY : (dec (val a ^ k)).length ≤ 600
      · (conv => whnf); refine ⟨_, rfl, ?_⟩
        (conv => whnf); refine ⟨_, rfl, ?_⟩
        (conv => whnf)
        refine Pow_ok T a (k : Nat) fun h1 he1 => ?_
        rw [powR_nat ha (by omega), told_pos hY]
        (conv => whnf); refine ⟨_, rfl, ?_⟩
        (conv => whnf); refine ⟨_, rfl, ?_⟩
        (conv => whnf)
        refine ar_i64e (m + k) (by omega) (by omega) ?_
        (conv => whnf)
        refine Pow_ok T a (m + k : Nat) fun h1 he1 => ?_
        rw [powR_nat ha (by omega)]
        (conv => whnf); refine ⟨_, rfl, ?_⟩
        (conv => whnf); refine ⟨_, rfl, ?_⟩
        (conv => whnf)
        refine RRight_ok T a ?_
        rw [ha]
        (conv => whnf)
        refine mul35_ok T (dec (val a ^ m)) (dec (val a ^ k)) fun h2 he2 => ?_
        rw [show mulR (dec (val a ^ m)) (dec (val a ^ k)) = told (val a ^ (m + k)) from by rw [mulR, right_dec hX, right_dec hY, if_pos (by rfl), val_dec, val_dec, Nat.pow_add]]
        (conv => whnf); (refine obool_f (by first | (simp; done) | (simp; omega)) ?_)
        (conv => whnf)
        refine Root_ok T a (k : Nat) (fun hf => by rw [hf] at ha; cases ha) (fun _ _ => by omega) (fun _ k' hk' h0' h4' h3 r he3 hr => ?_)
        obtain rfl : k' = k := by omega
        have lrp : (dec (r ^ k')).length ≤ 600 := len_of_right_le ha hr.1
        have lr : (dec r).length ≤ 600 := len_of_right_le ha (Nat.le_trans (le_pow_self h0') hr.1)
        have rr := right_dec lr
        have rrp := right_dec lrp
        (conv => whnf); refine ⟨_, rfl, ?_⟩
        (conv => whnf); refine ⟨_, rfl, ?_⟩
        (conv => whnf)
        refine Pow_ok T (dec r) (k' : Nat) fun h4 he4 => ?_
        rw [show powR (dec r) (k' : Nat) = (dec (r ^ k'), 0) from by rw [powR_nat rr h4', val_dec, told_pos lrp]]
        (conv => whnf); refine ⟨_, rfl, ?_⟩
        (conv => whnf); refine ⟨_, rfl, ?_⟩
        (conv => whnf)
        refine Cmp_ok T (dec (r ^ k')) a fun h5 he5 => ?_
        rw [show cmpR (dec (r ^ k')) a = (cmpN (r ^ k') (val a), 0) from by rw [cmpR, rrp, ha, val_dec]; rfl]
        (conv => whnf); refine ⟨_, rfl, ?_⟩
        (conv => whnf); refine ⟨_, rfl, ?_⟩
        (conv => whnf)
        refine obool_f (decide_eq_false (by have := cmp_le.2 hr.1; omega)) ?_
        (conv => whnf)
        refine add34_ok T (dec r) [49] fun h6 he6 => ?_
        have eadd : addR (dec r) [49] = told (r + 1) := by rw [addR, rr, if_pos (by decide), val_dec]; rfl
        by_cases hM : (dec (r + 1)).length ≤ 600
        · rw [show (addR (dec r) [49]).1 = dec (r + 1) from by rw [eadd, told_pos hM]]
          have hne : dec (r + 1) ≠ [] := List.length_pos_iff.1 (dec_len_pos _)
          (conv => whnf)
          refine Pow_ok T (dec (r + 1)) (k' : Nat) fun h7 he7 => ?_
          by_cases hP : (dec ((r + 1) ^ k')).length ≤ 600
          · rw [show powR (dec (r + 1)) (k' : Nat) = (dec ((r + 1) ^ k'), 0) from by rw [powR_nat (right_dec hM) h4', val_dec, told_pos hP]]
            (conv => whnf); refine ⟨_, rfl, ?_⟩
            (conv => whnf); refine ⟨_, rfl, ?_⟩
            (conv => whnf)
            refine obool_f (str_eq_f (b := []) hne) ?_
            (conv => whnf)
            refine Cmp_ok T (dec ((r + 1) ^ k')) a fun h8 he8 => ?_
            rw [show cmpR (dec ((r + 1) ^ k')) a = (cmpN ((r + 1) ^ k') (val a), 0) from by rw [cmpR, right_dec hP, ha, val_dec]; rfl]
            (conv => whnf); refine ⟨_, rfl, ?_⟩
            (conv => whnf); refine ⟨_, rfl, ?_⟩
            (conv => whnf)
            refine obool_t (decide_eq_true (by have := cmp_gt.2 hr.2; omega)) ?_
            (conv => whnf)
            refine known_ok T fun h9 he9 => ?_
            (conv => whnf); (refine ⟨_, rfl, ?_⟩); rfl
          · rw [show powR (dec (r + 1)) (k' : Nat) = ([], 7) from by rw [powR_nat (right_dec hM) h4', val_dec, told_neg hP]]
            (conv => whnf); refine ⟨_, rfl, ?_⟩
            (conv => whnf); refine ⟨_, rfl, ?_⟩
            (conv => whnf)
            refine obool_f (str_eq_f (b := []) hne) ?_
            (conv => whnf)
            refine known_ok T fun h9 he9 => ?_
            (conv => whnf); (refine ⟨_, rfl, ?_⟩); rfl
        · have e0 : (addR (dec r) [49]).1 = [] := by rw [eadd, told_neg hM]
          generalize (addR (dec r) [49]).1 = s at *
          (conv => whnf)
          refine Pow_ok T s (k' : Nat) fun h7 he7 => ?_
          (conv => whnf); refine ⟨_, rfl, ?_⟩
          (conv => whnf); refine ⟨_, rfl, ?_⟩
          (conv => whnf)
          refine obool_t (str_eq_t (b := []) e0) ?_
          (conv => whnf)
          refine known_ok T fun h9 he9 => ?_
          (conv => whnf); (refine ⟨_, rfl, ?_⟩); rfl
      · (conv => whnf); refine ⟨_, rfl, ?_⟩
        (conv => whnf); refine ⟨_, rfl, ?_⟩
        (conv => whnf)
        refine Pow_ok T a (k : Nat) fun h1 he1 => ?_
        rw [powR_nat ha (by omega), told_neg hY]
        (conv => whnf); refine ⟨_, rfl, ?_⟩
        (conv => whnf); refine ⟨_, rfl, ?_⟩
        (conv => whnf)
        refine ar_i64e (m + k) (by omega) (by omega) ?_
        (conv => whnf)
        refine Pow_ok T a (m + k : Nat) fun h1 he1 => ?_
        rw [powR_nat ha (by omega)]
        (conv => whnf); refine ⟨_, rfl, ?_⟩
        (conv => whnf); refine ⟨_, rfl, ?_⟩
        (conv => whnf)
        refine RRight_ok T a ?_
        rw [ha]
        (conv => whnf)
        refine Root_ok T a (k : Nat) (fun hf => by rw [hf] at ha; cases ha) (fun _ _ => by omega) (fun _ k' hk' h0' h4' h3 r he3 hr => ?_)
        obtain rfl : k' = k := by omega
        have lrp : (dec (r ^ k')).length ≤ 600 := len_of_right_le ha hr.1
        have lr : (dec r).length ≤ 600 := len_of_right_le ha (Nat.le_trans (le_pow_self h0') hr.1)
        have rr := right_dec lr
        have rrp := right_dec lrp
        (conv => whnf); refine ⟨_, rfl, ?_⟩
        (conv => whnf); refine ⟨_, rfl, ?_⟩
        (conv => whnf)
        refine Pow_ok T (dec r) (k' : Nat) fun h4 he4 => ?_
        rw [show powR (dec r) (k' : Nat) = (dec (r ^ k'), 0) from by rw [powR_nat rr h4', val_dec, told_pos lrp]]
        (conv => whnf); refine ⟨_, rfl, ?_⟩
        (conv => whnf); refine ⟨_, rfl, ?_⟩
        (conv => whnf)
        refine Cmp_ok T (dec (r ^ k')) a fun h5 he5 => ?_
        rw [show cmpR (dec (r ^ k')) a = (cmpN (r ^ k') (val a), 0) from by rw [cmpR, rrp, ha, val_dec]; rfl]
        (conv => whnf); refine ⟨_, rfl, ?_⟩
        (conv => whnf); refine ⟨_, rfl, ?_⟩
        (conv => whnf)
        refine obool_f (decide_eq_false (by have := cmp_le.2 hr.1; omega)) ?_
        (conv => whnf)
        refine add34_ok T (dec r) [49] fun h6 he6 => ?_
        have eadd : addR (dec r) [49] = told (r + 1) := by rw [addR, rr, if_pos (by decide), val_dec]; rfl
        by_cases hM : (dec (r + 1)).length ≤ 600
        · rw [show (addR (dec r) [49]).1 = dec (r + 1) from by rw [eadd, told_pos hM]]
          have hne : dec (r + 1) ≠ [] := List.length_pos_iff.1 (dec_len_pos _)
          (conv => whnf)
          refine Pow_ok T (dec (r + 1)) (k' : Nat) fun h7 he7 => ?_
          by_cases hP : (dec ((r + 1) ^ k')).length ≤ 600
          · rw [show powR (dec (r + 1)) (k' : Nat) = (dec ((r + 1) ^ k'), 0) from by rw [powR_nat (right_dec hM) h4', val_dec, told_pos hP]]
            (conv => whnf); refine ⟨_, rfl, ?_⟩
            (conv => whnf); refine ⟨_, rfl, ?_⟩
            (conv => whnf)
            refine obool_f (str_eq_f (b := []) hne) ?_
            (conv => whnf)
            refine Cmp_ok T (dec ((r + 1) ^ k')) a fun h8 he8 => ?_
            rw [show cmpR (dec ((r + 1) ^ k')) a = (cmpN ((r + 1) ^ k') (val a), 0) from by rw [cmpR, right_dec hP, ha, val_dec]; rfl]
            (conv => whnf); refine ⟨_, rfl, ?_⟩
            (conv => whnf); refine ⟨_, rfl, ?_⟩
            (conv => whnf)
            refine obool_t (decide_eq_true (by have := cmp_gt.2 hr.2; omega)) ?_
            (conv => whnf)
            refine known_ok T fun h9 he9 => ?_
            (conv => whnf); (refine ⟨_, rfl, ?_⟩); rfl
          · rw [show powR (dec (r + 1)) (k' : Nat) = ([], 7) from by rw [powR_nat (right_dec hM) h4', val_dec, told_neg hP]]
            (conv => whnf); refine ⟨_, rfl, ?_⟩
            (conv => whnf); refine ⟨_, rfl, ?_⟩
            (conv => whnf)
            refine obool_f (str_eq_f (b := []) hne) ?_
            (conv => whnf)
            refine known_ok T fun h9 he9 => ?_
            (conv => whnf); (refine ⟨_, rfl, ?_⟩); rfl
        · have e0 : (addR (dec r) [49]).1 = [] := by rw [eadd, told_neg hM]
          generalize (addR (dec r) [49]).1 = s at *
          (conv => whnf)
          refine Pow_ok T s (k' : Nat) fun h7 he7 => ?_
          (conv => whnf); refine ⟨_, rfl, ?_⟩
          (conv => whnf); refine ⟨_, rfl, ?_⟩
          (conv => whnf)
          refine obool_t (str_eq_t (b := []) e0) ?_
          (conv => whnf)
          refine known_ok T fun h9 he9 => ?_
          (conv => whnf); (refine ⟨_, rfl, ?_⟩); rfl
    · rw [told_neg hX]
      (conv => whnf); refine ⟨_, rfl, ?_⟩
      (conv => whnf); refine ⟨_, rfl, ?_⟩
      (conv => whnf)
      refine Pow_ok T a (k : Nat) fun h1 he1 => ?_
      rw [powR_nat ha (by omega)]
      (conv => whnf); refine ⟨_, rfl, ?_⟩
      (conv => whnf); refine ⟨_, rfl, ?_⟩
      (conv => whnf)
      refine ar_i64e (m + k) (by omega) (by omega) ?_
      (conv => whnf)
      refine Pow_ok T a (m + k : Nat) fun h1 he1 => ?_
      rw [powR_nat ha (by omega)]
      (conv => whnf); refine ⟨_, rfl, ?_⟩
      (conv => whnf); refine ⟨_, rfl, ?_⟩
      (conv => whnf)
      refine RRight_ok T a ?_
      rw [ha]
      (conv => whnf)
      refine Root_ok T a (k : Nat) (fun hf => by rw [hf] at ha; cases ha) (fun _ _ => by omega) (fun _ k' hk' h0' h4' h3 r he3 hr => ?_)
      obtain rfl : k' = k := by omega
      have lrp : (dec (r ^ k')).length ≤ 600 := len_of_right_le ha hr.1
      have lr : (dec r).length ≤ 600 := len_of_right_le ha (Nat.le_trans (le_pow_self h0') hr.1)
      have rr := right_dec lr
      have rrp := right_dec lrp
      (conv => whnf); refine ⟨_, rfl, ?_⟩
      (conv => whnf); refine ⟨_, rfl, ?_⟩
      (conv => whnf)
      refine Pow_ok T (dec r) (k' : Nat) fun h4 he4 => ?_
      rw [show powR (dec r) (k' : Nat) = (dec (r ^ k'), 0) from by rw [powR_nat rr h4', val_dec, told_pos lrp]]
      (conv => whnf); refine ⟨_, rfl, ?_⟩
      (conv => whnf); refine ⟨_, rfl, ?_⟩
      (conv => whnf)
      refine Cmp_ok T (dec (r ^ k')) a fun h5 he5 => ?_
      rw [show cmpR (dec (r ^ k')) a = (cmpN (r ^ k') (val a), 0) from by rw [cmpR, rrp, ha, val_dec]; rfl]
      (conv => whnf); refine ⟨_, rfl, ?_⟩
      (conv => whnf); refine ⟨_, rfl, ?_⟩
      (conv => whnf)
      refine obool_f (decide_eq_false (by have := cmp_le.2 hr.1; omega)) ?_
      (conv => whnf)
      refine add34_ok T (dec r) [49] fun h6 he6 => ?_
      have eadd : addR (dec r) [49] = told (r + 1) := by rw [addR, rr, if_pos (by decide), val_dec]; rfl
      by_cases hM : (dec (r + 1)).length ≤ 600
      · rw [show (addR (dec r) [49]).1 = dec (r + 1) from by rw [eadd, told_pos hM]]
        have hne : dec (r + 1) ≠ [] := List.length_pos_iff.1 (dec_len_pos _)
        (conv => whnf)
        refine Pow_ok T (dec (r + 1)) (k' : Nat) fun h7 he7 => ?_
        by_cases hP : (dec ((r + 1) ^ k')).length ≤ 600
        · rw [show powR (dec (r + 1)) (k' : Nat) = (dec ((r + 1) ^ k'), 0) from by rw [powR_nat (right_dec hM) h4', val_dec, told_pos hP]]
          (conv => whnf); refine ⟨_, rfl, ?_⟩
          (conv => whnf); refine ⟨_, rfl, ?_⟩
          (conv => whnf)
          refine obool_f (str_eq_f (b := []) hne) ?_
          (conv => whnf)
          refine Cmp_ok T (dec ((r + 1) ^ k')) a fun h8 he8 => ?_
          rw [show cmpR (dec ((r + 1) ^ k')) a = (cmpN ((r + 1) ^ k') (val a), 0) from by rw [cmpR, right_dec hP, ha, val_dec]; rfl]
          (conv => whnf); refine ⟨_, rfl, ?_⟩
          (conv => whnf); refine ⟨_, rfl, ?_⟩
          (conv => whnf)
          refine obool_t (decide_eq_true (by have := cmp_gt.2 hr.2; omega)) ?_
          (conv => whnf)
          refine known_ok T fun h9 he9 => ?_
          (conv => whnf); (refine ⟨_, rfl, ?_⟩); rfl
        · rw [show powR (dec (r + 1)) (k' : Nat) = ([], 7) from by rw [powR_nat (right_dec hM) h4', val_dec, told_neg hP]]
          (conv => whnf); refine ⟨_, rfl, ?_⟩
          (conv => whnf); refine ⟨_, rfl, ?_⟩
          (conv => whnf)
          refine obool_f (str_eq_f (b := []) hne) ?_
          (conv => whnf)
          refine known_ok T fun h9 he9 => ?_
          (conv => whnf); (refine ⟨_, rfl, ?_⟩); rfl
      · have e0 : (addR (dec r) [49]).1 = [] := by rw [eadd, told_neg hM]
        generalize (addR (dec r) [49]).1 = s at *
        (conv => whnf)
        refine Pow_ok T s (k' : Nat) fun h7 he7 => ?_
        (conv => whnf); refine ⟨_, rfl, ?_⟩
        (conv => whnf); refine ⟨_, rfl, ?_⟩
        (conv => whnf)
        refine obool_t (str_eq_t (b := []) e0) ?_
        (conv => whnf)
        refine known_ok T fun h9 he9 => ?_
        (conv => whnf); (refine ⟨_, rfl, ?_⟩); rfl
end Go.Proofs.Ytpilfppdiifbjaa.Am

namespace Go.Proofs.Ytpilfppdiifbjaa.Am
open Go.Proofs.Ytpilfppdiifbjaa.Nt
variable {C : FuncId → Option AFn} {base : Cl} {n : Nat} {h : H} {K : Value → H → Prop}
theorem told_two (x : Nat) : ((told x).1 = [] ∧ True) ∨ ((told x).1 = dec x ∧ (dec x).length ≤ 600) := by
  by_cases h : (dec x).length ≤ 600
  · rw [told_pos h]; exact .inr ⟨rfl, h⟩
  · rw [told_neg h]; exact .inl ⟨rfl, trivial⟩
theorem dec_ne (x : Nat) : dec x ≠ [] := List.length_pos_iff.1 (dec_len_pos x)
theorem trip_sl (a b c : List UInt8) (h : H) : Sl (h.push (.cells [Value.string (bs a), .string (bs b), .string (bs c)] 9 true false)) (some ⟨h.next, 0, none⟩) 3 (strs [a, b, c]) := (Own.push (strs [a, b, c]) 9 false).sl (by simp)
theorem addR_pos {a b : List UInt8} (ha : right a = true) (hb : right b = true) : addR a b = told (val a + val b) := by rw [addR, ha, hb, if_pos (by rfl)]
theorem mulR_pos {a b : List UInt8} (ha : right a = true) (hb : right b = true) : mulR a b = told (val a * val b) := by rw [mulR, ha, hb, if_pos (by rfl)]

theorem cmpN_add (x y z : Nat) : cmpN (x + z) (y + z) = cmpN x y := by
  unfold cmpN
  congr 1
  · simp
  · congr 1; simp
theorem natRing_ok (T : Tab C) (a b c : List UInt8) : acall C base (n + 7) 7 [.string (bs a), .string (bs b), .string (bs c)] h (fun v _ => v = .bool true) := by
  refine acall_of T.f7 ?_
  have hp3' : (right a && right b && right c) = false → prodR [a, b, c] = ([], 3) := by
    intro h
    rw [prodR, if_neg]
    simp only [List.all_cons, List.all_nil, Bool.and_true]
    rw [← Bool.and_assoc, h]; decide
  (conv => whnf)
  refine RRight_ok T a ?_
  cases ha : right a with
  | false =>
    have hp3 := hp3' (by rw [ha]; rfl)
    (conv => whnf)
    refine ⟨_, rfl, ?_⟩
    (conv => whnf)
    refine Prod_ok T (L := [a, b, c]) (trip_sl a b c _) (by simp) fun h2 he2 => ?_
    rw [hp3]
    (conv => whnf); refine ⟨_, rfl, ?_⟩
    (conv => whnf); refine ⟨_, rfl, ?_⟩
    (conv => whnf)
    refine known_ok T fun h9 he9 => ?_
    (conv => whnf); (refine ⟨_, rfl, ?_⟩); rfl
  | true =>
  (conv => whnf)
  refine RRight_ok T b ?_
  cases hb : right b with
  | false =>
    have hp3 := hp3' (by rw [ha, hb]; rfl)
    (conv => whnf)
    refine ⟨_, rfl, ?_⟩
    (conv => whnf)
    refine Prod_ok T (L := [a, b, c]) (trip_sl a b c _) (by simp) fun h2 he2 => ?_
    rw [hp3]
    (conv => whnf); refine ⟨_, rfl, ?_⟩
    (conv => whnf); refine ⟨_, rfl, ?_⟩
    (conv => whnf)
    refine known_ok T fun h9 he9 => ?_
    (conv => whnf); (refine ⟨_, rfl, ?_⟩); rfl
  | true =>
  (conv => whnf)
  refine RRight_ok T c ?_
  cases hc : right c with
  | false =>
    have hp3 := hp3' (by rw [ha, hb, hc]; rfl)
    (conv => whnf)
    refine ⟨_, rfl, ?_⟩
    (conv => whnf)
    refine Prod_ok T (L := [a, b, c]) (trip_sl a b c _) (by simp) fun h2 he2 => ?_
    rw [hp3]
    (conv => whnf); refine ⟨_, rfl, ?_⟩
    (conv => whnf); refine ⟨_, rfl, ?_⟩
    (conv => whnf)
    refine known_ok T fun h9 he9 => ?_
    (conv => whnf); (refine ⟨_, rfl, ?_⟩); rfl
  | true =>
  have la : (dec (val a)).length ≤ 600 := len_of_right_le ha (Nat.le_refl _)
  obtain ⟨s, hS⟩ : ∃ s, s = (told (val a + val b)).1 := ⟨_, rfl⟩
  obtain ⟨t, hT⟩ : ∃ s, s = (told (val b + val c)).1 := ⟨_, rfl⟩
  obtain ⟨u, hU⟩ : ∃ s, s = (told (val a + val c)).1 := ⟨_, rfl⟩
  obtain ⟨p, hP⟩ : ∃ s, s = (told (val a * val b)).1 := ⟨_, rfl⟩
  obtain ⟨q, hQ⟩ : ∃ s, s = (told (val b * val c)).1 := ⟨_, rfl⟩
  obtain ⟨r, hR⟩ : ∃ s, s = (told (val a * val c)).1 := ⟨_, rfl⟩
  obtain ⟨z1, hz1⟩ : ∃ s, s = (told (val a + val b + val c)).1 := ⟨_, rfl⟩
  obtain ⟨z2, hz2⟩ : ∃ s, s = (told (val a * val b * val c)).1 := ⟨_, rfl⟩
  obtain ⟨z3, hz3⟩ : ∃ s, s = (told (val a * val b + val a * val c)).1 := ⟨_, rfl⟩
  (conv => whnf)
  refine add34_ok T a b fun h2 he2 => ?_
  rw [show (addR a b).1 = s from by rw [addR_pos ha hb, hS]]
  (conv => whnf)
  refine add34_ok T b a fun h2 he2 => ?_
  rw [show (addR b a).1 = s from by rw [addR_pos hb ha, Nat.add_comm, hS]]
  (conv => whnf); (refine obool_f (by first | (simp; done) | (simp; omega)) ?_); (conv => whnf)
  refine mul35_ok T a b fun h2 he2 => ?_
  rw [show (mulR a b).1 = p from by rw [mulR_pos ha hb, hP]]
  (conv => whnf)
  refine mul35_ok T b a fun h2 he2 => ?_
  rw [show (mulR b a).1 = p from by rw [mulR_pos hb ha, Nat.mul_comm, hP]]
  (conv => whnf); (refine obool_f (by first | (simp; done) | (simp; omega)) ?_); (conv => whnf)
  refine known_ok T fun h2 he2 => ?_
  (conv => whnf)
  refine add34_ok T b c fun h2 he2 => ?_
  rw [show (addR b c).1 = t from by rw [addR_pos hb hc, hT]]
  (conv => whnf)
  rcases told_two (val a + val b) with ⟨hs, -⟩ | ⟨hs, lS⟩ <;> rw [← hS] at hs
  · refine obool_f (str_ne_f (b := []) hs) ?_
    (conv => whnf)
    refine mul35_ok T a b fun h2 he2 => ?_
    rw [show (mulR a b).1 = p from by rw [mulR_pos ha hb, hP]]
    (conv => whnf)
    refine mul35_ok T b c fun h2 he2 => ?_
    rw [show (mulR b c).1 = q from by rw [mulR_pos hb hc, hQ]]
    (conv => whnf)
    rcases told_two (val a * val b) with ⟨hp, -⟩ | ⟨hp, lP⟩ <;> rw [← hP] at hp
    · refine obool_f (str_ne_f (b := []) hp) ?_
      (conv => whnf)
      rcases told_two (val b + val c) with ⟨ht, -⟩ | ⟨ht, lT⟩ <;> rw [← hT] at ht
      · refine mul35_ok T a c fun h2 he2 => ?_
        rw [show (mulR a c).1 = r from by rw [mulR_pos ha hc, hR]]
        (conv => whnf)
        refine obool_f (str_ne_f (b := []) ht) ?_
        (conv => whnf)
        refine obool_t (str_eq_t (b := []) hs) ?_
        (conv => whnf); (refine ⟨_, rfl, ?_⟩); rfl
      · have ht1 : t ≠ [] := by rw [ht]; exact dec_ne _
        refine mul35_ok T a c fun h2 he2 => ?_
        rw [show (mulR a c).1 = r from by rw [mulR_pos ha hc, hR]]
        (conv => whnf)
        refine obool_t (str_ne_t (b := []) ht1) ?_
        (conv => whnf)
        refine obool_f (str_ne_f (b := []) hp) ?_
        (conv => whnf)
        refine obool_t (str_eq_t (b := []) hs) ?_
        (conv => whnf); (refine ⟨_, rfl, ?_⟩); rfl
    · have hp1 : p ≠ [] := by rw [hp]; exact dec_ne _
      refine obool_t (str_ne_t (b := []) hp1) ?_
      (conv => whnf)
      rcases told_two (val b * val c) with ⟨hq, -⟩ | ⟨hq, lQ⟩ <;> rw [← hQ] at hq
      · refine obool_f (str_ne_f (b := []) hq) ?_
        (conv => whnf)
        rcases told_two (val b + val c) with ⟨ht, -⟩ | ⟨ht, lT⟩ <;> rw [← hT] at ht
        · refine mul35_ok T a c fun h2 he2 => ?_
          rw [show (mulR a c).1 = r from by rw [mulR_pos ha hc, hR]]
          (conv => whnf)
          refine obool_f (str_ne_f (b := []) ht) ?_
          (conv => whnf)
          refine obool_t (str_eq_t (b := []) hs) ?_
          (conv => whnf); (refine ⟨_, rfl, ?_⟩); rfl
        · have ht1 : t ≠ [] := by rw [ht]; exact dec_ne _
          refine mul35_ok T a c fun h2 he2 => ?_
          rw [show (mulR a c).1 = r from by rw [mulR_pos ha hc, hR]]
          (conv => whnf)
          refine obool_t (str_ne_t (b := []) ht1) ?_
          (conv => whnf)
          refine obool_t (str_ne_t (b := []) hp1) ?_
          (conv => whnf)
          rcases told_two (val a * val c) with ⟨hr, -⟩ | ⟨hr, lR⟩ <;> rw [← hR] at hr
          · refine obool_f (str_ne_f (b := []) hr) ?_
            (conv => whnf)
            refine obool_t (str_eq_t (b := []) hs) ?_
            (conv => whnf); (refine ⟨_, rfl, ?_⟩); rfl
          · have hr1 : r ≠ [] := by rw [hr]; exact dec_ne _
            refine obool_t (str_ne_t (b := []) hr1) ?_
            (conv => whnf)
            (conv => whnf)
            refine mul35_ok T a t fun h2 he2 => ?_
            rw [show (mulR a t).1 = z3 from by rw [ht, mulR_pos ha (right_dec lT), val_dec, Nat.mul_add, hz3]]
            (conv => whnf)
            refine add34_ok T p r fun h3 he3 => ?_
            rw [show (addR p r).1 = z3 from by rw [hp, hr, addR_pos (right_dec lP) (right_dec lR), val_dec, val_dec, hz3]]
            (conv => whnf); (refine obool_f (by first | (simp; done) | (simp; omega)) ?_); (conv => whnf)
            refine obool_t (str_eq_t (b := []) hs) ?_
            (conv => whnf); (refine ⟨_, rfl, ?_⟩); rfl
      · have hq1 : q ≠ [] := by rw [hq]; exact dec_ne _
        refine obool_t (str_ne_t (b := []) hq1) ?_
        (conv => whnf)
        (conv => whnf)
        refine mul35_ok T p c fun h2 he2 => ?_
        rw [show (mulR p c).1 = z2 from by rw [hp, mulR_pos (right_dec lP) hc, val_dec, hz2]]
        (conv => whnf)
        refine mul35_ok T a q fun h3 he3 => ?_
        rw [show (mulR a q).1 = z2 from by rw [hq, mulR_pos ha (right_dec lQ), val_dec, ← Nat.mul_assoc, hz2]]
        (conv => whnf); (refine obool_f (by first | (simp; done) | (simp; omega)) ?_); (conv => whnf)
        rcases told_two (val b + val c) with ⟨ht, -⟩ | ⟨ht, lT⟩ <;> rw [← hT] at ht
        · refine mul35_ok T a c fun h2 he2 => ?_
          rw [show (mulR a c).1 = r from by rw [mulR_pos ha hc, hR]]
          (conv => whnf)
          refine obool_f (str_ne_f (b := []) ht) ?_
          (conv => whnf)
          refine obool_t (str_eq_t (b := []) hs) ?_
          (conv => whnf); (refine ⟨_, rfl, ?_⟩); rfl
        · have ht1 : t ≠ [] := by rw [ht]; exact dec_ne _
          refine mul35_ok T a c fun h2 he2 => ?_
          rw [show (mulR a c).1 = r from by rw [mulR_pos ha hc, hR]]
          (conv => whnf)
          refine obool_t (str_ne_t (b := []) ht1) ?_
          (conv => whnf)
          refine obool_t (str_ne_t (b := []) hp1) ?_
          (conv => whnf)
          rcases told_two (val a * val c) with ⟨hr, -⟩ | ⟨hr, lR⟩ <;> rw [← hR] at hr
          · refine obool_f (str_ne_f (b := []) hr) ?_
            (conv => whnf)
            refine obool_t (str_eq_t (b := []) hs) ?_
            (conv => whnf); (refine ⟨_, rfl, ?_⟩); rfl
          · have hr1 : r ≠ [] := by rw [hr]; exact dec_ne _
            refine obool_t (str_ne_t (b := []) hr1) ?_
            (conv => whnf)
            (conv => whnf)
            refine mul35_ok T a t fun h2 he2 => ?_
            rw [show (mulR a t).1 = z3 from by rw [ht, mulR_pos ha (right_dec lT), val_dec, Nat.mul_add, hz3]]
            (conv => whnf)
            refine add34_ok T p r fun h3 he3 => ?_
            rw [show (addR p r).1 = z3 from by rw [hp, hr, addR_pos (right_dec lP) (right_dec lR), val_dec, val_dec, hz3]]
            (conv => whnf); (refine obool_f (by first | (simp; done) | (simp; omega)) ?_); (conv => whnf)
            refine obool_t (str_eq_t (b := []) hs) ?_
            (conv => whnf); (refine ⟨_, rfl, ?_⟩); rfl
  · have hs1 : s ≠ [] := by rw [hs]; exact dec_ne _
    refine obool_t (str_ne_t (b := []) hs1) ?_
    (conv => whnf)
    rcases told_two (val b + val c) with ⟨ht, -⟩ | ⟨ht, lT⟩ <;> rw [← hT] at ht
    · refine obool_f (str_ne_f (b := []) ht) ?_
      (conv => whnf)
      refine mul35_ok T a b fun h2 he2 => ?_
      rw [show (mulR a b).1 = p from by rw [mulR_pos ha hb, hP]]
      (conv => whnf)
      refine mul35_ok T b c fun h2 he2 => ?_
      rw [show (mulR b c).1 = q from by rw [mulR_pos hb hc, hQ]]
      (conv => whnf)
      rcases told_two (val a * val b) with ⟨hp, -⟩ | ⟨hp, lP⟩ <;> rw [← hP] at hp
      · refine obool_f (str_ne_f (b := []) hp) ?_
        (conv => whnf)
        refine mul35_ok T a c fun h2 he2 => ?_
        rw [show (mulR a c).1 = r from by rw [mulR_pos ha hc, hR]]
        (conv => whnf)
        refine obool_f (str_ne_f (b := []) ht) ?_
        (conv => whnf)
        refine obool_f (str_eq_f (b := []) hs1) ?_
        (conv => whnf)
        refine Sub_ok T s b fun h2 he2 => ?_
        rw [show subR s b = (a, 0) from by rw [hs, subR, right_dec lS, hb, if_pos (by rfl), val_dec, if_neg (by omega), Nat.add_sub_cancel, told_pos la, dec_right ha]]
        (conv => whnf); refine ⟨_, rfl, ?_⟩
        (conv => whnf); refine ⟨_, rfl, ?_⟩
        (conv => whnf)
        refine Cmp_ok T a b fun h2 he2 => ?_
        rw [show cmpR a b = (cmpN (val a) (val b), 0) from by rw [cmpR, ha, hb]; rfl]
        (conv => whnf); refine ⟨_, rfl, ?_⟩
        (conv => whnf); refine ⟨_, rfl, ?_⟩
        (conv => whnf)
        refine obool_t (str_eq_t (b := []) ht) ?_
        (conv => whnf); (refine obool_t (by first | (simp; done) | (simp; omega)) ?_); (conv => whnf); (refine ⟨_, rfl, ?_⟩); rfl
      · have hp1 : p ≠ [] := by rw [hp]; exact dec_ne _
        refine obool_t (str_ne_t (b := []) hp1) ?_
        (conv => whnf)
        rcases told_two (val b * val c) with ⟨hq, -⟩ | ⟨hq, lQ⟩ <;> rw [← hQ] at hq
        · refine obool_f (str_ne_f (b := []) hq) ?_
          (conv => whnf)
          refine mul35_ok T a c fun h2 he2 => ?_
          rw [show (mulR a c).1 = r from by rw [mulR_pos ha hc, hR]]
          (conv => whnf)
          refine obool_f (str_ne_f (b := []) ht) ?_
          (conv => whnf)
          refine obool_f (str_eq_f (b := []) hs1) ?_
          (conv => whnf)
          refine Sub_ok T s b fun h2 he2 => ?_
          rw [show subR s b = (a, 0) from by rw [hs, subR, right_dec lS, hb, if_pos (by rfl), val_dec, if_neg (by omega), Nat.add_sub_cancel, told_pos la, dec_right ha]]
          (conv => whnf); refine ⟨_, rfl, ?_⟩
          (conv => whnf); refine ⟨_, rfl, ?_⟩
          (conv => whnf)
          refine Cmp_ok T a b fun h2 he2 => ?_
          rw [show cmpR a b = (cmpN (val a) (val b), 0) from by rw [cmpR, ha, hb]; rfl]
          (conv => whnf); refine ⟨_, rfl, ?_⟩
          (conv => whnf); refine ⟨_, rfl, ?_⟩
          (conv => whnf)
          refine obool_t (str_eq_t (b := []) ht) ?_
          (conv => whnf); (refine obool_t (by first | (simp; done) | (simp; omega)) ?_); (conv => whnf); (refine ⟨_, rfl, ?_⟩); rfl
        · have hq1 : q ≠ [] := by rw [hq]; exact dec_ne _
          refine obool_t (str_ne_t (b := []) hq1) ?_
          (conv => whnf)
          (conv => whnf)
          refine mul35_ok T p c fun h2 he2 => ?_
          rw [show (mulR p c).1 = z2 from by rw [hp, mulR_pos (right_dec lP) hc, val_dec, hz2]]
          (conv => whnf)
          refine mul35_ok T a q fun h3 he3 => ?_
          rw [show (mulR a q).1 = z2 from by rw [hq, mulR_pos ha (right_dec lQ), val_dec, ← Nat.mul_assoc, hz2]]
          (conv => whnf); (refine obool_f (by first | (simp; done) | (simp; omega)) ?_); (conv => whnf)
          refine mul35_ok T a c fun h2 he2 => ?_
          rw [show (mulR a c).1 = r from by rw [mulR_pos ha hc, hR]]
          (conv => whnf)
          refine obool_f (str_ne_f (b := []) ht) ?_
          (conv => whnf)
          refine obool_f (str_eq_f (b := []) hs1) ?_
          (conv => whnf)
          refine Sub_ok T s b fun h2 he2 => ?_
          rw [show subR s b = (a, 0) from by rw [hs, subR, right_dec lS, hb, if_pos (by rfl), val_dec, if_neg (by omega), Nat.add_sub_cancel, told_pos la, dec_right ha]]
          (conv => whnf); refine ⟨_, rfl, ?_⟩
          (conv => whnf); refine ⟨_, rfl, ?_⟩
          (conv => whnf)
          refine Cmp_ok T a b fun h2 he2 => ?_
          rw [show cmpR a b = (cmpN (val a) (val b), 0) from by rw [cmpR, ha, hb]; rfl]
          (conv => whnf); refine ⟨_, rfl, ?_⟩
          (conv => whnf); refine ⟨_, rfl, ?_⟩
          (conv => whnf)
          refine obool_t (str_eq_t (b := []) ht) ?_
          (conv => whnf); (refine obool_t (by first | (simp; done) | (simp; omega)) ?_); (conv => whnf); (refine ⟨_, rfl, ?_⟩); rfl
    · have ht1 : t ≠ [] := by rw [ht]; exact dec_ne _
      refine obool_t (str_ne_t (b := []) ht1) ?_
      (conv => whnf)
      (conv => whnf)
      refine add34_ok T s c fun h2 he2 => ?_
      rw [show (addR s c).1 = z1 from by rw [hs, addR_pos (right_dec lS) hc, val_dec, hz1]]
      (conv => whnf)
      refine add34_ok T a t fun h3 he3 => ?_
      rw [show (addR a t).1 = z1 from by rw [ht, addR_pos ha (right_dec lT), val_dec, ← Nat.add_assoc, hz1]]
      (conv => whnf); (refine obool_f (by first | (simp; done) | (simp; omega)) ?_); (conv => whnf)
      refine mul35_ok T a b fun h2 he2 => ?_
      rw [show (mulR a b).1 = p from by rw [mulR_pos ha hb, hP]]
      (conv => whnf)
      refine mul35_ok T b c fun h2 he2 => ?_
      rw [show (mulR b c).1 = q from by rw [mulR_pos hb hc, hQ]]
      (conv => whnf)
      rcases told_two (val a * val b) with ⟨hp, -⟩ | ⟨hp, lP⟩ <;> rw [← hP] at hp
      · refine obool_f (str_ne_f (b := []) hp) ?_
        (conv => whnf)
        refine mul35_ok T a c fun h2 he2 => ?_
        rw [show (mulR a c).1 = r from by rw [mulR_pos ha hc, hR]]
        (conv => whnf)
        refine obool_t (str_ne_t (b := []) ht1) ?_
        (conv => whnf)
        refine obool_f (str_ne_f (b := []) hp) ?_
        (conv => whnf)
        refine obool_f (str_eq_f (b := []) hs1) ?_
        (conv => whnf)
        refine Sub_ok T s b fun h2 he2 => ?_
        rw [show subR s b = (a, 0) from by rw [hs, subR, right_dec lS, hb, if_pos (by rfl), val_dec, if_neg (by omega), Nat.add_sub_cancel, told_pos la, dec_right ha]]
        (conv => whnf); refine ⟨_, rfl, ?_⟩
        (conv => whnf); refine ⟨_, rfl, ?_⟩
        (conv => whnf)
        refine Cmp_ok T a b fun h2 he2 => ?_
        rw [show cmpR a b = (cmpN (val a) (val b), 0) from by rw [cmpR, ha, hb]; rfl]
        (conv => whnf); refine ⟨_, rfl, ?_⟩
        (conv => whnf); refine ⟨_, rfl, ?_⟩
        (conv => whnf)
        refine obool_f (str_eq_f (b := []) ht1) ?_
        (conv => whnf)
        refine add34_ok T a c fun h2 he2 => ?_
        rw [show (addR a c).1 = u from by rw [addR_pos ha hc, hU]]
        (conv => whnf)
        rcases told_two (val a + val c) with ⟨hu, -⟩ | ⟨hu, lU⟩ <;> rw [← hU] at hu
        · refine obool_t (str_eq_t (b := []) hu) ?_
          (conv => whnf); (refine obool_t (by first | (simp; done) | (simp; omega)) ?_); (conv => whnf); (refine ⟨_, rfl, ?_⟩); rfl
        · have hu1 : u ≠ [] := by rw [hu]; exact dec_ne _
          refine obool_f (str_eq_f (b := []) hu1) ?_
          (conv => whnf)
          refine Cmp_ok T u t fun h2 he2 => ?_
          rw [show cmpR u t = (cmpN (val a) (val b), 0) from by rw [hu, ht, cmpR, right_dec lU, right_dec lT, if_pos (by rfl), val_dec, val_dec, cmpN_add]]
          (conv => whnf); refine ⟨_, rfl, ?_⟩
          (conv => whnf); refine ⟨_, rfl, ?_⟩
          (conv => whnf); (refine obool_t (by first | (simp; done) | (simp; omega)) ?_); (conv => whnf); (refine ⟨_, rfl, ?_⟩)
          show Value.bool (_ == _) = _
          simp
      · have hp1 : p ≠ [] := by rw [hp]; exact dec_ne _
        refine obool_t (str_ne_t (b := []) hp1) ?_
        (conv => whnf)
        rcases told_two (val b * val c) with ⟨hq, -⟩ | ⟨hq, lQ⟩ <;> rw [← hQ] at hq
        · refine obool_f (str_ne_f (b := []) hq) ?_
          (conv => whnf)
          refine mul35_ok T a c fun h2 he2 => ?_
          rw [show (mulR a c).1 = r from by rw [mulR_pos ha hc, hR]]
          (conv => whnf)
          refine obool_t (str_ne_t (b := []) ht1) ?_
          (conv => whnf)
          refine obool_t (str_ne_t (b := []) hp1) ?_
          (conv => whnf)
          rcases told_two (val a * val c) with ⟨hr, -⟩ | ⟨hr, lR⟩ <;> rw [← hR] at hr
          · refine obool_f (str_ne_f (b := []) hr) ?_
            (conv => whnf)
            refine obool_f (str_eq_f (b := []) hs1) ?_
            (conv => whnf)
            refine Sub_ok T s b fun h2 he2 => ?_
            rw [show subR s b = (a, 0) from by rw [hs, subR, right_dec lS, hb, if_pos (by rfl), val_dec, if_neg (by omega), Nat.add_sub_cancel, told_pos la, dec_right ha]]
            (conv => whnf); refine ⟨_, rfl, ?_⟩
            (conv => whnf); refine ⟨_, rfl, ?_⟩
            (conv => whnf)
            refine Cmp_ok T a b fun h2 he2 => ?_
            rw [show cmpR a b = (cmpN (val a) (val b), 0) from by rw [cmpR, ha, hb]; rfl]
            (conv => whnf); refine ⟨_, rfl, ?_⟩
            (conv => whnf); refine ⟨_, rfl, ?_⟩
            (conv => whnf)
            refine obool_f (str_eq_f (b := []) ht1) ?_
            (conv => whnf)
            refine add34_ok T a c fun h2 he2 => ?_
            rw [show (addR a c).1 = u from by rw [addR_pos ha hc, hU]]
            (conv => whnf)
            rcases told_two (val a + val c) with ⟨hu, -⟩ | ⟨hu, lU⟩ <;> rw [← hU] at hu
            · refine obool_t (str_eq_t (b := []) hu) ?_
              (conv => whnf); (refine obool_t (by first | (simp; done) | (simp; omega)) ?_); (conv => whnf); (refine ⟨_, rfl, ?_⟩); rfl
            · have hu1 : u ≠ [] := by rw [hu]; exact dec_ne _
              refine obool_f (str_eq_f (b := []) hu1) ?_
              (conv => whnf)
              refine Cmp_ok T u t fun h2 he2 => ?_
              rw [show cmpR u t = (cmpN (val a) (val b), 0) from by rw [hu, ht, cmpR, right_dec lU, right_dec lT, if_pos (by rfl), val_dec, val_dec, cmpN_add]]
              (conv => whnf); refine ⟨_, rfl, ?_⟩
              (conv => whnf); refine ⟨_, rfl, ?_⟩
              (conv => whnf); (refine obool_t (by first | (simp; done) | (simp; omega)) ?_); (conv => whnf); (refine ⟨_, rfl, ?_⟩)
              show Value.bool (_ == _) = _
              simp
          · have hr1 : r ≠ [] := by rw [hr]; exact dec_ne _
            refine obool_t (str_ne_t (b := []) hr1) ?_
            (conv => whnf)
            (conv => whnf)
            refine mul35_ok T a t fun h2 he2 => ?_
            rw [show (mulR a t).1 = z3 from by rw [ht, mulR_pos ha (right_dec lT), val_dec, Nat.mul_add, hz3]]
            (conv => whnf)
            refine add34_ok T p r fun h3 he3 => ?_
            rw [show (addR p r).1 = z3 from by rw [hp, hr, addR_pos (right_dec lP) (right_dec lR), val_dec, val_dec, hz3]]
            (conv => whnf); (refine obool_f (by first | (simp; done) | (simp; omega)) ?_); (conv => whnf)
            refine obool_f (str_eq_f (b := []) hs1) ?_
            (conv => whnf)
            refine Sub_ok T s b fun h2 he2 => ?_
            rw [show subR s b = (a, 0) from by rw [hs, subR, right_dec lS, hb, if_pos (by rfl), val_dec, if_neg (by omega), Nat.add_sub_cancel, told_pos la, dec_right ha]]
            (conv => whnf); refine ⟨_, rfl, ?_⟩
            (conv => whnf); refine ⟨_, rfl, ?_⟩
            (conv => whnf)
            refine Cmp_ok T a b fun h2 he2 => ?_
            rw [show cmpR a b = (cmpN (val a) (val b), 0) from by rw [cmpR, ha, hb]; rfl]
            (conv => whnf); refine ⟨_, rfl, ?_⟩
            (conv => whnf); refine ⟨_, rfl, ?_⟩
            (conv => whnf)
            refine obool_f (str_eq_f (b := []) ht1) ?_
            (conv => whnf)
            refine add34_ok T a c fun h2 he2 => ?_
            rw [show (addR a c).1 = u from by rw [addR_pos ha hc, hU]]
            (conv => whnf)
            rcases told_two (val a + val c) with ⟨hu, -⟩ | ⟨hu, lU⟩ <;> rw [← hU] at hu
            · refine obool_t (str_eq_t (b := []) hu) ?_
              (conv => whnf); (refine obool_t (by first | (simp; done) | (simp; omega)) ?_); (conv => whnf); (refine ⟨_, rfl, ?_⟩); rfl
            · have hu1 : u ≠ [] := by rw [hu]; exact dec_ne _
              refine obool_f (str_eq_f (b := []) hu1) ?_
              (conv => whnf)
              refine Cmp_ok T u t fun h2 he2 => ?_
              rw [show cmpR u t = (cmpN (val a) (val b), 0) from by rw [hu, ht, cmpR, right_dec lU, right_dec lT, if_pos (by rfl), val_dec, val_dec, cmpN_add]]
              (conv => whnf); refine ⟨_, rfl, ?_⟩
              (conv => whnf); refine ⟨_, rfl, ?_⟩
              (conv => whnf); (refine obool_t (by first | (simp; done) | (simp; omega)) ?_); (conv => whnf); (refine ⟨_, rfl, ?_⟩)
              show Value.bool (_ == _) = _
              simp
        · have hq1 : q ≠ [] := by rw [hq]; exact dec_ne _
          refine obool_t (str_ne_t (b := []) hq1) ?_
          (conv => whnf)
          (conv => whnf)
          refine mul35_ok T p c fun h2 he2 => ?_
          rw [show (mulR p c).1 = z2 from by rw [hp, mulR_pos (right_dec lP) hc, val_dec, hz2]]
          (conv => whnf)
          refine mul35_ok T a q fun h3 he3 => ?_
          rw [show (mulR a q).1 = z2 from by rw [hq, mulR_pos ha (right_dec lQ), val_dec, ← Nat.mul_assoc, hz2]]
          (conv => whnf); (refine obool_f (by first | (simp; done) | (simp; omega)) ?_); (conv => whnf)
          refine mul35_ok T a c fun h2 he2 => ?_
          rw [show (mulR a c).1 = r from by rw [mulR_pos ha hc, hR]]
          (conv => whnf)
          refine obool_t (str_ne_t (b := []) ht1) ?_
          (conv => whnf)
          refine obool_t (str_ne_t (b := []) hp1) ?_
          (conv => whnf)
          rcases told_two (val a * val c) with ⟨hr, -⟩ | ⟨hr, lR⟩ <;> rw [← hR] at hr
          · refine obool_f (str_ne_f (b := []) hr) ?_
            (conv => whnf)
            refine obool_f (str_eq_f (b := []) hs1) ?_
            (conv => whnf)
            refine Sub_ok T s b fun h2 he2 => ?_
            rw [show subR s b = (a, 0) from by rw [hs, subR, right_dec lS, hb, if_pos (by rfl), val_dec, if_neg (by omega), Nat.add_sub_cancel, told_pos la, dec_right ha]]
            (conv => whnf); refine ⟨_, rfl, ?_⟩
            (conv => whnf); refine ⟨_, rfl, ?_⟩
            (conv => whnf)
            refine Cmp_ok T a b fun h2 he2 => ?_
            rw [show cmpR a b = (cmpN (val a) (val b), 0) from by rw [cmpR, ha, hb]; rfl]
            (conv => whnf); refine ⟨_, rfl, ?_⟩
            (conv => whnf); refine ⟨_, rfl, ?_⟩
            (conv => whnf)
            refine obool_f (str_eq_f (b := []) ht1) ?_
            (conv => whnf)
            refine add34_ok T a c fun h2 he2 => ?_
            rw [show (addR a c).1 = u from by rw [addR_pos ha hc, hU]]
            (conv => whnf)
            rcases told_two (val a + val c) with ⟨hu, -⟩ | ⟨hu, lU⟩ <;> rw [← hU] at hu
            · refine obool_t (str_eq_t (b := []) hu) ?_
              (conv => whnf); (refine obool_t (by first | (simp; done) | (simp; omega)) ?_); (conv => whnf); (refine ⟨_, rfl, ?_⟩); rfl
            · have hu1 : u ≠ [] := by rw [hu]; exact dec_ne _
              refine obool_f (str_eq_f (b := []) hu1) ?_
              (conv => whnf)
              refine Cmp_ok T u t fun h2 he2 => ?_
              rw [show cmpR u t = (cmpN (val a) (val b), 0) from by rw [hu, ht, cmpR, right_dec lU, right_dec lT, if_pos (by rfl), val_dec, val_dec, cmpN_add]]
              (conv => whnf); refine ⟨_, rfl, ?_⟩
              (conv => whnf); refine ⟨_, rfl, ?_⟩
              (conv => whnf); (refine obool_t (by first | (simp; done) | (simp; omega)) ?_); (conv => whnf); (refine ⟨_, rfl, ?_⟩)
              show Value.bool (_ == _) = _
              simp
          · have hr1 : r ≠ [] := by rw [hr]; exact dec_ne _
            refine obool_t (str_ne_t (b := []) hr1) ?_
            (conv => whnf)
            (conv => whnf)
            refine mul35_ok T a t fun h2 he2 => ?_
            rw [show (mulR a t).1 = z3 from by rw [ht, mulR_pos ha (right_dec lT), val_dec, Nat.mul_add, hz3]]
            (conv => whnf)
            refine add34_ok T p r fun h3 he3 => ?_
            rw [show (addR p r).1 = z3 from by rw [hp, hr, addR_pos (right_dec lP) (right_dec lR), val_dec, val_dec, hz3]]
            (conv => whnf); (refine obool_f (by first | (simp; done) | (simp; omega)) ?_); (conv => whnf)
            refine obool_f (str_eq_f (b := []) hs1) ?_
            (conv => whnf)
            refine Sub_ok T s b fun h2 he2 => ?_
            rw [show subR s b = (a, 0) from by rw [hs, subR, right_dec lS, hb, if_pos (by rfl), val_dec, if_neg (by omega), Nat.add_sub_cancel, told_pos la, dec_right ha]]
            (conv => whnf); refine ⟨_, rfl, ?_⟩
            (conv => whnf); refine ⟨_, rfl, ?_⟩
            (conv => whnf)
            refine Cmp_ok T a b fun h2 he2 => ?_
            rw [show cmpR a b = (cmpN (val a) (val b), 0) from by rw [cmpR, ha, hb]; rfl]
            (conv => whnf); refine ⟨_, rfl, ?_⟩
            (conv => whnf); refine ⟨_, rfl, ?_⟩
            (conv => whnf)
            refine obool_f (str_eq_f (b := []) ht1) ?_
            (conv => whnf)
            refine add34_ok T a c fun h2 he2 => ?_
            rw [show (addR a c).1 = u from by rw [addR_pos ha hc, hU]]
            (conv => whnf)
            rcases told_two (val a + val c) with ⟨hu, -⟩ | ⟨hu, lU⟩ <;> rw [← hU] at hu
            · refine obool_t (str_eq_t (b := []) hu) ?_
              (conv => whnf); (refine obool_t (by first | (simp; done) | (simp; omega)) ?_); (conv => whnf); (refine ⟨_, rfl, ?_⟩); rfl
            · have hu1 : u ≠ [] := by rw [hu]; exact dec_ne _
              refine obool_f (str_eq_f (b := []) hu1) ?_
              (conv => whnf)
              refine Cmp_ok T u t fun h2 he2 => ?_
              rw [show cmpR u t = (cmpN (val a) (val b), 0) from by rw [hu, ht, cmpR, right_dec lU, right_dec lT, if_pos (by rfl), val_dec, val_dec, cmpN_add]]
              (conv => whnf); refine ⟨_, rfl, ?_⟩
              (conv => whnf); refine ⟨_, rfl, ?_⟩
              (conv => whnf); (refine obool_t (by first | (simp; done) | (simp; omega)) ?_); (conv => whnf); (refine ⟨_, rfl, ?_⟩)
              show Value.bool (_ == _) = _
              simp
end Go.Proofs.Ytpilfppdiifbjaa.Am
