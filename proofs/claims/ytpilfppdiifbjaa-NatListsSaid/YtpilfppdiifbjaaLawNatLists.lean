/- The law NatLists returns true, whatever its arguments, and leaves what was there as it was. -/
import Derived.Test.YtpilfppdiifbjaaRows
import Derived.Test.YtpilfppdiifbjaaOk
import Derived.Test.YtpilfppdiifbjaaLw
import Derived.WalkKit
import Derived.ProofKit
import Derived.OpenShut
import Derived.ShutString
import Derived.ChangeOld
import Derived.Below
import Derived.SizedLaws
import Derived.SliceStrings
import Derived.Carry
import Derived.ChangeReads
set_option linter.unusedVariables false
set_option linter.unusedSimpArgs false
set_option maxRecDepth 100000
namespace Go.Proofs.Ytpilfppdiifbjaa.Am
open Go.Proofs.Ytpilfppdiifbjaa.Nt
variable {C : FuncId → Option AFn} {base : Cl} {n : Nat} {h : H} {K : Value → H → Prop}
theorem Same_ok (T : Tab C) {b b' : Option Addr} {c c' : Nat} {L : List (List UInt8)} (hs : Sl h b c (strs L)) (hs' : Sl h b' c' (strs L)) (hL : L.length ≤ 8796093022208) (hk : K (.bool true) h) :
    acall C base (n + 1) 55 [.slice b L.length c, .slice b' L.length c'] h K := by
  refine acall_of T.f55 ?_
  (conv => whnf); (refine obool_f (by first | (simp; done) | (simp; omega)) ?_); (conv => whnf)
  refine loop_upd (X := Nat) (fun i => [(0, .slice b L.length c), (1, .slice b' L.length c'), (5, .int .i64 (i : Int))])
    (fun i h' => h' = h ∧ i ≤ L.length) (fun i => L.length - i) ?_ 0 _ _ ⟨rfl, rfl, rfl, trivial⟩ ⟨rfl, by simp⟩
  intro n i f h' ⟨he, hi⟩ ih
  subst he
  (conv => whnf); (refine obool_intro (fun h1 => ?_) (fun h1 => ?_))
  · have h1' : i < L.length := by have := of_decide_eq_true h1; omega
    obtain ⟨bi, bo, rfl, _, hat⟩ := hs.allS (by omega)
    obtain ⟨bi', bo', rfl, _, hat'⟩ := hs'.allS (by omega)
    (conv => whnf)
    refine ⟨by omega, ?_⟩
    (conv => whnf)
    refine ⟨_, hat _ (Ext.refl _) _ i rfl h1', ?_⟩
    (conv => whnf)
    refine ⟨by omega, ?_⟩
    (conv => whnf)
    refine ⟨_, hat' _ (Ext.refl _) _ i rfl h1', ?_⟩
    (conv => whnf); (refine obool_f (by first | (simp; done) | (simp; omega)) ?_); (conv => whnf)
    refine ar_i64e (i + 1) (by omega) (by omega) ?_
    (conv => whnf)
    exact ih (i + 1) _ _ (by omega) ⟨rfl, rfl, rfl, trivial⟩ ⟨rfl, h1'⟩
  · (conv => whnf); (refine ⟨_, rfl, ?_⟩)
    exact hk

def mark : List UInt8 := [52, 51, 50, 49]
theorem Lent_ok (T : Tab C) {b : Option Addr} {c : Nat} {L : List (List UInt8)} (hs : Sl h b c (strs L)) (hL : L.length ≤ 8796093022208)
    (hk : ∀ h' j, Ext h h' → h.next ≤ j → Own h' j (strs (L ++ [mark])) 9 true → K (.slice (some ⟨j, 0, none⟩) L.length (L.length + 1)) h') :
    acall C base (n + 1) 20 [.slice b L.length c] h K := by
  refine acall_of T.f20 ?_
  have hsrc : srcCells h 1 L.length (.slice b L.length c) = some (strs L) := by
    refine (Sl.src hs (Ext.refl _) (m := L.length) (n := L.length) (by simp)).trans ?_
    rw [List.take_of_length_le (by simp)]
  (conv => whnf)
  refine ⟨_, rfl, _, hsrc, fun hle => ?_, fun hlt => ?_⟩
  · have h0 : L = [] := List.length_eq_zero_iff.1 (by omega)
    subst h0
    have hg : Grow 9 h h none 0 (strs []) := Grow.nil _ (Ext.refl _)
    obtain ⟨p, hp, hp1, hg'⟩ := hg.one (m := 0) rfl (.string (bs mark))
    (conv => whnf)
    refine ⟨_, rfl, ?_⟩
    (conv => whnf)
    refine ⟨1, rfl, _, src_lit _ _ _, fun hle => absurd hle (by omega), fun _ => ⟨by omega, p, hp, ?_⟩⟩
    (conv => whnf)
    refine ⟨by simp, ?_⟩
    (conv => whnf); (refine ⟨_, rfl, ?_⟩)
    rcases hg'.2 with ⟨e, _⟩ | ⟨j, e, hc, hj, ho⟩
    · cases e
    · injection e with e; injection e with e1
      subst e1
      exact hk _ _ hg'.1 hj ho
  · obtain ⟨p, hp, hp1, hpn, _, hgr⟩ := (Grow.nil (t := 9) (h := h) (Ext.refl h)).row (m := 0) rfl
    refine ⟨by omega, p, hp, ?_⟩
    have hg := hgr (strs L) (0 + L.length) (by simp)
    rw [List.nil_append] at hg
    rw [Nat.zero_add] at hg ⊢
    (conv => whnf)
    refine ⟨_, rfl, ?_⟩
    obtain ⟨p, hp, hp1, hg'⟩ := hg.one (m := L.length) (by simp) (.string (bs mark))
    (conv => whnf)
    refine ⟨1, rfl, _, src_lit _ _ _, fun hle => absurd hle (by have := hg.cap; simp at this; omega), fun _ => ⟨by omega, p, hp, ?_⟩⟩
    (conv => whnf)
    refine ⟨by omega, ?_⟩
    (conv => whnf); (refine ⟨_, rfl, ?_⟩)
    rw [show strs L ++ [Value.string (bs mark)] = strs (L ++ [mark]) from strs_app L [mark]] at hg'
    rcases hg'.2 with ⟨e, _⟩ | ⟨j, e, hc, hj, ho⟩
    · cases e
    · injection e with e; injection e with e1
      subst e1
      exact hk _ _ hg'.1 hj ho

theorem Kept_ok (T : Tab C) {j : Nat} {b : Option Addr} {c : Nat} {L : List (List UInt8)} (ho : Own h j (strs (L ++ [mark])) 9 true) (hs : Sl h b c (strs L)) (hL : L.length ≤ 8796093022208) (hk : K (.bool true) h) :
    acall C base (n + 2) 25 [.slice (some ⟨j, 0, none⟩) L.length (L.length + 1), .slice b L.length c] h K := by
  have hsl : Sl h (some ⟨j, 0, none⟩) (L.length + 1) (strs L) := by
    have := (ho.sl (c := L.length + 1) (by simp)).take L.length
    rw [show (strs (L ++ [mark])).take L.length = strs L from by simp [strs]] at this
    exact this
  have hcell : h.cell j (0 + Int.toNat (L.length : Int) * 1) = some (.string (bs mark)) := by
    rw [ho.cell (L.length : Int) L.length rfl (by simp)]
    simp [strs]
  refine acall_of T.f25 ?_
  (conv => whnf)
  refine Same_ok T hsl hs hL ?_
  (conv => whnf)
  refine ar_i64e (L.length + 1) (by omega) (by omega) ?_
  (conv => whnf)
  refine ⟨by omega, ?_⟩
  (conv => whnf)
  refine ⟨by omega, ?_⟩
  (conv => whnf)
  refine ⟨_, hcell, ?_⟩
  generalize hm : mark = m
  (conv => whnf); (refine ⟨_, rfl, ?_⟩)
  subst hm
  have e : ((bs mark).toList == (bs [52, 51, 50, 49]).toList) = true := str_eq_t rfl
  show K (.bool ((bs mark).toList == (bs [52, 51, 50, 49]).toList)) h
  rw [e]; exact hk

theorem natLists_ok (T : Tab C) {b : Option Addr} {c : Nat} {L : List (List UInt8)} (hs : Sl h b c (strs L)) (hL : L.length ≤ 8796093022208) :
    acall C base (n + 7) 5 [.slice b L.length c] h (fun v _ => v = .bool true) := by
  refine acall_of T.f5 ?_
  (conv => whnf)
  refine Lent_ok T hs hL fun h1 j he1 hj ho => ?_
  have hs := hs.ext he1
  have hsl : Sl h1 (some ⟨j, 0, none⟩) (L.length + 1) (strs L) := by
    have := (ho.sl (c := L.length + 1) (by simp)).take L.length
    rw [show (strs (L ++ [mark])).take L.length = strs L from by simp [strs]] at this
    exact this
  (conv => whnf)
  refine Sum_ok T hsl (by omega) fun h2 he2 => ?_
  (conv => whnf); refine ⟨_, rfl, ?_⟩
  (conv => whnf); refine ⟨_, rfl, ?_⟩
  (conv => whnf)
  refine RSum_ok T (hs.ext he2) (by omega) fun h3 he3 => ?_
  have e13 := he2.trans he3
  (conv => whnf); refine ⟨_, rfl, ?_⟩
  (conv => whnf); refine ⟨_, rfl, ?_⟩
  (conv => whnf)
  refine Prod_ok T (hsl.ext e13) (by omega) fun h4 he4 => ?_
  have e14 := e13.trans he4
  (conv => whnf); refine ⟨_, rfl, ?_⟩
  (conv => whnf); refine ⟨_, rfl, ?_⟩
  (conv => whnf)
  refine RProd_ok T (hs.ext e14) (by omega) fun h5 he5 => ?_
  have e15 := e14.trans he5
  (conv => whnf); refine ⟨_, rfl, ?_⟩
  (conv => whnf); refine ⟨_, rfl, ?_⟩
  (conv => whnf); (refine obool_t (by first | (simp; done) | (simp; omega)) ?_); (conv => whnf); (refine obool_t (by first | (simp; done) | (simp; omega)) ?_); (conv => whnf); (refine obool_t (by first | (simp; done) | (simp; omega)) ?_); (conv => whnf); (refine obool_t (by first | (simp; done) | (simp; omega)) ?_); (conv => whnf)
  refine Kept_ok T (ho.ext e15) (hs.ext e15) hL ?_
  (conv => whnf)
  refine known_ok T fun h6 he6 => ?_
  (conv => whnf); (refine ⟨_, rfl, ?_⟩); rfl

/-- The plain machine's heap of one slice of texts that came in. -/
def hOne (L : List (List UInt8)) (t : TypeId) : H := ⟨1, fun i => if i = 0 then some (.cells (strs L) t false false) else none⟩
theorem hOne_sl (L : List (List UInt8)) (t : TypeId) {c : Nat} (hc : L.length ≤ c) : Sl (hOne L t) (some ⟨0, 0, none⟩) c (strs L) :=
  .inr ⟨0, 0, strs L, t, false, false, rfl, by simpa using hc, Nat.one_pos, rfl, by simp, by rw [List.drop_zero, List.take_of_length_le (Nat.le_refl _)]⟩
theorem VRL_strs (μ : Mu) : ∀ L : List (List UInt8), VRL μ (strs L) (strs L)
  | [] => .nil
  | a :: l => .cons (.string _) (VRL_strs μ l)
theorem slice_holds {P : Program} {l : List (Nat × AFn)} (hl : ∀ p ∈ l, FnOK P p) {n g : Nat} {L : List (List UInt8)} {a : Addr} {cap : Nat} (w : World) {t : TypeId} {cs : Array Value} {fr : Nat × Nat}
    (hspot : a.spot = none) (hb : w.heap[a.block]? = some (.cells cs t fr)) (hcap : L.length ≤ cap) (hcell : ∀ i (h : i < L.length), w.cell? (a.add i) = some (.string (bs L[i])))
    (h : acall (tabC l) noBase n g [.slice (some ⟨0, 0, none⟩) L.length cap] (hOne L t) (fun v _ => v = .bool true)) :
    Calls P g #[.slice (some a) L.length cap] w fun e w' => e = .returned (.bool true) ∧ RowKit.Below w.heap.size w w' := by
  obtain ⟨ab, ao, asp⟩ := a
  dsimp only at hspot hb
  subst hspot
  have hlt : ab < w.heap.size := by
    rcases Nat.lt_or_ge ab w.heap.size with h | h
    · exact h
    · rw [Array.getElem?_eq_none h] at hb; cases hb
  have hget : ∀ i (h : i < L.length), cs[ao + i]? = some (.string (bs L[i])) := by
    intro i hi
    have := hcell i hi
    unfold Addr.add at this
    split at this
    · rename_i h0
      subst h0
      simp only [World.cell?, hb] at this
      simpa using this
    · simp only [World.cell?, hb] at this
      simpa using this
  have hsz : ao + L.length ≤ cs.size ∨ L = [] := by
    rcases Nat.eq_zero_or_pos L.length with e | e
    · exact .inr (List.length_eq_zero_iff.1 e)
    · left
      have := hget (L.length - 1) (by omega)
      have := (Array.getElem?_eq_some_iff.1 this).1
      omega
  have hμ : (fun i : Nat => if i = 0 then some (⟨ab, ao, false, 0, 0⟩ : Ent) else none) 0 = some ⟨ab, ao, false, 0, 0⟩ := rfl
  refine (acall_sound (B := w.heap.size) (w0 := w) (pok P) (tabOK hl) noBase_ok n g _ _ _ h (fun i => if i = 0 then some ⟨ab, ao, false, 0, 0⟩ else none) w #[.slice (some ⟨ab, ao, none⟩) L.length cap] ?_ ?_).2 _ ?_
  · refine ⟨⟨rfl, rfl, rfl, Nat.le_refl _, fun _ _ => rfl⟩, Nat.le_refl _, fun i hi => ?_, ?_, ?_⟩
    · have hi1 : 1 ≤ i := hi
      have : i ≠ 0 := by omega
      exact ⟨if_neg this, if_neg this⟩
    · intro i e cs' t' own op he hg
      have hi : i = 0 := by
        rcases Nat.eq_zero_or_pos i with h | h
        · exact h
        · rw [if_neg (by omega)] at he; cases he
      subst hi
      cases he
      cases hg
      refine ⟨rfl, ?_, ?_⟩
      · intro v hv
        obtain ⟨x, _, rfl⟩ := List.mem_map.1 hv
        rfl
      · rcases hsz with hsz | hsz
        · refine .inr ⟨cs, fr, hb, by simpa using hsz, ?_, (fun h => by cases h), (fun h => by cases h), fun _ => hlt⟩
          have e : (cs.toList.drop ao).take (strs L).length = strs L := by
            apply List.ext_getElem
            · simp; omega
            · intro i h1 h2
              have h3 : i < L.length := by simpa using h2
              have := hget i h3
              rw [List.getElem_take, List.getElem_drop, strs_get h3]
              rw [← Array.getElem?_toList] at this
              exact (List.getElem?_eq_some_iff.1 this).2
          dsimp only
          rw [e]
          exact VRL_strs _ L
        · left
          rw [hsz]
          exact ⟨rfl, rfl, rfl⟩
    · intro i j e e' cs' t' op cs'' t'' op' hij he he' hg hg'
      have hi : i = 0 := by
        rcases Nat.eq_zero_or_pos i with h | h
        · exact h
        · rw [if_neg (by omega)] at he; cases he
      subst hi
      cases hg
  · refine .cons ?_ .nil
    exact .sl (e := ⟨ab, ao, false, 0, 0⟩) rfl hcap (Nat.le_refl _) (fun _ => rfl) (fun h => by cases h)
  · intro v h' μ' v' w' hv hR hV _
    subst hv
    cases hV
    exact ⟨rfl, hR.below⟩
end Go.Proofs.Ytpilfppdiifbjaa.Am

namespace Go.Proofs.Ytpilfppdiifbjaa.natLists
open Go.ChangeShapes Go.WideShapes Go.ChangeAt Go.RowKit
open Go.ChangeMaps (open_string shut_string)
open Go.Proofs.Ytpilfppdiifbjaa.Am
theorem cells9 : Try.prog.cellsOf 9 = 1 := by kernel_rfl
theorem bytes9 : Try.prog.bytesOf 9 = 16 := by kernel_rfl
theorem laid : laidOutB Try.prog = true := by kernel_rfl
theorem rec33 : Try.prog.readableRec 33 = true := by kernel_rfl
theorem row33 : 33 < Try.prog.types.size := of_decide_eq_true (by kernel_rfl)
theorem walk0 (w : World) : Calls Try.prog 5 #[.slice none 0 0] w fun e w' => e = .returned (.bool true) ∧ Below w.heap.size w w' := by
  have h := natLists_ok (C := tabC tabL) (base := noBase) (n := 40) (h := ⟨0, fun _ => none⟩) tabL_tab (b := none) (c := 0) (L := []) (Sl.nil _) (by decide)
  exact flat_holds tabL_ok (args := [.slice none 0 0]) (.cons .sl0 .nil) h w
theorem own : ownKnob Try.prog.godebug = none := by kernel_rfl
theorem lifted (os : Os) (started : os.Started) (H : Type) (enc : TypeId × Value → H) :
    ReturnsInHanded {} Try.checked os 5 .any (Rows.natListsSpec.pre6 enc Try.prog Try.f5 Rows.natListsRow.domain false) (Rows.natListsSpec.post enc Try.prog Try.f5 false true false false) := by
  refine returnsInHanded_of_change_sized (C := Try.checked) own started (by kernel_rfl) Try.func5
    (ChangeSpec.witness6 (enc := enc) (C := Try.checked) false ⟨#[], #[.slice none 0 0], []⟩ 8 (by kernel_rfl) (by kernel_rfl) (by kernel_rfl) (by kernel_rfl)) ?_
  intro W base args ds gs before hval0 hW hcnd hsz0 _
  have hval : ∀ (j : Nat) t v, Try.f5.params[j]? = some t → args[j]? = some v → Value.okWide Try.prog W .any base t v := hval0
  have hW' := hW
  obtain ⟨p, q, hA0, hV, rfl, hfz, hnd⟩ := hW
  have hA : DataW.TrodAll enc Try.prog W 0 (fun _ => true) true Try.f5.params.toList args.toList ds p := hA0
  rw [Try.params5] at hA hval
  obtain ⟨v0, vs0, d0, ds0, p0, q0, hargs, rfl, rfl, h0, r0⟩ := trodAll_cons hA
  obtain ⟨rfl, rfl, rfl⟩ := trodAll_nil r0
  obtain rfl : args = #[v0] := by cases args; simp_all
  obtain ⟨rfl, rfl⟩ := trodVars_none hV
  obtain ⟨a0, len0, cap0, rfl⟩ := okWide_slice Try.underlying33 (hval 0 33 v0 rfl rfl)
  have hok := hval 0 33 (.slice a0 len0 cap0) rfl rfl
  clear hA0 hval0
  simp only [List.append_nil] at hW'
  have h0' := h0
  obtain ⟨fuel, hf⟩ := h0'
  rcases open_strings Try.underlying33 Try.underlying9 cells9 hf with ⟨hcs, hx⟩ | ⟨a, len, cap, ss, hcs, _, hl, hm, hz, hx, hcell, hsz⟩
  · have hcs' : Value.slice a0 len0 cap0 = Value.slice none 0 0 := by simpa [Value.cells] using hcs
    injection hcs' with e1 e2 e3
    subst e1 e2 e3
    have hp : p0 = [] := congrArg Prod.snd hx
    refine (walk0 W).mono fun e W' ⟨he, bel⟩ => ?_
    subst he
    exact ⟨_, rfl, _, _, _, [], _, [], hW', trodAll_mk1 (shut_bool Try.underlying4 _), trodAll_mk1 (Below.trod laid rec33 row33 h0 bel (by rw [hp]; intro x hx; cases hx)), rfl, bel.frame _, fun h => by cases h⟩
  · have hcs' : Value.slice a0 len0 cap0 = Value.slice (some a) len cap := by simpa [Value.cells] using hcs
    injection hcs' with e1 e2 e3
    subst e1 e2 e3
    have hd := congrArg Prod.fst hx
    have hp := congrArg Prod.snd hx
    dsimp only at hd hp
    have hz' : ss.length = cap0 := by simpa using hz
    simp only [Value.okWide, Try.underlying33, Cell.okWide, Cell.ok] at hok
    obtain ⟨_, _, _, hspot, rw1, cl1, hsh, _⟩ := hok
    have hb : ∃ cs t fr, W.heap[a.block]? = some (.cells cs t fr) := by
      unfold World.shape? at hsh
      split at hsh
      · rename_i c e fr hh
        exact ⟨c, e, fr, hh⟩
      · cases hsh
    obtain ⟨cs, t, fr, hb⟩ := hb
    have hlt : a.block < W.heap.size := by
      rcases Nat.lt_or_ge a.block W.heap.size with h | h
      · exact h
      · rw [Array.getElem?_eq_none h] at hb; cases hb
    have hbytes := sized_slice hsz0 (j := 0) (t := 33) (by rw [Try.params5]; rfl) (by rw [hd]; rfl) Try.underlying33
    rw [show Try.checked.prog.bytesOf 9 = 16 from bytes9] at hbytes
    have hsum : (ss.take len0).length + (ss.drop len0).length = cap0 := by rw [List.length_take, List.length_drop]; omega
    have hcap : cap0 * 16 ≤ reachBytes := by
      have e : ∀ l : List ByteArray, (Go.ChangeShapes.strs (H := H) l).length = l.length := fun l => by simp [Go.ChangeShapes.strs]
      rw [e, e, hsum] at hbytes
      exact hbytes
    have hreach := reachBytes_lt
    obtain ⟨L, hL⟩ : ∃ L : List (List UInt8), L = (ss.take len0).map fun s => s.data.toList := ⟨_, rfl⟩
    have hLl : L.length = len0 := by rw [hL, List.length_map, List.length_take]; omega
    have hcell' : ∀ i (h : i < L.length), W.cell? (a.add i) = some (.string (bs L[i])) := by
      intro i hi
      rw [hcell i (by omega)]
      congr 2
      simp only [hL, List.getElem_map, List.getElem_take]
      rw [List.getD_eq_getElem?_getD, List.getElem?_eq_getElem (by omega)]
      rfl
    have hw := slice_holds tabL_ok (n := 47) (g := 5) (L := L) (a := a) (cap := cap0) W hspot hb (by omega) hcell'
      (natLists_ok (C := tabC tabL) (base := noBase) (n := 40) tabL_tab (hOne_sl L t (by omega)) (by omega))
    rw [hLl] at hw
    refine hw.mono fun e W' ⟨he, bel⟩ => ?_
    subst he
    exact ⟨_, rfl, _, _, _, [], _, [], hW', trodAll_mk1 (shut_bool Try.underlying4 _), trodAll_mk1 (Below.trod laid rec33 row33 h0 bel (by
      rw [hp]
      intro x hx
      obtain ⟨i, _, rfl⟩ := MemPlace.mem_row.1 hx
      exact hlt)), rfl, bel.frame _, fun h => by cases h⟩
theorem over : Rows.natListsRow.holds Try.pinned (OpenSpec.ofChange Rows.natListsSpec) :=
  OpenClaim.holds_of_wide 5 Try.f5 rfl rfl rfl rfl rfl rfl rfl ⟨rfl, rfl, rfl, rfl, rfl⟩ rfl rfl rfl rfl rfl (by kernel_rfl) Try.func5 (by kernel_rfl)
    (of_decide_eq_true (by kernel_rfl)) (by unfold Func.isWrapper; first | (rw [if_pos (by decide +kernel)]; kernel_rfl) | (rw [if_neg (by decide +kernel)]; exact ⟨rfl, rfl⟩))
    (fun os started H enc _ => lifted os started H enc)
theorem proved : Rows.NatListsSaid := over
#print axioms proved
end Go.Proofs.Ytpilfppdiifbjaa.natLists
namespace Go.Proofs.Ytpilfppdiifbjaa
/-- The row, under a short name, for the claim. -/
theorem natLists_holds : Rows.NatListsSaid := natLists.proved
end Go.Proofs.Ytpilfppdiifbjaa
