/- The law TradFinds returns true, whatever its arguments, and leaves what was there as it was. -/
import Derived.Test.YtemgddekbdifeaaGreatRows
import Derived.Test.YtemgddekbdifeaaGreatFd
import Derived.WalkKit
import Derived.ProofKit
import Derived.OpenShut
import Derived.ShutString
import Derived.ChangeOld
import Derived.Below
import Derived.SizedLaws
import Derived.SliceStrings
import Derived.Carry
import Derived.ChangeReads
set_option linter.unusedVariables false
set_option linter.unusedSimpArgs false
set_option maxRecDepth 1000000
namespace Go.Proofs.YtemgddekbdifeaaGreat.tradFinds
open Go.ChangeShapes Go.WideShapes Go.ChangeAt Go.RowKit
open Go.ChangeMaps (open_string shut_string)
open Go.Proofs.YtemgddekbdifeaaGreat.Am
def tabTradFinds : List (Nat × AFn) := [(5, F5), (19, F19), (20, F20)]
theorem tabTradFinds_ok : ∀ p ∈ tabTradFinds, FnOK Tryz.prog p := by
  unfold tabTradFinds
  simp only [List.forall_mem_cons]
  exact ⟨ok5, ok19, ok20, fun _ h => by cases h⟩
def lTradFinds : List Entry := [e116, e117]
theorem lTradFinds_ok : ∀ e ∈ lTradFinds, EntryOK Tryz.prog e := by
  unfold lTradFinds
  simp only [List.forall_mem_cons]
  exact ⟨k116, k117, fun _ h => by cases h⟩
theorem walk (a0 : List UInt8) (w : World) : Calls Tryz.prog 5 #[.string (bs a0)] w fun e w' => e = .returned (.bool true) ∧ Below w.heap.size w w' := by
  exact flatK_holds tabTradFinds_ok lTradFinds_ok (args := [.string (bs a0)]) (.cons (.string _) .nil) (tradFinds_ok (C := tabC tabTradFinds) (base := baseK lTradFinds) (n := 40) (h := ⟨0, fun _ => none⟩) (by kernel_rfl) (by kernel_rfl) (by kernel_rfl) (U := tradL) (units_known (by kernel_rfl) (List.mem_cons_self ..) tradL_p (of_decide_eq_true (by kernel_rfl)) tradL_well) (units_known (by kernel_rfl) (List.mem_cons_of_mem _ (List.mem_cons_self ..)) tradL_r (of_decide_eq_true (by kernel_rfl)) tradL_well) (of_decide_eq_true (by kernel_rfl)) tradL_well ⟨(tradL[6]).cells, by kernel_rfl, by kernel_rfl⟩ a0) w
theorem own : ownKnob Tryz.prog.godebug = none := by kernel_rfl
theorem lifted (os : Os) (started : os.Started) (H : Type) (enc : TypeId × Value → H) :
    ReturnsInHanded {} Tryz.checked os 5 .any (Rows.tradFindsSpec.pre6 enc Tryz.prog Tryz.f5 Rows.tradFindsRow.domain false) (Rows.tradFindsSpec.post enc Tryz.prog Tryz.f5 false true false false) := by
  refine returnsInHanded_of_change_sized (C := Tryz.checked) own started (by kernel_rfl) Tryz.func5
    (ChangeSpec.witness6 (enc := enc) (C := Tryz.checked) false ⟨#[], #[.string ⟨#[]⟩], []⟩ 8 (by kernel_rfl) (by kernel_rfl) (by kernel_rfl) (by kernel_rfl)) ?_
  intro W base args ds gs before hval0 hW hcnd hsz0 _
  have hval : ∀ (j : Nat) t v, Tryz.f5.params[j]? = some t → args[j]? = some v → Value.okWide Tryz.prog W .any base t v := hval0
  have hW' := hW
  obtain ⟨p, q, hA0, hV, rfl, hfz, hnd⟩ := hW
  have hA : DataW.TrodAll enc Tryz.prog W 0 (fun _ => true) true Tryz.f5.params.toList args.toList ds p := hA0
  rw [Tryz.params5] at hA hval
  obtain ⟨v0, vs0, d0, ds0, p0, q0, hargs, rfl, rfl, h0, r0⟩ := trodAll_cons hA
  obtain ⟨rfl, rfl, rfl⟩ := trodAll_nil r0
  obtain rfl : args = #[v0] := by cases args; simp_all
  obtain ⟨rfl, rfl⟩ := trodVars_none hV
  obtain ⟨s0, rfl, rfl, rfl, ws0⟩ := open_string Tryz.underlying9 (hval 0 9 v0 rfl rfl) h0
  obtain ⟨a0, rfl⟩ := bs_all s0
  clear hA0 hval0 hsz0
  simp only [List.append_nil] at hW'
  refine (walk a0 W).mono fun e W' ⟨he, bel⟩ => ?_
  subst he
  exact ⟨_, rfl, _, _, _, [], _, [], hW', trodAll_mk1 (shut_bool Tryz.underlying4 _), (trodAll_cons_mk (shut_string Tryz.underlying9 ws0) trodAll_mk0), rfl, bel.frame _, fun h => by cases h⟩
theorem over : Rows.tradFindsRow.holds Tryz.pinned (OpenSpec.ofChange Rows.tradFindsSpec) :=
  OpenClaim.holds_of_wide 5 Tryz.f5 rfl rfl rfl rfl rfl rfl rfl ⟨rfl, rfl, rfl, rfl, rfl⟩ rfl rfl rfl rfl rfl (by kernel_rfl) Tryz.func5 (by kernel_rfl)
    (of_decide_eq_true (by kernel_rfl)) (by unfold Func.isWrapper; first | (rw [if_pos (by decide +kernel)]; kernel_rfl) | (rw [if_neg (by decide +kernel)]; exact ⟨rfl, rfl⟩))
    (fun os started H enc _ => lifted os started H enc)
theorem proved : Rows.TradFindsSaid := over
#print axioms proved
end Go.Proofs.YtemgddekbdifeaaGreat.tradFinds
namespace Go.Proofs.YtemgddekbdifeaaGreat
/-- The row, under a short name, for the claim. -/
theorem tradFinds_holds : Rows.TradFindsSaid := tradFinds.proved
end Go.Proofs.YtemgddekbdifeaaGreat
