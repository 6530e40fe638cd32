/- The law NatureStands returns true, without an argument, and leaves what was there as it was. -/
import Derived.Test.YtemgddekbdifeaaRows
import Derived.Test.YtemgddekbdifeaaKe13
import Derived.WalkKit
import Derived.ProofKit
import Derived.OpenShut
import Derived.ShutString
import Derived.ChangeOld
import Derived.Below
import Derived.SizedLaws
namespace Go.Proofs.Ytemgddekbdifeaa.natureStands
open Go.ChangeShapes Go.WideShapes Go.ChangeAt Go.RowKit
open Go.ChangeMaps (open_string shut_string)
open Go.Proofs.Ytemgddekbdifeaa.Am
def tabNatureStands : List (Nat × AFn) := [(3, F3), (7, F7)]
theorem tabNatureStands_ok : ∀ p ∈ tabNatureStands, FnOK Try.prog p := by
  unfold tabNatureStands
  simp only [List.forall_mem_cons]
  exact ⟨ok3, ok7, fun _ h => by cases h⟩
def lNatureStands : List Entry := [e104, e105]
theorem lNatureStands_ok : ∀ e ∈ lNatureStands, EntryOK Try.prog e := by
  unfold lNatureStands
  simp only [List.forall_mem_cons]
  exact ⟨k104, k105, fun _ h => by cases h⟩
theorem runs : isTrue (acallE (tabC tabNatureStands) (baseKE lNatureStands) 100000 60 3 [] ⟨0, .leaf⟩) = true := by kernel_rfl
theorem walk (w : World) : Calls Try.prog 3 #[] w fun e w' => e = .returned (.bool true) ∧ Below w.heap.size w w' := by
  exact closedK_run tabNatureStands_ok lNatureStands_ok runs w
theorem own : ownKnob Try.prog.godebug = none := by kernel_rfl
set_option maxRecDepth 100000 in
theorem lifted (os : Os) (started : os.Started) (H : Type) (enc : TypeId × Value → H) :
    ReturnsInHanded {} Try.checked os 3 .any (Rows.natureStandsSpec.pre6 enc Try.prog Try.f3 Rows.natureStandsRow.domain false) (Rows.natureStandsSpec.post enc Try.prog Try.f3 false true false false) := by
  refine returnsInHanded_of_change_sized (C := Try.checked) own started (by kernel_rfl) Try.func3
    (ChangeSpec.witness6 (enc := enc) (C := Try.checked) false ⟨#[], #[], []⟩ 8 (by kernel_rfl) (by kernel_rfl) (by kernel_rfl) (by kernel_rfl)) ?_
  intro W base args ds gs before hval0 hW hcnd hsz0 _
  have hW' := hW
  obtain ⟨p, q, hA0, hV, rfl, hfz, hnd⟩ := hW
  have hA : DataW.TrodAll enc Try.prog W 0 (fun _ => true) true Try.f3.params.toList args.toList ds p := hA0
  rw [Try.params3] at hA
  obtain ⟨rfl, rfl, rfl⟩ := trodAll_none hA
  obtain ⟨rfl, rfl⟩ := trodVars_none hV
  clear hA0 hval0 hsz0
  refine (walk W).mono fun e W' ⟨he, bel⟩ => ?_
  subst he
  exact ⟨_, rfl, _, _, _, [], _, [], hW', trodAll_mk1 (shut_bool Try.underlying4 _), trodAll_mk0, rfl, bel.frame _, fun h => by cases h⟩
theorem over : Rows.natureStandsRow.holds Try.pinned (OpenSpec.ofChange Rows.natureStandsSpec) :=
  OpenClaim.holds_of_wide 3 Try.f3 rfl rfl rfl rfl rfl rfl rfl ⟨rfl, rfl, rfl, rfl, rfl⟩ rfl rfl rfl rfl rfl (by kernel_rfl) Try.func3 (by kernel_rfl)
    (of_decide_eq_true (by kernel_rfl)) (by unfold Func.isWrapper; first | (rw [if_pos (by decide +kernel)]; kernel_rfl) | (rw [if_neg (by decide +kernel)]; exact ⟨rfl, rfl⟩))
    (fun os started H enc _ => lifted os started H enc)
theorem proved : Rows.NatureStandsSaid := over
#print axioms proved
end Go.Proofs.Ytemgddekbdifeaa.natureStands
namespace Go.Proofs.Ytemgddekbdifeaa
/-- The row, under a short name, for the claim. -/
theorem natureStands_holds : Rows.NatureStandsSaid := natureStands.proved
end Go.Proofs.Ytemgddekbdifeaa
