/- The law TopNames returns true, without an argument, and leaves what was there as it was. -/
import Derived.Test.YthiaocjneeafiaaRows
import Derived.Test.YthiaocjneeafiaaFnTopNames
import Derived.WalkKit
import Derived.ProofKit
import Derived.OpenShut
import Derived.ShutString
import Derived.ChangeOld
import Derived.Below
import Derived.SizedLaws
namespace Go.Proofs.Ythiaocjneeafiaa.topNames
open Go.ChangeShapes Go.WideShapes Go.ChangeAt Go.RowKit
open Go.ChangeMaps (open_string shut_string)
open Go.Proofs.Ythiaocjneeafiaa.Am
def tabTopNames : List (Nat × AFn) := [(5, F5)]
theorem tabTopNames_ok : ∀ p ∈ tabTopNames, FnOK Try.prog p := by
  unfold tabTopNames
  simp only [List.forall_mem_cons]
  exact ⟨ok5, fun _ h => by cases h⟩
theorem runs : isTrue (acallE (tabC tabTopNames) noBaseE 100000 60 5 [] ⟨0, .leaf⟩) = true := by kernel_rfl
theorem walk (w : World) : Calls Try.prog 5 #[] w fun e w' => e = .returned (.bool true) ∧ Below w.heap.size w w' := by
  obtain ⟨x, hx⟩ := isTrue_ok runs
  exact closed_holds (pok _) tabTopNames_ok (acallE_ok noBaseE_ok 60 _ _ _ _ _ hx _ rfl) w
theorem own : ownKnob Try.prog.godebug = none := by kernel_rfl
set_option maxRecDepth 100000 in
theorem lifted (os : Os) (started : os.Started) (H : Type) (enc : TypeId × Value → H) :
    ReturnsInHanded {} Try.checked os 5 .any (Rows.topNamesSpec.pre6 enc Try.prog Try.f5 Rows.topNamesRow.domain false) (Rows.topNamesSpec.post enc Try.prog Try.f5 false true false false) := by
  refine returnsInHanded_of_change_sized (C := Try.checked) own started (by kernel_rfl) Try.func5
    (ChangeSpec.witness6 (enc := enc) (C := Try.checked) false ⟨#[], #[], []⟩ 8 (by kernel_rfl) (by kernel_rfl) (by kernel_rfl) (by kernel_rfl)) ?_
  intro W base args ds gs before hval0 hW hcnd hsz0 _
  have hW' := hW
  obtain ⟨p, q, hA0, hV, rfl, hfz, hnd⟩ := hW
  have hA : DataW.TrodAll enc Try.prog W 0 (fun _ => true) true Try.f5.params.toList args.toList ds p := hA0
  rw [Try.params5] at hA
  obtain ⟨rfl, rfl, rfl⟩ := trodAll_none hA
  obtain ⟨rfl, rfl⟩ := trodVars_none hV
  clear hA0 hval0 hsz0
  refine (walk W).mono fun e W' ⟨he, bel⟩ => ?_
  subst he
  exact ⟨_, rfl, _, _, _, [], _, [], hW', trodAll_mk1 (shut_bool Try.underlying4 _), trodAll_mk0, rfl, bel.frame _, fun h => by cases h⟩
theorem over : Rows.topNamesRow.holds Try.pinned (OpenSpec.ofChange Rows.topNamesSpec) :=
  OpenClaim.holds_of_wide 5 Try.f5 rfl rfl rfl rfl rfl rfl rfl ⟨rfl, rfl, rfl, rfl, rfl⟩ rfl rfl rfl rfl rfl (by kernel_rfl) Try.func5 (by kernel_rfl)
    (of_decide_eq_true (by kernel_rfl)) (by unfold Func.isWrapper; first | (rw [if_pos (by decide +kernel)]; kernel_rfl) | (rw [if_neg (by decide +kernel)]; exact ⟨rfl, rfl⟩))
    (fun os started H enc _ => lifted os started H enc)
theorem proved : Rows.TopNamesSaid := over
#print axioms proved
end Go.Proofs.Ythiaocjneeafiaa.topNames
namespace Go.Proofs.Ythiaocjneeafiaa
/-- The row, under a short name, for the claim. -/
theorem topNames_holds : Rows.TopNamesSaid := topNames.proved
end Go.Proofs.Ythiaocjneeafiaa
