/- The law SiRelations returns true, without an argument, and leaves what was there as it was. -/
import Derived.Test.YthofghhfcmbbfaaRows
import Derived.Test.YthofghhfcmbbfaaKe4
import Derived.WalkKit
import Derived.ProofKit
import Derived.OpenShut
import Derived.ShutString
import Derived.ChangeOld
import Derived.Below
import Derived.SizedLaws
namespace Go.Proofs.Ythofghhfcmbbfaa.siRelations
open Go.ChangeShapes Go.WideShapes Go.ChangeAt Go.RowKit
open Go.ChangeMaps (open_string shut_string)
open Go.Proofs.Ythofghhfcmbbfaa.Am
def tabSiRelations : List (Nat × AFn) := [(9, F9), (15, F15), (19, F19), (22, F22), (24, F24), (34, F34), (35, F35), (41, F41), (43, F43), (44, F44), (46, F46), (47, F47)]
theorem tabSiRelations_ok : ∀ p ∈ tabSiRelations, FnOK Try.prog p := by
  unfold tabSiRelations
  simp only [List.forall_mem_cons]
  exact ⟨ok9, ok15, ok19, ok22, ok24, ok34, ok35, ok41, ok43, ok44, ok46, ok47, fun _ h => by cases h⟩
def lSiRelations : List Entry := [e11, e14, e16, e18, e20, e21, e23, e25, e27, e28, e32, e33]
theorem lSiRelations_ok : ∀ e ∈ lSiRelations, EntryOK Try.prog e := by
  unfold lSiRelations
  simp only [List.forall_mem_cons]
  exact ⟨k11, k14, k16, k18, k20, k21, k23, k25, k27, k28, k32, k33, fun _ h => by cases h⟩
theorem runs : isTrue (acallE (tabC tabSiRelations) (baseKE lSiRelations) 100000 60 9 [] ⟨0, .leaf⟩) = true := by kernel_rfl
theorem walk (w : World) : Calls Try.prog 9 #[] w fun e w' => e = .returned (.bool true) ∧ Below w.heap.size w w' := by
  exact closedK_run tabSiRelations_ok lSiRelations_ok runs w
theorem own : ownKnob Try.prog.godebug = none := by kernel_rfl
set_option maxRecDepth 100000 in
theorem lifted (os : Os) (started : os.Started) (H : Type) (enc : TypeId × Value → H) :
    ReturnsInHanded {} Try.checked os 9 .any (Rows.siRelationsSpec.pre6 enc Try.prog Try.f9 Rows.siRelationsRow.domain false) (Rows.siRelationsSpec.post enc Try.prog Try.f9 false true false false) := by
  refine returnsInHanded_of_change_sized (C := Try.checked) own started (by kernel_rfl) Try.func9
    (ChangeSpec.witness6 (enc := enc) (C := Try.checked) false ⟨#[], #[], []⟩ 8 (by kernel_rfl) (by kernel_rfl) (by kernel_rfl) (by kernel_rfl)) ?_
  intro W base args ds gs before hval0 hW hcnd hsz0 _
  have hW' := hW
  obtain ⟨p, q, hA0, hV, rfl, hfz, hnd⟩ := hW
  have hA : DataW.TrodAll enc Try.prog W 0 (fun _ => true) true Try.f9.params.toList args.toList ds p := hA0
  rw [Try.params9] at hA
  obtain ⟨rfl, rfl, rfl⟩ := trodAll_none hA
  obtain ⟨rfl, rfl⟩ := trodVars_none hV
  clear hA0 hval0 hsz0
  refine (walk W).mono fun e W' ⟨he, bel⟩ => ?_
  subst he
  exact ⟨_, rfl, _, _, _, [], _, [], hW', trodAll_mk1 (shut_bool Try.underlying4 _), trodAll_mk0, rfl, bel.frame _, fun h => by cases h⟩
theorem over : Rows.siRelationsRow.holds Try.pinned (OpenSpec.ofChange Rows.siRelationsSpec) :=
  OpenClaim.holds_of_wide 9 Try.f9 rfl rfl rfl rfl rfl rfl rfl ⟨rfl, rfl, rfl, rfl, rfl⟩ rfl rfl rfl rfl rfl (by kernel_rfl) Try.func9 (by kernel_rfl)
    (of_decide_eq_true (by kernel_rfl)) (by unfold Func.isWrapper; first | (rw [if_pos (by decide +kernel)]; kernel_rfl) | (rw [if_neg (by decide +kernel)]; exact ⟨rfl, rfl⟩))
    (fun os started H enc _ => lifted os started H enc)
theorem proved : Rows.SiRelationsSaid := over
#print axioms proved
end Go.Proofs.Ythofghhfcmbbfaa.siRelations
namespace Go.Proofs.Ythofghhfcmbbfaa
/-- The row, under a short name, for the claim. -/
theorem siRelations_holds : Rows.SiRelationsSaid := siRelations.proved
end Go.Proofs.Ythofghhfcmbbfaa
