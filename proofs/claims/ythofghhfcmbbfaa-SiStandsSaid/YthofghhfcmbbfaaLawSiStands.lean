/- The law SiStands returns true, without an argument, and leaves what was there as it was. -/
import Derived.Test.YthofghhfcmbbfaaRows
import Derived.Test.YthofghhfcmbbfaaKe4
import Derived.WalkKit
import Derived.ProofKit
import Derived.OpenShut
import Derived.ShutString
import Derived.ChangeOld
import Derived.Below
import Derived.SizedLaws
namespace Go.Proofs.Ythofghhfcmbbfaa.siStands
open Go.ChangeShapes Go.WideShapes Go.ChangeAt Go.RowKit
open Go.ChangeMaps (open_string shut_string)
open Go.Proofs.Ythofghhfcmbbfaa.Am
def tabSiStands : List (Nat × AFn) := [(6, F6), (13, F13)]
theorem tabSiStands_ok : ∀ p ∈ tabSiStands, FnOK Try.prog p := by
  unfold tabSiStands
  simp only [List.forall_mem_cons]
  exact ⟨ok6, ok13, fun _ h => by cases h⟩
def lSiStands : List Entry := [e28, e29]
theorem lSiStands_ok : ∀ e ∈ lSiStands, EntryOK Try.prog e := by
  unfold lSiStands
  simp only [List.forall_mem_cons]
  exact ⟨k28, k29, fun _ h => by cases h⟩
theorem runs : isTrue (acallE (tabC tabSiStands) (baseKE lSiStands) 100000 60 6 [] ⟨0, .leaf⟩) = true := by kernel_rfl
theorem walk (w : World) : Calls Try.prog 6 #[] w fun e w' => e = .returned (.bool true) ∧ Below w.heap.size w w' := by
  exact closedK_run tabSiStands_ok lSiStands_ok runs w
theorem own : ownKnob Try.prog.godebug = none := by kernel_rfl
set_option maxRecDepth 100000 in
theorem lifted (os : Os) (started : os.Started) (H : Type) (enc : TypeId × Value → H) :
    ReturnsInHanded {} Try.checked os 6 .any (Rows.siStandsSpec.pre6 enc Try.prog Try.f6 Rows.siStandsRow.domain false) (Rows.siStandsSpec.post enc Try.prog Try.f6 false true false false) := by
  refine returnsInHanded_of_change_sized (C := Try.checked) own started (by kernel_rfl) Try.func6
    (ChangeSpec.witness6 (enc := enc) (C := Try.checked) false ⟨#[], #[], []⟩ 8 (by kernel_rfl) (by kernel_rfl) (by kernel_rfl) (by kernel_rfl)) ?_
  intro W base args ds gs before hval0 hW hcnd hsz0 _
  have hW' := hW
  obtain ⟨p, q, hA0, hV, rfl, hfz, hnd⟩ := hW
  have hA : DataW.TrodAll enc Try.prog W 0 (fun _ => true) true Try.f6.params.toList args.toList ds p := hA0
  rw [Try.params6] at hA
  obtain ⟨rfl, rfl, rfl⟩ := trodAll_none hA
  obtain ⟨rfl, rfl⟩ := trodVars_none hV
  clear hA0 hval0 hsz0
  refine (walk W).mono fun e W' ⟨he, bel⟩ => ?_
  subst he
  exact ⟨_, rfl, _, _, _, [], _, [], hW', trodAll_mk1 (shut_bool Try.underlying4 _), trodAll_mk0, rfl, bel.frame _, fun h => by cases h⟩
theorem over : Rows.siStandsRow.holds Try.pinned (OpenSpec.ofChange Rows.siStandsSpec) :=
  OpenClaim.holds_of_wide 6 Try.f6 rfl rfl rfl rfl rfl rfl rfl ⟨rfl, rfl, rfl, rfl, rfl⟩ rfl rfl rfl rfl rfl (by kernel_rfl) Try.func6 (by kernel_rfl)
    (of_decide_eq_true (by kernel_rfl)) (by unfold Func.isWrapper; first | (rw [if_pos (by decide +kernel)]; kernel_rfl) | (rw [if_neg (by decide +kernel)]; exact ⟨rfl, rfl⟩))
    (fun os started H enc _ => lifted os started H enc)
theorem proved : Rows.SiStandsSaid := over
#print axioms proved
end Go.Proofs.Ythofghhfcmbbfaa.siStands
namespace Go.Proofs.Ythofghhfcmbbfaa
/-- The row, under a short name, for the claim. -/
theorem siStands_holds : Rows.SiStandsSaid := siStands.proved
end Go.Proofs.Ythofghhfcmbbfaa
