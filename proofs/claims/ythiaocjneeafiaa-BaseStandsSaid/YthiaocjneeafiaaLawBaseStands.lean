/- The law BaseStands returns true, without an argument, and leaves what was there as it was. -/
import Derived.Test.YthiaocjneeafiaaRows
import Derived.Test.YthiaocjneeafiaaFnBaseStands
import Derived.WalkKit
import Derived.ProofKit
import Derived.OpenShut
import Derived.ShutString
import Derived.ChangeOld
import Derived.Below
import Derived.SizedLaws
namespace Go.Proofs.Ythiaocjneeafiaa.baseStands
open Go.ChangeShapes Go.WideShapes Go.ChangeAt Go.RowKit
open Go.ChangeMaps (open_string shut_string)
open Go.Proofs.Ythiaocjneeafiaa.Am
def tabBaseStands : List (Nat × AFn) := [(3, F3), (12, F12), (13, F13), (14, F14), (25, F25), (26, F26), (27, F27), (28, F28), (29, F29), (30, F30), (31, F31), (32, F32), (33, F33), (38, F38), (48, F48), (49, F49), (59, F59), (61, F61), (63, F63), (64, F64), (67, F67), (68, F68), (69, F69), (74, F74), (75, F75), (76, F76), (77, F77), (79, F79), (80, F80), (81, F81), (82, F82), (83, F83), (84, F84), (85, F85), (86, F86), (87, F87), (88, F88), (89, F89), (90, F90), (91, F91), (92, F92), (93, F93), (94, F94), (95, F95), (96, F96), (97, F97), (98, F98), (99, F99), (100, F100), (101, F101), (102, F102), (103, F103), (104, F104), (105, F105), (106, F106), (107, F107), (108, F108), (109, F109), (110, F110), (111, F111)]
theorem tabBaseStands_ok : ∀ p ∈ tabBaseStands, FnOK Try.prog p := by
  unfold tabBaseStands
  simp only [List.forall_mem_cons]
  exact ⟨ok3, ok12, ok13, ok14, ok25, ok26, ok27, ok28, ok29, ok30, ok31, ok32, ok33, ok38, ok48, ok49, ok59, ok61, ok63, ok64, ok67, ok68, ok69, ok74, ok75, ok76, ok77, ok79, ok80, ok81, ok82, ok83, ok84, ok85, ok86, ok87, ok88, ok89, ok90, ok91, ok92, ok93, ok94, ok95, ok96, ok97, ok98, ok99, ok100, ok101, ok102, ok103, ok104, ok105, ok106, ok107, ok108, ok109, ok110, ok111, fun _ h => by cases h⟩
theorem runs : isTrue (acallE (tabC tabBaseStands) noBaseE 100000 60 3 [] ⟨0, .leaf⟩) = true := by kernel_rfl
theorem walk (w : World) : Calls Try.prog 3 #[] w fun e w' => e = .returned (.bool true) ∧ Below w.heap.size w w' := by
  exact closed_run tabBaseStands_ok runs w
theorem own : ownKnob Try.prog.godebug = none := by kernel_rfl
set_option maxRecDepth 100000 in
theorem lifted (os : Os) (started : os.Started) (H : Type) (enc : TypeId × Value → H) :
    ReturnsInHanded {} Try.checked os 3 .any (Rows.baseStandsSpec.pre6 enc Try.prog Try.f3 Rows.baseStandsRow.domain false) (Rows.baseStandsSpec.post enc Try.prog Try.f3 false true false false) := by
  refine returnsInHanded_of_change_sized (C := Try.checked) own started (by kernel_rfl) Try.func3
    (ChangeSpec.witness6 (enc := enc) (C := Try.checked) false ⟨#[], #[], []⟩ 8 (by kernel_rfl) (by kernel_rfl) (by kernel_rfl) (by kernel_rfl)) ?_
  intro W base args ds gs before hval0 hW hcnd hsz0 _
  have hW' := hW
  obtain ⟨p, q, hA0, hV, rfl, hfz, hnd⟩ := hW
  have hA : DataW.TrodAll enc Try.prog W 0 (fun _ => true) true Try.f3.params.toList args.toList ds p := hA0
  rw [Try.params3] at hA
  obtain ⟨rfl, rfl, rfl⟩ := trodAll_none hA
  obtain ⟨rfl, rfl⟩ := trodVars_none hV
  clear hA0 hval0 hsz0
  refine (walk W).mono fun e W' ⟨he, bel⟩ => ?_
  subst he
  exact ⟨_, rfl, _, _, _, [], _, [], hW', trodAll_mk1 (shut_bool Try.underlying4 _), trodAll_mk0, rfl, bel.frame _, fun h => by cases h⟩
theorem over : Rows.baseStandsRow.holds Try.pinned (OpenSpec.ofChange Rows.baseStandsSpec) :=
  OpenClaim.holds_of_wide 3 Try.f3 rfl rfl rfl rfl rfl rfl rfl ⟨rfl, rfl, rfl, rfl, rfl⟩ rfl rfl rfl rfl rfl (by kernel_rfl) Try.func3 (by kernel_rfl)
    (of_decide_eq_true (by kernel_rfl)) (by unfold Func.isWrapper; first | (rw [if_pos (by decide +kernel)]; kernel_rfl) | (rw [if_neg (by decide +kernel)]; exact ⟨rfl, rfl⟩))
    (fun os started H enc _ => lifted os started H enc)
theorem proved : Rows.BaseStandsSaid := over
#print axioms proved
end Go.Proofs.Ythiaocjneeafiaa.baseStands
namespace Go.Proofs.Ythiaocjneeafiaa
/-- The row, under a short name, for the claim. -/
theorem baseStands_holds : Rows.BaseStandsSaid := baseStands.proved
end Go.Proofs.Ythiaocjneeafiaa
