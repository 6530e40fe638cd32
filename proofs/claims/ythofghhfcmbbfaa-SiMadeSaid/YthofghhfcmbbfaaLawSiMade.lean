/- The law SiMade returns true, whatever its arguments, and leaves what was there as it was. -/
import Derived.Test.YthofghhfcmbbfaaRows
import Derived.Test.YthofghhfcmbbfaaSm
import Derived.WalkKit
import Derived.ProofKit
import Derived.OpenShut
import Derived.ShutString
import Derived.ChangeOld
import Derived.Below
import Derived.SizedLaws
import Derived.SliceStrings
import Derived.Carry
import Derived.ChangeReads
set_option linter.unusedVariables false
set_option linter.unusedSimpArgs false
set_option maxRecDepth 1000000
namespace Go.Proofs.Ythofghhfcmbbfaa.siMade
open Go.ChangeShapes Go.WideShapes Go.ChangeAt Go.RowKit
open Go.ChangeMaps (open_string shut_string)
open Go.Proofs.Ythofghhfcmbbfaa.Am
def tabSiMade : List (Nat × AFn) := [(8, F8), (21, F21), (42, F42)]
theorem tabSiMade_ok : ∀ p ∈ tabSiMade, FnOK Try.prog p := by
  unfold tabSiMade
  simp only [List.forall_mem_cons]
  exact ⟨ok8, ok21, ok42, fun _ h => by cases h⟩
def lM (s : List UInt8) : List Entry := [madeE s, madeE [86], e29]
theorem all : ((namesOf siL).all fun s => isTrue (acallE (tabC tabSiMade) (baseKE (lM s)) 100000 60 8 [.string (bs s)] ⟨0, .leaf⟩)) = true := by kernel_rfl
theorem walk (a0 : List UInt8) (w : World) : Calls Try.prog 8 #[.string (bs a0)] w fun e w' => e = .returned (.bool true) ∧ Below w.heap.size w w' := by
  rcases hit_cases a0 siL with hn | hno
  · exact flatK_holds tabSiMade_ok (L := lM a0) (by unfold lM; simp only [List.forall_mem_cons]; exact ⟨madeE_ok a0 hn, madeE_ok _ memV, k29, fun _ h => by cases h⟩) (args := [.string (bs a0)]) (.cons (.string _) .nil) (run_true (List.all_eq_true.1 all a0 hn)) w
  · exact flatK_holds tabSiMade_ok (L := [⟨20, [.string (bs a0)], .flat noParts⟩, madeE [86], e29]) (by simp only [List.forall_mem_cons]; exact ⟨made_none a0 hno, madeE_ok _ memV, k29, fun _ h => by cases h⟩) (args := [.string (bs a0)]) (.cons (.string _) .nil)
      (siMadeLaw_none (n := 40) (by kernel_rfl) (by kernel_rfl) (by kernel_rfl) (U := siL) (units_known (by kernel_rfl) (List.mem_cons_of_mem _ (List.mem_cons_of_mem _ (List.mem_cons_self ..))) siL_r (of_decide_eq_true (by kernel_rfl)) siL_well) (of_decide_eq_true (by kernel_rfl)) hno (List.mem_cons_self ..) (by rw [madeV]; exact List.mem_cons_of_mem _ (List.mem_cons_self ..))) w
theorem own : ownKnob Try.prog.godebug = none := by kernel_rfl
theorem lifted (os : Os) (started : os.Started) (H : Type) (enc : TypeId × Value → H) :
    ReturnsInHanded {} Try.checked os 8 .any (Rows.siMadeSpec.pre6 enc Try.prog Try.f8 Rows.siMadeRow.domain false) (Rows.siMadeSpec.post enc Try.prog Try.f8 false true false false) := by
  refine returnsInHanded_of_change_sized (C := Try.checked) own started (by kernel_rfl) Try.func8
    (ChangeSpec.witness6 (enc := enc) (C := Try.checked) false ⟨#[], #[.string ⟨#[]⟩], []⟩ 8 (by kernel_rfl) (by kernel_rfl) (by kernel_rfl) (by kernel_rfl)) ?_
  intro W base args ds gs before hval0 hW hcnd hsz0 _
  have hval : ∀ (j : Nat) t v, Try.f8.params[j]? = some t → args[j]? = some v → Value.okWide Try.prog W .any base t v := hval0
  have hW' := hW
  obtain ⟨p, q, hA0, hV, rfl, hfz, hnd⟩ := hW
  have hA : DataW.TrodAll enc Try.prog W 0 (fun _ => true) true Try.f8.params.toList args.toList ds p := hA0
  rw [Try.params8] at hA hval
  obtain ⟨v0, vs0, d0, ds0, p0, q0, hargs, rfl, rfl, h0, r0⟩ := trodAll_cons hA
  obtain ⟨rfl, rfl, rfl⟩ := trodAll_nil r0
  obtain rfl : args = #[v0] := by cases args; simp_all
  obtain ⟨rfl, rfl⟩ := trodVars_none hV
  obtain ⟨s0, rfl, rfl, rfl, ws0⟩ := open_string Try.underlying9 (hval 0 9 v0 rfl rfl) h0
  obtain ⟨a0, rfl⟩ := bs_all s0
  clear hA0 hval0 hsz0
  simp only [List.append_nil] at hW'
  refine (walk a0 W).mono fun e W' ⟨he, bel⟩ => ?_
  subst he
  exact ⟨_, rfl, _, _, _, [], _, [], hW', trodAll_mk1 (shut_bool Try.underlying4 _), (trodAll_cons_mk (shut_string Try.underlying9 ws0) trodAll_mk0), rfl, bel.frame _, fun h => by cases h⟩
theorem over : Rows.siMadeRow.holds Try.pinned (OpenSpec.ofChange Rows.siMadeSpec) :=
  OpenClaim.holds_of_wide 8 Try.f8 rfl rfl rfl rfl rfl rfl rfl ⟨rfl, rfl, rfl, rfl, rfl⟩ rfl rfl rfl rfl rfl (by kernel_rfl) Try.func8 (by kernel_rfl)
    (of_decide_eq_true (by kernel_rfl)) (by unfold Func.isWrapper; first | (rw [if_pos (by decide +kernel)]; kernel_rfl) | (rw [if_neg (by decide +kernel)]; exact ⟨rfl, rfl⟩))
    (fun os started H enc _ => lifted os started H enc)
theorem proved : Rows.SiMadeSaid := over
#print axioms proved
end Go.Proofs.Ythofghhfcmbbfaa.siMade
namespace Go.Proofs.Ythofghhfcmbbfaa
/-- The row, under a short name, for the claim. -/
theorem siMade_holds : Rows.SiMadeSaid := siMade.proved
end Go.Proofs.Ythofghhfcmbbfaa
