/- The law SiCoherent returns true, whatever its arguments, and leaves what was there as it was. -/
import Derived.Test.YthofghhfcmbbfaaRows
import Derived.Test.YthofghhfcmbbfaaSm
import Derived.WalkKit
import Derived.ProofKit
import Derived.OpenShut
import Derived.ShutString
import Derived.ChangeOld
import Derived.Below
import Derived.SizedLaws
import Derived.SliceStrings
import Derived.Carry
import Derived.ChangeReads
set_option linter.unusedVariables false
set_option linter.unusedSimpArgs false
set_option maxRecDepth 1000000
namespace Go.Proofs.Ythofghhfcmbbfaa.siCoherent
open Go.ChangeShapes Go.WideShapes Go.ChangeAt Go.RowKit
open Go.ChangeMaps (open_string shut_string)
open Go.Proofs.Ythofghhfcmbbfaa.Am
def tabSiCoherent : List (Nat × AFn) := [(10, F10), (23, F23), (24, F24), (46, F46), (47, F47)]
theorem tabSiCoherent_ok : ∀ p ∈ tabSiCoherent, FnOK Try.prog p := by
  unfold tabSiCoherent
  simp only [List.forall_mem_cons]
  exact ⟨ok10, ok23, ok24, ok46, ok47, fun _ h => by cases h⟩
def lC (w : List UInt8) : List Entry := [madeE w, findE w, bfindE [109], bfindE [103], bfindE [115], bfindE [65], bfindE [75], bfindE [109, 111, 108], bfindE [99, 100], bfindE [98], e29]
theorem lC_ok (w : List UInt8) (hw : w ∈ namesOf siL) : ∀ e ∈ lC w, EntryOK Try.prog e := by
  unfold lC
  simp only [List.forall_mem_cons]
  exact ⟨madeE_ok w hw, findE_ok w, bfindE_ok _, bfindE_ok _, bfindE_ok _, bfindE_ok _, bfindE_ok _, bfindE_ok _, bfindE_ok _, bfindE_ok _, k29, fun _ h => by cases h⟩
noncomputable def goodC (s : List UInt8) : Bool := isTrue (acallE (tabC tabSiCoherent) (baseKE (lC s)) 100000 61 10 [.string (bs s)] ⟨0, .leaf⟩)
def nm0 : List (List UInt8) := [[110, 101, 119, 116, 111, 110], [78], [112, 97, 115, 99, 97, 108], [80, 97], [106, 111, 117, 108, 101]]
theorem good0 : nm0.all goodC = true := by kernel_rfl
def nm1 : List (List UInt8) := [[74], [119, 97, 116, 116], [87], [99, 111, 117, 108, 111, 109, 98], [67]]
theorem good1 : nm1.all goodC = true := by kernel_rfl
def nm2 : List (List UInt8) := [[118, 111, 108, 116], [86], [102, 97, 114, 97, 100], [70], [111, 104, 109]]
theorem good2 : nm2.all goodC = true := by kernel_rfl
def nm3 : List (List UInt8) := [[206, 169], [115, 105, 101, 109, 101, 110, 115], [83], [119, 101, 98, 101, 114], [87, 98]]
theorem good3 : nm3.all goodC = true := by kernel_rfl
def nm4 : List (List UInt8) := [[116, 101, 115, 108, 97], [84], [104, 101, 110, 114, 121], [72], [104, 101, 114, 116, 122]]
theorem good4 : nm4.all goodC = true := by kernel_rfl
def nm5 : List (List UInt8) := [[72, 122], [98, 101, 99, 113, 117, 101, 114, 101, 108], [66, 113], [103, 114, 97, 121], [71, 121]]
theorem good5 : nm5.all goodC = true := by kernel_rfl
def nm6 : List (List UInt8) := [[115, 105, 101, 118, 101, 114, 116], [83, 118], [107, 97, 116, 97, 108], [107, 97, 116], [114, 97, 100, 105, 97, 110]]
theorem good6 : nm6.all goodC = true := by kernel_rfl
def nm7 : List (List UInt8) := [[114, 97, 100], [115, 116, 101, 114, 97, 100, 105, 97, 110], [115, 114], [108, 117, 109, 101, 110], [108, 109]]
theorem good7 : nm7.all goodC = true := by kernel_rfl
def nm8 : List (List UInt8) := [[108, 117, 120], [108, 120], [109, 105, 110, 117, 116, 101], [109, 105, 110], [104, 111, 117, 114]]
theorem good8 : nm8.all goodC = true := by kernel_rfl
def nm9 : List (List UInt8) := [[104], [100, 97, 121], [100], [108, 105, 116, 114, 101], [76]]
theorem good9 : nm9.all goodC = true := by kernel_rfl
def nm10 : List (List UInt8) := [[116, 111, 110, 110, 101], [116], [98, 97, 114], [98, 97, 114], [104, 101, 99, 116, 97, 114, 101]]
theorem good10 : nm10.all goodC = true := by kernel_rfl
def nm11 : List (List UInt8) := [[104, 97], [98, 121, 116, 101], [66]]
theorem good11 : nm11.all goodC = true := by kernel_rfl
theorem names_eq : namesOf siL = nm0 ++ (nm1 ++ (nm2 ++ (nm3 ++ (nm4 ++ (nm5 ++ (nm6 ++ (nm7 ++ (nm8 ++ (nm9 ++ (nm10 ++ (nm11))))))))))) := by kernel_rfl
theorem all : ((namesOf siL).all goodC) = true := by
  rw [names_eq]
  simp only [List.all_append, good0, good1, good2, good3, good4, good5, good6, good7, good8, good9, good10, good11, Bool.and_self]
theorem walk (a0 : List UInt8) (w : World) : Calls Try.prog 10 #[.string (bs a0)] w fun e w' => e = .returned (.bool true) ∧ Below w.heap.size w w' := by
  rcases hit_cases a0 siL with hn | hno
  · exact flatK_holds tabSiCoherent_ok (L := lC a0) (lC_ok a0 hn) (args := [.string (bs a0)]) (.cons (.string _) .nil) (run_true (List.all_eq_true.1 all a0 hn)) w
  · have hf : findE a0 = ⟨19, [.string (bs a0)], .flat (.tuple #[.agg noU.toArray, .bool false])⟩ := by unfold findE; rw [foundU_none hno]
    exact flatK_holds tabSiCoherent_ok (L := findE a0 :: lC [119, 97, 116, 116]) (by rw [List.forall_mem_cons]; exact ⟨findE_ok a0, lC_ok _ memW⟩) (args := [.string (bs a0)]) (.cons (.string _) .nil)
      (coherent_none (L0 := lC [119, 97, 116, 116]) (by kernel_rfl) (by kernel_rfl) (by rw [← hf]; exact List.mem_cons_self ..) (fun e he => List.mem_cons_of_mem _ he) rfl rfl rfl rfl (by kernel_rfl) rfl) w
theorem own : ownKnob Try.prog.godebug = none := by kernel_rfl
theorem lifted (os : Os) (started : os.Started) (H : Type) (enc : TypeId × Value → H) :
    ReturnsInHanded {} Try.checked os 10 .any (Rows.siCoherentSpec.pre6 enc Try.prog Try.f10 Rows.siCoherentRow.domain false) (Rows.siCoherentSpec.post enc Try.prog Try.f10 false true false false) := by
  refine returnsInHanded_of_change_sized (C := Try.checked) own started (by kernel_rfl) Try.func10
    (ChangeSpec.witness6 (enc := enc) (C := Try.checked) false ⟨#[], #[.string ⟨#[]⟩], []⟩ 8 (by kernel_rfl) (by kernel_rfl) (by kernel_rfl) (by kernel_rfl)) ?_
  intro W base args ds gs before hval0 hW hcnd hsz0 _
  have hval : ∀ (j : Nat) t v, Try.f10.params[j]? = some t → args[j]? = some v → Value.okWide Try.prog W .any base t v := hval0
  have hW' := hW
  obtain ⟨p, q, hA0, hV, rfl, hfz, hnd⟩ := hW
  have hA : DataW.TrodAll enc Try.prog W 0 (fun _ => true) true Try.f10.params.toList args.toList ds p := hA0
  rw [Try.params10] at hA hval
  obtain ⟨v0, vs0, d0, ds0, p0, q0, hargs, rfl, rfl, h0, r0⟩ := trodAll_cons hA
  obtain ⟨rfl, rfl, rfl⟩ := trodAll_nil r0
  obtain rfl : args = #[v0] := by cases args; simp_all
  obtain ⟨rfl, rfl⟩ := trodVars_none hV
  obtain ⟨s0, rfl, rfl, rfl, ws0⟩ := open_string Try.underlying9 (hval 0 9 v0 rfl rfl) h0
  obtain ⟨a0, rfl⟩ := bs_all s0
  clear hA0 hval0 hsz0
  simp only [List.append_nil] at hW'
  refine (walk a0 W).mono fun e W' ⟨he, bel⟩ => ?_
  subst he
  exact ⟨_, rfl, _, _, _, [], _, [], hW', trodAll_mk1 (shut_bool Try.underlying4 _), (trodAll_cons_mk (shut_string Try.underlying9 ws0) trodAll_mk0), rfl, bel.frame _, fun h => by cases h⟩
theorem over : Rows.siCoherentRow.holds Try.pinned (OpenSpec.ofChange Rows.siCoherentSpec) :=
  OpenClaim.holds_of_wide 10 Try.f10 rfl rfl rfl rfl rfl rfl rfl ⟨rfl, rfl, rfl, rfl, rfl⟩ rfl rfl rfl rfl rfl (by kernel_rfl) Try.func10 (by kernel_rfl)
    (of_decide_eq_true (by kernel_rfl)) (by unfold Func.isWrapper; first | (rw [if_pos (by decide +kernel)]; kernel_rfl) | (rw [if_neg (by decide +kernel)]; exact ⟨rfl, rfl⟩))
    (fun os started H enc _ => lifted os started H enc)
theorem proved : Rows.SiCoherentSaid := over
#print axioms proved
end Go.Proofs.Ythofghhfcmbbfaa.siCoherent
namespace Go.Proofs.Ythofghhfcmbbfaa
/-- The row, under a short name, for the claim. -/
theorem siCoherent_holds : Rows.SiCoherentSaid := siCoherent.proved
end Go.Proofs.Ythofghhfcmbbfaa
