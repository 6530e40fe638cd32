/- The law TradMultiples returns true, without an argument, and leaves what was there as it was. -/
import Derived.Test.YtemgddekbdifeaaGreatRows
import Derived.Test.YtemgddekbdifeaaGreatKe19
import Derived.WalkKit
import Derived.ProofKit
import Derived.OpenShut
import Derived.ShutString
import Derived.ChangeOld
import Derived.Below
import Derived.SizedLaws
namespace Go.Proofs.YtemgddekbdifeaaGreat.tradMultiples
open Go.ChangeShapes Go.WideShapes Go.ChangeAt Go.RowKit
open Go.ChangeMaps (open_string shut_string)
open Go.Proofs.YtemgddekbdifeaaGreat.Am
def tabTradMultiples : List (Nat × AFn) := [(6, F6), (21, F21)]
theorem tabTradMultiples_ok : ∀ p ∈ tabTradMultiples, FnOK Tryz.prog p := by
  unfold tabTradMultiples
  simp only [List.forall_mem_cons]
  exact ⟨ok6, ok21, fun _ h => by cases h⟩
def lTradMultiples : List Entry := [e118, e119, e120, e121, e122, e123, e124, e125, e126, e127, e128, e129, e130, e131, e132, e133, e134, e135, e136, e137, e138, e139, e140, e141, e142, e143, e144, e145, e146, e147, e148, e149, e150, e151, e152, e153, e154]
theorem lTradMultiples_ok : ∀ e ∈ lTradMultiples, EntryOK Tryz.prog e := by
  unfold lTradMultiples
  simp only [List.forall_mem_cons]
  exact ⟨k118, k119, k120, k121, k122, k123, k124, k125, k126, k127, k128, k129, k130, k131, k132, k133, k134, k135, k136, k137, k138, k139, k140, k141, k142, k143, k144, k145, k146, k147, k148, k149, k150, k151, k152, k153, k154, fun _ h => by cases h⟩
theorem runs : isTrue (acallE (tabC tabTradMultiples) (baseKE lTradMultiples) 100000 60 6 [] ⟨0, .leaf⟩) = true := by kernel_rfl
theorem walk (w : World) : Calls Tryz.prog 6 #[] w fun e w' => e = .returned (.bool true) ∧ Below w.heap.size w w' := by
  exact closedK_run tabTradMultiples_ok lTradMultiples_ok runs w
theorem own : ownKnob Tryz.prog.godebug = none := by kernel_rfl
set_option maxRecDepth 100000 in
theorem lifted (os : Os) (started : os.Started) (H : Type) (enc : TypeId × Value → H) :
    ReturnsInHanded {} Tryz.checked os 6 .any (Rows.tradMultiplesSpec.pre6 enc Tryz.prog Tryz.f6 Rows.tradMultiplesRow.domain false) (Rows.tradMultiplesSpec.post enc Tryz.prog Tryz.f6 false true false false) := by
  refine returnsInHanded_of_change_sized (C := Tryz.checked) own started (by kernel_rfl) Tryz.func6
    (ChangeSpec.witness6 (enc := enc) (C := Tryz.checked) false ⟨#[], #[], []⟩ 8 (by kernel_rfl) (by kernel_rfl) (by kernel_rfl) (by kernel_rfl)) ?_
  intro W base args ds gs before hval0 hW hcnd hsz0 _
  have hW' := hW
  obtain ⟨p, q, hA0, hV, rfl, hfz, hnd⟩ := hW
  have hA : DataW.TrodAll enc Tryz.prog W 0 (fun _ => true) true Tryz.f6.params.toList args.toList ds p := hA0
  rw [Tryz.params6] at hA
  obtain ⟨rfl, rfl, rfl⟩ := trodAll_none hA
  obtain ⟨rfl, rfl⟩ := trodVars_none hV
  clear hA0 hval0 hsz0
  refine (walk W).mono fun e W' ⟨he, bel⟩ => ?_
  subst he
  exact ⟨_, rfl, _, _, _, [], _, [], hW', trodAll_mk1 (shut_bool Tryz.underlying4 _), trodAll_mk0, rfl, bel.frame _, fun h => by cases h⟩
theorem over : Rows.tradMultiplesRow.holds Tryz.pinned (OpenSpec.ofChange Rows.tradMultiplesSpec) :=
  OpenClaim.holds_of_wide 6 Tryz.f6 rfl rfl rfl rfl rfl rfl rfl ⟨rfl, rfl, rfl, rfl, rfl⟩ rfl rfl rfl rfl rfl (by kernel_rfl) Tryz.func6 (by kernel_rfl)
    (of_decide_eq_true (by kernel_rfl)) (by unfold Func.isWrapper; first | (rw [if_pos (by decide +kernel)]; kernel_rfl) | (rw [if_neg (by decide +kernel)]; exact ⟨rfl, rfl⟩))
    (fun os started H enc _ => lifted os started H enc)
theorem proved : Rows.TradMultiplesSaid := over
#print axioms proved
end Go.Proofs.YtemgddekbdifeaaGreat.tradMultiples
namespace Go.Proofs.YtemgddekbdifeaaGreat
/-- The row, under a short name, for the claim. -/
theorem tradMultiples_holds : Rows.TradMultiplesSaid := tradMultiples.proved
end Go.Proofs.YtemgddekbdifeaaGreat
