/- The law TradStands returns true, without an argument, and leaves what was there as it was. -/
import Derived.Test.YtemgddekbdifeaaGreatRows
import Derived.Test.YtemgddekbdifeaaGreatKe19
import Derived.WalkKit
import Derived.ProofKit
import Derived.OpenShut
import Derived.ShutString
import Derived.ChangeOld
import Derived.Below
import Derived.SizedLaws
namespace Go.Proofs.YtemgddekbdifeaaGreat.tradStands
open Go.ChangeShapes Go.WideShapes Go.ChangeAt Go.RowKit
open Go.ChangeMaps (open_string shut_string)
open Go.Proofs.YtemgddekbdifeaaGreat.Am
def tabTradStands : List (Nat × AFn) := [(4, F4), (17, F17)]
theorem tabTradStands_ok : ∀ p ∈ tabTradStands, FnOK Tryz.prog p := by
  unfold tabTradStands
  simp only [List.forall_mem_cons]
  exact ⟨ok4, ok17, fun _ h => by cases h⟩
def lTradStands : List Entry := [e116, e117]
theorem lTradStands_ok : ∀ e ∈ lTradStands, EntryOK Tryz.prog e := by
  unfold lTradStands
  simp only [List.forall_mem_cons]
  exact ⟨k116, k117, fun _ h => by cases h⟩
theorem runs : isTrue (acallE (tabC tabTradStands) (baseKE lTradStands) 100000 60 4 [] ⟨0, .leaf⟩) = true := by kernel_rfl
theorem walk (w : World) : Calls Tryz.prog 4 #[] w fun e w' => e = .returned (.bool true) ∧ Below w.heap.size w w' := by
  exact closedK_run tabTradStands_ok lTradStands_ok runs w
theorem own : ownKnob Tryz.prog.godebug = none := by kernel_rfl
set_option maxRecDepth 100000 in
theorem lifted (os : Os) (started : os.Started) (H : Type) (enc : TypeId × Value → H) :
    ReturnsInHanded {} Tryz.checked os 4 .any (Rows.tradStandsSpec.pre6 enc Tryz.prog Tryz.f4 Rows.tradStandsRow.domain false) (Rows.tradStandsSpec.post enc Tryz.prog Tryz.f4 false true false false) := by
  refine returnsInHanded_of_change_sized (C := Tryz.checked) own started (by kernel_rfl) Tryz.func4
    (ChangeSpec.witness6 (enc := enc) (C := Tryz.checked) false ⟨#[], #[], []⟩ 8 (by kernel_rfl) (by kernel_rfl) (by kernel_rfl) (by kernel_rfl)) ?_
  intro W base args ds gs before hval0 hW hcnd hsz0 _
  have hW' := hW
  obtain ⟨p, q, hA0, hV, rfl, hfz, hnd⟩ := hW
  have hA : DataW.TrodAll enc Tryz.prog W 0 (fun _ => true) true Tryz.f4.params.toList args.toList ds p := hA0
  rw [Tryz.params4] at hA
  obtain ⟨rfl, rfl, rfl⟩ := trodAll_none hA
  obtain ⟨rfl, rfl⟩ := trodVars_none hV
  clear hA0 hval0 hsz0
  refine (walk W).mono fun e W' ⟨he, bel⟩ => ?_
  subst he
  exact ⟨_, rfl, _, _, _, [], _, [], hW', trodAll_mk1 (shut_bool Tryz.underlying4 _), trodAll_mk0, rfl, bel.frame _, fun h => by cases h⟩
theorem over : Rows.tradStandsRow.holds Tryz.pinned (OpenSpec.ofChange Rows.tradStandsSpec) :=
  OpenClaim.holds_of_wide 4 Tryz.f4 rfl rfl rfl rfl rfl rfl rfl ⟨rfl, rfl, rfl, rfl, rfl⟩ rfl rfl rfl rfl rfl (by kernel_rfl) Tryz.func4 (by kernel_rfl)
    (of_decide_eq_true (by kernel_rfl)) (by unfold Func.isWrapper; first | (rw [if_pos (by decide +kernel)]; kernel_rfl) | (rw [if_neg (by decide +kernel)]; exact ⟨rfl, rfl⟩))
    (fun os started H enc _ => lifted os started H enc)
theorem proved : Rows.TradStandsSaid := over
#print axioms proved
end Go.Proofs.YtemgddekbdifeaaGreat.tradStands
namespace Go.Proofs.YtemgddekbdifeaaGreat
/-- The row, under a short name, for the claim. -/
theorem tradStands_holds : Rows.TradStandsSaid := tradStands.proved
end Go.Proofs.YtemgddekbdifeaaGreat
