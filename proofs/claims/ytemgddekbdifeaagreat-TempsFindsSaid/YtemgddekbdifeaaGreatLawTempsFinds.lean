/- The law TempsFinds returns true, whatever its arguments, and leaves what was there as it was. -/
import Derived.Test.YtemgddekbdifeaaGreatRows
import Derived.Test.YtemgddekbdifeaaGreatTFd
import Derived.WalkKit
import Derived.ProofKit
import Derived.OpenShut
import Derived.ShutString
import Derived.ChangeOld
import Derived.Below
import Derived.SizedLaws
import Derived.SliceStrings
import Derived.Carry
import Derived.ChangeReads
set_option linter.unusedVariables false
set_option linter.unusedSimpArgs false
set_option maxRecDepth 1000000
namespace Go.Proofs.YtemgddekbdifeaaGreat.tempsFinds
open Go.ChangeShapes Go.WideShapes Go.ChangeAt Go.RowKit
open Go.ChangeMaps (open_string shut_string)
open Go.Proofs.YtemgddekbdifeaaGreat.Am
def tabTempsFinds : List (Nat × AFn) := [(10, F10), (35, F35), (20, F20)]
theorem tabTempsFinds_ok : ∀ p ∈ tabTempsFinds, FnOK Tryz.prog p := by
  unfold tabTempsFinds
  simp only [List.forall_mem_cons]
  exact ⟨ok10, ok35, ok20, fun _ h => by cases h⟩
theorem walk (a0 : List UInt8) (a1 : List UInt8) (w : World) : Calls Tryz.prog 10 #[.string (bs a0), .string (bs a1)] w fun e w' => e = .returned (.bool true) ∧ Below w.heap.size w w' := by
  obtain ⟨a, b, c, hx, hy⟩ : ∃ a b c, EntryOK Tryz.prog (fxE a1 a0 a b c) ∧ EntryOK Tryz.prog (ryE a1 a0 a b c) := by
    by_cases hp : a1 ∈ pts
    · by_cases hs : a0 ∈ scales
      · exact fx_all a1 a0 hp hs
      · exact ⟨_, _, 200, fx_none a1 a0 200 (fun _ => ⟨rfl, hs⟩) (fun h => absurd hp h), ry_none a1 a0 200 (fun _ => ⟨rfl, hs⟩) (fun h => absurd hp h)⟩
    · exact ⟨_, _, 201, fx_none a1 a0 201 (fun h => absurd h hp) (fun _ => rfl), ry_none a1 a0 201 (fun h => absurd h hp) (fun _ => rfl)⟩
  exact flatK_holds tabTempsFinds_ok (L := [fxE a1 a0 a b c, ryE a1 a0 a b c, e34, e23, e29]) (by simp only [List.forall_mem_cons]; exact ⟨hx, hy, k34, k23, k29, fun _ h => by cases h⟩) (args := [.string (bs a0), .string (bs a1)]) (.cons (.string _) (.cons (.string _) .nil))
    (tempsFinds_ok (n := 40) (by kernel_rfl) (by kernel_rfl) (by kernel_rfl) (by kernel_rfl) (by kernel_rfl) (by kernel_rfl) (U := tempsL)
      (units_known (by kernel_rfl) (List.mem_cons_of_mem _ (List.mem_cons_of_mem _ (List.mem_cons_of_mem _ (List.mem_cons_self ..)))) tempsL_p (of_decide_eq_true (by kernel_rfl)) tempsL_well)
      (units_known (by kernel_rfl) (List.mem_cons_of_mem _ (List.mem_cons_of_mem _ (List.mem_cons_of_mem _ (List.mem_cons_of_mem _ (List.mem_cons_self ..))))) tempsL_r (of_decide_eq_true (by kernel_rfl)) tempsL_well) (of_decide_eq_true (by kernel_rfl)) tempsL_well
      (a := a) (b := b) (e := c) (List.mem_cons_self ..) (List.mem_cons_of_mem _ (List.mem_cons_self ..)) (List.mem_cons_of_mem _ (List.mem_cons_of_mem _ (List.mem_cons_self ..)))) w
theorem own : ownKnob Tryz.prog.godebug = none := by kernel_rfl
theorem lifted (os : Os) (started : os.Started) (H : Type) (enc : TypeId × Value → H) :
    ReturnsInHanded {} Tryz.checked os 10 .any (Rows.tempsFindsSpec.pre6 enc Tryz.prog Tryz.f10 Rows.tempsFindsRow.domain false) (Rows.tempsFindsSpec.post enc Tryz.prog Tryz.f10 false true false false) := by
  refine returnsInHanded_of_change_sized (C := Tryz.checked) own started (by kernel_rfl) Tryz.func10
    (ChangeSpec.witness6 (enc := enc) (C := Tryz.checked) false ⟨#[], #[.string ⟨#[]⟩, .string ⟨#[]⟩], []⟩ 8 (by kernel_rfl) (by kernel_rfl) (by kernel_rfl) (by kernel_rfl)) ?_
  intro W base args ds gs before hval0 hW hcnd hsz0 _
  have hval : ∀ (j : Nat) t v, Tryz.f10.params[j]? = some t → args[j]? = some v → Value.okWide Tryz.prog W .any base t v := hval0
  have hW' := hW
  obtain ⟨p, q, hA0, hV, rfl, hfz, hnd⟩ := hW
  have hA : DataW.TrodAll enc Tryz.prog W 0 (fun _ => true) true Tryz.f10.params.toList args.toList ds p := hA0
  rw [Tryz.params10] at hA hval
  obtain ⟨v0, vs0, d0, ds0, p0, q0, hargs, rfl, rfl, h0, r0⟩ := trodAll_cons hA
  obtain ⟨v1, vs1, d1, ds1, p1, q1, rfl, rfl, rfl, h1, r1⟩ := trodAll_cons r0
  obtain ⟨rfl, rfl, rfl⟩ := trodAll_nil r1
  obtain rfl : args = #[v0, v1] := by cases args; simp_all
  obtain ⟨rfl, rfl⟩ := trodVars_none hV
  obtain ⟨s0, rfl, rfl, rfl, ws0⟩ := open_string Tryz.underlying9 (hval 0 9 v0 rfl rfl) h0
  obtain ⟨a0, rfl⟩ := bs_all s0
  obtain ⟨s1, rfl, rfl, rfl, ws1⟩ := open_string Tryz.underlying9 (hval 1 9 v1 rfl rfl) h1
  obtain ⟨a1, rfl⟩ := bs_all s1
  clear hA0 hval0 hsz0
  simp only [List.append_nil] at hW'
  refine (walk a0 a1 W).mono fun e W' ⟨he, bel⟩ => ?_
  subst he
  exact ⟨_, rfl, _, _, _, [], _, [], hW', trodAll_mk1 (shut_bool Tryz.underlying4 _), (trodAll_cons_mk (shut_string Tryz.underlying9 ws0) (trodAll_cons_mk (shut_string Tryz.underlying9 ws1) trodAll_mk0)), rfl, bel.frame _, fun h => by cases h⟩
theorem over : Rows.tempsFindsRow.holds Tryz.pinned (OpenSpec.ofChange Rows.tempsFindsSpec) :=
  OpenClaim.holds_of_wide 10 Tryz.f10 rfl rfl rfl rfl rfl rfl rfl ⟨rfl, rfl, rfl, rfl, rfl⟩ rfl rfl rfl rfl rfl (by kernel_rfl) Tryz.func10 (by kernel_rfl)
    (of_decide_eq_true (by kernel_rfl)) (by unfold Func.isWrapper; first | (rw [if_pos (by decide +kernel)]; kernel_rfl) | (rw [if_neg (by decide +kernel)]; exact ⟨rfl, rfl⟩))
    (fun os started H enc _ => lifted os started H enc)
theorem proved : Rows.TempsFindsSaid := over
#print axioms proved
end Go.Proofs.YtemgddekbdifeaaGreat.tempsFinds
namespace Go.Proofs.YtemgddekbdifeaaGreat
/-- The row, under a short name, for the claim. -/
theorem tempsFinds_holds : Rows.TempsFindsSaid := tempsFinds.proved
end Go.Proofs.YtemgddekbdifeaaGreat
