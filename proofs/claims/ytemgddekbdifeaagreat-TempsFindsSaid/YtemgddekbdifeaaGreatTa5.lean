/- What some calls come to. -/
import Derived.Test.YtemgddekbdifeaaGreatTa4
import Derived.KernelRfl
set_option maxRecDepth 1000000
namespace Go.Proofs.YtemgddekbdifeaaGreat.Am
def tabA5_110 : List (Nat × AFn) := [(110, F110)]
theorem tabA5_110_ok : ∀ p ∈ tabA5_110, FnOK Tryz.prog p := by
  unfold tabA5_110
  simp only [List.forall_mem_cons]
  exact ⟨ok110, fun _ h => by cases h⟩
/-- cubit/cubitref12.rat -/
def e101 : Entry := ⟨110, [(.string ⟨#[55, 52, 54, 51]⟩), (.string ⟨#[50, 48]⟩)], .flat (.agg #[(.string ⟨#[55, 52, 54, 51]⟩), (.string ⟨#[50, 48]⟩)])⟩
def lK101 : List Entry := []
theorem lK101_ok : ∀ e ∈ lK101, EntryOK Tryz.prog e := fun _ h => by cases h
theorem k101 : EntryOK Tryz.prog e101 := known_run tabA5_110_ok lK101_ok (fuel := 100000) (n := 60) (by kernel_rfl) (by kernel_rfl)
end Go.Proofs.YtemgddekbdifeaaGreat.Am
