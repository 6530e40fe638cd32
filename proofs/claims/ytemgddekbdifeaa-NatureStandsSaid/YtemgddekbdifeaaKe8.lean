/- What some calls come to. -/
import Derived.Test.YtemgddekbdifeaaKe7
import Derived.KernelRfl
set_option maxRecDepth 1000000
namespace Go.Proofs.Ytemgddekbdifeaa.Am
/-- cubit/rat.Quo -/
def e64 : Entry := ⟨41, [(.agg #[(.string ⟨#[54, 54, 55, 52, 51, 48]⟩), (.string ⟨#[49]⟩)]), (.agg #[(.string ⟨#[49]⟩), (.string ⟨#[49]⟩)])], .flat (.tuple #[(.agg #[(.string ⟨#[54, 54, 55, 52, 51, 48]⟩), (.string ⟨#[49]⟩)]), (.int .i64 0)])⟩
def lK64 : List Entry := []
theorem lK64_ok : ∀ e ∈ lK64, EntryOK Try.prog e := fun _ h => by cases h
theorem k64 : EntryOK Try.prog e64 := known_run tabK41_ok lK64_ok (fuel := 100000) (n := 60) (by kernel_rfl) (by kernel_rfl)
/-- cubit/rat.Mul -/
def e65 : Entry := ⟨42, [(.agg #[(.string ⟨#[54, 54, 55, 52, 51, 48]⟩), (.string ⟨#[49]⟩)]), (.agg #[(.string ⟨#[49]⟩), (.string ⟨#[49, 48, 48, 48, 48, 48, 48, 48, 48, 48, 48, 48, 48, 48, 48, 48, 48]⟩)])], .flat (.tuple #[(.agg #[(.string ⟨#[54, 54, 55, 52, 51]⟩), (.string ⟨#[49, 48, 48, 48, 48, 48, 48, 48, 48, 48, 48, 48, 48, 48, 48, 48]⟩)]), (.int .i64 0)])⟩
def lK65 : List Entry := []
theorem lK65_ok : ∀ e ∈ lK65, EntryOK Try.prog e := fun _ h => by cases h
theorem k65 : EntryOK Try.prog e65 := known_run tabK42_ok lK65_ok (fuel := 100000) (n := 60) (by kernel_rfl) (by kernel_rfl)
/-- cubit/rat.Of -/
def e66 : Entry := ⟨40, [(.int .i64 15)], .flat (.agg #[(.string ⟨#[49, 53]⟩), (.string ⟨#[49]⟩)])⟩
def lK66 : List Entry := []
theorem lK66_ok : ∀ e ∈ lK66, EntryOK Try.prog e := fun _ h => by cases h
theorem k66 : EntryOK Try.prog e66 := known_run tabK40_ok lK66_ok (fuel := 100000) (n := 60) (by kernel_rfl) (by kernel_rfl)
/-- cubit/rat.Mul -/
def e67 : Entry := ⟨42, [(.agg #[(.string ⟨#[49, 53]⟩), (.string ⟨#[49]⟩)]), (.agg #[(.string ⟨#[49]⟩), (.string ⟨#[49, 48, 48, 48, 48, 48, 48, 48, 48, 48, 48, 48, 48, 48, 48, 48, 48]⟩)])], .flat (.tuple #[(.agg #[(.string ⟨#[51]⟩), (.string ⟨#[50, 48, 48, 48, 48, 48, 48, 48, 48, 48, 48, 48, 48, 48, 48, 48]⟩)]), (.int .i64 0)])⟩
def lK67 : List Entry := []
theorem lK67_ok : ∀ e ∈ lK67, EntryOK Try.prog e := fun _ h => by cases h
theorem k67 : EntryOK Try.prog e67 := known_run tabK42_ok lK67_ok (fuel := 100000) (n := 60) (by kernel_rfl) (by kernel_rfl)
def tabK23 : List (Nat × AFn) := [(23, F23)]
theorem tabK23_ok : ∀ p ∈ tabK23, FnOK Try.prog p := by
  unfold tabK23
  simp only [List.forall_mem_cons]
  exact ⟨ok23, fun _ h => by cases h⟩
/-- cubit/nature.gravityMade -/
def e68 : Entry := ⟨23, [], .flat (.agg #[(.int .i64 980665), (.int .i64 1), (.int .i64 (-5)), (.int .i64 0)])⟩
def lK68 : List Entry := []
theorem lK68_ok : ∀ e ∈ lK68, EntryOK Try.prog e := fun _ h => by cases h
theorem k68 : EntryOK Try.prog e68 := known_run tabK23_ok lK68_ok (fuel := 100000) (n := 60) (by kernel_rfl) (by kernel_rfl)
/-- cubit/rat.Pow -/
def e69 : Entry := ⟨39, [(.agg #[(.string ⟨#[49, 48]⟩), (.string ⟨#[49]⟩)]), (.int .i64 (-5))], .flat (.tuple #[(.agg #[(.string ⟨#[49]⟩), (.string ⟨#[49, 48, 48, 48, 48, 48]⟩)]), (.int .i64 0)])⟩
def lK69 : List Entry := []
theorem lK69_ok : ∀ e ∈ lK69, EntryOK Try.prog e := fun _ h => by cases h
theorem k69 : EntryOK Try.prog e69 := known_run tabK39_ok lK69_ok (fuel := 100000) (n := 60) (by kernel_rfl) (by kernel_rfl)
/-- cubit/rat.Of -/
def e70 : Entry := ⟨40, [(.int .i64 980665)], .flat (.agg #[(.string ⟨#[57, 56, 48, 54, 54, 53]⟩), (.string ⟨#[49]⟩)])⟩
def lK70 : List Entry := []
theorem lK70_ok : ∀ e ∈ lK70, EntryOK Try.prog e := fun _ h => by cases h
theorem k70 : EntryOK Try.prog e70 := known_run tabK40_ok lK70_ok (fuel := 100000) (n := 60) (by kernel_rfl) (by kernel_rfl)
/-- cubit/rat.Quo -/
def e71 : Entry := ⟨41, [(.agg #[(.string ⟨#[57, 56, 48, 54, 54, 53]⟩), (.string ⟨#[49]⟩)]), (.agg #[(.string ⟨#[49]⟩), (.string ⟨#[49]⟩)])], .flat (.tuple #[(.agg #[(.string ⟨#[57, 56, 48, 54, 54, 53]⟩), (.string ⟨#[49]⟩)]), (.int .i64 0)])⟩
def lK71 : List Entry := []
theorem lK71_ok : ∀ e ∈ lK71, EntryOK Try.prog e := fun _ h => by cases h
theorem k71 : EntryOK Try.prog e71 := known_run tabK41_ok lK71_ok (fuel := 100000) (n := 60) (by kernel_rfl) (by kernel_rfl)
end Go.Proofs.Ytemgddekbdifeaa.Am
