/- What some calls come to. -/
import Derived.Test.YtemgddekbdifeaaKe6
import Derived.KernelRfl
set_option maxRecDepth 1000000
namespace Go.Proofs.Ytemgddekbdifeaa.Am
/-- cubit/rat.Of -/
def e56 : Entry := ⟨40, [(.int .i64 91093837015)], .flat (.agg #[(.string ⟨#[57, 49, 48, 57, 51, 56, 51, 55, 48, 49, 53]⟩), (.string ⟨#[49]⟩)])⟩
def lK56 : List Entry := []
theorem lK56_ok : ∀ e ∈ lK56, EntryOK Try.prog e := fun _ h => by cases h
theorem k56 : EntryOK Try.prog e56 := known_run tabK40_ok lK56_ok (fuel := 100000) (n := 60) (by kernel_rfl) (by kernel_rfl)
/-- cubit/rat.Quo -/
def e57 : Entry := ⟨41, [(.agg #[(.string ⟨#[57, 49, 48, 57, 51, 56, 51, 55, 48, 49, 53]⟩), (.string ⟨#[49]⟩)]), (.agg #[(.string ⟨#[49]⟩), (.string ⟨#[49]⟩)])], .flat (.tuple #[(.agg #[(.string ⟨#[57, 49, 48, 57, 51, 56, 51, 55, 48, 49, 53]⟩), (.string ⟨#[49]⟩)]), (.int .i64 0)])⟩
def lK57 : List Entry := []
theorem lK57_ok : ∀ e ∈ lK57, EntryOK Try.prog e := fun _ h => by cases h
theorem k57 : EntryOK Try.prog e57 := known_run tabK41_ok lK57_ok (fuel := 100000) (n := 60) (by kernel_rfl) (by kernel_rfl)
/-- cubit/rat.Mul -/
def e58 : Entry := ⟨42, [(.agg #[(.string ⟨#[57, 49, 48, 57, 51, 56, 51, 55, 48, 49, 53]⟩), (.string ⟨#[49]⟩)]), (.agg #[(.string ⟨#[49]⟩), (.string ⟨#[49, 48, 48, 48, 48, 48, 48, 48, 48, 48, 48, 48, 48, 48, 48, 48, 48, 48, 48, 48, 48, 48, 48, 48, 48, 48, 48, 48, 48, 48, 48, 48, 48, 48, 48, 48, 48, 48, 48, 48, 48, 48]⟩)])], .flat (.tuple #[(.agg #[(.string ⟨#[49, 56, 50, 49, 56, 55, 54, 55, 52, 48, 51]⟩), (.string ⟨#[50, 48, 48, 48, 48, 48, 48, 48, 48, 48, 48, 48, 48, 48, 48, 48, 48, 48, 48, 48, 48, 48, 48, 48, 48, 48, 48, 48, 48, 48, 48, 48, 48, 48, 48, 48, 48, 48, 48, 48, 48]⟩)]), (.int .i64 0)])⟩
def lK58 : List Entry := []
theorem lK58_ok : ∀ e ∈ lK58, EntryOK Try.prog e := fun _ h => by cases h
theorem k58 : EntryOK Try.prog e58 := known_run tabK42_ok lK58_ok (fuel := 100000) (n := 60) (by kernel_rfl) (by kernel_rfl)
/-- cubit/rat.Of -/
def e59 : Entry := ⟨40, [(.int .i64 28)], .flat (.agg #[(.string ⟨#[50, 56]⟩), (.string ⟨#[49]⟩)])⟩
def lK59 : List Entry := []
theorem lK59_ok : ∀ e ∈ lK59, EntryOK Try.prog e := fun _ h => by cases h
theorem k59 : EntryOK Try.prog e59 := known_run tabK40_ok lK59_ok (fuel := 100000) (n := 60) (by kernel_rfl) (by kernel_rfl)
/-- cubit/rat.Mul -/
def e60 : Entry := ⟨42, [(.agg #[(.string ⟨#[50, 56]⟩), (.string ⟨#[49]⟩)]), (.agg #[(.string ⟨#[49]⟩), (.string ⟨#[49, 48, 48, 48, 48, 48, 48, 48, 48, 48, 48, 48, 48, 48, 48, 48, 48, 48, 48, 48, 48, 48, 48, 48, 48, 48, 48, 48, 48, 48, 48, 48, 48, 48, 48, 48, 48, 48, 48, 48, 48, 48]⟩)])], .flat (.tuple #[(.agg #[(.string ⟨#[55]⟩), (.string ⟨#[50, 53, 48, 48, 48, 48, 48, 48, 48, 48, 48, 48, 48, 48, 48, 48, 48, 48, 48, 48, 48, 48, 48, 48, 48, 48, 48, 48, 48, 48, 48, 48, 48, 48, 48, 48, 48, 48, 48, 48, 48]⟩)]), (.int .i64 0)])⟩
def lK60 : List Entry := []
theorem lK60_ok : ∀ e ∈ lK60, EntryOK Try.prog e := fun _ h => by cases h
theorem k60 : EntryOK Try.prog e60 := known_run tabK42_ok lK60_ok (fuel := 100000) (n := 60) (by kernel_rfl) (by kernel_rfl)
def tabK22 : List (Nat × AFn) := [(22, F22)]
theorem tabK22_ok : ∀ p ∈ tabK22, FnOK Try.prog p := by
  unfold tabK22
  simp only [List.forall_mem_cons]
  exact ⟨ok22, fun _ h => by cases h⟩
/-- cubit/nature.gravitationMade -/
def e61 : Entry := ⟨22, [], .flat (.agg #[(.int .i64 667430), (.int .i64 1), (.int .i64 (-16)), (.int .i64 15)])⟩
def lK61 : List Entry := []
theorem lK61_ok : ∀ e ∈ lK61, EntryOK Try.prog e := fun _ h => by cases h
theorem k61 : EntryOK Try.prog e61 := known_run tabK22_ok lK61_ok (fuel := 100000) (n := 60) (by kernel_rfl) (by kernel_rfl)
/-- cubit/rat.Pow -/
def e62 : Entry := ⟨39, [(.agg #[(.string ⟨#[49, 48]⟩), (.string ⟨#[49]⟩)]), (.int .i64 (-16))], .flat (.tuple #[(.agg #[(.string ⟨#[49]⟩), (.string ⟨#[49, 48, 48, 48, 48, 48, 48, 48, 48, 48, 48, 48, 48, 48, 48, 48, 48]⟩)]), (.int .i64 0)])⟩
def lK62 : List Entry := []
theorem lK62_ok : ∀ e ∈ lK62, EntryOK Try.prog e := fun _ h => by cases h
theorem k62 : EntryOK Try.prog e62 := known_run tabK39_ok lK62_ok (fuel := 100000) (n := 60) (by kernel_rfl) (by kernel_rfl)
/-- cubit/rat.Of -/
def e63 : Entry := ⟨40, [(.int .i64 667430)], .flat (.agg #[(.string ⟨#[54, 54, 55, 52, 51, 48]⟩), (.string ⟨#[49]⟩)])⟩
def lK63 : List Entry := []
theorem lK63_ok : ∀ e ∈ lK63, EntryOK Try.prog e := fun _ h => by cases h
theorem k63 : EntryOK Try.prog e63 := known_run tabK40_ok lK63_ok (fuel := 100000) (n := 60) (by kernel_rfl) (by kernel_rfl)
end Go.Proofs.Ytemgddekbdifeaa.Am
