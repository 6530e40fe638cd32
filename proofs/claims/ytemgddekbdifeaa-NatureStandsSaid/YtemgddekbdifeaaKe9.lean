/- What some calls come to. -/
import Derived.Test.YtemgddekbdifeaaKe8
import Derived.KernelRfl
set_option maxRecDepth 1000000
namespace Go.Proofs.Ytemgddekbdifeaa.Am
/-- cubit/rat.Mul -/
def e72 : Entry := ⟨42, [(.agg #[(.string ⟨#[57, 56, 48, 54, 54, 53]⟩), (.string ⟨#[49]⟩)]), (.agg #[(.string ⟨#[49]⟩), (.string ⟨#[49, 48, 48, 48, 48, 48]⟩)])], .flat (.tuple #[(.agg #[(.string ⟨#[49, 57, 54, 49, 51, 51]⟩), (.string ⟨#[50, 48, 48, 48, 48]⟩)]), (.int .i64 0)])⟩
def lK72 : List Entry := []
theorem lK72_ok : ∀ e ∈ lK72, EntryOK Try.prog e := fun _ h => by cases h
theorem k72 : EntryOK Try.prog e72 := known_run tabK42_ok lK72_ok (fuel := 100000) (n := 60) (by kernel_rfl) (by kernel_rfl)
/-- cubit/rat.Mul -/
def e73 : Entry := ⟨42, [(.agg #[(.string ⟨#[48]⟩), (.string ⟨#[49]⟩)]), (.agg #[(.string ⟨#[49]⟩), (.string ⟨#[49, 48, 48, 48, 48, 48]⟩)])], .flat (.tuple #[(.agg #[(.string ⟨#[48]⟩), (.string ⟨#[49]⟩)]), (.int .i64 0)])⟩
def lK73 : List Entry := []
theorem lK73_ok : ∀ e ∈ lK73, EntryOK Try.prog e := fun _ h => by cases h
theorem k73 : EntryOK Try.prog e73 := known_run tabK42_ok lK73_ok (fuel := 100000) (n := 60) (by kernel_rfl) (by kernel_rfl)
def tabK24 : List (Nat × AFn) := [(24, F24)]
theorem tabK24_ok : ∀ p ∈ tabK24, FnOK Try.prog p := by
  unfold tabK24
  simp only [List.forall_mem_cons]
  exact ⟨ok24, fun _ h => by cases h⟩
/-- cubit/nature.lightMade -/
def e74 : Entry := ⟨24, [], .flat (.agg #[(.int .i64 299792458), (.int .i64 1), (.int .i64 0), (.int .i64 0)])⟩
def lK74 : List Entry := []
theorem lK74_ok : ∀ e ∈ lK74, EntryOK Try.prog e := fun _ h => by cases h
theorem k74 : EntryOK Try.prog e74 := known_run tabK24_ok lK74_ok (fuel := 100000) (n := 60) (by kernel_rfl) (by kernel_rfl)
/-- cubit/rat.Pow -/
def e75 : Entry := ⟨39, [(.agg #[(.string ⟨#[49, 48]⟩), (.string ⟨#[49]⟩)]), (.int .i64 0)], .flat (.tuple #[(.agg #[(.string ⟨#[49]⟩), (.string ⟨#[49]⟩)]), (.int .i64 0)])⟩
def lK75 : List Entry := []
theorem lK75_ok : ∀ e ∈ lK75, EntryOK Try.prog e := fun _ h => by cases h
theorem k75 : EntryOK Try.prog e75 := known_run tabK39_ok lK75_ok (fuel := 100000) (n := 60) (by kernel_rfl) (by kernel_rfl)
/-- cubit/rat.Of -/
def e76 : Entry := ⟨40, [(.int .i64 299792458)], .flat (.agg #[(.string ⟨#[50, 57, 57, 55, 57, 50, 52, 53, 56]⟩), (.string ⟨#[49]⟩)])⟩
def lK76 : List Entry := []
theorem lK76_ok : ∀ e ∈ lK76, EntryOK Try.prog e := fun _ h => by cases h
theorem k76 : EntryOK Try.prog e76 := known_run tabK40_ok lK76_ok (fuel := 100000) (n := 60) (by kernel_rfl) (by kernel_rfl)
/-- cubit/rat.Quo -/
def e77 : Entry := ⟨41, [(.agg #[(.string ⟨#[50, 57, 57, 55, 57, 50, 52, 53, 56]⟩), (.string ⟨#[49]⟩)]), (.agg #[(.string ⟨#[49]⟩), (.string ⟨#[49]⟩)])], .flat (.tuple #[(.agg #[(.string ⟨#[50, 57, 57, 55, 57, 50, 52, 53, 56]⟩), (.string ⟨#[49]⟩)]), (.int .i64 0)])⟩
def lK77 : List Entry := []
theorem lK77_ok : ∀ e ∈ lK77, EntryOK Try.prog e := fun _ h => by cases h
theorem k77 : EntryOK Try.prog e77 := known_run tabK41_ok lK77_ok (fuel := 100000) (n := 60) (by kernel_rfl) (by kernel_rfl)
/-- cubit/rat.Mul -/
def e78 : Entry := ⟨42, [(.agg #[(.string ⟨#[50, 57, 57, 55, 57, 50, 52, 53, 56]⟩), (.string ⟨#[49]⟩)]), (.agg #[(.string ⟨#[49]⟩), (.string ⟨#[49]⟩)])], .flat (.tuple #[(.agg #[(.string ⟨#[50, 57, 57, 55, 57, 50, 52, 53, 56]⟩), (.string ⟨#[49]⟩)]), (.int .i64 0)])⟩
def lK78 : List Entry := []
theorem lK78_ok : ∀ e ∈ lK78, EntryOK Try.prog e := fun _ h => by cases h
theorem k78 : EntryOK Try.prog e78 := known_run tabK42_ok lK78_ok (fuel := 100000) (n := 60) (by kernel_rfl) (by kernel_rfl)
/-- cubit/rat.Mul -/
def e79 : Entry := ⟨42, [(.agg #[(.string ⟨#[48]⟩), (.string ⟨#[49]⟩)]), (.agg #[(.string ⟨#[49]⟩), (.string ⟨#[49]⟩)])], .flat (.tuple #[(.agg #[(.string ⟨#[48]⟩), (.string ⟨#[49]⟩)]), (.int .i64 0)])⟩
def lK79 : List Entry := []
theorem lK79_ok : ∀ e ∈ lK79, EntryOK Try.prog e := fun _ h => by cases h
theorem k79 : EntryOK Try.prog e79 := known_run tabK42_ok lK79_ok (fuel := 100000) (n := 60) (by kernel_rfl) (by kernel_rfl)
end Go.Proofs.Ytemgddekbdifeaa.Am
