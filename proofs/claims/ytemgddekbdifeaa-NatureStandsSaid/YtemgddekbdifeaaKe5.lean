/- What some calls come to. -/
import Derived.Test.YtemgddekbdifeaaKe4
import Derived.KernelRfl
set_option maxRecDepth 1000000
namespace Go.Proofs.Ytemgddekbdifeaa.Am
/-- cubit/rat.Mul -/
def e40 : Entry := ⟨42, [(.agg #[(.string ⟨#[56, 51, 49, 52, 52, 54, 50, 54, 49, 56, 49, 53, 51, 50, 52]⟩), (.string ⟨#[49]⟩)]), (.agg #[(.string ⟨#[49]⟩), (.string ⟨#[49, 48, 48, 48, 48, 48, 48, 48, 48, 48, 48, 48, 48, 48, 48]⟩)])], .flat (.tuple #[(.agg #[(.string ⟨#[50, 48, 55, 56, 54, 49, 53, 54, 53, 52, 53, 51, 56, 51, 49]⟩), (.string ⟨#[50, 53, 48, 48, 48, 48, 48, 48, 48, 48, 48, 48, 48, 48]⟩)]), (.int .i64 0)])⟩
def lK40 : List Entry := []
theorem lK40_ok : ∀ e ∈ lK40, EntryOK Try.prog e := fun _ h => by cases h
theorem k40 : EntryOK Try.prog e40 := known_run tabK42_ok lK40_ok (fuel := 100000) (n := 60) (by kernel_rfl) (by kernel_rfl)
/-- cubit/rat.Mul -/
def e41 : Entry := ⟨42, [(.agg #[(.string ⟨#[48]⟩), (.string ⟨#[49]⟩)]), (.agg #[(.string ⟨#[49]⟩), (.string ⟨#[49, 48, 48, 48, 48, 48, 48, 48, 48, 48, 48, 48, 48, 48, 48]⟩)])], .flat (.tuple #[(.agg #[(.string ⟨#[48]⟩), (.string ⟨#[49]⟩)]), (.int .i64 0)])⟩
def lK41 : List Entry := []
theorem lK41_ok : ∀ e ∈ lK41, EntryOK Try.prog e := fun _ h => by cases h
theorem k41 : EntryOK Try.prog e41 := known_run tabK42_ok lK41_ok (fuel := 100000) (n := 60) (by kernel_rfl) (by kernel_rfl)
def tabK19 : List (Nat × AFn) := [(19, F19)]
theorem tabK19_ok : ∀ p ∈ tabK19, FnOK Try.prog p := by
  unfold tabK19
  simp only [List.forall_mem_cons]
  exact ⟨ok19, fun _ h => by cases h⟩
/-- cubit/nature.chargeMade -/
def e42 : Entry := ⟨19, [], .flat (.agg #[(.int .i64 1602176634), (.int .i64 1), (.int .i64 (-28)), (.int .i64 0)])⟩
def lK42 : List Entry := []
theorem lK42_ok : ∀ e ∈ lK42, EntryOK Try.prog e := fun _ h => by cases h
theorem k42 : EntryOK Try.prog e42 := known_run tabK19_ok lK42_ok (fuel := 100000) (n := 60) (by kernel_rfl) (by kernel_rfl)
/-- cubit/rat.Pow -/
def e43 : Entry := ⟨39, [(.agg #[(.string ⟨#[49, 48]⟩), (.string ⟨#[49]⟩)]), (.int .i64 (-28))], .flat (.tuple #[(.agg #[(.string ⟨#[49]⟩), (.string ⟨#[49, 48, 48, 48, 48, 48, 48, 48, 48, 48, 48, 48, 48, 48, 48, 48, 48, 48, 48, 48, 48, 48, 48, 48, 48, 48, 48, 48, 48]⟩)]), (.int .i64 0)])⟩
def lK43 : List Entry := []
theorem lK43_ok : ∀ e ∈ lK43, EntryOK Try.prog e := fun _ h => by cases h
theorem k43 : EntryOK Try.prog e43 := known_run tabK39_ok lK43_ok (fuel := 100000) (n := 60) (by kernel_rfl) (by kernel_rfl)
/-- cubit/rat.Of -/
def e44 : Entry := ⟨40, [(.int .i64 1602176634)], .flat (.agg #[(.string ⟨#[49, 54, 48, 50, 49, 55, 54, 54, 51, 52]⟩), (.string ⟨#[49]⟩)])⟩
def lK44 : List Entry := []
theorem lK44_ok : ∀ e ∈ lK44, EntryOK Try.prog e := fun _ h => by cases h
theorem k44 : EntryOK Try.prog e44 := known_run tabK40_ok lK44_ok (fuel := 100000) (n := 60) (by kernel_rfl) (by kernel_rfl)
/-- cubit/rat.Quo -/
def e45 : Entry := ⟨41, [(.agg #[(.string ⟨#[49, 54, 48, 50, 49, 55, 54, 54, 51, 52]⟩), (.string ⟨#[49]⟩)]), (.agg #[(.string ⟨#[49]⟩), (.string ⟨#[49]⟩)])], .flat (.tuple #[(.agg #[(.string ⟨#[49, 54, 48, 50, 49, 55, 54, 54, 51, 52]⟩), (.string ⟨#[49]⟩)]), (.int .i64 0)])⟩
def lK45 : List Entry := []
theorem lK45_ok : ∀ e ∈ lK45, EntryOK Try.prog e := fun _ h => by cases h
theorem k45 : EntryOK Try.prog e45 := known_run tabK41_ok lK45_ok (fuel := 100000) (n := 60) (by kernel_rfl) (by kernel_rfl)
/-- cubit/rat.Mul -/
def e46 : Entry := ⟨42, [(.agg #[(.string ⟨#[49, 54, 48, 50, 49, 55, 54, 54, 51, 52]⟩), (.string ⟨#[49]⟩)]), (.agg #[(.string ⟨#[49]⟩), (.string ⟨#[49, 48, 48, 48, 48, 48, 48, 48, 48, 48, 48, 48, 48, 48, 48, 48, 48, 48, 48, 48, 48, 48, 48, 48, 48, 48, 48, 48, 48]⟩)])], .flat (.tuple #[(.agg #[(.string ⟨#[56, 48, 49, 48, 56, 56, 51, 49, 55]⟩), (.string ⟨#[53, 48, 48, 48, 48, 48, 48, 48, 48, 48, 48, 48, 48, 48, 48, 48, 48, 48, 48, 48, 48, 48, 48, 48, 48, 48, 48, 48]⟩)]), (.int .i64 0)])⟩
def lK46 : List Entry := []
theorem lK46_ok : ∀ e ∈ lK46, EntryOK Try.prog e := fun _ h => by cases h
theorem k46 : EntryOK Try.prog e46 := known_run tabK42_ok lK46_ok (fuel := 100000) (n := 60) (by kernel_rfl) (by kernel_rfl)
/-- cubit/rat.Mul -/
def e47 : Entry := ⟨42, [(.agg #[(.string ⟨#[48]⟩), (.string ⟨#[49]⟩)]), (.agg #[(.string ⟨#[49]⟩), (.string ⟨#[49, 48, 48, 48, 48, 48, 48, 48, 48, 48, 48, 48, 48, 48, 48, 48, 48, 48, 48, 48, 48, 48, 48, 48, 48, 48, 48, 48, 48]⟩)])], .flat (.tuple #[(.agg #[(.string ⟨#[48]⟩), (.string ⟨#[49]⟩)]), (.int .i64 0)])⟩
def lK47 : List Entry := []
theorem lK47_ok : ∀ e ∈ lK47, EntryOK Try.prog e := fun _ h => by cases h
theorem k47 : EntryOK Try.prog e47 := known_run tabK42_ok lK47_ok (fuel := 100000) (n := 60) (by kernel_rfl) (by kernel_rfl)
end Go.Proofs.Ytemgddekbdifeaa.Am
