/- What some calls come to. -/
import Derived.Test.YtemgddekbdifeaaKe11
import Derived.KernelRfl
set_option maxRecDepth 1000000
namespace Go.Proofs.Ytemgddekbdifeaa.Am
/-- cubit/rat.Mul -/
def e96 : Entry := ⟨42, [(.agg #[(.string ⟨#[50, 50, 48, 56, 54, 57, 48, 48, 53]⟩), (.string ⟨#[56, 53, 53, 54, 53, 54, 54, 53, 53, 53, 49, 49, 56, 53, 54, 54, 53, 50]⟩)]), (.agg #[(.string ⟨#[49, 48, 48, 48, 48, 48, 48, 48, 48, 48, 48, 48, 48, 48, 48]⟩), (.string ⟨#[49]⟩)])], .flat (.tuple #[(.agg #[(.string ⟨#[53, 53, 50, 49, 55, 50, 53, 49, 50, 53, 48, 48, 48, 48, 48, 48, 48, 48, 48, 48, 48, 48]⟩), (.string ⟨#[50, 49, 51, 57, 49, 52, 49, 54, 51, 56, 55, 55, 57, 54, 52, 49, 54, 51]⟩)]), (.int .i64 0)])⟩
def lK96 : List Entry := []
theorem lK96_ok : ∀ e ∈ lK96, EntryOK Try.prog e := fun _ h => by cases h
theorem k96 : EntryOK Try.prog e96 := known_run tabK42_ok lK96_ok (fuel := 100000) (n := 60) (by kernel_rfl) (by kernel_rfl)
def tabK28 : List (Nat × AFn) := [(28, F28)]
theorem tabK28_ok : ∀ p ∈ tabK28, FnOK Try.prog p := by
  unfold tabK28
  simp only [List.forall_mem_cons]
  exact ⟨ok28, fun _ h => by cases h⟩
/-- cubit/nature.protonMade -/
def e97 : Entry := ⟨28, [], .flat (.agg #[(.int .i64 167262192369), (.int .i64 1), (.int .i64 (-38)), (.int .i64 51)])⟩
def lK97 : List Entry := []
theorem lK97_ok : ∀ e ∈ lK97, EntryOK Try.prog e := fun _ h => by cases h
theorem k97 : EntryOK Try.prog e97 := known_run tabK28_ok lK97_ok (fuel := 100000) (n := 60) (by kernel_rfl) (by kernel_rfl)
/-- cubit/rat.Pow -/
def e98 : Entry := ⟨39, [(.agg #[(.string ⟨#[49, 48]⟩), (.string ⟨#[49]⟩)]), (.int .i64 (-38))], .flat (.tuple #[(.agg #[(.string ⟨#[49]⟩), (.string ⟨#[49, 48, 48, 48, 48, 48, 48, 48, 48, 48, 48, 48, 48, 48, 48, 48, 48, 48, 48, 48, 48, 48, 48, 48, 48, 48, 48, 48, 48, 48, 48, 48, 48, 48, 48, 48, 48, 48, 48]⟩)]), (.int .i64 0)])⟩
def lK98 : List Entry := []
theorem lK98_ok : ∀ e ∈ lK98, EntryOK Try.prog e := fun _ h => by cases h
theorem k98 : EntryOK Try.prog e98 := known_run tabK39_ok lK98_ok (fuel := 100000) (n := 60) (by kernel_rfl) (by kernel_rfl)
/-- cubit/rat.Of -/
def e99 : Entry := ⟨40, [(.int .i64 167262192369)], .flat (.agg #[(.string ⟨#[49, 54, 55, 50, 54, 50, 49, 57, 50, 51, 54, 57]⟩), (.string ⟨#[49]⟩)])⟩
def lK99 : List Entry := []
theorem lK99_ok : ∀ e ∈ lK99, EntryOK Try.prog e := fun _ h => by cases h
theorem k99 : EntryOK Try.prog e99 := known_run tabK40_ok lK99_ok (fuel := 100000) (n := 60) (by kernel_rfl) (by kernel_rfl)
/-- cubit/rat.Quo -/
def e100 : Entry := ⟨41, [(.agg #[(.string ⟨#[49, 54, 55, 50, 54, 50, 49, 57, 50, 51, 54, 57]⟩), (.string ⟨#[49]⟩)]), (.agg #[(.string ⟨#[49]⟩), (.string ⟨#[49]⟩)])], .flat (.tuple #[(.agg #[(.string ⟨#[49, 54, 55, 50, 54, 50, 49, 57, 50, 51, 54, 57]⟩), (.string ⟨#[49]⟩)]), (.int .i64 0)])⟩
def lK100 : List Entry := []
theorem lK100_ok : ∀ e ∈ lK100, EntryOK Try.prog e := fun _ h => by cases h
theorem k100 : EntryOK Try.prog e100 := known_run tabK41_ok lK100_ok (fuel := 100000) (n := 60) (by kernel_rfl) (by kernel_rfl)
/-- cubit/rat.Mul -/
def e101 : Entry := ⟨42, [(.agg #[(.string ⟨#[49, 54, 55, 50, 54, 50, 49, 57, 50, 51, 54, 57]⟩), (.string ⟨#[49]⟩)]), (.agg #[(.string ⟨#[49]⟩), (.string ⟨#[49, 48, 48, 48, 48, 48, 48, 48, 48, 48, 48, 48, 48, 48, 48, 48, 48, 48, 48, 48, 48, 48, 48, 48, 48, 48, 48, 48, 48, 48, 48, 48, 48, 48, 48, 48, 48, 48, 48]⟩)])], .flat (.tuple #[(.agg #[(.string ⟨#[49, 54, 55, 50, 54, 50, 49, 57, 50, 51, 54, 57]⟩), (.string ⟨#[49, 48, 48, 48, 48, 48, 48, 48, 48, 48, 48, 48, 48, 48, 48, 48, 48, 48, 48, 48, 48, 48, 48, 48, 48, 48, 48, 48, 48, 48, 48, 48, 48, 48, 48, 48, 48, 48, 48]⟩)]), (.int .i64 0)])⟩
def lK101 : List Entry := []
theorem lK101_ok : ∀ e ∈ lK101, EntryOK Try.prog e := fun _ h => by cases h
theorem k101 : EntryOK Try.prog e101 := known_run tabK42_ok lK101_ok (fuel := 100000) (n := 60) (by kernel_rfl) (by kernel_rfl)
/-- cubit/rat.Of -/
def e102 : Entry := ⟨40, [(.int .i64 51)], .flat (.agg #[(.string ⟨#[53, 49]⟩), (.string ⟨#[49]⟩)])⟩
def lK102 : List Entry := []
theorem lK102_ok : ∀ e ∈ lK102, EntryOK Try.prog e := fun _ h => by cases h
theorem k102 : EntryOK Try.prog e102 := known_run tabK40_ok lK102_ok (fuel := 100000) (n := 60) (by kernel_rfl) (by kernel_rfl)
/-- cubit/rat.Mul -/
def e103 : Entry := ⟨42, [(.agg #[(.string ⟨#[53, 49]⟩), (.string ⟨#[49]⟩)]), (.agg #[(.string ⟨#[49]⟩), (.string ⟨#[49, 48, 48, 48, 48, 48, 48, 48, 48, 48, 48, 48, 48, 48, 48, 48, 48, 48, 48, 48, 48, 48, 48, 48, 48, 48, 48, 48, 48, 48, 48, 48, 48, 48, 48, 48, 48, 48, 48]⟩)])], .flat (.tuple #[(.agg #[(.string ⟨#[53, 49]⟩), (.string ⟨#[49, 48, 48, 48, 48, 48, 48, 48, 48, 48, 48, 48, 48, 48, 48, 48, 48, 48, 48, 48, 48, 48, 48, 48, 48, 48, 48, 48, 48, 48, 48, 48, 48, 48, 48, 48, 48, 48, 48]⟩)]), (.int .i64 0)])⟩
def lK103 : List Entry := []
theorem lK103_ok : ∀ e ∈ lK103, EntryOK Try.prog e := fun _ h => by cases h
theorem k103 : EntryOK Try.prog e103 := known_run tabK42_ok lK103_ok (fuel := 100000) (n := 60) (by kernel_rfl) (by kernel_rfl)
end Go.Proofs.Ytemgddekbdifeaa.Am
