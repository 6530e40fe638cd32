/- What some calls come to. -/
import Derived.Test.YtemgddekbdifeaaKe3
import Derived.KernelRfl
set_option maxRecDepth 1000000
namespace Go.Proofs.Ytemgddekbdifeaa.Am
/-- cubit/rat.Of -/
def e32 : Entry := ⟨40, [(.int .i64 1380649)], .flat (.agg #[(.string ⟨#[49, 51, 56, 48, 54, 52, 57]⟩), (.string ⟨#[49]⟩)])⟩
def lK32 : List Entry := []
theorem lK32_ok : ∀ e ∈ lK32, EntryOK Try.prog e := fun _ h => by cases h
theorem k32 : EntryOK Try.prog e32 := known_run tabK40_ok lK32_ok (fuel := 100000) (n := 60) (by kernel_rfl) (by kernel_rfl)
/-- cubit/rat.Quo -/
def e33 : Entry := ⟨41, [(.agg #[(.string ⟨#[49, 51, 56, 48, 54, 52, 57]⟩), (.string ⟨#[49]⟩)]), (.agg #[(.string ⟨#[49]⟩), (.string ⟨#[49]⟩)])], .flat (.tuple #[(.agg #[(.string ⟨#[49, 51, 56, 48, 54, 52, 57]⟩), (.string ⟨#[49]⟩)]), (.int .i64 0)])⟩
def lK33 : List Entry := []
theorem lK33_ok : ∀ e ∈ lK33, EntryOK Try.prog e := fun _ h => by cases h
theorem k33 : EntryOK Try.prog e33 := known_run tabK41_ok lK33_ok (fuel := 100000) (n := 60) (by kernel_rfl) (by kernel_rfl)
/-- cubit/rat.Mul -/
def e34 : Entry := ⟨42, [(.agg #[(.string ⟨#[49, 51, 56, 48, 54, 52, 57]⟩), (.string ⟨#[49]⟩)]), (.agg #[(.string ⟨#[49]⟩), (.string ⟨#[49, 48, 48, 48, 48, 48, 48, 48, 48, 48, 48, 48, 48, 48, 48, 48, 48, 48, 48, 48, 48, 48, 48, 48, 48, 48, 48, 48, 48, 48]⟩)])], .flat (.tuple #[(.agg #[(.string ⟨#[49, 51, 56, 48, 54, 52, 57]⟩), (.string ⟨#[49, 48, 48, 48, 48, 48, 48, 48, 48, 48, 48, 48, 48, 48, 48, 48, 48, 48, 48, 48, 48, 48, 48, 48, 48, 48, 48, 48, 48, 48]⟩)]), (.int .i64 0)])⟩
def lK34 : List Entry := []
theorem lK34_ok : ∀ e ∈ lK34, EntryOK Try.prog e := fun _ h => by cases h
theorem k34 : EntryOK Try.prog e34 := known_run tabK42_ok lK34_ok (fuel := 100000) (n := 60) (by kernel_rfl) (by kernel_rfl)
/-- cubit/rat.Mul -/
def e35 : Entry := ⟨42, [(.agg #[(.string ⟨#[48]⟩), (.string ⟨#[49]⟩)]), (.agg #[(.string ⟨#[49]⟩), (.string ⟨#[49, 48, 48, 48, 48, 48, 48, 48, 48, 48, 48, 48, 48, 48, 48, 48, 48, 48, 48, 48, 48, 48, 48, 48, 48, 48, 48, 48, 48, 48]⟩)])], .flat (.tuple #[(.agg #[(.string ⟨#[48]⟩), (.string ⟨#[49]⟩)]), (.int .i64 0)])⟩
def lK35 : List Entry := []
theorem lK35_ok : ∀ e ∈ lK35, EntryOK Try.prog e := fun _ h => by cases h
theorem k35 : EntryOK Try.prog e35 := known_run tabK42_ok lK35_ok (fuel := 100000) (n := 60) (by kernel_rfl) (by kernel_rfl)
def tabK18 : List (Nat × AFn) := [(18, F18), (43, F43), (71, F71)]
theorem tabK18_ok : ∀ p ∈ tabK18, FnOK Try.prog p := by
  unfold tabK18
  simp only [List.forall_mem_cons]
  exact ⟨ok18, ok43, ok71, fun _ h => by cases h⟩
/-- cubit/nature.gasMade -/
def e36 : Entry := ⟨18, [], .flat (.agg #[(.int .i64 831446261815324), (.int .i64 1), (.int .i64 (-14)), (.int .i64 0)])⟩
def lK36 : List Entry := [e23, e30]
theorem lK36_ok : ∀ e ∈ lK36, EntryOK Try.prog e := by
  unfold lK36
  simp only [List.forall_mem_cons]
  exact ⟨k23, k30, fun _ h => by cases h⟩
theorem k36 : EntryOK Try.prog e36 := known_run tabK18_ok lK36_ok (fuel := 100000) (n := 60) (by kernel_rfl) (by kernel_rfl)
/-- cubit/rat.Pow -/
def e37 : Entry := ⟨39, [(.agg #[(.string ⟨#[49, 48]⟩), (.string ⟨#[49]⟩)]), (.int .i64 (-14))], .flat (.tuple #[(.agg #[(.string ⟨#[49]⟩), (.string ⟨#[49, 48, 48, 48, 48, 48, 48, 48, 48, 48, 48, 48, 48, 48, 48]⟩)]), (.int .i64 0)])⟩
def lK37 : List Entry := []
theorem lK37_ok : ∀ e ∈ lK37, EntryOK Try.prog e := fun _ h => by cases h
theorem k37 : EntryOK Try.prog e37 := known_run tabK39_ok lK37_ok (fuel := 100000) (n := 60) (by kernel_rfl) (by kernel_rfl)
/-- cubit/rat.Of -/
def e38 : Entry := ⟨40, [(.int .i64 831446261815324)], .flat (.agg #[(.string ⟨#[56, 51, 49, 52, 52, 54, 50, 54, 49, 56, 49, 53, 51, 50, 52]⟩), (.string ⟨#[49]⟩)])⟩
def lK38 : List Entry := []
theorem lK38_ok : ∀ e ∈ lK38, EntryOK Try.prog e := fun _ h => by cases h
theorem k38 : EntryOK Try.prog e38 := known_run tabK40_ok lK38_ok (fuel := 100000) (n := 60) (by kernel_rfl) (by kernel_rfl)
/-- cubit/rat.Quo -/
def e39 : Entry := ⟨41, [(.agg #[(.string ⟨#[56, 51, 49, 52, 52, 54, 50, 54, 49, 56, 49, 53, 51, 50, 52]⟩), (.string ⟨#[49]⟩)]), (.agg #[(.string ⟨#[49]⟩), (.string ⟨#[49]⟩)])], .flat (.tuple #[(.agg #[(.string ⟨#[56, 51, 49, 52, 52, 54, 50, 54, 49, 56, 49, 53, 51, 50, 52]⟩), (.string ⟨#[49]⟩)]), (.int .i64 0)])⟩
def lK39 : List Entry := []
theorem lK39_ok : ∀ e ∈ lK39, EntryOK Try.prog e := fun _ h => by cases h
theorem k39 : EntryOK Try.prog e39 := known_run tabK41_ok lK39_ok (fuel := 100000) (n := 60) (by kernel_rfl) (by kernel_rfl)
end Go.Proofs.Ytemgddekbdifeaa.Am
