/- What some calls come to. -/
import Derived.Test.YtemgddekbdifeaaKe10
import Derived.KernelRfl
set_option maxRecDepth 1000000
namespace Go.Proofs.Ytemgddekbdifeaa.Am
/-- cubit/rat.Of -/
def e88 : Entry := ⟨40, [(.int .i64 1068117756)], .flat (.agg #[(.string ⟨#[49, 48, 54, 56, 49, 49, 55, 55, 53, 54]⟩), (.string ⟨#[49]⟩)])⟩
def lK88 : List Entry := []
theorem lK88_ok : ∀ e ∈ lK88, EntryOK Try.prog e := fun _ h => by cases h
theorem k88 : EntryOK Try.prog e88 := known_run tabK40_ok lK88_ok (fuel := 100000) (n := 60) (by kernel_rfl) (by kernel_rfl)
/-- cubit/rat.Of -/
def e89 : Entry := ⟨40, [(.int .i64 220869005)], .flat (.agg #[(.string ⟨#[50, 50, 48, 56, 54, 57, 48, 48, 53]⟩), (.string ⟨#[49]⟩)])⟩
def lK89 : List Entry := []
theorem lK89_ok : ∀ e ∈ lK89, EntryOK Try.prog e := fun _ h => by cases h
theorem k89 : EntryOK Try.prog e89 := known_run tabK40_ok lK89_ok (fuel := 100000) (n := 60) (by kernel_rfl) (by kernel_rfl)
/-- cubit/rat.Quo -/
def e90 : Entry := ⟨41, [(.agg #[(.string ⟨#[49, 48, 54, 56, 49, 49, 55, 55, 53, 54]⟩), (.string ⟨#[49]⟩)]), (.agg #[(.string ⟨#[50, 50, 48, 56, 54, 57, 48, 48, 53]⟩), (.string ⟨#[49]⟩)])], .flat (.tuple #[(.agg #[(.string ⟨#[49, 48, 54, 56, 49, 49, 55, 55, 53, 54]⟩), (.string ⟨#[50, 50, 48, 56, 54, 57, 48, 48, 53]⟩)]), (.int .i64 0)])⟩
def lK90 : List Entry := []
theorem lK90_ok : ∀ e ∈ lK90, EntryOK Try.prog e := fun _ h => by cases h
theorem k90 : EntryOK Try.prog e90 := known_run tabK41_ok lK90_ok (fuel := 100000) (n := 60) (by kernel_rfl) (by kernel_rfl)
/-- cubit/rat.Mul -/
def e91 : Entry := ⟨42, [(.agg #[(.string ⟨#[49, 48, 54, 56, 49, 49, 55, 55, 53, 54]⟩), (.string ⟨#[50, 50, 48, 56, 54, 57, 48, 48, 53]⟩)]), (.agg #[(.string ⟨#[49, 48, 48, 48, 48, 48, 48, 48, 48, 48, 48, 48, 48, 48, 48]⟩), (.string ⟨#[49]⟩)])], .flat (.tuple #[(.agg #[(.string ⟨#[50, 49, 51, 54, 50, 51, 53, 53, 49, 50, 48, 48, 48, 48, 48, 48, 48, 48, 48, 48, 48, 48, 48]⟩), (.string ⟨#[52, 52, 49, 55, 51, 56, 48, 49]⟩)]), (.int .i64 0)])⟩
def lK91 : List Entry := []
theorem lK91_ok : ∀ e ∈ lK91, EntryOK Try.prog e := fun _ h => by cases h
theorem k91 : EntryOK Try.prog e91 := known_run tabK42_ok lK91_ok (fuel := 100000) (n := 60) (by kernel_rfl) (by kernel_rfl)
/-- cubit/rat.Mul -/
def e92 : Entry := ⟨42, [(.agg #[(.string ⟨#[48]⟩), (.string ⟨#[49]⟩)]), (.agg #[(.string ⟨#[49, 48, 48, 48, 48, 48, 48, 48, 48, 48, 48, 48, 48, 48, 48]⟩), (.string ⟨#[49]⟩)])], .flat (.tuple #[(.agg #[(.string ⟨#[48]⟩), (.string ⟨#[49]⟩)]), (.int .i64 0)])⟩
def lK92 : List Entry := []
theorem lK92_ok : ∀ e ∈ lK92, EntryOK Try.prog e := fun _ h => by cases h
theorem k92 : EntryOK Try.prog e92 := known_run tabK42_ok lK92_ok (fuel := 100000) (n := 60) (by kernel_rfl) (by kernel_rfl)
def tabK27 : List (Nat × AFn) := [(27, F27), (43, F43), (45, F45), (71, F71)]
theorem tabK27_ok : ∀ p ∈ tabK27, FnOK Try.prog p := by
  unfold tabK27
  simp only [List.forall_mem_cons]
  exact ⟨ok27, ok43, ok45, ok71, fun _ h => by cases h⟩
/-- cubit/nature.klitzingMade -/
def e93 : Entry := ⟨27, [], .flat (.agg #[(.int .i64 220869005), (.int .i64 855656655511856652), (.int .i64 14), (.int .i64 0)])⟩
def lK93 : List Entry := [e42, e80]
theorem lK93_ok : ∀ e ∈ lK93, EntryOK Try.prog e := by
  unfold lK93
  simp only [List.forall_mem_cons]
  exact ⟨k42, k80, fun _ h => by cases h⟩
theorem k93 : EntryOK Try.prog e93 := known_run tabK27_ok lK93_ok (fuel := 100000) (n := 60) (by kernel_rfl) (by kernel_rfl)
/-- cubit/rat.Of -/
def e94 : Entry := ⟨40, [(.int .i64 855656655511856652)], .flat (.agg #[(.string ⟨#[56, 53, 53, 54, 53, 54, 54, 53, 53, 53, 49, 49, 56, 53, 54, 54, 53, 50]⟩), (.string ⟨#[49]⟩)])⟩
def lK94 : List Entry := []
theorem lK94_ok : ∀ e ∈ lK94, EntryOK Try.prog e := fun _ h => by cases h
theorem k94 : EntryOK Try.prog e94 := known_run tabK40_ok lK94_ok (fuel := 100000) (n := 60) (by kernel_rfl) (by kernel_rfl)
/-- cubit/rat.Quo -/
def e95 : Entry := ⟨41, [(.agg #[(.string ⟨#[50, 50, 48, 56, 54, 57, 48, 48, 53]⟩), (.string ⟨#[49]⟩)]), (.agg #[(.string ⟨#[56, 53, 53, 54, 53, 54, 54, 53, 53, 53, 49, 49, 56, 53, 54, 54, 53, 50]⟩), (.string ⟨#[49]⟩)])], .flat (.tuple #[(.agg #[(.string ⟨#[50, 50, 48, 56, 54, 57, 48, 48, 53]⟩), (.string ⟨#[56, 53, 53, 54, 53, 54, 54, 53, 53, 53, 49, 49, 56, 53, 54, 54, 53, 50]⟩)]), (.int .i64 0)])⟩
def lK95 : List Entry := []
theorem lK95_ok : ∀ e ∈ lK95, EntryOK Try.prog e := fun _ h => by cases h
theorem k95 : EntryOK Try.prog e95 := known_run tabK41_ok lK95_ok (fuel := 100000) (n := 60) (by kernel_rfl) (by kernel_rfl)
end Go.Proofs.Ytemgddekbdifeaa.Am
