/- What some calls come to. -/
import Derived.Test.YtemgddekbdifeaaKe9
import Derived.KernelRfl
set_option maxRecDepth 1000000
namespace Go.Proofs.Ytemgddekbdifeaa.Am
def tabK25 : List (Nat × AFn) := [(25, F25)]
theorem tabK25_ok : ∀ p ∈ tabK25, FnOK Try.prog p := by
  unfold tabK25
  simp only [List.forall_mem_cons]
  exact ⟨ok25, fun _ h => by cases h⟩
/-- cubit/nature.planckMade -/
def e80 : Entry := ⟨25, [], .flat (.agg #[(.int .i64 662607015), (.int .i64 1), (.int .i64 (-42)), (.int .i64 0)])⟩
def lK80 : List Entry := []
theorem lK80_ok : ∀ e ∈ lK80, EntryOK Try.prog e := fun _ h => by cases h
theorem k80 : EntryOK Try.prog e80 := known_run tabK25_ok lK80_ok (fuel := 100000) (n := 60) (by kernel_rfl) (by kernel_rfl)
/-- cubit/rat.Pow -/
def e81 : Entry := ⟨39, [(.agg #[(.string ⟨#[49, 48]⟩), (.string ⟨#[49]⟩)]), (.int .i64 (-42))], .flat (.tuple #[(.agg #[(.string ⟨#[49]⟩), (.string ⟨#[49, 48, 48, 48, 48, 48, 48, 48, 48, 48, 48, 48, 48, 48, 48, 48, 48, 48, 48, 48, 48, 48, 48, 48, 48, 48, 48, 48, 48, 48, 48, 48, 48, 48, 48, 48, 48, 48, 48, 48, 48, 48, 48]⟩)]), (.int .i64 0)])⟩
def lK81 : List Entry := []
theorem lK81_ok : ∀ e ∈ lK81, EntryOK Try.prog e := fun _ h => by cases h
theorem k81 : EntryOK Try.prog e81 := known_run tabK39_ok lK81_ok (fuel := 100000) (n := 60) (by kernel_rfl) (by kernel_rfl)
/-- cubit/rat.Of -/
def e82 : Entry := ⟨40, [(.int .i64 662607015)], .flat (.agg #[(.string ⟨#[54, 54, 50, 54, 48, 55, 48, 49, 53]⟩), (.string ⟨#[49]⟩)])⟩
def lK82 : List Entry := []
theorem lK82_ok : ∀ e ∈ lK82, EntryOK Try.prog e := fun _ h => by cases h
theorem k82 : EntryOK Try.prog e82 := known_run tabK40_ok lK82_ok (fuel := 100000) (n := 60) (by kernel_rfl) (by kernel_rfl)
/-- cubit/rat.Quo -/
def e83 : Entry := ⟨41, [(.agg #[(.string ⟨#[54, 54, 50, 54, 48, 55, 48, 49, 53]⟩), (.string ⟨#[49]⟩)]), (.agg #[(.string ⟨#[49]⟩), (.string ⟨#[49]⟩)])], .flat (.tuple #[(.agg #[(.string ⟨#[54, 54, 50, 54, 48, 55, 48, 49, 53]⟩), (.string ⟨#[49]⟩)]), (.int .i64 0)])⟩
def lK83 : List Entry := []
theorem lK83_ok : ∀ e ∈ lK83, EntryOK Try.prog e := fun _ h => by cases h
theorem k83 : EntryOK Try.prog e83 := known_run tabK41_ok lK83_ok (fuel := 100000) (n := 60) (by kernel_rfl) (by kernel_rfl)
/-- cubit/rat.Mul -/
def e84 : Entry := ⟨42, [(.agg #[(.string ⟨#[54, 54, 50, 54, 48, 55, 48, 49, 53]⟩), (.string ⟨#[49]⟩)]), (.agg #[(.string ⟨#[49]⟩), (.string ⟨#[49, 48, 48, 48, 48, 48, 48, 48, 48, 48, 48, 48, 48, 48, 48, 48, 48, 48, 48, 48, 48, 48, 48, 48, 48, 48, 48, 48, 48, 48, 48, 48, 48, 48, 48, 48, 48, 48, 48, 48, 48, 48, 48]⟩)])], .flat (.tuple #[(.agg #[(.string ⟨#[49, 51, 50, 53, 50, 49, 52, 48, 51]⟩), (.string ⟨#[50, 48, 48, 48, 48, 48, 48, 48, 48, 48, 48, 48, 48, 48, 48, 48, 48, 48, 48, 48, 48, 48, 48, 48, 48, 48, 48, 48, 48, 48, 48, 48, 48, 48, 48, 48, 48, 48, 48, 48, 48, 48]⟩)]), (.int .i64 0)])⟩
def lK84 : List Entry := []
theorem lK84_ok : ∀ e ∈ lK84, EntryOK Try.prog e := fun _ h => by cases h
theorem k84 : EntryOK Try.prog e84 := known_run tabK42_ok lK84_ok (fuel := 100000) (n := 60) (by kernel_rfl) (by kernel_rfl)
/-- cubit/rat.Mul -/
def e85 : Entry := ⟨42, [(.agg #[(.string ⟨#[48]⟩), (.string ⟨#[49]⟩)]), (.agg #[(.string ⟨#[49]⟩), (.string ⟨#[49, 48, 48, 48, 48, 48, 48, 48, 48, 48, 48, 48, 48, 48, 48, 48, 48, 48, 48, 48, 48, 48, 48, 48, 48, 48, 48, 48, 48, 48, 48, 48, 48, 48, 48, 48, 48, 48, 48, 48, 48, 48, 48]⟩)])], .flat (.tuple #[(.agg #[(.string ⟨#[48]⟩), (.string ⟨#[49]⟩)]), (.int .i64 0)])⟩
def lK85 : List Entry := []
theorem lK85_ok : ∀ e ∈ lK85, EntryOK Try.prog e := fun _ h => by cases h
theorem k85 : EntryOK Try.prog e85 := known_run tabK42_ok lK85_ok (fuel := 100000) (n := 60) (by kernel_rfl) (by kernel_rfl)
def tabK26 : List (Nat × AFn) := [(26, F26), (43, F43), (44, F44), (45, F45), (71, F71)]
theorem tabK26_ok : ∀ p ∈ tabK26, FnOK Try.prog p := by
  unfold tabK26
  simp only [List.forall_mem_cons]
  exact ⟨ok26, ok43, ok44, ok45, ok71, fun _ h => by cases h⟩
/-- cubit/nature.josephsonMade -/
def e86 : Entry := ⟨26, [], .flat (.agg #[(.int .i64 1068117756), (.int .i64 220869005), (.int .i64 14), (.int .i64 0)])⟩
def lK86 : List Entry := [e42, e80]
theorem lK86_ok : ∀ e ∈ lK86, EntryOK Try.prog e := by
  unfold lK86
  simp only [List.forall_mem_cons]
  exact ⟨k42, k80, fun _ h => by cases h⟩
theorem k86 : EntryOK Try.prog e86 := known_run tabK26_ok lK86_ok (fuel := 100000) (n := 60) (by kernel_rfl) (by kernel_rfl)
/-- cubit/rat.Pow -/
def e87 : Entry := ⟨39, [(.agg #[(.string ⟨#[49, 48]⟩), (.string ⟨#[49]⟩)]), (.int .i64 14)], .flat (.tuple #[(.agg #[(.string ⟨#[49, 48, 48, 48, 48, 48, 48, 48, 48, 48, 48, 48, 48, 48, 48]⟩), (.string ⟨#[49]⟩)]), (.int .i64 0)])⟩
def lK87 : List Entry := []
theorem lK87_ok : ∀ e ∈ lK87, EntryOK Try.prog e := fun _ h => by cases h
theorem k87 : EntryOK Try.prog e87 := known_run tabK39_ok lK87_ok (fuel := 100000) (n := 60) (by kernel_rfl) (by kernel_rfl)
end Go.Proofs.Ytemgddekbdifeaa.Am
