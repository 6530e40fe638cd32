/- What some calls come to. -/
import Derived.Test.YtemgddekbdifeaaKe5
import Derived.KernelRfl
set_option maxRecDepth 1000000
namespace Go.Proofs.Ytemgddekbdifeaa.Am
def tabK20 : List (Nat × AFn) := [(20, F20), (43, F43), (71, F71)]
theorem tabK20_ok : ∀ p ∈ tabK20, FnOK Try.prog p := by
  unfold tabK20
  simp only [List.forall_mem_cons]
  exact ⟨ok20, ok43, ok71, fun _ h => by cases h⟩
/-- cubit/nature.faradayMade -/
def e48 : Entry := ⟨20, [], .flat (.agg #[(.int .i64 964853321233100184), (.int .i64 1), (.int .i64 (-13)), (.int .i64 0)])⟩
def lK48 : List Entry := [e23, e42]
theorem lK48_ok : ∀ e ∈ lK48, EntryOK Try.prog e := by
  unfold lK48
  simp only [List.forall_mem_cons]
  exact ⟨k23, k42, fun _ h => by cases h⟩
theorem k48 : EntryOK Try.prog e48 := known_run tabK20_ok lK48_ok (fuel := 100000) (n := 60) (by kernel_rfl) (by kernel_rfl)
/-- cubit/rat.Pow -/
def e49 : Entry := ⟨39, [(.agg #[(.string ⟨#[49, 48]⟩), (.string ⟨#[49]⟩)]), (.int .i64 (-13))], .flat (.tuple #[(.agg #[(.string ⟨#[49]⟩), (.string ⟨#[49, 48, 48, 48, 48, 48, 48, 48, 48, 48, 48, 48, 48, 48]⟩)]), (.int .i64 0)])⟩
def lK49 : List Entry := []
theorem lK49_ok : ∀ e ∈ lK49, EntryOK Try.prog e := fun _ h => by cases h
theorem k49 : EntryOK Try.prog e49 := known_run tabK39_ok lK49_ok (fuel := 100000) (n := 60) (by kernel_rfl) (by kernel_rfl)
/-- cubit/rat.Of -/
def e50 : Entry := ⟨40, [(.int .i64 964853321233100184)], .flat (.agg #[(.string ⟨#[57, 54, 52, 56, 53, 51, 51, 50, 49, 50, 51, 51, 49, 48, 48, 49, 56, 52]⟩), (.string ⟨#[49]⟩)])⟩
def lK50 : List Entry := []
theorem lK50_ok : ∀ e ∈ lK50, EntryOK Try.prog e := fun _ h => by cases h
theorem k50 : EntryOK Try.prog e50 := known_run tabK40_ok lK50_ok (fuel := 100000) (n := 60) (by kernel_rfl) (by kernel_rfl)
/-- cubit/rat.Quo -/
def e51 : Entry := ⟨41, [(.agg #[(.string ⟨#[57, 54, 52, 56, 53, 51, 51, 50, 49, 50, 51, 51, 49, 48, 48, 49, 56, 52]⟩), (.string ⟨#[49]⟩)]), (.agg #[(.string ⟨#[49]⟩), (.string ⟨#[49]⟩)])], .flat (.tuple #[(.agg #[(.string ⟨#[57, 54, 52, 56, 53, 51, 51, 50, 49, 50, 51, 51, 49, 48, 48, 49, 56, 52]⟩), (.string ⟨#[49]⟩)]), (.int .i64 0)])⟩
def lK51 : List Entry := []
theorem lK51_ok : ∀ e ∈ lK51, EntryOK Try.prog e := fun _ h => by cases h
theorem k51 : EntryOK Try.prog e51 := known_run tabK41_ok lK51_ok (fuel := 100000) (n := 60) (by kernel_rfl) (by kernel_rfl)
/-- cubit/rat.Mul -/
def e52 : Entry := ⟨42, [(.agg #[(.string ⟨#[57, 54, 52, 56, 53, 51, 51, 50, 49, 50, 51, 51, 49, 48, 48, 49, 56, 52]⟩), (.string ⟨#[49]⟩)]), (.agg #[(.string ⟨#[49]⟩), (.string ⟨#[49, 48, 48, 48, 48, 48, 48, 48, 48, 48, 48, 48, 48, 48]⟩)])], .flat (.tuple #[(.agg #[(.string ⟨#[49, 50, 48, 54, 48, 54, 54, 54, 53, 49, 53, 52, 49, 51, 55, 53, 50, 51]⟩), (.string ⟨#[49, 50, 53, 48, 48, 48, 48, 48, 48, 48, 48, 48, 48]⟩)]), (.int .i64 0)])⟩
def lK52 : List Entry := []
theorem lK52_ok : ∀ e ∈ lK52, EntryOK Try.prog e := fun _ h => by cases h
theorem k52 : EntryOK Try.prog e52 := known_run tabK42_ok lK52_ok (fuel := 100000) (n := 60) (by kernel_rfl) (by kernel_rfl)
/-- cubit/rat.Mul -/
def e53 : Entry := ⟨42, [(.agg #[(.string ⟨#[48]⟩), (.string ⟨#[49]⟩)]), (.agg #[(.string ⟨#[49]⟩), (.string ⟨#[49, 48, 48, 48, 48, 48, 48, 48, 48, 48, 48, 48, 48, 48]⟩)])], .flat (.tuple #[(.agg #[(.string ⟨#[48]⟩), (.string ⟨#[49]⟩)]), (.int .i64 0)])⟩
def lK53 : List Entry := []
theorem lK53_ok : ∀ e ∈ lK53, EntryOK Try.prog e := fun _ h => by cases h
theorem k53 : EntryOK Try.prog e53 := known_run tabK42_ok lK53_ok (fuel := 100000) (n := 60) (by kernel_rfl) (by kernel_rfl)
def tabK21 : List (Nat × AFn) := [(21, F21)]
theorem tabK21_ok : ∀ p ∈ tabK21, FnOK Try.prog p := by
  unfold tabK21
  simp only [List.forall_mem_cons]
  exact ⟨ok21, fun _ h => by cases h⟩
/-- cubit/nature.electronMade -/
def e54 : Entry := ⟨21, [], .flat (.agg #[(.int .i64 91093837015), (.int .i64 1), (.int .i64 (-41)), (.int .i64 28)])⟩
def lK54 : List Entry := []
theorem lK54_ok : ∀ e ∈ lK54, EntryOK Try.prog e := fun _ h => by cases h
theorem k54 : EntryOK Try.prog e54 := known_run tabK21_ok lK54_ok (fuel := 100000) (n := 60) (by kernel_rfl) (by kernel_rfl)
/-- cubit/rat.Pow -/
def e55 : Entry := ⟨39, [(.agg #[(.string ⟨#[49, 48]⟩), (.string ⟨#[49]⟩)]), (.int .i64 (-41))], .flat (.tuple #[(.agg #[(.string ⟨#[49]⟩), (.string ⟨#[49, 48, 48, 48, 48, 48, 48, 48, 48, 48, 48, 48, 48, 48, 48, 48, 48, 48, 48, 48, 48, 48, 48, 48, 48, 48, 48, 48, 48, 48, 48, 48, 48, 48, 48, 48, 48, 48, 48, 48, 48, 48]⟩)]), (.int .i64 0)])⟩
def lK55 : List Entry := []
theorem lK55_ok : ∀ e ∈ lK55, EntryOK Try.prog e := fun _ h => by cases h
theorem k55 : EntryOK Try.prog e55 := known_run tabK39_ok lK55_ok (fuel := 100000) (n := 60) (by kernel_rfl) (by kernel_rfl)
end Go.Proofs.Ytemgddekbdifeaa.Am
