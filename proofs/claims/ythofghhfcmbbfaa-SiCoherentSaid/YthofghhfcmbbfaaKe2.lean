/- What some calls come to. -/
import Derived.Test.YthofghhfcmbbfaaKe1
import Derived.KernelRfl
set_option maxRecDepth 1000000
namespace Go.Proofs.Ythofghhfcmbbfaa.Am
/-- cubit/rat.Quo -/
def e16 : Entry := ⟨37, [(.agg #[(.string ⟨#[51, 54, 48, 48]⟩), (.string ⟨#[49]⟩)]), (.agg #[(.string ⟨#[49]⟩), (.string ⟨#[49]⟩)])], .flat (.tuple #[(.agg #[(.string ⟨#[51, 54, 48, 48]⟩), (.string ⟨#[49]⟩)]), (.int .i64 0)])⟩
def lK16 : List Entry := []
theorem lK16_ok : ∀ e ∈ lK16, EntryOK Try.prog e := fun _ h => by cases h
theorem k16 : EntryOK Try.prog e16 := known_run tabK37_ok lK16_ok (fuel := 100000) (n := 60) (by kernel_rfl) (by kernel_rfl)
/-- cubit/rat.Of -/
def e17 : Entry := ⟨38, [(.int .i64 86400)], .flat (.agg #[(.string ⟨#[56, 54, 52, 48, 48]⟩), (.string ⟨#[49]⟩)])⟩
def lK17 : List Entry := []
theorem lK17_ok : ∀ e ∈ lK17, EntryOK Try.prog e := fun _ h => by cases h
theorem k17 : EntryOK Try.prog e17 := known_run tabK38_ok lK17_ok (fuel := 100000) (n := 60) (by kernel_rfl) (by kernel_rfl)
/-- cubit/rat.Quo -/
def e18 : Entry := ⟨37, [(.agg #[(.string ⟨#[56, 54, 52, 48, 48]⟩), (.string ⟨#[49]⟩)]), (.agg #[(.string ⟨#[49]⟩), (.string ⟨#[49]⟩)])], .flat (.tuple #[(.agg #[(.string ⟨#[56, 54, 52, 48, 48]⟩), (.string ⟨#[49]⟩)]), (.int .i64 0)])⟩
def lK18 : List Entry := []
theorem lK18_ok : ∀ e ∈ lK18, EntryOK Try.prog e := fun _ h => by cases h
theorem k18 : EntryOK Try.prog e18 := known_run tabK37_ok lK18_ok (fuel := 100000) (n := 60) (by kernel_rfl) (by kernel_rfl)
/-- cubit/rat.Of -/
def e19 : Entry := ⟨38, [(.int .i64 1000)], .flat (.agg #[(.string ⟨#[49, 48, 48, 48]⟩), (.string ⟨#[49]⟩)])⟩
def lK19 : List Entry := []
theorem lK19_ok : ∀ e ∈ lK19, EntryOK Try.prog e := fun _ h => by cases h
theorem k19 : EntryOK Try.prog e19 := known_run tabK38_ok lK19_ok (fuel := 100000) (n := 60) (by kernel_rfl) (by kernel_rfl)
/-- cubit/rat.Quo -/
def e20 : Entry := ⟨37, [(.agg #[(.string ⟨#[49]⟩), (.string ⟨#[49]⟩)]), (.agg #[(.string ⟨#[49, 48, 48, 48]⟩), (.string ⟨#[49]⟩)])], .flat (.tuple #[(.agg #[(.string ⟨#[49]⟩), (.string ⟨#[49, 48, 48, 48]⟩)]), (.int .i64 0)])⟩
def lK20 : List Entry := []
theorem lK20_ok : ∀ e ∈ lK20, EntryOK Try.prog e := fun _ h => by cases h
theorem k20 : EntryOK Try.prog e20 := known_run tabK37_ok lK20_ok (fuel := 100000) (n := 60) (by kernel_rfl) (by kernel_rfl)
/-- cubit/rat.Quo -/
def e21 : Entry := ⟨37, [(.agg #[(.string ⟨#[49, 48, 48, 48]⟩), (.string ⟨#[49]⟩)]), (.agg #[(.string ⟨#[49]⟩), (.string ⟨#[49]⟩)])], .flat (.tuple #[(.agg #[(.string ⟨#[49, 48, 48, 48]⟩), (.string ⟨#[49]⟩)]), (.int .i64 0)])⟩
def lK21 : List Entry := []
theorem lK21_ok : ∀ e ∈ lK21, EntryOK Try.prog e := fun _ h => by cases h
theorem k21 : EntryOK Try.prog e21 := known_run tabK37_ok lK21_ok (fuel := 100000) (n := 60) (by kernel_rfl) (by kernel_rfl)
/-- cubit/rat.Of -/
def e22 : Entry := ⟨38, [(.int .i64 100000)], .flat (.agg #[(.string ⟨#[49, 48, 48, 48, 48, 48]⟩), (.string ⟨#[49]⟩)])⟩
def lK22 : List Entry := []
theorem lK22_ok : ∀ e ∈ lK22, EntryOK Try.prog e := fun _ h => by cases h
theorem k22 : EntryOK Try.prog e22 := known_run tabK38_ok lK22_ok (fuel := 100000) (n := 60) (by kernel_rfl) (by kernel_rfl)
/-- cubit/rat.Quo -/
def e23 : Entry := ⟨37, [(.agg #[(.string ⟨#[49, 48, 48, 48, 48, 48]⟩), (.string ⟨#[49]⟩)]), (.agg #[(.string ⟨#[49]⟩), (.string ⟨#[49]⟩)])], .flat (.tuple #[(.agg #[(.string ⟨#[49, 48, 48, 48, 48, 48]⟩), (.string ⟨#[49]⟩)]), (.int .i64 0)])⟩
def lK23 : List Entry := []
theorem lK23_ok : ∀ e ∈ lK23, EntryOK Try.prog e := fun _ h => by cases h
theorem k23 : EntryOK Try.prog e23 := known_run tabK37_ok lK23_ok (fuel := 100000) (n := 60) (by kernel_rfl) (by kernel_rfl)
end Go.Proofs.Ythofghhfcmbbfaa.Am
