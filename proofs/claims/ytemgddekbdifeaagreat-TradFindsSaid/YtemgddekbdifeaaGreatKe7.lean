/- What some calls come to. -/
import Derived.Test.YtemgddekbdifeaaGreatKe6
import Derived.KernelRfl
set_option maxRecDepth 1000000
namespace Go.Proofs.YtemgddekbdifeaaGreat.Am
/-- cubit/rat.Quo -/
def e56 : Entry := ⟨14, [(.agg #[(.string ⟨#[56, 54, 52, 48, 48]⟩), (.string ⟨#[49]⟩)]), (.agg #[(.string ⟨#[49]⟩), (.string ⟨#[49]⟩)])], .flat (.tuple #[(.agg #[(.string ⟨#[56, 54, 52, 48, 48]⟩), (.string ⟨#[49]⟩)]), (.int .i64 0)])⟩
def lK56 : List Entry := []
theorem lK56_ok : ∀ e ∈ lK56, EntryOK Tryz.prog e := fun _ h => by cases h
theorem k56 : EntryOK Tryz.prog e56 := known_run tabK14_ok lK56_ok (fuel := 100000) (n := 60) (by kernel_rfl) (by kernel_rfl)
/-- cubit/rat.Quo -/
def e57 : Entry := ⟨14, [(.agg #[(.string ⟨#[49]⟩), (.string ⟨#[49]⟩)]), (.agg #[(.string ⟨#[49, 48, 48, 48]⟩), (.string ⟨#[49]⟩)])], .flat (.tuple #[(.agg #[(.string ⟨#[49]⟩), (.string ⟨#[49, 48, 48, 48]⟩)]), (.int .i64 0)])⟩
def lK57 : List Entry := []
theorem lK57_ok : ∀ e ∈ lK57, EntryOK Tryz.prog e := fun _ h => by cases h
theorem k57 : EntryOK Tryz.prog e57 := known_run tabK14_ok lK57_ok (fuel := 100000) (n := 60) (by kernel_rfl) (by kernel_rfl)
/-- cubit/rat.Quo -/
def e58 : Entry := ⟨14, [(.agg #[(.string ⟨#[49, 48, 48, 48]⟩), (.string ⟨#[49]⟩)]), (.agg #[(.string ⟨#[49]⟩), (.string ⟨#[49]⟩)])], .flat (.tuple #[(.agg #[(.string ⟨#[49, 48, 48, 48]⟩), (.string ⟨#[49]⟩)]), (.int .i64 0)])⟩
def lK58 : List Entry := []
theorem lK58_ok : ∀ e ∈ lK58, EntryOK Tryz.prog e := fun _ h => by cases h
theorem k58 : EntryOK Tryz.prog e58 := known_run tabK14_ok lK58_ok (fuel := 100000) (n := 60) (by kernel_rfl) (by kernel_rfl)
/-- cubit/rat.Of -/
def e59 : Entry := ⟨124, [(.int .i64 100000)], .flat (.agg #[(.string ⟨#[49, 48, 48, 48, 48, 48]⟩), (.string ⟨#[49]⟩)])⟩
def lK59 : List Entry := []
theorem lK59_ok : ∀ e ∈ lK59, EntryOK Tryz.prog e := fun _ h => by cases h
theorem k59 : EntryOK Tryz.prog e59 := known_run tabK124_ok lK59_ok (fuel := 100000) (n := 60) (by kernel_rfl) (by kernel_rfl)
/-- cubit/rat.Quo -/
def e60 : Entry := ⟨14, [(.agg #[(.string ⟨#[49, 48, 48, 48, 48, 48]⟩), (.string ⟨#[49]⟩)]), (.agg #[(.string ⟨#[49]⟩), (.string ⟨#[49]⟩)])], .flat (.tuple #[(.agg #[(.string ⟨#[49, 48, 48, 48, 48, 48]⟩), (.string ⟨#[49]⟩)]), (.int .i64 0)])⟩
def lK60 : List Entry := []
theorem lK60_ok : ∀ e ∈ lK60, EntryOK Tryz.prog e := fun _ h => by cases h
theorem k60 : EntryOK Tryz.prog e60 := known_run tabK14_ok lK60_ok (fuel := 100000) (n := 60) (by kernel_rfl) (by kernel_rfl)
/-- cubit/rat.Of -/
def e61 : Entry := ⟨124, [(.int .i64 10000)], .flat (.agg #[(.string ⟨#[49, 48, 48, 48, 48]⟩), (.string ⟨#[49]⟩)])⟩
def lK61 : List Entry := []
theorem lK61_ok : ∀ e ∈ lK61, EntryOK Tryz.prog e := fun _ h => by cases h
theorem k61 : EntryOK Tryz.prog e61 := known_run tabK124_ok lK61_ok (fuel := 100000) (n := 60) (by kernel_rfl) (by kernel_rfl)
/-- cubit/rat.Quo -/
def e62 : Entry := ⟨14, [(.agg #[(.string ⟨#[49, 48, 48, 48, 48]⟩), (.string ⟨#[49]⟩)]), (.agg #[(.string ⟨#[49]⟩), (.string ⟨#[49]⟩)])], .flat (.tuple #[(.agg #[(.string ⟨#[49, 48, 48, 48, 48]⟩), (.string ⟨#[49]⟩)]), (.int .i64 0)])⟩
def lK62 : List Entry := []
theorem lK62_ok : ∀ e ∈ lK62, EntryOK Tryz.prog e := fun _ h => by cases h
theorem k62 : EntryOK Tryz.prog e62 := known_run tabK14_ok lK62_ok (fuel := 100000) (n := 60) (by kernel_rfl) (by kernel_rfl)
/-- cubit/rat.Of -/
def e63 : Entry := ⟨124, [(.int .i64 8)], .flat (.agg #[(.string ⟨#[56]⟩), (.string ⟨#[49]⟩)])⟩
def lK63 : List Entry := []
theorem lK63_ok : ∀ e ∈ lK63, EntryOK Tryz.prog e := fun _ h => by cases h
theorem k63 : EntryOK Tryz.prog e63 := known_run tabK124_ok lK63_ok (fuel := 100000) (n := 60) (by kernel_rfl) (by kernel_rfl)
end Go.Proofs.YtemgddekbdifeaaGreat.Am
