/- What some calls come to. -/
import Derived.Test.YtemgddekbdifeaaGreatKe14
import Derived.KernelRfl
set_option maxRecDepth 1000000
namespace Go.Proofs.YtemgddekbdifeaaGreat.Am
/-- cubit/cubitlaw11.factor -/
def e120 : Entry := ⟨90, [(.string ⟨#[102, 111, 111, 116]⟩)], .flat (.agg #[(.string ⟨#[51, 56, 49]⟩), (.string ⟨#[49, 50, 53, 48]⟩)])⟩
def lK120 : List Entry := [e116]
theorem lK120_ok : ∀ e ∈ lK120, EntryOK Tryz.prog e := by
  unfold lK120
  simp only [List.forall_mem_cons]
  exact ⟨k116, fun _ h => by cases h⟩
theorem k120 : EntryOK Tryz.prog e120 := known_run tabK90_ok lK120_ok (fuel := 100000) (n := 60) (by kernel_rfl) (by kernel_rfl)
/-- cubit/rat.Mul -/
def e121 : Entry := ⟨11, [(.agg #[(.string ⟨#[54]⟩), (.string ⟨#[49]⟩)]), (.agg #[(.string ⟨#[51, 56, 49]⟩), (.string ⟨#[49, 50, 53, 48]⟩)])], .flat (.tuple #[(.agg #[(.string ⟨#[49, 49, 52, 51]⟩), (.string ⟨#[54, 50, 53]⟩)]), (.int .i64 0)])⟩
def lK121 : List Entry := []
theorem lK121_ok : ∀ e ∈ lK121, EntryOK Tryz.prog e := fun _ h => by cases h
theorem k121 : EntryOK Tryz.prog e121 := known_run tabK11_ok lK121_ok (fuel := 100000) (n := 60) (by kernel_rfl) (by kernel_rfl)
/-- cubit/cubitlaw11.factor -/
def e122 : Entry := ⟨90, [(.string ⟨#[102, 97, 116, 104, 111, 109]⟩)], .flat (.agg #[(.string ⟨#[49, 49, 52, 51]⟩), (.string ⟨#[54, 50, 53]⟩)])⟩
def lK122 : List Entry := [e116]
theorem lK122_ok : ∀ e ∈ lK122, EntryOK Tryz.prog e := by
  unfold lK122
  simp only [List.forall_mem_cons]
  exact ⟨k116, fun _ h => by cases h⟩
theorem k122 : EntryOK Tryz.prog e122 := known_run tabK90_ok lK122_ok (fuel := 100000) (n := 60) (by kernel_rfl) (by kernel_rfl)
/-- cubit/rat.Mul -/
def e123 : Entry := ⟨11, [(.agg #[(.string ⟨#[52]⟩), (.string ⟨#[49]⟩)]), (.agg #[(.string ⟨#[49, 50, 55]⟩), (.string ⟨#[53, 48, 48, 48]⟩)])], .flat (.tuple #[(.agg #[(.string ⟨#[49, 50, 55]⟩), (.string ⟨#[49, 50, 53, 48]⟩)]), (.int .i64 0)])⟩
def lK123 : List Entry := []
theorem lK123_ok : ∀ e ∈ lK123, EntryOK Tryz.prog e := fun _ h => by cases h
theorem k123 : EntryOK Tryz.prog e123 := known_run tabK11_ok lK123_ok (fuel := 100000) (n := 60) (by kernel_rfl) (by kernel_rfl)
/-- cubit/cubitlaw11.factor -/
def e124 : Entry := ⟨90, [(.string ⟨#[104, 97, 110, 100]⟩)], .flat (.agg #[(.string ⟨#[49, 50, 55]⟩), (.string ⟨#[49, 50, 53, 48]⟩)])⟩
def lK124 : List Entry := [e116]
theorem lK124_ok : ∀ e ∈ lK124, EntryOK Tryz.prog e := by
  unfold lK124
  simp only [List.forall_mem_cons]
  exact ⟨k116, fun _ h => by cases h⟩
theorem k124 : EntryOK Tryz.prog e124 := known_run tabK90_ok lK124_ok (fuel := 100000) (n := 60) (by kernel_rfl) (by kernel_rfl)
/-- cubit/rat.Mul -/
def e125 : Entry := ⟨11, [(.agg #[(.string ⟨#[51]⟩), (.string ⟨#[49]⟩)]), (.agg #[(.string ⟨#[51, 56, 49]⟩), (.string ⟨#[49, 50, 53, 48]⟩)])], .flat (.tuple #[(.agg #[(.string ⟨#[49, 49, 52, 51]⟩), (.string ⟨#[49, 50, 53, 48]⟩)]), (.int .i64 0)])⟩
def lK125 : List Entry := []
theorem lK125_ok : ∀ e ∈ lK125, EntryOK Tryz.prog e := fun _ h => by cases h
theorem k125 : EntryOK Tryz.prog e125 := known_run tabK11_ok lK125_ok (fuel := 100000) (n := 60) (by kernel_rfl) (by kernel_rfl)
/-- cubit/cubitlaw11.factor -/
def e126 : Entry := ⟨90, [(.string ⟨#[121, 97, 114, 100]⟩)], .flat (.agg #[(.string ⟨#[49, 49, 52, 51]⟩), (.string ⟨#[49, 50, 53, 48]⟩)])⟩
def lK126 : List Entry := [e116]
theorem lK126_ok : ∀ e ∈ lK126, EntryOK Tryz.prog e := by
  unfold lK126
  simp only [List.forall_mem_cons]
  exact ⟨k116, fun _ h => by cases h⟩
theorem k126 : EntryOK Tryz.prog e126 := known_run tabK90_ok lK126_ok (fuel := 100000) (n := 60) (by kernel_rfl) (by kernel_rfl)
/-- cubit/rat.Mul -/
def e127 : Entry := ⟨11, [(.agg #[(.string ⟨#[49, 55, 54, 48]⟩), (.string ⟨#[49]⟩)]), (.agg #[(.string ⟨#[49, 49, 52, 51]⟩), (.string ⟨#[49, 50, 53, 48]⟩)])], .flat (.tuple #[(.agg #[(.string ⟨#[50, 48, 49, 49, 54, 56]⟩), (.string ⟨#[49, 50, 53]⟩)]), (.int .i64 0)])⟩
def lK127 : List Entry := []
theorem lK127_ok : ∀ e ∈ lK127, EntryOK Tryz.prog e := fun _ h => by cases h
theorem k127 : EntryOK Tryz.prog e127 := known_run tabK11_ok lK127_ok (fuel := 100000) (n := 60) (by kernel_rfl) (by kernel_rfl)
end Go.Proofs.YtemgddekbdifeaaGreat.Am
