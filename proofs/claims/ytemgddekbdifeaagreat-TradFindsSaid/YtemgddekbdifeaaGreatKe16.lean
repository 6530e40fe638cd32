/- What some calls come to. -/
import Derived.Test.YtemgddekbdifeaaGreatKe15
import Derived.KernelRfl
set_option maxRecDepth 1000000
namespace Go.Proofs.YtemgddekbdifeaaGreat.Am
/-- cubit/cubitlaw11.factor -/
def e128 : Entry := ⟨90, [(.string ⟨#[109, 105, 108, 101]⟩)], .flat (.agg #[(.string ⟨#[50, 48, 49, 49, 54, 56]⟩), (.string ⟨#[49, 50, 53]⟩)])⟩
def lK128 : List Entry := [e116]
theorem lK128_ok : ∀ e ∈ lK128, EntryOK Tryz.prog e := by
  unfold lK128
  simp only [List.forall_mem_cons]
  exact ⟨k116, fun _ h => by cases h⟩
theorem k128 : EntryOK Tryz.prog e128 := known_run tabK90_ok lK128_ok (fuel := 100000) (n := 60) (by kernel_rfl) (by kernel_rfl)
/-- cubit/cubitlaw11.factor -/
def e129 : Entry := ⟨90, [(.string ⟨#[110, 97, 117, 116, 105, 99, 97, 108]⟩)], .flat (.agg #[(.string ⟨#[49, 56, 53, 50]⟩), (.string ⟨#[49]⟩)])⟩
def lK129 : List Entry := [e116]
theorem lK129_ok : ∀ e ∈ lK129, EntryOK Tryz.prog e := by
  unfold lK129
  simp only [List.forall_mem_cons]
  exact ⟨k116, fun _ h => by cases h⟩
theorem k129 : EntryOK Tryz.prog e129 := known_run tabK90_ok lK129_ok (fuel := 100000) (n := 60) (by kernel_rfl) (by kernel_rfl)
/-- cubit/rat.Mul -/
def e130 : Entry := ⟨11, [(.agg #[(.string ⟨#[49]⟩), (.string ⟨#[51, 54, 48, 48]⟩)]), (.agg #[(.string ⟨#[49, 56, 53, 50]⟩), (.string ⟨#[49]⟩)])], .flat (.tuple #[(.agg #[(.string ⟨#[52, 54, 51]⟩), (.string ⟨#[57, 48, 48]⟩)]), (.int .i64 0)])⟩
def lK130 : List Entry := []
theorem lK130_ok : ∀ e ∈ lK130, EntryOK Tryz.prog e := fun _ h => by cases h
theorem k130 : EntryOK Tryz.prog e130 := known_run tabK11_ok lK130_ok (fuel := 100000) (n := 60) (by kernel_rfl) (by kernel_rfl)
/-- cubit/cubitlaw11.factor -/
def e131 : Entry := ⟨90, [(.string ⟨#[107, 110, 111, 116]⟩)], .flat (.agg #[(.string ⟨#[52, 54, 51]⟩), (.string ⟨#[57, 48, 48]⟩)])⟩
def lK131 : List Entry := [e116]
theorem lK131_ok : ∀ e ∈ lK131, EntryOK Tryz.prog e := by
  unfold lK131
  simp only [List.forall_mem_cons]
  exact ⟨k116, fun _ h => by cases h⟩
theorem k131 : EntryOK Tryz.prog e131 := known_run tabK90_ok lK131_ok (fuel := 100000) (n := 60) (by kernel_rfl) (by kernel_rfl)
/-- cubit/rat.Mul -/
def e132 : Entry := ⟨11, [(.agg #[(.string ⟨#[52, 51, 53, 54, 48]⟩), (.string ⟨#[49]⟩)]), (.agg #[(.string ⟨#[51, 56, 49]⟩), (.string ⟨#[49, 50, 53, 48]⟩)])], .flat (.tuple #[(.agg #[(.string ⟨#[49, 54, 53, 57, 54, 51, 54]⟩), (.string ⟨#[49, 50, 53]⟩)]), (.int .i64 0)])⟩
def lK132 : List Entry := []
theorem lK132_ok : ∀ e ∈ lK132, EntryOK Tryz.prog e := fun _ h => by cases h
theorem k132 : EntryOK Tryz.prog e132 := known_run tabK11_ok lK132_ok (fuel := 100000) (n := 60) (by kernel_rfl) (by kernel_rfl)
/-- cubit/rat.Mul -/
def e133 : Entry := ⟨11, [(.agg #[(.string ⟨#[49, 54, 53, 57, 54, 51, 54]⟩), (.string ⟨#[49, 50, 53]⟩)]), (.agg #[(.string ⟨#[51, 56, 49]⟩), (.string ⟨#[49, 50, 53, 48]⟩)])], .flat (.tuple #[(.agg #[(.string ⟨#[51, 49, 54, 49, 54, 48, 54, 53, 56]⟩), (.string ⟨#[55, 56, 49, 50, 53]⟩)]), (.int .i64 0)])⟩
def lK133 : List Entry := []
theorem lK133_ok : ∀ e ∈ lK133, EntryOK Tryz.prog e := fun _ h => by cases h
theorem k133 : EntryOK Tryz.prog e133 := known_run tabK11_ok lK133_ok (fuel := 100000) (n := 60) (by kernel_rfl) (by kernel_rfl)
/-- cubit/cubitlaw11.factor -/
def e134 : Entry := ⟨90, [(.string ⟨#[97, 99, 114, 101]⟩)], .flat (.agg #[(.string ⟨#[51, 49, 54, 49, 54, 48, 54, 53, 56]⟩), (.string ⟨#[55, 56, 49, 50, 53]⟩)])⟩
def lK134 : List Entry := [e116]
theorem lK134_ok : ∀ e ∈ lK134, EntryOK Tryz.prog e := by
  unfold lK134
  simp only [List.forall_mem_cons]
  exact ⟨k116, fun _ h => by cases h⟩
theorem k134 : EntryOK Tryz.prog e134 := known_run tabK90_ok lK134_ok (fuel := 100000) (n := 60) (by kernel_rfl) (by kernel_rfl)
/-- cubit/cubitlaw11.factor -/
def e135 : Entry := ⟨90, [(.string ⟨#[103, 97, 108, 108, 111, 110]⟩)], .flat (.agg #[(.string ⟨#[52, 55, 51, 49, 55, 54, 52, 55, 51]⟩), (.string ⟨#[49, 50, 53, 48, 48, 48, 48, 48, 48, 48, 48, 48]⟩)])⟩
def lK135 : List Entry := [e116]
theorem lK135_ok : ∀ e ∈ lK135, EntryOK Tryz.prog e := by
  unfold lK135
  simp only [List.forall_mem_cons]
  exact ⟨k116, fun _ h => by cases h⟩
theorem k135 : EntryOK Tryz.prog e135 := known_run tabK90_ok lK135_ok (fuel := 100000) (n := 60) (by kernel_rfl) (by kernel_rfl)
end Go.Proofs.YtemgddekbdifeaaGreat.Am
