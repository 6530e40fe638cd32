/- What some calls come to. -/
import Derived.Test.YtemgddekbdifeaaGreatKe16
import Derived.KernelRfl
set_option maxRecDepth 1000000
namespace Go.Proofs.YtemgddekbdifeaaGreat.Am
/-- cubit/rat.Mul -/
def e136 : Entry := ⟨11, [(.agg #[(.string ⟨#[49]⟩), (.string ⟨#[56]⟩)]), (.agg #[(.string ⟨#[52, 55, 51, 49, 55, 54, 52, 55, 51]⟩), (.string ⟨#[49, 50, 53, 48, 48, 48, 48, 48, 48, 48, 48, 48]⟩)])], .flat (.tuple #[(.agg #[(.string ⟨#[52, 55, 51, 49, 55, 54, 52, 55, 51]⟩), (.string ⟨#[49, 48, 48, 48, 48, 48, 48, 48, 48, 48, 48, 48, 48]⟩)]), (.int .i64 0)])⟩
def lK136 : List Entry := []
theorem lK136_ok : ∀ e ∈ lK136, EntryOK Tryz.prog e := fun _ h => by cases h
theorem k136 : EntryOK Tryz.prog e136 := known_run tabK11_ok lK136_ok (fuel := 100000) (n := 60) (by kernel_rfl) (by kernel_rfl)
/-- cubit/cubitlaw11.factor -/
def e137 : Entry := ⟨90, [(.string ⟨#[112, 105, 110, 116]⟩)], .flat (.agg #[(.string ⟨#[52, 55, 51, 49, 55, 54, 52, 55, 51]⟩), (.string ⟨#[49, 48, 48, 48, 48, 48, 48, 48, 48, 48, 48, 48, 48]⟩)])⟩
def lK137 : List Entry := [e116]
theorem lK137_ok : ∀ e ∈ lK137, EntryOK Tryz.prog e := by
  unfold lK137
  simp only [List.forall_mem_cons]
  exact ⟨k116, fun _ h => by cases h⟩
theorem k137 : EntryOK Tryz.prog e137 := known_run tabK90_ok lK137_ok (fuel := 100000) (n := 60) (by kernel_rfl) (by kernel_rfl)
/-- cubit/cubitlaw11.factor -/
def e138 : Entry := ⟨90, [(.string ⟨#[112, 111, 117, 110, 100]⟩)], .flat (.agg #[(.string ⟨#[52, 53, 51, 53, 57, 50, 51, 55]⟩), (.string ⟨#[49, 48, 48, 48, 48, 48, 48, 48, 48]⟩)])⟩
def lK138 : List Entry := [e116]
theorem lK138_ok : ∀ e ∈ lK138, EntryOK Tryz.prog e := by
  unfold lK138
  simp only [List.forall_mem_cons]
  exact ⟨k116, fun _ h => by cases h⟩
theorem k138 : EntryOK Tryz.prog e138 := known_run tabK90_ok lK138_ok (fuel := 100000) (n := 60) (by kernel_rfl) (by kernel_rfl)
/-- cubit/rat.Mul -/
def e139 : Entry := ⟨11, [(.agg #[(.string ⟨#[49]⟩), (.string ⟨#[55, 48, 48, 48]⟩)]), (.agg #[(.string ⟨#[52, 53, 51, 53, 57, 50, 51, 55]⟩), (.string ⟨#[49, 48, 48, 48, 48, 48, 48, 48, 48]⟩)])], .flat (.tuple #[(.agg #[(.string ⟨#[54, 52, 55, 57, 56, 57, 49]⟩), (.string ⟨#[49, 48, 48, 48, 48, 48, 48, 48, 48, 48, 48, 48]⟩)]), (.int .i64 0)])⟩
def lK139 : List Entry := []
theorem lK139_ok : ∀ e ∈ lK139, EntryOK Tryz.prog e := fun _ h => by cases h
theorem k139 : EntryOK Tryz.prog e139 := known_run tabK11_ok lK139_ok (fuel := 100000) (n := 60) (by kernel_rfl) (by kernel_rfl)
/-- cubit/cubitlaw11.factor -/
def e140 : Entry := ⟨90, [(.string ⟨#[103, 114, 97, 105, 110]⟩)], .flat (.agg #[(.string ⟨#[54, 52, 55, 57, 56, 57, 49]⟩), (.string ⟨#[49, 48, 48, 48, 48, 48, 48, 48, 48, 48, 48, 48]⟩)])⟩
def lK140 : List Entry := [e116]
theorem lK140_ok : ∀ e ∈ lK140, EntryOK Tryz.prog e := by
  unfold lK140
  simp only [List.forall_mem_cons]
  exact ⟨k116, fun _ h => by cases h⟩
theorem k140 : EntryOK Tryz.prog e140 := known_run tabK90_ok lK140_ok (fuel := 100000) (n := 60) (by kernel_rfl) (by kernel_rfl)
/-- cubit/rat.Mul -/
def e141 : Entry := ⟨11, [(.agg #[(.string ⟨#[49]⟩), (.string ⟨#[49, 54]⟩)]), (.agg #[(.string ⟨#[52, 53, 51, 53, 57, 50, 51, 55]⟩), (.string ⟨#[49, 48, 48, 48, 48, 48, 48, 48, 48]⟩)])], .flat (.tuple #[(.agg #[(.string ⟨#[52, 53, 51, 53, 57, 50, 51, 55]⟩), (.string ⟨#[49, 54, 48, 48, 48, 48, 48, 48, 48, 48]⟩)]), (.int .i64 0)])⟩
def lK141 : List Entry := []
theorem lK141_ok : ∀ e ∈ lK141, EntryOK Tryz.prog e := fun _ h => by cases h
theorem k141 : EntryOK Tryz.prog e141 := known_run tabK11_ok lK141_ok (fuel := 100000) (n := 60) (by kernel_rfl) (by kernel_rfl)
/-- cubit/cubitlaw11.factor -/
def e142 : Entry := ⟨90, [(.string ⟨#[111, 117, 110, 99, 101]⟩)], .flat (.agg #[(.string ⟨#[52, 53, 51, 53, 57, 50, 51, 55]⟩), (.string ⟨#[49, 54, 48, 48, 48, 48, 48, 48, 48, 48]⟩)])⟩
def lK142 : List Entry := [e116]
theorem lK142_ok : ∀ e ∈ lK142, EntryOK Tryz.prog e := by
  unfold lK142
  simp only [List.forall_mem_cons]
  exact ⟨k116, fun _ h => by cases h⟩
theorem k142 : EntryOK Tryz.prog e142 := known_run tabK90_ok lK142_ok (fuel := 100000) (n := 60) (by kernel_rfl) (by kernel_rfl)
/-- cubit/rat.Mul -/
def e143 : Entry := ⟨11, [(.agg #[(.string ⟨#[49, 57, 54, 49, 51, 51]⟩), (.string ⟨#[50, 48, 48, 48, 48]⟩)]), (.agg #[(.string ⟨#[52, 53, 51, 53, 57, 50, 51, 55]⟩), (.string ⟨#[49, 48, 48, 48, 48, 48, 48, 48, 48]⟩)])], .flat (.tuple #[(.agg #[(.string ⟨#[56, 56, 57, 54, 52, 52, 51, 50, 51, 48, 53, 50, 49]⟩), (.string ⟨#[50, 48, 48, 48, 48, 48, 48, 48, 48, 48, 48, 48, 48]⟩)]), (.int .i64 0)])⟩
def lK143 : List Entry := []
theorem lK143_ok : ∀ e ∈ lK143, EntryOK Tryz.prog e := fun _ h => by cases h
theorem k143 : EntryOK Tryz.prog e143 := known_run tabK11_ok lK143_ok (fuel := 100000) (n := 60) (by kernel_rfl) (by kernel_rfl)
end Go.Proofs.YtemgddekbdifeaaGreat.Am
