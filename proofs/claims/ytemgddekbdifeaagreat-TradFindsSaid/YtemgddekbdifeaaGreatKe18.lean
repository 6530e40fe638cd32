/- What some calls come to. -/
import Derived.Test.YtemgddekbdifeaaGreatKe17
import Derived.KernelRfl
set_option maxRecDepth 1000000
namespace Go.Proofs.YtemgddekbdifeaaGreat.Am
/-- cubit/cubitlaw11.factor -/
def e144 : Entry := ⟨90, [(.string ⟨#[112, 111, 117, 110, 100, 102, 111, 114, 99, 101]⟩)], .flat (.agg #[(.string ⟨#[56, 56, 57, 54, 52, 52, 51, 50, 51, 48, 53, 50, 49]⟩), (.string ⟨#[50, 48, 48, 48, 48, 48, 48, 48, 48, 48, 48, 48, 48]⟩)])⟩
def lK144 : List Entry := [e116]
theorem lK144_ok : ∀ e ∈ lK144, EntryOK Tryz.prog e := by
  unfold lK144
  simp only [List.forall_mem_cons]
  exact ⟨k116, fun _ h => by cases h⟩
theorem k144 : EntryOK Tryz.prog e144 := known_run tabK90_ok lK144_ok (fuel := 100000) (n := 60) (by kernel_rfl) (by kernel_rfl)
/-- cubit/rat.Mul -/
def e145 : Entry := ⟨11, [(.agg #[(.string ⟨#[53, 53, 48]⟩), (.string ⟨#[49]⟩)]), (.agg #[(.string ⟨#[51, 56, 49]⟩), (.string ⟨#[49, 50, 53, 48]⟩)])], .flat (.tuple #[(.agg #[(.string ⟨#[52, 49, 57, 49]⟩), (.string ⟨#[50, 53]⟩)]), (.int .i64 0)])⟩
def lK145 : List Entry := []
theorem lK145_ok : ∀ e ∈ lK145, EntryOK Tryz.prog e := fun _ h => by cases h
theorem k145 : EntryOK Tryz.prog e145 := known_run tabK11_ok lK145_ok (fuel := 100000) (n := 60) (by kernel_rfl) (by kernel_rfl)
/-- cubit/rat.Mul -/
def e146 : Entry := ⟨11, [(.agg #[(.string ⟨#[52, 49, 57, 49]⟩), (.string ⟨#[50, 53]⟩)]), (.agg #[(.string ⟨#[56, 56, 57, 54, 52, 52, 51, 50, 51, 48, 53, 50, 49]⟩), (.string ⟨#[50, 48, 48, 48, 48, 48, 48, 48, 48, 48, 48, 48, 48]⟩)])], .flat (.tuple #[(.agg #[(.string ⟨#[51, 55, 50, 56, 52, 57, 57, 51, 53, 55, 57, 49, 49, 51, 53, 49, 49]⟩), (.string ⟨#[53, 48, 48, 48, 48, 48, 48, 48, 48, 48, 48, 48, 48, 48]⟩)]), (.int .i64 0)])⟩
def lK146 : List Entry := []
theorem lK146_ok : ∀ e ∈ lK146, EntryOK Tryz.prog e := fun _ h => by cases h
theorem k146 : EntryOK Tryz.prog e146 := known_run tabK11_ok lK146_ok (fuel := 100000) (n := 60) (by kernel_rfl) (by kernel_rfl)
/-- cubit/cubitlaw11.factor -/
def e147 : Entry := ⟨90, [(.string ⟨#[104, 111, 114, 115, 101, 112, 111, 119, 101, 114]⟩)], .flat (.agg #[(.string ⟨#[51, 55, 50, 56, 52, 57, 57, 51, 53, 55, 57, 49, 49, 51, 53, 49, 49]⟩), (.string ⟨#[53, 48, 48, 48, 48, 48, 48, 48, 48, 48, 48, 48, 48, 48]⟩)])⟩
def lK147 : List Entry := [e116]
theorem lK147_ok : ∀ e ∈ lK147, EntryOK Tryz.prog e := by
  unfold lK147
  simp only [List.forall_mem_cons]
  exact ⟨k116, fun _ h => by cases h⟩
theorem k147 : EntryOK Tryz.prog e147 := known_run tabK90_ok lK147_ok (fuel := 100000) (n := 60) (by kernel_rfl) (by kernel_rfl)
/-- cubit/rat.Mul -/
def e148 : Entry := ⟨11, [(.agg #[(.string ⟨#[49, 52]⟩), (.string ⟨#[49]⟩)]), (.agg #[(.string ⟨#[52, 53, 51, 53, 57, 50, 51, 55]⟩), (.string ⟨#[49, 48, 48, 48, 48, 48, 48, 48, 48]⟩)])], .flat (.tuple #[(.agg #[(.string ⟨#[51, 49, 55, 53, 49, 52, 54, 53, 57]⟩), (.string ⟨#[53, 48, 48, 48, 48, 48, 48, 48]⟩)]), (.int .i64 0)])⟩
def lK148 : List Entry := []
theorem lK148_ok : ∀ e ∈ lK148, EntryOK Tryz.prog e := fun _ h => by cases h
theorem k148 : EntryOK Tryz.prog e148 := known_run tabK11_ok lK148_ok (fuel := 100000) (n := 60) (by kernel_rfl) (by kernel_rfl)
/-- cubit/cubitlaw11.factor -/
def e149 : Entry := ⟨90, [(.string ⟨#[115, 116, 111, 110, 101]⟩)], .flat (.agg #[(.string ⟨#[51, 49, 55, 53, 49, 52, 54, 53, 57]⟩), (.string ⟨#[53, 48, 48, 48, 48, 48, 48, 48]⟩)])⟩
def lK149 : List Entry := [e116]
theorem lK149_ok : ∀ e ∈ lK149, EntryOK Tryz.prog e := by
  unfold lK149
  simp only [List.forall_mem_cons]
  exact ⟨k116, fun _ h => by cases h⟩
theorem k149 : EntryOK Tryz.prog e149 := known_run tabK90_ok lK149_ok (fuel := 100000) (n := 60) (by kernel_rfl) (by kernel_rfl)
/-- cubit/rat.Mul -/
def e150 : Entry := ⟨11, [(.agg #[(.string ⟨#[50, 48, 48, 48]⟩), (.string ⟨#[49]⟩)]), (.agg #[(.string ⟨#[52, 53, 51, 53, 57, 50, 51, 55]⟩), (.string ⟨#[49, 48, 48, 48, 48, 48, 48, 48, 48]⟩)])], .flat (.tuple #[(.agg #[(.string ⟨#[52, 53, 51, 53, 57, 50, 51, 55]⟩), (.string ⟨#[53, 48, 48, 48, 48]⟩)]), (.int .i64 0)])⟩
def lK150 : List Entry := []
theorem lK150_ok : ∀ e ∈ lK150, EntryOK Tryz.prog e := fun _ h => by cases h
theorem k150 : EntryOK Tryz.prog e150 := known_run tabK11_ok lK150_ok (fuel := 100000) (n := 60) (by kernel_rfl) (by kernel_rfl)
/-- cubit/cubitlaw11.factor -/
def e151 : Entry := ⟨90, [(.string ⟨#[116, 111, 110]⟩)], .flat (.agg #[(.string ⟨#[52, 53, 51, 53, 57, 50, 51, 55]⟩), (.string ⟨#[53, 48, 48, 48, 48]⟩)])⟩
def lK151 : List Entry := [e116]
theorem lK151_ok : ∀ e ∈ lK151, EntryOK Tryz.prog e := by
  unfold lK151
  simp only [List.forall_mem_cons]
  exact ⟨k116, fun _ h => by cases h⟩
theorem k151 : EntryOK Tryz.prog e151 := known_run tabK90_ok lK151_ok (fuel := 100000) (n := 60) (by kernel_rfl) (by kernel_rfl)
end Go.Proofs.YtemgddekbdifeaaGreat.Am
