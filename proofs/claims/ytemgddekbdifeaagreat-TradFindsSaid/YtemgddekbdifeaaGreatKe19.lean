/- What some calls come to. -/
import Derived.Test.YtemgddekbdifeaaGreatKe18
import Derived.KernelRfl
set_option maxRecDepth 1000000
namespace Go.Proofs.YtemgddekbdifeaaGreat.Am
/-- cubit/cubitlaw11.factor -/
def e152 : Entry := ⟨90, [(.string ⟨#[97, 116, 109, 111, 115, 112, 104, 101, 114, 101]⟩)], .flat (.agg #[(.string ⟨#[49, 48, 49, 51, 50, 53]⟩), (.string ⟨#[49]⟩)])⟩
def lK152 : List Entry := [e116]
theorem lK152_ok : ∀ e ∈ lK152, EntryOK Tryz.prog e := by
  unfold lK152
  simp only [List.forall_mem_cons]
  exact ⟨k116, fun _ h => by cases h⟩
theorem k152 : EntryOK Tryz.prog e152 := known_run tabK90_ok lK152_ok (fuel := 100000) (n := 60) (by kernel_rfl) (by kernel_rfl)
/-- cubit/rat.Mul -/
def e153 : Entry := ⟨11, [(.agg #[(.string ⟨#[49]⟩), (.string ⟨#[55, 54, 48]⟩)]), (.agg #[(.string ⟨#[49, 48, 49, 51, 50, 53]⟩), (.string ⟨#[49]⟩)])], .flat (.tuple #[(.agg #[(.string ⟨#[50, 48, 50, 54, 53]⟩), (.string ⟨#[49, 53, 50]⟩)]), (.int .i64 0)])⟩
def lK153 : List Entry := []
theorem lK153_ok : ∀ e ∈ lK153, EntryOK Tryz.prog e := fun _ h => by cases h
theorem k153 : EntryOK Tryz.prog e153 := known_run tabK11_ok lK153_ok (fuel := 100000) (n := 60) (by kernel_rfl) (by kernel_rfl)
/-- cubit/cubitlaw11.factor -/
def e154 : Entry := ⟨90, [(.string ⟨#[116, 111, 114, 114]⟩)], .flat (.agg #[(.string ⟨#[50, 48, 50, 54, 53]⟩), (.string ⟨#[49, 53, 50]⟩)])⟩
def lK154 : List Entry := [e116]
theorem lK154_ok : ∀ e ∈ lK154, EntryOK Tryz.prog e := by
  unfold lK154
  simp only [List.forall_mem_cons]
  exact ⟨k116, fun _ h => by cases h⟩
theorem k154 : EntryOK Tryz.prog e154 := known_run tabK90_ok lK154_ok (fuel := 100000) (n := 60) (by kernel_rfl) (by kernel_rfl)
end Go.Proofs.YtemgddekbdifeaaGreat.Am
