/- What some calls come to. -/
import Derived.Test.YtemgddekbdifeaaGreatKe8
import Derived.KernelRfl
set_option maxRecDepth 1000000
namespace Go.Proofs.YtemgddekbdifeaaGreat.Am
/-- cubit/rat.Of -/
def e72 : Entry := ⟨124, [(.int .i64 523)], .flat (.agg #[(.string ⟨#[53, 50, 51]⟩), (.string ⟨#[49]⟩)])⟩
def lK72 : List Entry := []
theorem lK72_ok : ∀ e ∈ lK72, EntryOK Tryz.prog e := fun _ h => by cases h
theorem k72 : EntryOK Tryz.prog e72 := known_run tabK124_ok lK72_ok (fuel := 100000) (n := 60) (by kernel_rfl) (by kernel_rfl)
/-- cubit/rat.Quo -/
def e73 : Entry := ⟨14, [(.agg #[(.string ⟨#[53, 50, 51]⟩), (.string ⟨#[49]⟩)]), (.agg #[(.string ⟨#[49, 50, 53]⟩), (.string ⟨#[49]⟩)])], .flat (.tuple #[(.agg #[(.string ⟨#[53, 50, 51]⟩), (.string ⟨#[49, 50, 53]⟩)]), (.int .i64 0)])⟩
def lK73 : List Entry := []
theorem lK73_ok : ∀ e ∈ lK73, EntryOK Tryz.prog e := fun _ h => by cases h
theorem k73 : EntryOK Tryz.prog e73 := known_run tabK14_ok lK73_ok (fuel := 100000) (n := 60) (by kernel_rfl) (by kernel_rfl)
def tabK78 : List (Nat × AFn) := [(78, F78), (131, F131), (132, F132), (173, F173)]
theorem tabK78_ok : ∀ p ∈ tabK78, FnOK Tryz.prog p := by
  unfold tabK78
  simp only [List.forall_mem_cons]
  exact ⟨ok78, ok131, ok132, ok173, fun _ h => by cases h⟩
/-- cubit/trad.gallonMade -/
def e74 : Entry := ⟨78, [], .flat (.agg #[(.int .i64 473176473), (.int .i64 125000000000)])⟩
def lK74 : List Entry := [e9]
theorem lK74_ok : ∀ e ∈ lK74, EntryOK Tryz.prog e := by
  unfold lK74
  simp only [List.forall_mem_cons]
  exact ⟨k9, fun _ h => by cases h⟩
theorem k74 : EntryOK Tryz.prog e74 := known_run tabK78_ok lK74_ok (fuel := 100000) (n := 60) (by kernel_rfl) (by kernel_rfl)
def tabK79 : List (Nat × AFn) := [(79, F79), (131, F131), (132, F132), (173, F173)]
theorem tabK79_ok : ∀ p ∈ tabK79, FnOK Tryz.prog p := by
  unfold tabK79
  simp only [List.forall_mem_cons]
  exact ⟨ok79, ok131, ok132, ok173, fun _ h => by cases h⟩
/-- cubit/trad.pintMade -/
def e75 : Entry := ⟨79, [], .flat (.agg #[(.int .i64 473176473), (.int .i64 1000000000000)])⟩
def lK75 : List Entry := [e74]
theorem lK75_ok : ∀ e ∈ lK75, EntryOK Tryz.prog e := by
  unfold lK75
  simp only [List.forall_mem_cons]
  exact ⟨k74, fun _ h => by cases h⟩
theorem k75 : EntryOK Tryz.prog e75 := known_run tabK79_ok lK75_ok (fuel := 100000) (n := 60) (by kernel_rfl) (by kernel_rfl)
/-- cubit/rat.Of -/
def e76 : Entry := ⟨124, [(.int .i64 473176473)], .flat (.agg #[(.string ⟨#[52, 55, 51, 49, 55, 54, 52, 55, 51]⟩), (.string ⟨#[49]⟩)])⟩
def lK76 : List Entry := []
theorem lK76_ok : ∀ e ∈ lK76, EntryOK Tryz.prog e := fun _ h => by cases h
theorem k76 : EntryOK Tryz.prog e76 := known_run tabK124_ok lK76_ok (fuel := 100000) (n := 60) (by kernel_rfl) (by kernel_rfl)
/-- cubit/rat.Of -/
def e77 : Entry := ⟨124, [(.int .i64 125000000000)], .flat (.agg #[(.string ⟨#[49, 50, 53, 48, 48, 48, 48, 48, 48, 48, 48, 48]⟩), (.string ⟨#[49]⟩)])⟩
def lK77 : List Entry := []
theorem lK77_ok : ∀ e ∈ lK77, EntryOK Tryz.prog e := fun _ h => by cases h
theorem k77 : EntryOK Tryz.prog e77 := known_run tabK124_ok lK77_ok (fuel := 100000) (n := 60) (by kernel_rfl) (by kernel_rfl)
/-- cubit/rat.Quo -/
def e78 : Entry := ⟨14, [(.agg #[(.string ⟨#[52, 55, 51, 49, 55, 54, 52, 55, 51]⟩), (.string ⟨#[49]⟩)]), (.agg #[(.string ⟨#[49, 50, 53, 48, 48, 48, 48, 48, 48, 48, 48, 48]⟩), (.string ⟨#[49]⟩)])], .flat (.tuple #[(.agg #[(.string ⟨#[52, 55, 51, 49, 55, 54, 52, 55, 51]⟩), (.string ⟨#[49, 50, 53, 48, 48, 48, 48, 48, 48, 48, 48, 48]⟩)]), (.int .i64 0)])⟩
def lK78 : List Entry := []
theorem lK78_ok : ∀ e ∈ lK78, EntryOK Tryz.prog e := fun _ h => by cases h
theorem k78 : EntryOK Tryz.prog e78 := known_run tabK14_ok lK78_ok (fuel := 100000) (n := 60) (by kernel_rfl) (by kernel_rfl)
/-- cubit/rat.Of -/
def e79 : Entry := ⟨124, [(.int .i64 1000000000000)], .flat (.agg #[(.string ⟨#[49, 48, 48, 48, 48, 48, 48, 48, 48, 48, 48, 48, 48]⟩), (.string ⟨#[49]⟩)])⟩
def lK79 : List Entry := []
theorem lK79_ok : ∀ e ∈ lK79, EntryOK Tryz.prog e := fun _ h => by cases h
theorem k79 : EntryOK Tryz.prog e79 := known_run tabK124_ok lK79_ok (fuel := 100000) (n := 60) (by kernel_rfl) (by kernel_rfl)
end Go.Proofs.YtemgddekbdifeaaGreat.Am
