/- What some calls come to. -/
import Derived.Test.YtemgddekbdifeaaGreatKe3
import Derived.KernelRfl
set_option maxRecDepth 1000000
namespace Go.Proofs.YtemgddekbdifeaaGreat.Am
/-- cubit/rat.Quo -/
def e32 : Entry := ⟨14, [(.agg #[(.string ⟨#[49, 49, 52, 51]⟩), (.string ⟨#[49]⟩)]), (.agg #[(.string ⟨#[49, 50, 53, 48]⟩), (.string ⟨#[49]⟩)])], .flat (.tuple #[(.agg #[(.string ⟨#[49, 49, 52, 51]⟩), (.string ⟨#[49, 50, 53, 48]⟩)]), (.int .i64 0)])⟩
def lK32 : List Entry := []
theorem lK32_ok : ∀ e ∈ lK32, EntryOK Tryz.prog e := fun _ h => by cases h
theorem k32 : EntryOK Tryz.prog e32 := known_run tabK14_ok lK32_ok (fuel := 100000) (n := 60) (by kernel_rfl) (by kernel_rfl)
/-- cubit/rat.Of -/
def e33 : Entry := ⟨124, [(.int .i64 201168)], .flat (.agg #[(.string ⟨#[50, 48, 49, 49, 54, 56]⟩), (.string ⟨#[49]⟩)])⟩
def lK33 : List Entry := []
theorem lK33_ok : ∀ e ∈ lK33, EntryOK Tryz.prog e := fun _ h => by cases h
theorem k33 : EntryOK Tryz.prog e33 := known_run tabK124_ok lK33_ok (fuel := 100000) (n := 60) (by kernel_rfl) (by kernel_rfl)
/-- cubit/rat.Of -/
def e34 : Entry := ⟨124, [(.int .i64 125)], .flat (.agg #[(.string ⟨#[49, 50, 53]⟩), (.string ⟨#[49]⟩)])⟩
def lK34 : List Entry := []
theorem lK34_ok : ∀ e ∈ lK34, EntryOK Tryz.prog e := fun _ h => by cases h
theorem k34 : EntryOK Tryz.prog e34 := known_run tabK124_ok lK34_ok (fuel := 100000) (n := 60) (by kernel_rfl) (by kernel_rfl)
/-- cubit/rat.Quo -/
def e35 : Entry := ⟨14, [(.agg #[(.string ⟨#[50, 48, 49, 49, 54, 56]⟩), (.string ⟨#[49]⟩)]), (.agg #[(.string ⟨#[49, 50, 53]⟩), (.string ⟨#[49]⟩)])], .flat (.tuple #[(.agg #[(.string ⟨#[50, 48, 49, 49, 54, 56]⟩), (.string ⟨#[49, 50, 53]⟩)]), (.int .i64 0)])⟩
def lK35 : List Entry := []
theorem lK35_ok : ∀ e ∈ lK35, EntryOK Tryz.prog e := fun _ h => by cases h
theorem k35 : EntryOK Tryz.prog e35 := known_run tabK14_ok lK35_ok (fuel := 100000) (n := 60) (by kernel_rfl) (by kernel_rfl)
def tabK75 : List (Nat × AFn) := [(75, F75), (131, F131), (132, F132), (173, F173)]
theorem tabK75_ok : ∀ p ∈ tabK75, FnOK Tryz.prog p := by
  unfold tabK75
  simp only [List.forall_mem_cons]
  exact ⟨ok75, ok131, ok132, ok173, fun _ h => by cases h⟩
/-- cubit/trad.acreMade -/
def e36 : Entry := ⟨75, [], .flat (.agg #[(.int .i64 316160658), (.int .i64 78125)])⟩
def lK36 : List Entry := [e10]
theorem lK36_ok : ∀ e ∈ lK36, EntryOK Tryz.prog e := by
  unfold lK36
  simp only [List.forall_mem_cons]
  exact ⟨k10, fun _ h => by cases h⟩
theorem k36 : EntryOK Tryz.prog e36 := known_run tabK75_ok lK36_ok (fuel := 100000) (n := 60) (by kernel_rfl) (by kernel_rfl)
/-- cubit/rat.Of -/
def e37 : Entry := ⟨124, [(.int .i64 316160658)], .flat (.agg #[(.string ⟨#[51, 49, 54, 49, 54, 48, 54, 53, 56]⟩), (.string ⟨#[49]⟩)])⟩
def lK37 : List Entry := []
theorem lK37_ok : ∀ e ∈ lK37, EntryOK Tryz.prog e := fun _ h => by cases h
theorem k37 : EntryOK Tryz.prog e37 := known_run tabK124_ok lK37_ok (fuel := 100000) (n := 60) (by kernel_rfl) (by kernel_rfl)
/-- cubit/rat.Of -/
def e38 : Entry := ⟨124, [(.int .i64 78125)], .flat (.agg #[(.string ⟨#[55, 56, 49, 50, 53]⟩), (.string ⟨#[49]⟩)])⟩
def lK38 : List Entry := []
theorem lK38_ok : ∀ e ∈ lK38, EntryOK Tryz.prog e := fun _ h => by cases h
theorem k38 : EntryOK Tryz.prog e38 := known_run tabK124_ok lK38_ok (fuel := 100000) (n := 60) (by kernel_rfl) (by kernel_rfl)
/-- cubit/rat.Quo -/
def e39 : Entry := ⟨14, [(.agg #[(.string ⟨#[51, 49, 54, 49, 54, 48, 54, 53, 56]⟩), (.string ⟨#[49]⟩)]), (.agg #[(.string ⟨#[55, 56, 49, 50, 53]⟩), (.string ⟨#[49]⟩)])], .flat (.tuple #[(.agg #[(.string ⟨#[51, 49, 54, 49, 54, 48, 54, 53, 56]⟩), (.string ⟨#[55, 56, 49, 50, 53]⟩)]), (.int .i64 0)])⟩
def lK39 : List Entry := []
theorem lK39_ok : ∀ e ∈ lK39, EntryOK Tryz.prog e := fun _ h => by cases h
theorem k39 : EntryOK Tryz.prog e39 := known_run tabK14_ok lK39_ok (fuel := 100000) (n := 60) (by kernel_rfl) (by kernel_rfl)
end Go.Proofs.YtemgddekbdifeaaGreat.Am
