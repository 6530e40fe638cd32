/- What some calls come to. -/
import Derived.Test.YtemgddekbdifeaaGreatKe2
import Derived.KernelRfl
set_option maxRecDepth 1000000
namespace Go.Proofs.YtemgddekbdifeaaGreat.Am
/-- cubit/rat.Of -/
def e24 : Entry := ⟨124, [(.int .i64 1852)], .flat (.agg #[(.string ⟨#[49, 56, 53, 50]⟩), (.string ⟨#[49]⟩)])⟩
def lK24 : List Entry := []
theorem lK24_ok : ∀ e ∈ lK24, EntryOK Tryz.prog e := fun _ h => by cases h
theorem k24 : EntryOK Tryz.prog e24 := known_run tabK124_ok lK24_ok (fuel := 100000) (n := 60) (by kernel_rfl) (by kernel_rfl)
/-- cubit/rat.Quo -/
def e25 : Entry := ⟨14, [(.agg #[(.string ⟨#[49, 56, 53, 50]⟩), (.string ⟨#[49]⟩)]), (.agg #[(.string ⟨#[49]⟩), (.string ⟨#[49]⟩)])], .flat (.tuple #[(.agg #[(.string ⟨#[49, 56, 53, 50]⟩), (.string ⟨#[49]⟩)]), (.int .i64 0)])⟩
def lK25 : List Entry := []
theorem lK25_ok : ∀ e ∈ lK25, EntryOK Tryz.prog e := fun _ h => by cases h
theorem k25 : EntryOK Tryz.prog e25 := known_run tabK14_ok lK25_ok (fuel := 100000) (n := 60) (by kernel_rfl) (by kernel_rfl)
def tabK72 : List (Nat × AFn) := [(72, F72), (131, F131), (132, F132), (173, F173)]
theorem tabK72_ok : ∀ p ∈ tabK72, FnOK Tryz.prog p := by
  unfold tabK72
  simp only [List.forall_mem_cons]
  exact ⟨ok72, ok131, ok132, ok173, fun _ h => by cases h⟩
/-- cubit/trad.knotMade -/
def e26 : Entry := ⟨72, [], .flat (.agg #[(.int .i64 463), (.int .i64 900)])⟩
def lK26 : List Entry := [e13]
theorem lK26_ok : ∀ e ∈ lK26, EntryOK Tryz.prog e := by
  unfold lK26
  simp only [List.forall_mem_cons]
  exact ⟨k13, fun _ h => by cases h⟩
theorem k26 : EntryOK Tryz.prog e26 := known_run tabK72_ok lK26_ok (fuel := 100000) (n := 60) (by kernel_rfl) (by kernel_rfl)
/-- cubit/rat.Of -/
def e27 : Entry := ⟨124, [(.int .i64 463)], .flat (.agg #[(.string ⟨#[52, 54, 51]⟩), (.string ⟨#[49]⟩)])⟩
def lK27 : List Entry := []
theorem lK27_ok : ∀ e ∈ lK27, EntryOK Tryz.prog e := fun _ h => by cases h
theorem k27 : EntryOK Tryz.prog e27 := known_run tabK124_ok lK27_ok (fuel := 100000) (n := 60) (by kernel_rfl) (by kernel_rfl)
/-- cubit/rat.Of -/
def e28 : Entry := ⟨124, [(.int .i64 900)], .flat (.agg #[(.string ⟨#[57, 48, 48]⟩), (.string ⟨#[49]⟩)])⟩
def lK28 : List Entry := []
theorem lK28_ok : ∀ e ∈ lK28, EntryOK Tryz.prog e := fun _ h => by cases h
theorem k28 : EntryOK Tryz.prog e28 := known_run tabK124_ok lK28_ok (fuel := 100000) (n := 60) (by kernel_rfl) (by kernel_rfl)
/-- cubit/rat.Quo -/
def e29 : Entry := ⟨14, [(.agg #[(.string ⟨#[52, 54, 51]⟩), (.string ⟨#[49]⟩)]), (.agg #[(.string ⟨#[57, 48, 48]⟩), (.string ⟨#[49]⟩)])], .flat (.tuple #[(.agg #[(.string ⟨#[52, 54, 51]⟩), (.string ⟨#[57, 48, 48]⟩)]), (.int .i64 0)])⟩
def lK29 : List Entry := []
theorem lK29_ok : ∀ e ∈ lK29, EntryOK Tryz.prog e := fun _ h => by cases h
theorem k29 : EntryOK Tryz.prog e29 := known_run tabK14_ok lK29_ok (fuel := 100000) (n := 60) (by kernel_rfl) (by kernel_rfl)
def tabK73 : List (Nat × AFn) := [(73, F73), (131, F131), (132, F132), (173, F173)]
theorem tabK73_ok : ∀ p ∈ tabK73, FnOK Tryz.prog p := by
  unfold tabK73
  simp only [List.forall_mem_cons]
  exact ⟨ok73, ok131, ok132, ok173, fun _ h => by cases h⟩
/-- cubit/trad.yardMade -/
def e30 : Entry := ⟨73, [], .flat (.agg #[(.int .i64 1143), (.int .i64 1250)])⟩
def lK30 : List Entry := [e10]
theorem lK30_ok : ∀ e ∈ lK30, EntryOK Tryz.prog e := by
  unfold lK30
  simp only [List.forall_mem_cons]
  exact ⟨k10, fun _ h => by cases h⟩
theorem k30 : EntryOK Tryz.prog e30 := known_run tabK73_ok lK30_ok (fuel := 100000) (n := 60) (by kernel_rfl) (by kernel_rfl)
def tabK74 : List (Nat × AFn) := [(74, F74), (131, F131), (132, F132), (173, F173)]
theorem tabK74_ok : ∀ p ∈ tabK74, FnOK Tryz.prog p := by
  unfold tabK74
  simp only [List.forall_mem_cons]
  exact ⟨ok74, ok131, ok132, ok173, fun _ h => by cases h⟩
/-- cubit/trad.mileMade -/
def e31 : Entry := ⟨74, [], .flat (.agg #[(.int .i64 201168), (.int .i64 125)])⟩
def lK31 : List Entry := [e30]
theorem lK31_ok : ∀ e ∈ lK31, EntryOK Tryz.prog e := by
  unfold lK31
  simp only [List.forall_mem_cons]
  exact ⟨k30, fun _ h => by cases h⟩
theorem k31 : EntryOK Tryz.prog e31 := known_run tabK74_ok lK31_ok (fuel := 100000) (n := 60) (by kernel_rfl) (by kernel_rfl)
end Go.Proofs.YtemgddekbdifeaaGreat.Am
