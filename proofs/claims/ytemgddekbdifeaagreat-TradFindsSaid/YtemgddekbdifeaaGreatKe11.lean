/- What some calls come to. -/
import Derived.Test.YtemgddekbdifeaaGreatKe10
import Derived.KernelRfl
set_option maxRecDepth 1000000
namespace Go.Proofs.YtemgddekbdifeaaGreat.Am
/-- cubit/rat.Of -/
def e88 : Entry := ⟨124, [(.int .i64 100000000000)], .flat (.agg #[(.string ⟨#[49, 48, 48, 48, 48, 48, 48, 48, 48, 48, 48, 48]⟩), (.string ⟨#[49]⟩)])⟩
def lK88 : List Entry := []
theorem lK88_ok : ∀ e ∈ lK88, EntryOK Tryz.prog e := fun _ h => by cases h
theorem k88 : EntryOK Tryz.prog e88 := known_run tabK124_ok lK88_ok (fuel := 100000) (n := 60) (by kernel_rfl) (by kernel_rfl)
/-- cubit/rat.Quo -/
def e89 : Entry := ⟨14, [(.agg #[(.string ⟨#[54, 52, 55, 57, 56, 57, 49]⟩), (.string ⟨#[49]⟩)]), (.agg #[(.string ⟨#[49, 48, 48, 48, 48, 48, 48, 48, 48, 48, 48, 48]⟩), (.string ⟨#[49]⟩)])], .flat (.tuple #[(.agg #[(.string ⟨#[54, 52, 55, 57, 56, 57, 49]⟩), (.string ⟨#[49, 48, 48, 48, 48, 48, 48, 48, 48, 48, 48, 48]⟩)]), (.int .i64 0)])⟩
def lK89 : List Entry := []
theorem lK89_ok : ∀ e ∈ lK89, EntryOK Tryz.prog e := fun _ h => by cases h
theorem k89 : EntryOK Tryz.prog e89 := known_run tabK14_ok lK89_ok (fuel := 100000) (n := 60) (by kernel_rfl) (by kernel_rfl)
/-- cubit/rat.Of -/
def e90 : Entry := ⟨124, [(.int .i64 1600000000)], .flat (.agg #[(.string ⟨#[49, 54, 48, 48, 48, 48, 48, 48, 48, 48]⟩), (.string ⟨#[49]⟩)])⟩
def lK90 : List Entry := []
theorem lK90_ok : ∀ e ∈ lK90, EntryOK Tryz.prog e := fun _ h => by cases h
theorem k90 : EntryOK Tryz.prog e90 := known_run tabK124_ok lK90_ok (fuel := 100000) (n := 60) (by kernel_rfl) (by kernel_rfl)
/-- cubit/rat.Quo -/
def e91 : Entry := ⟨14, [(.agg #[(.string ⟨#[52, 53, 51, 53, 57, 50, 51, 55]⟩), (.string ⟨#[49]⟩)]), (.agg #[(.string ⟨#[49, 54, 48, 48, 48, 48, 48, 48, 48, 48]⟩), (.string ⟨#[49]⟩)])], .flat (.tuple #[(.agg #[(.string ⟨#[52, 53, 51, 53, 57, 50, 51, 55]⟩), (.string ⟨#[49, 54, 48, 48, 48, 48, 48, 48, 48, 48]⟩)]), (.int .i64 0)])⟩
def lK91 : List Entry := []
theorem lK91_ok : ∀ e ∈ lK91, EntryOK Tryz.prog e := fun _ h => by cases h
theorem k91 : EntryOK Tryz.prog e91 := known_run tabK14_ok lK91_ok (fuel := 100000) (n := 60) (by kernel_rfl) (by kernel_rfl)
/-- cubit/trad.below -/
def e92 : Entry := ⟨62, [(.string ⟨#[110, 101, 119, 116, 111, 110]⟩)], .flat (.agg #[(.int .i64 1), (.int .i64 1), (.int .i64 (-2)), (.int .i64 0), (.int .i64 0), (.int .i64 0), (.int .i64 0), (.int .i64 0)])⟩
def lK92 : List Entry := [e5, e65]
theorem lK92_ok : ∀ e ∈ lK92, EntryOK Tryz.prog e := by
  unfold lK92
  simp only [List.forall_mem_cons]
  exact ⟨k5, k65, fun _ h => by cases h⟩
theorem k92 : EntryOK Tryz.prog e92 := known_run tabK62_ok lK92_ok (fuel := 100000) (n := 60) (by kernel_rfl) (by kernel_rfl)
def tabK83 : List (Nat × AFn) := [(83, F83), (131, F131), (132, F132), (173, F173)]
theorem tabK83_ok : ∀ p ∈ tabK83, FnOK Tryz.prog p := by
  unfold tabK83
  simp only [List.forall_mem_cons]
  exact ⟨ok83, ok131, ok132, ok173, fun _ h => by cases h⟩
/-- cubit/trad.poundforceMade -/
def e93 : Entry := ⟨83, [], .flat (.agg #[(.int .i64 8896443230521), (.int .i64 2000000000000)])⟩
def lK93 : List Entry := [e81]
theorem lK93_ok : ∀ e ∈ lK93, EntryOK Tryz.prog e := by
  unfold lK93
  simp only [List.forall_mem_cons]
  exact ⟨k81, fun _ h => by cases h⟩
theorem k93 : EntryOK Tryz.prog e93 := known_run tabK83_ok lK93_ok (fuel := 100000) (n := 60) (by kernel_rfl) (by kernel_rfl)
/-- cubit/rat.Of -/
def e94 : Entry := ⟨124, [(.int .i64 8896443230521)], .flat (.agg #[(.string ⟨#[56, 56, 57, 54, 52, 52, 51, 50, 51, 48, 53, 50, 49]⟩), (.string ⟨#[49]⟩)])⟩
def lK94 : List Entry := []
theorem lK94_ok : ∀ e ∈ lK94, EntryOK Tryz.prog e := fun _ h => by cases h
theorem k94 : EntryOK Tryz.prog e94 := known_run tabK124_ok lK94_ok (fuel := 100000) (n := 60) (by kernel_rfl) (by kernel_rfl)
/-- cubit/rat.Of -/
def e95 : Entry := ⟨124, [(.int .i64 2000000000000)], .flat (.agg #[(.string ⟨#[50, 48, 48, 48, 48, 48, 48, 48, 48, 48, 48, 48, 48]⟩), (.string ⟨#[49]⟩)])⟩
def lK95 : List Entry := []
theorem lK95_ok : ∀ e ∈ lK95, EntryOK Tryz.prog e := fun _ h => by cases h
theorem k95 : EntryOK Tryz.prog e95 := known_run tabK124_ok lK95_ok (fuel := 100000) (n := 60) (by kernel_rfl) (by kernel_rfl)
end Go.Proofs.YtemgddekbdifeaaGreat.Am
