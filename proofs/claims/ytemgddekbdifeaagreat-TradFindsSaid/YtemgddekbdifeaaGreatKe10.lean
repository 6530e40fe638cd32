/- What some calls come to. -/
import Derived.Test.YtemgddekbdifeaaGreatKe9
import Derived.KernelRfl
set_option maxRecDepth 1000000
namespace Go.Proofs.YtemgddekbdifeaaGreat.Am
/-- cubit/rat.Quo -/
def e80 : Entry := ⟨14, [(.agg #[(.string ⟨#[52, 55, 51, 49, 55, 54, 52, 55, 51]⟩), (.string ⟨#[49]⟩)]), (.agg #[(.string ⟨#[49, 48, 48, 48, 48, 48, 48, 48, 48, 48, 48, 48, 48]⟩), (.string ⟨#[49]⟩)])], .flat (.tuple #[(.agg #[(.string ⟨#[52, 55, 51, 49, 55, 54, 52, 55, 51]⟩), (.string ⟨#[49, 48, 48, 48, 48, 48, 48, 48, 48, 48, 48, 48, 48]⟩)]), (.int .i64 0)])⟩
def lK80 : List Entry := []
theorem lK80_ok : ∀ e ∈ lK80, EntryOK Tryz.prog e := fun _ h => by cases h
theorem k80 : EntryOK Tryz.prog e80 := known_run tabK14_ok lK80_ok (fuel := 100000) (n := 60) (by kernel_rfl) (by kernel_rfl)
def tabK80 : List (Nat × AFn) := [(80, F80)]
theorem tabK80_ok : ∀ p ∈ tabK80, FnOK Tryz.prog p := by
  unfold tabK80
  simp only [List.forall_mem_cons]
  exact ⟨ok80, fun _ h => by cases h⟩
/-- cubit/trad.poundMade -/
def e81 : Entry := ⟨80, [], .flat (.agg #[(.int .i64 45359237), (.int .i64 100000000)])⟩
def lK81 : List Entry := []
theorem lK81_ok : ∀ e ∈ lK81, EntryOK Tryz.prog e := fun _ h => by cases h
theorem k81 : EntryOK Tryz.prog e81 := known_run tabK80_ok lK81_ok (fuel := 100000) (n := 60) (by kernel_rfl) (by kernel_rfl)
def tabK81 : List (Nat × AFn) := [(81, F81), (131, F131), (132, F132), (173, F173)]
theorem tabK81_ok : ∀ p ∈ tabK81, FnOK Tryz.prog p := by
  unfold tabK81
  simp only [List.forall_mem_cons]
  exact ⟨ok81, ok131, ok132, ok173, fun _ h => by cases h⟩
/-- cubit/trad.grainMade -/
def e82 : Entry := ⟨81, [], .flat (.agg #[(.int .i64 6479891), (.int .i64 100000000000)])⟩
def lK82 : List Entry := [e81]
theorem lK82_ok : ∀ e ∈ lK82, EntryOK Tryz.prog e := by
  unfold lK82
  simp only [List.forall_mem_cons]
  exact ⟨k81, fun _ h => by cases h⟩
theorem k82 : EntryOK Tryz.prog e82 := known_run tabK81_ok lK82_ok (fuel := 100000) (n := 60) (by kernel_rfl) (by kernel_rfl)
def tabK82 : List (Nat × AFn) := [(82, F82), (131, F131), (132, F132), (173, F173)]
theorem tabK82_ok : ∀ p ∈ tabK82, FnOK Tryz.prog p := by
  unfold tabK82
  simp only [List.forall_mem_cons]
  exact ⟨ok82, ok131, ok132, ok173, fun _ h => by cases h⟩
/-- cubit/trad.ounceMade -/
def e83 : Entry := ⟨82, [], .flat (.agg #[(.int .i64 45359237), (.int .i64 1600000000)])⟩
def lK83 : List Entry := [e81]
theorem lK83_ok : ∀ e ∈ lK83, EntryOK Tryz.prog e := by
  unfold lK83
  simp only [List.forall_mem_cons]
  exact ⟨k81, fun _ h => by cases h⟩
theorem k83 : EntryOK Tryz.prog e83 := known_run tabK82_ok lK83_ok (fuel := 100000) (n := 60) (by kernel_rfl) (by kernel_rfl)
/-- cubit/rat.Of -/
def e84 : Entry := ⟨124, [(.int .i64 45359237)], .flat (.agg #[(.string ⟨#[52, 53, 51, 53, 57, 50, 51, 55]⟩), (.string ⟨#[49]⟩)])⟩
def lK84 : List Entry := []
theorem lK84_ok : ∀ e ∈ lK84, EntryOK Tryz.prog e := fun _ h => by cases h
theorem k84 : EntryOK Tryz.prog e84 := known_run tabK124_ok lK84_ok (fuel := 100000) (n := 60) (by kernel_rfl) (by kernel_rfl)
/-- cubit/rat.Of -/
def e85 : Entry := ⟨124, [(.int .i64 100000000)], .flat (.agg #[(.string ⟨#[49, 48, 48, 48, 48, 48, 48, 48, 48]⟩), (.string ⟨#[49]⟩)])⟩
def lK85 : List Entry := []
theorem lK85_ok : ∀ e ∈ lK85, EntryOK Tryz.prog e := fun _ h => by cases h
theorem k85 : EntryOK Tryz.prog e85 := known_run tabK124_ok lK85_ok (fuel := 100000) (n := 60) (by kernel_rfl) (by kernel_rfl)
/-- cubit/rat.Quo -/
def e86 : Entry := ⟨14, [(.agg #[(.string ⟨#[52, 53, 51, 53, 57, 50, 51, 55]⟩), (.string ⟨#[49]⟩)]), (.agg #[(.string ⟨#[49, 48, 48, 48, 48, 48, 48, 48, 48]⟩), (.string ⟨#[49]⟩)])], .flat (.tuple #[(.agg #[(.string ⟨#[52, 53, 51, 53, 57, 50, 51, 55]⟩), (.string ⟨#[49, 48, 48, 48, 48, 48, 48, 48, 48]⟩)]), (.int .i64 0)])⟩
def lK86 : List Entry := []
theorem lK86_ok : ∀ e ∈ lK86, EntryOK Tryz.prog e := fun _ h => by cases h
theorem k86 : EntryOK Tryz.prog e86 := known_run tabK14_ok lK86_ok (fuel := 100000) (n := 60) (by kernel_rfl) (by kernel_rfl)
/-- cubit/rat.Of -/
def e87 : Entry := ⟨124, [(.int .i64 6479891)], .flat (.agg #[(.string ⟨#[54, 52, 55, 57, 56, 57, 49]⟩), (.string ⟨#[49]⟩)])⟩
def lK87 : List Entry := []
theorem lK87_ok : ∀ e ∈ lK87, EntryOK Tryz.prog e := fun _ h => by cases h
theorem k87 : EntryOK Tryz.prog e87 := known_run tabK124_ok lK87_ok (fuel := 100000) (n := 60) (by kernel_rfl) (by kernel_rfl)
end Go.Proofs.YtemgddekbdifeaaGreat.Am
