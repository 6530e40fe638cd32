/- What some calls come to. -/
import Derived.Test.YtemgddekbdifeaaGreatKe12
import Derived.KernelRfl
set_option maxRecDepth 1000000
namespace Go.Proofs.YtemgddekbdifeaaGreat.Am
/-- cubit/rat.Quo -/
def e104 : Entry := ⟨14, [(.agg #[(.string ⟨#[56, 56, 57, 54, 52, 52, 51, 50, 51, 48, 53, 50, 49]⟩), (.string ⟨#[49]⟩)]), (.agg #[(.string ⟨#[49, 50, 57, 48, 51, 50, 48, 48, 48, 48]⟩), (.string ⟨#[49]⟩)])], .flat (.tuple #[(.agg #[(.string ⟨#[56, 56, 57, 54, 52, 52, 51, 50, 51, 48, 53, 50, 49]⟩), (.string ⟨#[49, 50, 57, 48, 51, 50, 48, 48, 48, 48]⟩)]), (.int .i64 0)])⟩
def lK104 : List Entry := []
theorem lK104_ok : ∀ e ∈ lK104, EntryOK Tryz.prog e := fun _ h => by cases h
theorem k104 : EntryOK Tryz.prog e104 := known_run tabK14_ok lK104_ok (fuel := 100000) (n := 60) (by kernel_rfl) (by kernel_rfl)
def tabK86 : List (Nat × AFn) := [(86, F86), (131, F131), (132, F132), (173, F173)]
theorem tabK86_ok : ∀ p ∈ tabK86, FnOK Tryz.prog p := by
  unfold tabK86
  simp only [List.forall_mem_cons]
  exact ⟨ok86, ok131, ok132, ok173, fun _ h => by cases h⟩
/-- cubit/trad.stoneMade -/
def e105 : Entry := ⟨86, [], .flat (.agg #[(.int .i64 317514659), (.int .i64 50000000)])⟩
def lK105 : List Entry := [e81]
theorem lK105_ok : ∀ e ∈ lK105, EntryOK Tryz.prog e := by
  unfold lK105
  simp only [List.forall_mem_cons]
  exact ⟨k81, fun _ h => by cases h⟩
theorem k105 : EntryOK Tryz.prog e105 := known_run tabK86_ok lK105_ok (fuel := 100000) (n := 60) (by kernel_rfl) (by kernel_rfl)
def tabK87 : List (Nat × AFn) := [(87, F87), (131, F131), (132, F132), (173, F173)]
theorem tabK87_ok : ∀ p ∈ tabK87, FnOK Tryz.prog p := by
  unfold tabK87
  simp only [List.forall_mem_cons]
  exact ⟨ok87, ok131, ok132, ok173, fun _ h => by cases h⟩
/-- cubit/trad.tonMade -/
def e106 : Entry := ⟨87, [], .flat (.agg #[(.int .i64 45359237), (.int .i64 50000)])⟩
def lK106 : List Entry := [e81]
theorem lK106_ok : ∀ e ∈ lK106, EntryOK Tryz.prog e := by
  unfold lK106
  simp only [List.forall_mem_cons]
  exact ⟨k81, fun _ h => by cases h⟩
theorem k106 : EntryOK Tryz.prog e106 := known_run tabK87_ok lK106_ok (fuel := 100000) (n := 60) (by kernel_rfl) (by kernel_rfl)
/-- cubit/rat.Of -/
def e107 : Entry := ⟨124, [(.int .i64 317514659)], .flat (.agg #[(.string ⟨#[51, 49, 55, 53, 49, 52, 54, 53, 57]⟩), (.string ⟨#[49]⟩)])⟩
def lK107 : List Entry := []
theorem lK107_ok : ∀ e ∈ lK107, EntryOK Tryz.prog e := fun _ h => by cases h
theorem k107 : EntryOK Tryz.prog e107 := known_run tabK124_ok lK107_ok (fuel := 100000) (n := 60) (by kernel_rfl) (by kernel_rfl)
/-- cubit/rat.Of -/
def e108 : Entry := ⟨124, [(.int .i64 50000000)], .flat (.agg #[(.string ⟨#[53, 48, 48, 48, 48, 48, 48, 48]⟩), (.string ⟨#[49]⟩)])⟩
def lK108 : List Entry := []
theorem lK108_ok : ∀ e ∈ lK108, EntryOK Tryz.prog e := fun _ h => by cases h
theorem k108 : EntryOK Tryz.prog e108 := known_run tabK124_ok lK108_ok (fuel := 100000) (n := 60) (by kernel_rfl) (by kernel_rfl)
/-- cubit/rat.Quo -/
def e109 : Entry := ⟨14, [(.agg #[(.string ⟨#[51, 49, 55, 53, 49, 52, 54, 53, 57]⟩), (.string ⟨#[49]⟩)]), (.agg #[(.string ⟨#[53, 48, 48, 48, 48, 48, 48, 48]⟩), (.string ⟨#[49]⟩)])], .flat (.tuple #[(.agg #[(.string ⟨#[51, 49, 55, 53, 49, 52, 54, 53, 57]⟩), (.string ⟨#[53, 48, 48, 48, 48, 48, 48, 48]⟩)]), (.int .i64 0)])⟩
def lK109 : List Entry := []
theorem lK109_ok : ∀ e ∈ lK109, EntryOK Tryz.prog e := fun _ h => by cases h
theorem k109 : EntryOK Tryz.prog e109 := known_run tabK14_ok lK109_ok (fuel := 100000) (n := 60) (by kernel_rfl) (by kernel_rfl)
/-- cubit/rat.Of -/
def e110 : Entry := ⟨124, [(.int .i64 50000)], .flat (.agg #[(.string ⟨#[53, 48, 48, 48, 48]⟩), (.string ⟨#[49]⟩)])⟩
def lK110 : List Entry := []
theorem lK110_ok : ∀ e ∈ lK110, EntryOK Tryz.prog e := fun _ h => by cases h
theorem k110 : EntryOK Tryz.prog e110 := known_run tabK124_ok lK110_ok (fuel := 100000) (n := 60) (by kernel_rfl) (by kernel_rfl)
/-- cubit/rat.Quo -/
def e111 : Entry := ⟨14, [(.agg #[(.string ⟨#[52, 53, 51, 53, 57, 50, 51, 55]⟩), (.string ⟨#[49]⟩)]), (.agg #[(.string ⟨#[53, 48, 48, 48, 48]⟩), (.string ⟨#[49]⟩)])], .flat (.tuple #[(.agg #[(.string ⟨#[52, 53, 51, 53, 57, 50, 51, 55]⟩), (.string ⟨#[53, 48, 48, 48, 48]⟩)]), (.int .i64 0)])⟩
def lK111 : List Entry := []
theorem lK111_ok : ∀ e ∈ lK111, EntryOK Tryz.prog e := fun _ h => by cases h
theorem k111 : EntryOK Tryz.prog e111 := known_run tabK14_ok lK111_ok (fuel := 100000) (n := 60) (by kernel_rfl) (by kernel_rfl)
end Go.Proofs.YtemgddekbdifeaaGreat.Am
