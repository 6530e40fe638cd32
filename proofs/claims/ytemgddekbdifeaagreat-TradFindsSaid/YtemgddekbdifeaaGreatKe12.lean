/- What some calls come to. -/
import Derived.Test.YtemgddekbdifeaaGreatKe11
import Derived.KernelRfl
set_option maxRecDepth 1000000
namespace Go.Proofs.YtemgddekbdifeaaGreat.Am
/-- cubit/rat.Quo -/
def e96 : Entry := ⟨14, [(.agg #[(.string ⟨#[56, 56, 57, 54, 52, 52, 51, 50, 51, 48, 53, 50, 49]⟩), (.string ⟨#[49]⟩)]), (.agg #[(.string ⟨#[50, 48, 48, 48, 48, 48, 48, 48, 48, 48, 48, 48, 48]⟩), (.string ⟨#[49]⟩)])], .flat (.tuple #[(.agg #[(.string ⟨#[56, 56, 57, 54, 52, 52, 51, 50, 51, 48, 53, 50, 49]⟩), (.string ⟨#[50, 48, 48, 48, 48, 48, 48, 48, 48, 48, 48, 48, 48]⟩)]), (.int .i64 0)])⟩
def lK96 : List Entry := []
theorem lK96_ok : ∀ e ∈ lK96, EntryOK Tryz.prog e := fun _ h => by cases h
theorem k96 : EntryOK Tryz.prog e96 := known_run tabK14_ok lK96_ok (fuel := 100000) (n := 60) (by kernel_rfl) (by kernel_rfl)
/-- cubit/trad.below -/
def e97 : Entry := ⟨62, [(.string ⟨#[119, 97, 116, 116]⟩)], .flat (.agg #[(.int .i64 2), (.int .i64 1), (.int .i64 (-3)), (.int .i64 0), (.int .i64 0), (.int .i64 0), (.int .i64 0), (.int .i64 0)])⟩
def lK97 : List Entry := [e5, e65]
theorem lK97_ok : ∀ e ∈ lK97, EntryOK Tryz.prog e := by
  unfold lK97
  simp only [List.forall_mem_cons]
  exact ⟨k5, k65, fun _ h => by cases h⟩
theorem k97 : EntryOK Tryz.prog e97 := known_run tabK62_ok lK97_ok (fuel := 100000) (n := 60) (by kernel_rfl) (by kernel_rfl)
def tabK84 : List (Nat × AFn) := [(84, F84), (131, F131), (132, F132), (173, F173)]
theorem tabK84_ok : ∀ p ∈ tabK84, FnOK Tryz.prog p := by
  unfold tabK84
  simp only [List.forall_mem_cons]
  exact ⟨ok84, ok131, ok132, ok173, fun _ h => by cases h⟩
/-- cubit/trad.horsepowerMade -/
def e98 : Entry := ⟨84, [], .flat (.agg #[(.int .i64 37284993579113511), (.int .i64 50000000000000)])⟩
def lK98 : List Entry := [e10, e93]
theorem lK98_ok : ∀ e ∈ lK98, EntryOK Tryz.prog e := by
  unfold lK98
  simp only [List.forall_mem_cons]
  exact ⟨k10, k93, fun _ h => by cases h⟩
theorem k98 : EntryOK Tryz.prog e98 := known_run tabK84_ok lK98_ok (fuel := 100000) (n := 60) (by kernel_rfl) (by kernel_rfl)
/-- cubit/rat.Of -/
def e99 : Entry := ⟨124, [(.int .i64 37284993579113511)], .flat (.agg #[(.string ⟨#[51, 55, 50, 56, 52, 57, 57, 51, 53, 55, 57, 49, 49, 51, 53, 49, 49]⟩), (.string ⟨#[49]⟩)])⟩
def lK99 : List Entry := []
theorem lK99_ok : ∀ e ∈ lK99, EntryOK Tryz.prog e := fun _ h => by cases h
theorem k99 : EntryOK Tryz.prog e99 := known_run tabK124_ok lK99_ok (fuel := 100000) (n := 60) (by kernel_rfl) (by kernel_rfl)
/-- cubit/rat.Of -/
def e100 : Entry := ⟨124, [(.int .i64 50000000000000)], .flat (.agg #[(.string ⟨#[53, 48, 48, 48, 48, 48, 48, 48, 48, 48, 48, 48, 48, 48]⟩), (.string ⟨#[49]⟩)])⟩
def lK100 : List Entry := []
theorem lK100_ok : ∀ e ∈ lK100, EntryOK Tryz.prog e := fun _ h => by cases h
theorem k100 : EntryOK Tryz.prog e100 := known_run tabK124_ok lK100_ok (fuel := 100000) (n := 60) (by kernel_rfl) (by kernel_rfl)
/-- cubit/rat.Quo -/
def e101 : Entry := ⟨14, [(.agg #[(.string ⟨#[51, 55, 50, 56, 52, 57, 57, 51, 53, 55, 57, 49, 49, 51, 53, 49, 49]⟩), (.string ⟨#[49]⟩)]), (.agg #[(.string ⟨#[53, 48, 48, 48, 48, 48, 48, 48, 48, 48, 48, 48, 48, 48]⟩), (.string ⟨#[49]⟩)])], .flat (.tuple #[(.agg #[(.string ⟨#[51, 55, 50, 56, 52, 57, 57, 51, 53, 55, 57, 49, 49, 51, 53, 49, 49]⟩), (.string ⟨#[53, 48, 48, 48, 48, 48, 48, 48, 48, 48, 48, 48, 48, 48]⟩)]), (.int .i64 0)])⟩
def lK101 : List Entry := []
theorem lK101_ok : ∀ e ∈ lK101, EntryOK Tryz.prog e := fun _ h => by cases h
theorem k101 : EntryOK Tryz.prog e101 := known_run tabK14_ok lK101_ok (fuel := 100000) (n := 60) (by kernel_rfl) (by kernel_rfl)
def tabK85 : List (Nat × AFn) := [(85, F85), (132, F132), (133, F133), (173, F173)]
theorem tabK85_ok : ∀ p ∈ tabK85, FnOK Tryz.prog p := by
  unfold tabK85
  simp only [List.forall_mem_cons]
  exact ⟨ok85, ok132, ok133, ok173, fun _ h => by cases h⟩
/-- cubit/trad.psiMade -/
def e102 : Entry := ⟨85, [], .flat (.agg #[(.int .i64 8896443230521), (.int .i64 1290320000)])⟩
def lK102 : List Entry := [e9, e93]
theorem lK102_ok : ∀ e ∈ lK102, EntryOK Tryz.prog e := by
  unfold lK102
  simp only [List.forall_mem_cons]
  exact ⟨k9, k93, fun _ h => by cases h⟩
theorem k102 : EntryOK Tryz.prog e102 := known_run tabK85_ok lK102_ok (fuel := 100000) (n := 60) (by kernel_rfl) (by kernel_rfl)
/-- cubit/rat.Of -/
def e103 : Entry := ⟨124, [(.int .i64 1290320000)], .flat (.agg #[(.string ⟨#[49, 50, 57, 48, 51, 50, 48, 48, 48, 48]⟩), (.string ⟨#[49]⟩)])⟩
def lK103 : List Entry := []
theorem lK103_ok : ∀ e ∈ lK103, EntryOK Tryz.prog e := fun _ h => by cases h
theorem k103 : EntryOK Tryz.prog e103 := known_run tabK124_ok lK103_ok (fuel := 100000) (n := 60) (by kernel_rfl) (by kernel_rfl)
end Go.Proofs.YtemgddekbdifeaaGreat.Am
