/- What some calls come to. -/
import Derived.Test.YtemgddekbdifeaaKe2
import Derived.KernelRfl
set_option maxRecDepth 1000000
namespace Go.Proofs.Ytemgddekbdifeaa.Am
/-- cubit/rat.Of -/
def e24 : Entry := ⟨40, [(.int .i64 10)], .flat (.agg #[(.string ⟨#[49, 48]⟩), (.string ⟨#[49]⟩)])⟩
def lK24 : List Entry := []
theorem lK24_ok : ∀ e ∈ lK24, EntryOK Try.prog e := fun _ h => by cases h
theorem k24 : EntryOK Try.prog e24 := known_run tabK40_ok lK24_ok (fuel := 100000) (n := 60) (by kernel_rfl) (by kernel_rfl)
def tabK39 : List (Nat × AFn) := [(39, F39), (55, F55), (57, F57), (58, F58), (59, F59), (60, F60), (61, F61), (62, F62), (63, F63), (64, F64), (65, F65), (66, F66), (67, F67), (79, F79), (80, F80), (82, F82), (86, F86), (87, F87), (88, F88), (89, F89), (90, F90), (91, F91), (92, F92), (93, F93), (94, F94), (95, F95), (96, F96), (97, F97), (98, F98), (99, F99), (100, F100), (120, F120), (121, F121), (123, F123), (126, F126), (127, F127), (128, F128), (135, F135), (136, F136), (139, F139), (140, F140), (141, F141), (142, F142), (143, F143), (146, F146), (147, F147), (148, F148), (149, F149), (150, F150)]
theorem tabK39_ok : ∀ p ∈ tabK39, FnOK Try.prog p := by
  unfold tabK39
  simp only [List.forall_mem_cons]
  exact ⟨ok39, ok55, ok57, ok58, ok59, ok60, ok61, ok62, ok63, ok64, ok65, ok66, ok67, ok79, ok80, ok82, ok86, ok87, ok88, ok89, ok90, ok91, ok92, ok93, ok94, ok95, ok96, ok97, ok98, ok99, ok100, ok120, ok121, ok123, ok126, ok127, ok128, ok135, ok136, ok139, ok140, ok141, ok142, ok143, ok146, ok147, ok148, ok149, ok150, fun _ h => by cases h⟩
/-- cubit/rat.Pow -/
def e25 : Entry := ⟨39, [(.agg #[(.string ⟨#[49, 48]⟩), (.string ⟨#[49]⟩)]), (.int .i64 15)], .flat (.tuple #[(.agg #[(.string ⟨#[49, 48, 48, 48, 48, 48, 48, 48, 48, 48, 48, 48, 48, 48, 48, 48]⟩), (.string ⟨#[49]⟩)]), (.int .i64 0)])⟩
def lK25 : List Entry := []
theorem lK25_ok : ∀ e ∈ lK25, EntryOK Try.prog e := fun _ h => by cases h
theorem k25 : EntryOK Try.prog e25 := known_run tabK39_ok lK25_ok (fuel := 100000) (n := 60) (by kernel_rfl) (by kernel_rfl)
/-- cubit/rat.Of -/
def e26 : Entry := ⟨40, [(.int .i64 602214076)], .flat (.agg #[(.string ⟨#[54, 48, 50, 50, 49, 52, 48, 55, 54]⟩), (.string ⟨#[49]⟩)])⟩
def lK26 : List Entry := []
theorem lK26_ok : ∀ e ∈ lK26, EntryOK Try.prog e := fun _ h => by cases h
theorem k26 : EntryOK Try.prog e26 := known_run tabK40_ok lK26_ok (fuel := 100000) (n := 60) (by kernel_rfl) (by kernel_rfl)
/-- cubit/rat.Quo -/
def e27 : Entry := ⟨41, [(.agg #[(.string ⟨#[54, 48, 50, 50, 49, 52, 48, 55, 54]⟩), (.string ⟨#[49]⟩)]), (.agg #[(.string ⟨#[49]⟩), (.string ⟨#[49]⟩)])], .flat (.tuple #[(.agg #[(.string ⟨#[54, 48, 50, 50, 49, 52, 48, 55, 54]⟩), (.string ⟨#[49]⟩)]), (.int .i64 0)])⟩
def lK27 : List Entry := []
theorem lK27_ok : ∀ e ∈ lK27, EntryOK Try.prog e := fun _ h => by cases h
theorem k27 : EntryOK Try.prog e27 := known_run tabK41_ok lK27_ok (fuel := 100000) (n := 60) (by kernel_rfl) (by kernel_rfl)
def tabK42 : List (Nat × AFn) := [(42, F42), (53, F53), (59, F59), (60, F60), (62, F62), (65, F65), (66, F66), (67, F67), (70, F70), (79, F79), (80, F80), (82, F82), (87, F87), (88, F88), (89, F89), (91, F91), (92, F92), (93, F93), (94, F94), (95, F95), (96, F96), (97, F97), (98, F98), (99, F99), (100, F100), (120, F120), (121, F121), (123, F123), (126, F126), (127, F127), (128, F128), (135, F135), (136, F136), (139, F139), (140, F140), (141, F141), (142, F142), (143, F143), (146, F146), (147, F147), (148, F148), (149, F149), (150, F150)]
theorem tabK42_ok : ∀ p ∈ tabK42, FnOK Try.prog p := by
  unfold tabK42
  simp only [List.forall_mem_cons]
  exact ⟨ok42, ok53, ok59, ok60, ok62, ok65, ok66, ok67, ok70, ok79, ok80, ok82, ok87, ok88, ok89, ok91, ok92, ok93, ok94, ok95, ok96, ok97, ok98, ok99, ok100, ok120, ok121, ok123, ok126, ok127, ok128, ok135, ok136, ok139, ok140, ok141, ok142, ok143, ok146, ok147, ok148, ok149, ok150, fun _ h => by cases h⟩
/-- cubit/rat.Mul -/
def e28 : Entry := ⟨42, [(.agg #[(.string ⟨#[54, 48, 50, 50, 49, 52, 48, 55, 54]⟩), (.string ⟨#[49]⟩)]), (.agg #[(.string ⟨#[49, 48, 48, 48, 48, 48, 48, 48, 48, 48, 48, 48, 48, 48, 48, 48]⟩), (.string ⟨#[49]⟩)])], .flat (.tuple #[(.agg #[(.string ⟨#[54, 48, 50, 50, 49, 52, 48, 55, 54, 48, 48, 48, 48, 48, 48, 48, 48, 48, 48, 48, 48, 48, 48, 48]⟩), (.string ⟨#[49]⟩)]), (.int .i64 0)])⟩
def lK28 : List Entry := []
theorem lK28_ok : ∀ e ∈ lK28, EntryOK Try.prog e := fun _ h => by cases h
theorem k28 : EntryOK Try.prog e28 := known_run tabK42_ok lK28_ok (fuel := 100000) (n := 60) (by kernel_rfl) (by kernel_rfl)
/-- cubit/rat.Mul -/
def e29 : Entry := ⟨42, [(.agg #[(.string ⟨#[48]⟩), (.string ⟨#[49]⟩)]), (.agg #[(.string ⟨#[49, 48, 48, 48, 48, 48, 48, 48, 48, 48, 48, 48, 48, 48, 48, 48]⟩), (.string ⟨#[49]⟩)])], .flat (.tuple #[(.agg #[(.string ⟨#[48]⟩), (.string ⟨#[49]⟩)]), (.int .i64 0)])⟩
def lK29 : List Entry := []
theorem lK29_ok : ∀ e ∈ lK29, EntryOK Try.prog e := fun _ h => by cases h
theorem k29 : EntryOK Try.prog e29 := known_run tabK42_ok lK29_ok (fuel := 100000) (n := 60) (by kernel_rfl) (by kernel_rfl)
def tabK17 : List (Nat × AFn) := [(17, F17)]
theorem tabK17_ok : ∀ p ∈ tabK17, FnOK Try.prog p := by
  unfold tabK17
  simp only [List.forall_mem_cons]
  exact ⟨ok17, fun _ h => by cases h⟩
/-- cubit/nature.boltzmannMade -/
def e30 : Entry := ⟨17, [], .flat (.agg #[(.int .i64 1380649), (.int .i64 1), (.int .i64 (-29)), (.int .i64 0)])⟩
def lK30 : List Entry := []
theorem lK30_ok : ∀ e ∈ lK30, EntryOK Try.prog e := fun _ h => by cases h
theorem k30 : EntryOK Try.prog e30 := known_run tabK17_ok lK30_ok (fuel := 100000) (n := 60) (by kernel_rfl) (by kernel_rfl)
/-- cubit/rat.Pow -/
def e31 : Entry := ⟨39, [(.agg #[(.string ⟨#[49, 48]⟩), (.string ⟨#[49]⟩)]), (.int .i64 (-29))], .flat (.tuple #[(.agg #[(.string ⟨#[49]⟩), (.string ⟨#[49, 48, 48, 48, 48, 48, 48, 48, 48, 48, 48, 48, 48, 48, 48, 48, 48, 48, 48, 48, 48, 48, 48, 48, 48, 48, 48, 48, 48, 48]⟩)]), (.int .i64 0)])⟩
def lK31 : List Entry := []
theorem lK31_ok : ∀ e ∈ lK31, EntryOK Try.prog e := fun _ h => by cases h
theorem k31 : EntryOK Try.prog e31 := known_run tabK39_ok lK31_ok (fuel := 100000) (n := 60) (by kernel_rfl) (by kernel_rfl)
end Go.Proofs.Ytemgddekbdifeaa.Am
