/- What some calls come to. -/
import Derived.Test.YtemgddekbdifeaaKe0
import Derived.KernelRfl
set_option maxRecDepth 1000000
namespace Go.Proofs.Ytemgddekbdifeaa.Am
/-- cubit/rat.Of -/
def e8 : Entry := ⟨40, [(.int .i64 9)], .flat (.agg #[(.string ⟨#[57]⟩), (.string ⟨#[49]⟩)])⟩
def lK8 : List Entry := []
theorem lK8_ok : ∀ e ∈ lK8, EntryOK Try.prog e := fun _ h => by cases h
theorem k8 : EntryOK Try.prog e8 := known_run tabK40_ok lK8_ok (fuel := 100000) (n := 60) (by kernel_rfl) (by kernel_rfl)
def tabK41 : List (Nat × AFn) := [(41, F41), (55, F55), (59, F59), (60, F60), (62, F62), (65, F65), (66, F66), (67, F67), (68, F68), (69, F69), (79, F79), (80, F80), (82, F82), (87, F87), (88, F88), (89, F89), (91, F91), (92, F92), (93, F93), (94, F94), (95, F95), (96, F96), (97, F97), (98, F98), (99, F99), (100, F100), (120, F120), (121, F121), (123, F123), (126, F126), (127, F127), (128, F128), (135, F135), (136, F136), (139, F139), (140, F140), (141, F141), (142, F142), (143, F143), (146, F146), (147, F147), (148, F148), (149, F149), (150, F150)]
theorem tabK41_ok : ∀ p ∈ tabK41, FnOK Try.prog p := by
  unfold tabK41
  simp only [List.forall_mem_cons]
  exact ⟨ok41, ok55, ok59, ok60, ok62, ok65, ok66, ok67, ok68, ok69, ok79, ok80, ok82, ok87, ok88, ok89, ok91, ok92, ok93, ok94, ok95, ok96, ok97, ok98, ok99, ok100, ok120, ok121, ok123, ok126, ok127, ok128, ok135, ok136, ok139, ok140, ok141, ok142, ok143, ok146, ok147, ok148, ok149, ok150, fun _ h => by cases h⟩
/-- cubit/rat.Quo -/
def e9 : Entry := ⟨41, [(.agg #[(.string ⟨#[53]⟩), (.string ⟨#[49]⟩)]), (.agg #[(.string ⟨#[57]⟩), (.string ⟨#[49]⟩)])], .flat (.tuple #[(.agg #[(.string ⟨#[53]⟩), (.string ⟨#[57]⟩)]), (.int .i64 0)])⟩
def lK9 : List Entry := []
theorem lK9_ok : ∀ e ∈ lK9, EntryOK Try.prog e := fun _ h => by cases h
theorem k9 : EntryOK Try.prog e9 := known_run tabK41_ok lK9_ok (fuel := 100000) (n := 60) (by kernel_rfl) (by kernel_rfl)
/-- cubit/rat.Quo -/
def e10 : Entry := ⟨41, [(.agg #[(.string ⟨#[48]⟩), (.string ⟨#[49]⟩)]), (.agg #[(.string ⟨#[49]⟩), (.string ⟨#[49]⟩)])], .flat (.tuple #[(.agg #[(.string ⟨#[48]⟩), (.string ⟨#[49]⟩)]), (.int .i64 0)])⟩
def lK10 : List Entry := []
theorem lK10_ok : ∀ e ∈ lK10, EntryOK Try.prog e := fun _ h => by cases h
theorem k10 : EntryOK Try.prog e10 := known_run tabK41_ok lK10_ok (fuel := 100000) (n := 60) (by kernel_rfl) (by kernel_rfl)
def tabK34 : List (Nat × AFn) := [(34, F34)]
theorem tabK34_ok : ∀ p ∈ tabK34, FnOK Try.prog p := by
  unfold tabK34
  simp only [List.forall_mem_cons]
  exact ⟨ok34, fun _ h => by cases h⟩
/-- cubit/temps.celsiusMade -/
def e11 : Entry := ⟨34, [], .flat (.agg #[(.int .i64 1), (.int .i64 1), (.int .i64 5463), (.int .i64 20)])⟩
def lK11 : List Entry := []
theorem lK11_ok : ∀ e ∈ lK11, EntryOK Try.prog e := fun _ h => by cases h
theorem k11 : EntryOK Try.prog e11 := known_run tabK34_ok lK11_ok (fuel := 100000) (n := 60) (by kernel_rfl) (by kernel_rfl)
/-- cubit/rat.Quo -/
def e12 : Entry := ⟨41, [(.agg #[(.string ⟨#[49]⟩), (.string ⟨#[49]⟩)]), (.agg #[(.string ⟨#[49]⟩), (.string ⟨#[49]⟩)])], .flat (.tuple #[(.agg #[(.string ⟨#[49]⟩), (.string ⟨#[49]⟩)]), (.int .i64 0)])⟩
def lK12 : List Entry := []
theorem lK12_ok : ∀ e ∈ lK12, EntryOK Try.prog e := fun _ h => by cases h
theorem k12 : EntryOK Try.prog e12 := known_run tabK41_ok lK12_ok (fuel := 100000) (n := 60) (by kernel_rfl) (by kernel_rfl)
/-- cubit/rat.Of -/
def e13 : Entry := ⟨40, [(.int .i64 5463)], .flat (.agg #[(.string ⟨#[53, 52, 54, 51]⟩), (.string ⟨#[49]⟩)])⟩
def lK13 : List Entry := []
theorem lK13_ok : ∀ e ∈ lK13, EntryOK Try.prog e := fun _ h => by cases h
theorem k13 : EntryOK Try.prog e13 := known_run tabK40_ok lK13_ok (fuel := 100000) (n := 60) (by kernel_rfl) (by kernel_rfl)
/-- cubit/rat.Of -/
def e14 : Entry := ⟨40, [(.int .i64 20)], .flat (.agg #[(.string ⟨#[50, 48]⟩), (.string ⟨#[49]⟩)])⟩
def lK14 : List Entry := []
theorem lK14_ok : ∀ e ∈ lK14, EntryOK Try.prog e := fun _ h => by cases h
theorem k14 : EntryOK Try.prog e14 := known_run tabK40_ok lK14_ok (fuel := 100000) (n := 60) (by kernel_rfl) (by kernel_rfl)
/-- cubit/rat.Quo -/
def e15 : Entry := ⟨41, [(.agg #[(.string ⟨#[53, 52, 54, 51]⟩), (.string ⟨#[49]⟩)]), (.agg #[(.string ⟨#[50, 48]⟩), (.string ⟨#[49]⟩)])], .flat (.tuple #[(.agg #[(.string ⟨#[53, 52, 54, 51]⟩), (.string ⟨#[50, 48]⟩)]), (.int .i64 0)])⟩
def lK15 : List Entry := []
theorem lK15_ok : ∀ e ∈ lK15, EntryOK Try.prog e := fun _ h => by cases h
theorem k15 : EntryOK Try.prog e15 := known_run tabK41_ok lK15_ok (fuel := 100000) (n := 60) (by kernel_rfl) (by kernel_rfl)
end Go.Proofs.Ytemgddekbdifeaa.Am
