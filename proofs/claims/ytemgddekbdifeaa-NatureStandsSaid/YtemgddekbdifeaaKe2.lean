/- What some calls come to. -/
import Derived.Test.YtemgddekbdifeaaKe1
import Derived.KernelRfl
set_option maxRecDepth 1000000
namespace Go.Proofs.Ytemgddekbdifeaa.Am
def tabK35 : List (Nat × AFn) := [(35, F35), (50, F50), (76, F76), (77, F77), (119, F119)]
theorem tabK35_ok : ∀ p ∈ tabK35, FnOK Try.prog p := by
  unfold tabK35
  simp only [List.forall_mem_cons]
  exact ⟨ok35, ok50, ok76, ok77, ok119, fun _ h => by cases h⟩
/-- cubit/temps.fahrenheitMade -/
def e16 : Entry := ⟨35, [], .flat (.agg #[(.int .i64 5), (.int .i64 9), (.int .i64 45967), (.int .i64 180)])⟩
def lK16 : List Entry := [e0, e11]
theorem lK16_ok : ∀ e ∈ lK16, EntryOK Try.prog e := by
  unfold lK16
  simp only [List.forall_mem_cons]
  exact ⟨k0, k11, fun _ h => by cases h⟩
theorem k16 : EntryOK Try.prog e16 := known_run tabK35_ok lK16_ok (fuel := 100000) (n := 60) (by kernel_rfl) (by kernel_rfl)
/-- cubit/rat.Of -/
def e17 : Entry := ⟨40, [(.int .i64 45967)], .flat (.agg #[(.string ⟨#[52, 53, 57, 54, 55]⟩), (.string ⟨#[49]⟩)])⟩
def lK17 : List Entry := []
theorem lK17_ok : ∀ e ∈ lK17, EntryOK Try.prog e := fun _ h => by cases h
theorem k17 : EntryOK Try.prog e17 := known_run tabK40_ok lK17_ok (fuel := 100000) (n := 60) (by kernel_rfl) (by kernel_rfl)
/-- cubit/rat.Of -/
def e18 : Entry := ⟨40, [(.int .i64 180)], .flat (.agg #[(.string ⟨#[49, 56, 48]⟩), (.string ⟨#[49]⟩)])⟩
def lK18 : List Entry := []
theorem lK18_ok : ∀ e ∈ lK18, EntryOK Try.prog e := fun _ h => by cases h
theorem k18 : EntryOK Try.prog e18 := known_run tabK40_ok lK18_ok (fuel := 100000) (n := 60) (by kernel_rfl) (by kernel_rfl)
/-- cubit/rat.Quo -/
def e19 : Entry := ⟨41, [(.agg #[(.string ⟨#[52, 53, 57, 54, 55]⟩), (.string ⟨#[49]⟩)]), (.agg #[(.string ⟨#[49, 56, 48]⟩), (.string ⟨#[49]⟩)])], .flat (.tuple #[(.agg #[(.string ⟨#[52, 53, 57, 54, 55]⟩), (.string ⟨#[49, 56, 48]⟩)]), (.int .i64 0)])⟩
def lK19 : List Entry := []
theorem lK19_ok : ∀ e ∈ lK19, EntryOK Try.prog e := fun _ h => by cases h
theorem k19 : EntryOK Try.prog e19 := known_run tabK41_ok lK19_ok (fuel := 100000) (n := 60) (by kernel_rfl) (by kernel_rfl)
def tabK11 : List (Nat × AFn) := [(11, F11), (33, F33), (48, F48), (49, F49), (74, F74), (75, F75)]
theorem tabK11_ok : ∀ p ∈ tabK11, FnOK Try.prog p := by
  unfold tabK11
  simp only [List.forall_mem_cons]
  exact ⟨ok11, ok33, ok48, ok49, ok74, ok75, fun _ h => by cases h⟩
/-- cubit/temps.Units -/
def e20 : Entry := ⟨11, [], .sl [(.string ⟨#[114, 97, 110, 107, 105, 110, 101]⟩), (.string ⟨#[194, 176, 82]⟩), (.int .i64 0), (.int .i64 0), (.int .i64 0), (.int .i64 0), (.int .i64 1), (.int .i64 0), (.int .i64 0), (.int .i64 0), (.string ⟨#[53]⟩), (.string ⟨#[57]⟩), (.string ⟨#[48]⟩), (.string ⟨#[49]⟩), (.int .i64 0), (.string ⟨#[99, 101, 108, 115, 105, 117, 115]⟩), (.string ⟨#[194, 176, 67]⟩), (.int .i64 0), (.int .i64 0), (.int .i64 0), (.int .i64 0), (.int .i64 1), (.int .i64 0), (.int .i64 0), (.int .i64 0), (.string ⟨#[49]⟩), (.string ⟨#[49]⟩), (.string ⟨#[53, 52, 54, 51]⟩), (.string ⟨#[50, 48]⟩), (.int .i64 0), (.string ⟨#[102, 97, 104, 114, 101, 110, 104, 101, 105, 116]⟩), (.string ⟨#[194, 176, 70]⟩), (.int .i64 0), (.int .i64 0), (.int .i64 0), (.int .i64 0), (.int .i64 1), (.int .i64 0), (.int .i64 0), (.int .i64 0), (.string ⟨#[53]⟩), (.string ⟨#[57]⟩), (.string ⟨#[52, 53, 57, 54, 55]⟩), (.string ⟨#[49, 56, 48]⟩), (.int .i64 0)] 39 false 3 3⟩
def lK20 : List Entry := [e0, e1, e2, e4, e6, e7, e8, e9, e10, e11, e12, e13, e14, e15, e16, e17, e18, e19]
theorem lK20_ok : ∀ e ∈ lK20, EntryOK Try.prog e := by
  unfold lK20
  simp only [List.forall_mem_cons]
  exact ⟨k0, k1, k2, k4, k6, k7, k8, k9, k10, k11, k12, k13, k14, k15, k16, k17, k18, k19, fun _ h => by cases h⟩
theorem k20 : EntryOK Try.prog e20 := known_run tabK11_ok lK20_ok (fuel := 100000) (n := 60) (by kernel_rfl) (by kernel_rfl)
def tabK13 : List (Nat × AFn) := [(13, F13), (36, F36)]
theorem tabK13_ok : ∀ p ∈ tabK13, FnOK Try.prog p := by
  unfold tabK13
  simp only [List.forall_mem_cons]
  exact ⟨ok13, ok36, fun _ h => by cases h⟩
/-- cubit/cubitref12.Units -/
def e21 : Entry := ⟨13, [], .sl [(.string ⟨#[114, 97, 110, 107, 105, 110, 101]⟩), (.string ⟨#[194, 176, 82]⟩), (.int .i64 0), (.int .i64 0), (.int .i64 0), (.int .i64 0), (.int .i64 1), (.int .i64 0), (.int .i64 0), (.int .i64 0), (.string ⟨#[53]⟩), (.string ⟨#[57]⟩), (.string ⟨#[48]⟩), (.string ⟨#[49]⟩), (.int .i64 0), (.string ⟨#[99, 101, 108, 115, 105, 117, 115]⟩), (.string ⟨#[194, 176, 67]⟩), (.int .i64 0), (.int .i64 0), (.int .i64 0), (.int .i64 0), (.int .i64 1), (.int .i64 0), (.int .i64 0), (.int .i64 0), (.string ⟨#[49]⟩), (.string ⟨#[49]⟩), (.string ⟨#[53, 52, 54, 51]⟩), (.string ⟨#[50, 48]⟩), (.int .i64 0), (.string ⟨#[102, 97, 104, 114, 101, 110, 104, 101, 105, 116]⟩), (.string ⟨#[194, 176, 70]⟩), (.int .i64 0), (.int .i64 0), (.int .i64 0), (.int .i64 0), (.int .i64 1), (.int .i64 0), (.int .i64 0), (.int .i64 0), (.string ⟨#[53]⟩), (.string ⟨#[57]⟩), (.string ⟨#[52, 53, 57, 54, 55]⟩), (.string ⟨#[49, 56, 48]⟩), (.int .i64 0)] 39 false 3 3⟩
def lK21 : List Entry := []
theorem lK21_ok : ∀ e ∈ lK21, EntryOK Try.prog e := fun _ h => by cases h
theorem k21 : EntryOK Try.prog e21 := known_run tabK13_ok lK21_ok (fuel := 100000) (n := 60) (by kernel_rfl) (by kernel_rfl)
def tabK14 : List (Nat × AFn) := [(14, F14), (37, F37), (38, F38), (48, F48), (51, F51), (52, F52), (53, F53), (54, F54), (55, F55), (56, F56), (59, F59), (60, F60), (62, F62), (65, F65), (66, F66), (69, F69), (74, F74), (75, F75), (78, F78), (79, F79), (80, F80), (81, F81), (82, F82), (83, F83), (84, F84), (85, F85), (87, F87), (88, F88), (89, F89), (91, F91), (92, F92), (93, F93), (94, F94), (95, F95), (96, F96), (97, F97), (98, F98), (120, F120), (121, F121), (122, F122), (123, F123), (124, F124), (125, F125), (126, F126), (127, F127), (128, F128), (135, F135), (136, F136), (137, F137), (138, F138), (139, F139), (140, F140), (141, F141), (142, F142), (143, F143), (146, F146), (147, F147), (148, F148), (149, F149), (150, F150)]
theorem tabK14_ok : ∀ p ∈ tabK14, FnOK Try.prog p := by
  unfold tabK14
  simp only [List.forall_mem_cons]
  exact ⟨ok14, ok37, ok38, ok48, ok51, ok52, ok53, ok54, ok55, ok56, ok59, ok60, ok62, ok65, ok66, ok69, ok74, ok75, ok78, ok79, ok80, ok81, ok82, ok83, ok84, ok85, ok87, ok88, ok89, ok91, ok92, ok93, ok94, ok95, ok96, ok97, ok98, ok120, ok121, ok122, ok123, ok124, ok125, ok126, ok127, ok128, ok135, ok136, ok137, ok138, ok139, ok140, ok141, ok142, ok143, ok146, ok147, ok148, ok149, ok150, fun _ h => by cases h⟩
/-- cubit/cubitlaw12.awake -/
def e22 : Entry := ⟨14, [], .flat (.bool true)⟩
def lK22 : List Entry := [e6, e20]
theorem lK22_ok : ∀ e ∈ lK22, EntryOK Try.prog e := by
  unfold lK22
  simp only [List.forall_mem_cons]
  exact ⟨k6, k20, fun _ h => by cases h⟩
theorem k22 : EntryOK Try.prog e22 := known_run tabK14_ok lK22_ok (fuel := 100000) (n := 60) (by kernel_rfl) (by kernel_rfl)
def tabK15 : List (Nat × AFn) := [(15, F15)]
theorem tabK15_ok : ∀ p ∈ tabK15, FnOK Try.prog p := by
  unfold tabK15
  simp only [List.forall_mem_cons]
  exact ⟨ok15, fun _ h => by cases h⟩
/-- cubit/nature.avogadroMade -/
def e23 : Entry := ⟨15, [], .flat (.agg #[(.int .i64 602214076), (.int .i64 1), (.int .i64 15), (.int .i64 0)])⟩
def lK23 : List Entry := []
theorem lK23_ok : ∀ e ∈ lK23, EntryOK Try.prog e := fun _ h => by cases h
theorem k23 : EntryOK Try.prog e23 := known_run tabK15_ok lK23_ok (fuel := 100000) (n := 60) (by kernel_rfl) (by kernel_rfl)
end Go.Proofs.Ytemgddekbdifeaa.Am
