/- What some calls come to. -/
import Derived.Test.YtemgddekbdifeaaFn1
import Derived.KernelRfl
set_option maxRecDepth 1000000
namespace Go.Proofs.Ytemgddekbdifeaa.Am
def tabK32 : List (Nat × AFn) := [(32, F32)]
theorem tabK32_ok : ∀ p ∈ tabK32, FnOK Try.prog p := by
  unfold tabK32
  simp only [List.forall_mem_cons]
  exact ⟨ok32, fun _ h => by cases h⟩
/-- cubit/temps.rankineMade -/
def e0 : Entry := ⟨32, [], .flat (.agg #[(.int .i64 5), (.int .i64 9), (.int .i64 0), (.int .i64 1)])⟩
def lK0 : List Entry := []
theorem lK0_ok : ∀ e ∈ lK0, EntryOK Try.prog e := fun _ h => by cases h
theorem k0 : EntryOK Try.prog e0 := known_run tabK32_ok lK0_ok (fuel := 100000) (n := 60) (by kernel_rfl) (by kernel_rfl)
def tabK40 : List (Nat × AFn) := [(40, F40), (59, F59), (66, F66), (87, F87), (95, F95), (96, F96), (97, F97), (98, F98)]
theorem tabK40_ok : ∀ p ∈ tabK40, FnOK Try.prog p := by
  unfold tabK40
  simp only [List.forall_mem_cons]
  exact ⟨ok40, ok59, ok66, ok87, ok95, ok96, ok97, ok98, fun _ h => by cases h⟩
/-- cubit/rat.Of -/
def e1 : Entry := ⟨40, [(.int .i64 0)], .flat (.agg #[(.string ⟨#[48]⟩), (.string ⟨#[49]⟩)])⟩
def lK1 : List Entry := []
theorem lK1_ok : ∀ e ∈ lK1, EntryOK Try.prog e := fun _ h => by cases h
theorem k1 : EntryOK Try.prog e1 := known_run tabK40_ok lK1_ok (fuel := 100000) (n := 60) (by kernel_rfl) (by kernel_rfl)
/-- cubit/rat.Of -/
def e2 : Entry := ⟨40, [(.int .i64 1)], .flat (.agg #[(.string ⟨#[49]⟩), (.string ⟨#[49]⟩)])⟩
def lK2 : List Entry := []
theorem lK2_ok : ∀ e ∈ lK2, EntryOK Try.prog e := fun _ h => by cases h
theorem k2 : EntryOK Try.prog e2 := known_run tabK40_ok lK2_ok (fuel := 100000) (n := 60) (by kernel_rfl) (by kernel_rfl)
def tabK133 : List (Nat × AFn) := [(55, F55), (57, F57), (59, F59), (60, F60), (62, F62), (65, F65), (66, F66), (67, F67), (79, F79), (80, F80), (86, F86), (87, F87), (88, F88), (89, F89), (91, F91), (92, F92), (93, F93), (94, F94), (95, F95), (96, F96), (97, F97), (98, F98), (99, F99), (100, F100), (120, F120), (121, F121), (123, F123), (126, F126), (127, F127), (128, F128), (133, F133), (135, F135), (136, F136), (139, F139), (140, F140), (141, F141), (142, F142), (143, F143), (144, F144), (145, F145), (146, F146), (147, F147), (148, F148), (149, F149), (150, F150)]
theorem tabK133_ok : ∀ p ∈ tabK133, FnOK Try.prog p := by
  unfold tabK133
  simp only [List.forall_mem_cons]
  exact ⟨ok55, ok57, ok59, ok60, ok62, ok65, ok66, ok67, ok79, ok80, ok86, ok87, ok88, ok89, ok91, ok92, ok93, ok94, ok95, ok96, ok97, ok98, ok99, ok100, ok120, ok121, ok123, ok126, ok127, ok128, ok133, ok135, ok136, ok139, ok140, ok141, ok142, ok143, ok144, ok145, ok146, ok147, ok148, ok149, ok150, fun _ h => by cases h⟩
/-- cubit/rat.Inv -/
def e3 : Entry := ⟨133, [(.agg #[(.string ⟨#[49]⟩), (.string ⟨#[49]⟩)])], .flat (.tuple #[(.agg #[(.string ⟨#[49]⟩), (.string ⟨#[49]⟩)]), (.int .i64 0)])⟩
def lK3 : List Entry := []
theorem lK3_ok : ∀ e ∈ lK3, EntryOK Try.prog e := fun _ h => by cases h
theorem k3 : EntryOK Try.prog e3 := known_run tabK133_ok lK3_ok (fuel := 100000) (n := 60) (by kernel_rfl) (by kernel_rfl)
/-- cubit/rat.Of -/
def e4 : Entry := ⟨40, [(.int .i64 1000)], .flat (.agg #[(.string ⟨#[49, 48, 48, 48]⟩), (.string ⟨#[49]⟩)])⟩
def lK4 : List Entry := []
theorem lK4_ok : ∀ e ∈ lK4, EntryOK Try.prog e := fun _ h => by cases h
theorem k4 : EntryOK Try.prog e4 := known_run tabK40_ok lK4_ok (fuel := 100000) (n := 60) (by kernel_rfl) (by kernel_rfl)
/-- cubit/rat.Inv -/
def e5 : Entry := ⟨133, [(.agg #[(.string ⟨#[49, 48, 48, 48]⟩), (.string ⟨#[49]⟩)])], .flat (.tuple #[(.agg #[(.string ⟨#[49]⟩), (.string ⟨#[49, 48, 48, 48]⟩)]), (.int .i64 0)])⟩
def lK5 : List Entry := []
theorem lK5_ok : ∀ e ∈ lK5, EntryOK Try.prog e := fun _ h => by cases h
theorem k5 : EntryOK Try.prog e5 := known_run tabK133_ok lK5_ok (fuel := 100000) (n := 60) (by kernel_rfl) (by kernel_rfl)
def tabK73 : List (Nat × AFn) := [(73, F73), (110, F110), (111, F111), (112, F112), (113, F113), (114, F114), (115, F115), (116, F116), (117, F117), (118, F118), (134, F134)]
theorem tabK73_ok : ∀ p ∈ tabK73, FnOK Try.prog p := by
  unfold tabK73
  simp only [List.forall_mem_cons]
  exact ⟨ok73, ok110, ok111, ok112, ok113, ok114, ok115, ok116, ok117, ok118, ok134, fun _ h => by cases h⟩
/-- cubit/base.Units -/
def e6 : Entry := ⟨73, [], .sl [(.string ⟨#[98, 105, 116]⟩), (.string ⟨#[98]⟩), (.int .i64 0), (.int .i64 0), (.int .i64 0), (.int .i64 0), (.int .i64 0), (.int .i64 0), (.int .i64 0), (.int .i64 1), (.string ⟨#[49]⟩), (.string ⟨#[49]⟩), (.string ⟨#[48]⟩), (.string ⟨#[49]⟩), (.int .i64 3), (.string ⟨#[109, 111, 108, 101]⟩), (.string ⟨#[109, 111, 108]⟩), (.int .i64 0), (.int .i64 0), (.int .i64 0), (.int .i64 0), (.int .i64 0), (.int .i64 1), (.int .i64 0), (.int .i64 0), (.string ⟨#[49]⟩), (.string ⟨#[49]⟩), (.string ⟨#[48]⟩), (.string ⟨#[49]⟩), (.int .i64 1), (.string ⟨#[115, 101, 99, 111, 110, 100]⟩), (.string ⟨#[115]⟩), (.int .i64 0), (.int .i64 0), (.int .i64 1), (.int .i64 0), (.int .i64 0), (.int .i64 0), (.int .i64 0), (.int .i64 0), (.string ⟨#[49]⟩), (.string ⟨#[49]⟩), (.string ⟨#[48]⟩), (.string ⟨#[49]⟩), (.int .i64 1), (.string ⟨#[97, 109, 112, 101, 114, 101]⟩), (.string ⟨#[65]⟩), (.int .i64 0), (.int .i64 0), (.int .i64 0), (.int .i64 1), (.int .i64 0), (.int .i64 0), (.int .i64 0), (.int .i64 0), (.string ⟨#[49]⟩), (.string ⟨#[49]⟩), (.string ⟨#[48]⟩), (.string ⟨#[49]⟩), (.int .i64 1), (.string ⟨#[109, 101, 116, 114, 101]⟩), (.string ⟨#[109]⟩), (.int .i64 1), (.int .i64 0), (.int .i64 0), (.int .i64 0), (.int .i64 0), (.int .i64 0), (.int .i64 0), (.int .i64 0), (.string ⟨#[49]⟩), (.string ⟨#[49]⟩), (.string ⟨#[48]⟩), (.string ⟨#[49]⟩), (.int .i64 1), (.string ⟨#[103, 114, 97, 109]⟩), (.string ⟨#[103]⟩), (.int .i64 0), (.int .i64 1), (.int .i64 0), (.int .i64 0), (.int .i64 0), (.int .i64 0), (.int .i64 0), (.int .i64 0), (.string ⟨#[49]⟩), (.string ⟨#[49, 48, 48, 48]⟩), (.string ⟨#[48]⟩), (.string ⟨#[49]⟩), (.int .i64 1), (.string ⟨#[99, 97, 110, 100, 101, 108, 97]⟩), (.string ⟨#[99, 100]⟩), (.int .i64 0), (.int .i64 0), (.int .i64 0), (.int .i64 0), (.int .i64 0), (.int .i64 0), (.int .i64 1), (.int .i64 0), (.string ⟨#[49]⟩), (.string ⟨#[49]⟩), (.string ⟨#[48]⟩), (.string ⟨#[49]⟩), (.int .i64 1), (.string ⟨#[107, 101, 108, 118, 105, 110]⟩), (.string ⟨#[75]⟩), (.int .i64 0), (.int .i64 0), (.int .i64 0), (.int .i64 0), (.int .i64 1), (.int .i64 0), (.int .i64 0), (.int .i64 0), (.string ⟨#[49]⟩), (.string ⟨#[49]⟩), (.string ⟨#[48]⟩), (.string ⟨#[49]⟩), (.int .i64 1)] 39 false 8 8⟩
def lK6 : List Entry := [e1, e2, e3, e4, e5]
theorem lK6_ok : ∀ e ∈ lK6, EntryOK Try.prog e := by
  unfold lK6
  simp only [List.forall_mem_cons]
  exact ⟨k1, k2, k3, k4, k5, fun _ h => by cases h⟩
theorem k6 : EntryOK Try.prog e6 := known_run tabK73_ok lK6_ok (fuel := 100000) (n := 60) (by kernel_rfl) (by kernel_rfl)
/-- cubit/rat.Of -/
def e7 : Entry := ⟨40, [(.int .i64 5)], .flat (.agg #[(.string ⟨#[53]⟩), (.string ⟨#[49]⟩)])⟩
def lK7 : List Entry := []
theorem lK7_ok : ∀ e ∈ lK7, EntryOK Try.prog e := fun _ h => by cases h
theorem k7 : EntryOK Try.prog e7 := known_run tabK40_ok lK7_ok (fuel := 100000) (n := 60) (by kernel_rfl) (by kernel_rfl)
end Go.Proofs.Ytemgddekbdifeaa.Am
