/- What some calls come to. -/
import Derived.Test.YtemgddekbdifeaaGreatTa5
import Derived.KernelRfl
set_option maxRecDepth 1000000
namespace Go.Proofs.YtemgddekbdifeaaGreat.Am
def tabC5_37 : List (Nat × AFn) := [(35, F35), (37, F37), (44, F44), (47, F47), (94, F94), (95, F95), (96, F96), (100, F100), (115, F115), (116, F116), (117, F117), (121, F121), (122, F122), (136, F136), (137, F137), (138, F138), (139, F139), (140, F140), (141, F141), (151, F151), (152, F152), (153, F153), (154, F154), (155, F155), (156, F156), (157, F157), (158, F158), (161, F161), (162, F162), (163, F163), (177, F177), (178, F178), (179, F179), (180, F180), (181, F181), (182, F182), (185, F185), (186, F186), (187, F187), (188, F188), (189, F189), (191, F191), (193, F193), (204, F204), (205, F205), (207, F207), (208, F208), (209, F209), (210, F210), (211, F211), (212, F212), (213, F213), (225, F225)]
theorem tabC5_37_ok : ∀ p ∈ tabC5_37, FnOK Tryz.prog p := by
  unfold tabC5_37
  simp only [List.forall_mem_cons]
  exact ⟨ok35, ok37, ok44, ok47, ok94, ok95, ok96, ok100, ok115, ok116, ok117, ok121, ok122, ok136, ok137, ok138, ok139, ok140, ok141, ok151, ok152, ok153, ok154, ok155, ok156, ok157, ok158, ok161, ok162, ok163, ok177, ok178, ok179, ok180, ok181, ok182, ok185, ok186, ok187, ok188, ok189, ok191, ok193, ok204, ok205, ok207, ok208, ok209, ok210, ok211, ok212, ok213, ok225, fun _ h => by cases h⟩
/-- cubit/temps.Fixed -/
def e87 : Entry := ⟨37, [(.string ⟨#[116, 114, 105, 112, 108, 101]⟩), (.string ⟨#[102, 97, 104, 114, 101, 110, 104, 101, 105, 116]⟩)], .flat (.tuple #[(.agg #[(.string ⟨#[49, 54, 48, 48, 57]⟩), (.string ⟨#[53, 48, 48]⟩)]), (.int .i64 0)])⟩
def lK87 : List Entry := [e6, e10, e12, e14, e18, e22, e23, e30, e75, e99]
theorem lK87_ok : ∀ e ∈ lK87, EntryOK Tryz.prog e := by
  unfold lK87
  simp only [List.forall_mem_cons]
  exact ⟨k6, k10, k12, k14, k18, k22, k23, k30, k75, k99, fun _ h => by cases h⟩
theorem k87 : EntryOK Tryz.prog e87 := known_run tabC5_37_ok lK87_ok (fuel := 100000) (n := 60) (by kernel_rfl) (by kernel_rfl)
/-- cubit/temps.Fixed -/
def e90 : Entry := ⟨37, [(.string ⟨#[116, 114, 105, 112, 108, 101]⟩), (.string ⟨#[194, 176, 70]⟩)], .flat (.tuple #[(.agg #[(.string ⟨#[49, 54, 48, 48, 57]⟩), (.string ⟨#[53, 48, 48]⟩)]), (.int .i64 0)])⟩
def lK90 : List Entry := [e6, e10, e12, e14, e18, e22, e23, e30, e75, e99]
theorem lK90_ok : ∀ e ∈ lK90, EntryOK Tryz.prog e := by
  unfold lK90
  simp only [List.forall_mem_cons]
  exact ⟨k6, k10, k12, k14, k18, k22, k23, k30, k75, k99, fun _ h => by cases h⟩
theorem k90 : EntryOK Tryz.prog e90 := known_run tabC5_37_ok lK90_ok (fuel := 100000) (n := 60) (by kernel_rfl) (by kernel_rfl)
/-- cubit/temps.Fixed -/
def e92 : Entry := ⟨37, [(.string ⟨#[116, 114, 105, 112, 108, 101]⟩), (.string ⟨#[107, 101, 108, 118, 105, 110]⟩)], .flat (.tuple #[(.agg #[(.string ⟨#[54, 56, 50, 57]⟩), (.string ⟨#[50, 53]⟩)]), (.int .i64 0)])⟩
def lK92 : List Entry := [e6, e10, e12, e14, e18, e22, e23, e30, e75, e99]
theorem lK92_ok : ∀ e ∈ lK92, EntryOK Tryz.prog e := by
  unfold lK92
  simp only [List.forall_mem_cons]
  exact ⟨k6, k10, k12, k14, k18, k22, k23, k30, k75, k99, fun _ h => by cases h⟩
theorem k92 : EntryOK Tryz.prog e92 := known_run tabC5_37_ok lK92_ok (fuel := 100000) (n := 60) (by kernel_rfl) (by kernel_rfl)
/-- cubit/temps.Fixed -/
def e95 : Entry := ⟨37, [(.string ⟨#[116, 114, 105, 112, 108, 101]⟩), (.string ⟨#[75]⟩)], .flat (.tuple #[(.agg #[(.string ⟨#[54, 56, 50, 57]⟩), (.string ⟨#[50, 53]⟩)]), (.int .i64 0)])⟩
def lK95 : List Entry := [e6, e10, e12, e14, e18, e22, e23, e30, e75, e99]
theorem lK95_ok : ∀ e ∈ lK95, EntryOK Tryz.prog e := by
  unfold lK95
  simp only [List.forall_mem_cons]
  exact ⟨k6, k10, k12, k14, k18, k22, k23, k30, k75, k99, fun _ h => by cases h⟩
theorem k95 : EntryOK Tryz.prog e95 := known_run tabC5_37_ok lK95_ok (fuel := 100000) (n := 60) (by kernel_rfl) (by kernel_rfl)
end Go.Proofs.YtemgddekbdifeaaGreat.Am
