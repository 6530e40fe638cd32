/- What some calls come to. -/
import Derived.Test.YtemgddekbdifeaaGreatTa5
import Derived.KernelRfl
set_option maxRecDepth 1000000
namespace Go.Proofs.YtemgddekbdifeaaGreat.Am
def tabC0_37 : List (Nat × AFn) := [(35, F35), (37, F37), (44, F44), (47, F47), (94, F94), (95, F95), (96, F96), (100, F100), (115, F115), (116, F116), (117, F117), (121, F121), (122, F122), (136, F136), (137, F137), (138, F138), (139, F139), (140, F140), (141, F141), (151, F151), (152, F152), (153, F153), (154, F154), (155, F155), (156, F156), (157, F157), (158, F158), (161, F161), (162, F162), (163, F163), (177, F177), (178, F178), (179, F179), (180, F180), (181, F181), (182, F182), (185, F185), (186, F186), (187, F187), (188, F188), (189, F189), (191, F191), (193, F193), (204, F204), (205, F205), (207, F207), (208, F208), (209, F209), (210, F210), (211, F211), (212, F212), (213, F213), (225, F225)]
theorem tabC0_37_ok : ∀ p ∈ tabC0_37, FnOK Tryz.prog p := by
  unfold tabC0_37
  simp only [List.forall_mem_cons]
  exact ⟨ok35, ok37, ok44, ok47, ok94, ok95, ok96, ok100, ok115, ok116, ok117, ok121, ok122, ok136, ok137, ok138, ok139, ok140, ok141, ok151, ok152, ok153, ok154, ok155, ok156, ok157, ok158, ok161, ok162, ok163, ok177, ok178, ok179, ok180, ok181, ok182, ok185, ok186, ok187, ok188, ok189, ok191, ok193, ok204, ok205, ok207, ok208, ok209, ok210, ok211, ok212, ok213, ok225, fun _ h => by cases h⟩
/-- cubit/temps.Fixed -/
def e31 : Entry := ⟨37, [(.string ⟨#[97, 98, 115, 111, 108, 117, 116, 101]⟩), (.string ⟨#[114, 97, 110, 107, 105, 110, 101]⟩)], .flat (.tuple #[(.agg #[(.string ⟨#[48]⟩), (.string ⟨#[49]⟩)]), (.int .i64 0)])⟩
def lK31 : List Entry := [e6, e10, e12, e14, e18, e22, e23, e30, e75, e99]
theorem lK31_ok : ∀ e ∈ lK31, EntryOK Tryz.prog e := by
  unfold lK31
  simp only [List.forall_mem_cons]
  exact ⟨k6, k10, k12, k14, k18, k22, k23, k30, k75, k99, fun _ h => by cases h⟩
theorem k31 : EntryOK Tryz.prog e31 := known_run tabC0_37_ok lK31_ok (fuel := 100000) (n := 60) (by kernel_rfl) (by kernel_rfl)
/-- cubit/temps.Fixed -/
def e35 : Entry := ⟨37, [(.string ⟨#[97, 98, 115, 111, 108, 117, 116, 101]⟩), (.string ⟨#[194, 176, 82]⟩)], .flat (.tuple #[(.agg #[(.string ⟨#[48]⟩), (.string ⟨#[49]⟩)]), (.int .i64 0)])⟩
def lK35 : List Entry := [e6, e10, e12, e14, e18, e22, e23, e30, e75, e99]
theorem lK35_ok : ∀ e ∈ lK35, EntryOK Tryz.prog e := by
  unfold lK35
  simp only [List.forall_mem_cons]
  exact ⟨k6, k10, k12, k14, k18, k22, k23, k30, k75, k99, fun _ h => by cases h⟩
theorem k35 : EntryOK Tryz.prog e35 := known_run tabC0_37_ok lK35_ok (fuel := 100000) (n := 60) (by kernel_rfl) (by kernel_rfl)
/-- cubit/temps.Fixed -/
def e37 : Entry := ⟨37, [(.string ⟨#[97, 98, 115, 111, 108, 117, 116, 101]⟩), (.string ⟨#[99, 101, 108, 115, 105, 117, 115]⟩)], .flat (.tuple #[(.agg #[(.string ⟨#[45, 53, 52, 54, 51]⟩), (.string ⟨#[50, 48]⟩)]), (.int .i64 0)])⟩
def lK37 : List Entry := [e6, e10, e12, e14, e18, e22, e23, e30, e75, e99]
theorem lK37_ok : ∀ e ∈ lK37, EntryOK Tryz.prog e := by
  unfold lK37
  simp only [List.forall_mem_cons]
  exact ⟨k6, k10, k12, k14, k18, k22, k23, k30, k75, k99, fun _ h => by cases h⟩
theorem k37 : EntryOK Tryz.prog e37 := known_run tabC0_37_ok lK37_ok (fuel := 100000) (n := 60) (by kernel_rfl) (by kernel_rfl)
/-- cubit/temps.Fixed -/
def e40 : Entry := ⟨37, [(.string ⟨#[97, 98, 115, 111, 108, 117, 116, 101]⟩), (.string ⟨#[194, 176, 67]⟩)], .flat (.tuple #[(.agg #[(.string ⟨#[45, 53, 52, 54, 51]⟩), (.string ⟨#[50, 48]⟩)]), (.int .i64 0)])⟩
def lK40 : List Entry := [e6, e10, e12, e14, e18, e22, e23, e30, e75, e99]
theorem lK40_ok : ∀ e ∈ lK40, EntryOK Tryz.prog e := by
  unfold lK40
  simp only [List.forall_mem_cons]
  exact ⟨k6, k10, k12, k14, k18, k22, k23, k30, k75, k99, fun _ h => by cases h⟩
theorem k40 : EntryOK Tryz.prog e40 := known_run tabC0_37_ok lK40_ok (fuel := 100000) (n := 60) (by kernel_rfl) (by kernel_rfl)
end Go.Proofs.YtemgddekbdifeaaGreat.Am
