/- What some calls come to. -/
import Derived.Test.YtemgddekbdifeaaGreatTa5
import Derived.KernelRfl
set_option maxRecDepth 1000000
namespace Go.Proofs.YtemgddekbdifeaaGreat.Am
def tabC2_37 : List (Nat × AFn) := [(35, F35), (37, F37), (44, F44), (47, F47), (94, F94), (95, F95), (96, F96), (100, F100), (115, F115), (116, F116), (117, F117), (121, F121), (122, F122), (136, F136), (137, F137), (138, F138), (139, F139), (140, F140), (141, F141), (151, F151), (152, F152), (153, F153), (154, F154), (155, F155), (156, F156), (157, F157), (158, F158), (161, F161), (162, F162), (163, F163), (177, F177), (178, F178), (179, F179), (180, F180), (181, F181), (182, F182), (185, F185), (186, F186), (187, F187), (188, F188), (189, F189), (191, F191), (193, F193), (204, F204), (205, F205), (207, F207), (208, F208), (209, F209), (210, F210), (211, F211), (212, F212), (213, F213), (225, F225)]
theorem tabC2_37_ok : ∀ p ∈ tabC2_37, FnOK Tryz.prog p := by
  unfold tabC2_37
  simp only [List.forall_mem_cons]
  exact ⟨ok35, ok37, ok44, ok47, ok94, ok95, ok96, ok100, ok115, ok116, ok117, ok121, ok122, ok136, ok137, ok138, ok139, ok140, ok141, ok151, ok152, ok153, ok154, ok155, ok156, ok157, ok158, ok161, ok162, ok163, ok177, ok178, ok179, ok180, ok181, ok182, ok185, ok186, ok187, ok188, ok189, ok191, ok193, ok204, ok205, ok207, ok208, ok209, ok210, ok211, ok212, ok213, ok225, fun _ h => by cases h⟩
/-- cubit/temps.Fixed -/
def e52 : Entry := ⟨37, [(.string ⟨#[105, 99, 101]⟩), (.string ⟨#[114, 97, 110, 107, 105, 110, 101]⟩)], .flat (.tuple #[(.agg #[(.string ⟨#[52, 57, 49, 54, 55]⟩), (.string ⟨#[49, 48, 48]⟩)]), (.int .i64 0)])⟩
def lK52 : List Entry := [e6, e10, e12, e14, e18, e22, e23, e30, e75, e99]
theorem lK52_ok : ∀ e ∈ lK52, EntryOK Tryz.prog e := by
  unfold lK52
  simp only [List.forall_mem_cons]
  exact ⟨k6, k10, k12, k14, k18, k22, k23, k30, k75, k99, fun _ h => by cases h⟩
theorem k52 : EntryOK Tryz.prog e52 := known_run tabC2_37_ok lK52_ok (fuel := 100000) (n := 60) (by kernel_rfl) (by kernel_rfl)
/-- cubit/temps.Fixed -/
def e55 : Entry := ⟨37, [(.string ⟨#[105, 99, 101]⟩), (.string ⟨#[194, 176, 82]⟩)], .flat (.tuple #[(.agg #[(.string ⟨#[52, 57, 49, 54, 55]⟩), (.string ⟨#[49, 48, 48]⟩)]), (.int .i64 0)])⟩
def lK55 : List Entry := [e6, e10, e12, e14, e18, e22, e23, e30, e75, e99]
theorem lK55_ok : ∀ e ∈ lK55, EntryOK Tryz.prog e := by
  unfold lK55
  simp only [List.forall_mem_cons]
  exact ⟨k6, k10, k12, k14, k18, k22, k23, k30, k75, k99, fun _ h => by cases h⟩
theorem k55 : EntryOK Tryz.prog e55 := known_run tabC2_37_ok lK55_ok (fuel := 100000) (n := 60) (by kernel_rfl) (by kernel_rfl)
/-- cubit/temps.Fixed -/
def e57 : Entry := ⟨37, [(.string ⟨#[105, 99, 101]⟩), (.string ⟨#[99, 101, 108, 115, 105, 117, 115]⟩)], .flat (.tuple #[(.agg #[(.string ⟨#[48]⟩), (.string ⟨#[49]⟩)]), (.int .i64 0)])⟩
def lK57 : List Entry := [e6, e10, e12, e14, e18, e22, e23, e30, e75, e99]
theorem lK57_ok : ∀ e ∈ lK57, EntryOK Tryz.prog e := by
  unfold lK57
  simp only [List.forall_mem_cons]
  exact ⟨k6, k10, k12, k14, k18, k22, k23, k30, k75, k99, fun _ h => by cases h⟩
theorem k57 : EntryOK Tryz.prog e57 := known_run tabC2_37_ok lK57_ok (fuel := 100000) (n := 60) (by kernel_rfl) (by kernel_rfl)
/-- cubit/temps.Fixed -/
def e60 : Entry := ⟨37, [(.string ⟨#[105, 99, 101]⟩), (.string ⟨#[194, 176, 67]⟩)], .flat (.tuple #[(.agg #[(.string ⟨#[48]⟩), (.string ⟨#[49]⟩)]), (.int .i64 0)])⟩
def lK60 : List Entry := [e6, e10, e12, e14, e18, e22, e23, e30, e75, e99]
theorem lK60_ok : ∀ e ∈ lK60, EntryOK Tryz.prog e := by
  unfold lK60
  simp only [List.forall_mem_cons]
  exact ⟨k6, k10, k12, k14, k18, k22, k23, k30, k75, k99, fun _ h => by cases h⟩
theorem k60 : EntryOK Tryz.prog e60 := known_run tabC2_37_ok lK60_ok (fuel := 100000) (n := 60) (by kernel_rfl) (by kernel_rfl)
end Go.Proofs.YtemgddekbdifeaaGreat.Am
