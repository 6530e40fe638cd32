/- What some calls come to. -/
import Derived.Test.YtemgddekbdifeaaGreatTa5
import Derived.KernelRfl
set_option maxRecDepth 1000000
namespace Go.Proofs.YtemgddekbdifeaaGreat.Am
def tabC3_37 : List (Nat × AFn) := [(35, F35), (37, F37), (44, F44), (47, F47), (94, F94), (95, F95), (96, F96), (100, F100), (115, F115), (116, F116), (117, F117), (121, F121), (122, F122), (136, F136), (137, F137), (138, F138), (139, F139), (140, F140), (141, F141), (151, F151), (152, F152), (153, F153), (154, F154), (155, F155), (156, F156), (157, F157), (158, F158), (161, F161), (162, F162), (163, F163), (177, F177), (178, F178), (179, F179), (180, F180), (181, F181), (182, F182), (185, F185), (186, F186), (187, F187), (188, F188), (189, F189), (191, F191), (193, F193), (204, F204), (205, F205), (207, F207), (208, F208), (209, F209), (210, F210), (211, F211), (212, F212), (213, F213), (225, F225)]
theorem tabC3_37_ok : ∀ p ∈ tabC3_37, FnOK Tryz.prog p := by
  unfold tabC3_37
  simp only [List.forall_mem_cons]
  exact ⟨ok35, ok37, ok44, ok47, ok94, ok95, ok96, ok100, ok115, ok116, ok117, ok121, ok122, ok136, ok137, ok138, ok139, ok140, ok141, ok151, ok152, ok153, ok154, ok155, ok156, ok157, ok158, ok161, ok162, ok163, ok177, ok178, ok179, ok180, ok181, ok182, ok185, ok186, ok187, ok188, ok189, ok191, ok193, ok204, ok205, ok207, ok208, ok209, ok210, ok211, ok212, ok213, ok225, fun _ h => by cases h⟩
/-- cubit/temps.Fixed -/
def e62 : Entry := ⟨37, [(.string ⟨#[105, 99, 101]⟩), (.string ⟨#[102, 97, 104, 114, 101, 110, 104, 101, 105, 116]⟩)], .flat (.tuple #[(.agg #[(.string ⟨#[51, 50]⟩), (.string ⟨#[49]⟩)]), (.int .i64 0)])⟩
def lK62 : List Entry := [e6, e10, e12, e14, e18, e22, e23, e30, e75, e99]
theorem lK62_ok : ∀ e ∈ lK62, EntryOK Tryz.prog e := by
  unfold lK62
  simp only [List.forall_mem_cons]
  exact ⟨k6, k10, k12, k14, k18, k22, k23, k30, k75, k99, fun _ h => by cases h⟩
theorem k62 : EntryOK Tryz.prog e62 := known_run tabC3_37_ok lK62_ok (fuel := 100000) (n := 60) (by kernel_rfl) (by kernel_rfl)
/-- cubit/temps.Fixed -/
def e65 : Entry := ⟨37, [(.string ⟨#[105, 99, 101]⟩), (.string ⟨#[194, 176, 70]⟩)], .flat (.tuple #[(.agg #[(.string ⟨#[51, 50]⟩), (.string ⟨#[49]⟩)]), (.int .i64 0)])⟩
def lK65 : List Entry := [e6, e10, e12, e14, e18, e22, e23, e30, e75, e99]
theorem lK65_ok : ∀ e ∈ lK65, EntryOK Tryz.prog e := by
  unfold lK65
  simp only [List.forall_mem_cons]
  exact ⟨k6, k10, k12, k14, k18, k22, k23, k30, k75, k99, fun _ h => by cases h⟩
theorem k65 : EntryOK Tryz.prog e65 := known_run tabC3_37_ok lK65_ok (fuel := 100000) (n := 60) (by kernel_rfl) (by kernel_rfl)
/-- cubit/temps.Fixed -/
def e67 : Entry := ⟨37, [(.string ⟨#[105, 99, 101]⟩), (.string ⟨#[107, 101, 108, 118, 105, 110]⟩)], .flat (.tuple #[(.agg #[(.string ⟨#[53, 52, 54, 51]⟩), (.string ⟨#[50, 48]⟩)]), (.int .i64 0)])⟩
def lK67 : List Entry := [e6, e10, e12, e14, e18, e22, e23, e30, e75, e99]
theorem lK67_ok : ∀ e ∈ lK67, EntryOK Tryz.prog e := by
  unfold lK67
  simp only [List.forall_mem_cons]
  exact ⟨k6, k10, k12, k14, k18, k22, k23, k30, k75, k99, fun _ h => by cases h⟩
theorem k67 : EntryOK Tryz.prog e67 := known_run tabC3_37_ok lK67_ok (fuel := 100000) (n := 60) (by kernel_rfl) (by kernel_rfl)
/-- cubit/temps.Fixed -/
def e70 : Entry := ⟨37, [(.string ⟨#[105, 99, 101]⟩), (.string ⟨#[75]⟩)], .flat (.tuple #[(.agg #[(.string ⟨#[53, 52, 54, 51]⟩), (.string ⟨#[50, 48]⟩)]), (.int .i64 0)])⟩
def lK70 : List Entry := [e6, e10, e12, e14, e18, e22, e23, e30, e75, e99]
theorem lK70_ok : ∀ e ∈ lK70, EntryOK Tryz.prog e := by
  unfold lK70
  simp only [List.forall_mem_cons]
  exact ⟨k6, k10, k12, k14, k18, k22, k23, k30, k75, k99, fun _ h => by cases h⟩
theorem k70 : EntryOK Tryz.prog e70 := known_run tabC3_37_ok lK70_ok (fuel := 100000) (n := 60) (by kernel_rfl) (by kernel_rfl)
end Go.Proofs.YtemgddekbdifeaaGreat.Am
