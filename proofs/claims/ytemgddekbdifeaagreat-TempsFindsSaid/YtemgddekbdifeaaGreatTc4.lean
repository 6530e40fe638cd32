/- What some calls come to. -/
import Derived.Test.YtemgddekbdifeaaGreatTa5
import Derived.KernelRfl
set_option maxRecDepth 1000000
namespace Go.Proofs.YtemgddekbdifeaaGreat.Am
def tabC4_37 : List (Nat × AFn) := [(35, F35), (37, F37), (44, F44), (47, F47), (94, F94), (95, F95), (96, F96), (100, F100), (115, F115), (116, F116), (117, F117), (121, F121), (122, F122), (136, F136), (137, F137), (138, F138), (139, F139), (140, F140), (141, F141), (151, F151), (152, F152), (153, F153), (154, F154), (155, F155), (156, F156), (157, F157), (158, F158), (161, F161), (162, F162), (163, F163), (177, F177), (178, F178), (179, F179), (180, F180), (181, F181), (182, F182), (185, F185), (186, F186), (187, F187), (188, F188), (189, F189), (191, F191), (193, F193), (204, F204), (205, F205), (207, F207), (208, F208), (209, F209), (210, F210), (211, F211), (212, F212), (213, F213), (225, F225)]
theorem tabC4_37_ok : ∀ p ∈ tabC4_37, FnOK Tryz.prog p := by
  unfold tabC4_37
  simp only [List.forall_mem_cons]
  exact ⟨ok35, ok37, ok44, ok47, ok94, ok95, ok96, ok100, ok115, ok116, ok117, ok121, ok122, ok136, ok137, ok138, ok139, ok140, ok141, ok151, ok152, ok153, ok154, ok155, ok156, ok157, ok158, ok161, ok162, ok163, ok177, ok178, ok179, ok180, ok181, ok182, ok185, ok186, ok187, ok188, ok189, ok191, ok193, ok204, ok205, ok207, ok208, ok209, ok210, ok211, ok212, ok213, ok225, fun _ h => by cases h⟩
/-- cubit/temps.Fixed -/
def e76 : Entry := ⟨37, [(.string ⟨#[116, 114, 105, 112, 108, 101]⟩), (.string ⟨#[114, 97, 110, 107, 105, 110, 101]⟩)], .flat (.tuple #[(.agg #[(.string ⟨#[54, 49, 52, 54, 49]⟩), (.string ⟨#[49, 50, 53]⟩)]), (.int .i64 0)])⟩
def lK76 : List Entry := [e6, e10, e12, e14, e18, e22, e23, e30, e75, e99]
theorem lK76_ok : ∀ e ∈ lK76, EntryOK Tryz.prog e := by
  unfold lK76
  simp only [List.forall_mem_cons]
  exact ⟨k6, k10, k12, k14, k18, k22, k23, k30, k75, k99, fun _ h => by cases h⟩
theorem k76 : EntryOK Tryz.prog e76 := known_run tabC4_37_ok lK76_ok (fuel := 100000) (n := 60) (by kernel_rfl) (by kernel_rfl)
/-- cubit/temps.Fixed -/
def e80 : Entry := ⟨37, [(.string ⟨#[116, 114, 105, 112, 108, 101]⟩), (.string ⟨#[194, 176, 82]⟩)], .flat (.tuple #[(.agg #[(.string ⟨#[54, 49, 52, 54, 49]⟩), (.string ⟨#[49, 50, 53]⟩)]), (.int .i64 0)])⟩
def lK80 : List Entry := [e6, e10, e12, e14, e18, e22, e23, e30, e75, e99]
theorem lK80_ok : ∀ e ∈ lK80, EntryOK Tryz.prog e := by
  unfold lK80
  simp only [List.forall_mem_cons]
  exact ⟨k6, k10, k12, k14, k18, k22, k23, k30, k75, k99, fun _ h => by cases h⟩
theorem k80 : EntryOK Tryz.prog e80 := known_run tabC4_37_ok lK80_ok (fuel := 100000) (n := 60) (by kernel_rfl) (by kernel_rfl)
/-- cubit/temps.Fixed -/
def e82 : Entry := ⟨37, [(.string ⟨#[116, 114, 105, 112, 108, 101]⟩), (.string ⟨#[99, 101, 108, 115, 105, 117, 115]⟩)], .flat (.tuple #[(.agg #[(.string ⟨#[49]⟩), (.string ⟨#[49, 48, 48]⟩)]), (.int .i64 0)])⟩
def lK82 : List Entry := [e6, e10, e12, e14, e18, e22, e23, e30, e75, e99]
theorem lK82_ok : ∀ e ∈ lK82, EntryOK Tryz.prog e := by
  unfold lK82
  simp only [List.forall_mem_cons]
  exact ⟨k6, k10, k12, k14, k18, k22, k23, k30, k75, k99, fun _ h => by cases h⟩
theorem k82 : EntryOK Tryz.prog e82 := known_run tabC4_37_ok lK82_ok (fuel := 100000) (n := 60) (by kernel_rfl) (by kernel_rfl)
/-- cubit/temps.Fixed -/
def e85 : Entry := ⟨37, [(.string ⟨#[116, 114, 105, 112, 108, 101]⟩), (.string ⟨#[194, 176, 67]⟩)], .flat (.tuple #[(.agg #[(.string ⟨#[49]⟩), (.string ⟨#[49, 48, 48]⟩)]), (.int .i64 0)])⟩
def lK85 : List Entry := [e6, e10, e12, e14, e18, e22, e23, e30, e75, e99]
theorem lK85_ok : ∀ e ∈ lK85, EntryOK Tryz.prog e := by
  unfold lK85
  simp only [List.forall_mem_cons]
  exact ⟨k6, k10, k12, k14, k18, k22, k23, k30, k75, k99, fun _ h => by cases h⟩
theorem k85 : EntryOK Tryz.prog e85 := known_run tabC4_37_ok lK85_ok (fuel := 100000) (n := 60) (by kernel_rfl) (by kernel_rfl)
end Go.Proofs.YtemgddekbdifeaaGreat.Am
