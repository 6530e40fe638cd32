/- What some calls come to. -/
import Derived.Test.YtemgddekbdifeaaGreatKe1
import Derived.KernelRfl
set_option maxRecDepth 1000000
namespace Go.Proofs.YtemgddekbdifeaaGreat.Am
def tabK14 : List (Nat × AFn) := [(14, F14), (39, F39), (45, F45), (46, F46), (47, F47), (113, F113), (114, F114), (115, F115), (116, F116), (117, F117), (122, F122), (137, F137), (139, F139), (140, F140), (141, F141), (151, F151), (152, F152), (153, F153), (154, F154), (155, F155), (156, F156), (157, F157), (158, F158), (162, F162), (177, F177), (179, F179), (180, F180), (181, F181), (182, F182), (185, F185), (186, F186), (187, F187), (188, F188), (189, F189), (193, F193), (205, F205), (207, F207), (208, F208), (209, F209), (210, F210), (211, F211), (212, F212), (213, F213), (225, F225)]
theorem tabK14_ok : ∀ p ∈ tabK14, FnOK Tryz.prog p := by
  unfold tabK14
  simp only [List.forall_mem_cons]
  exact ⟨ok14, ok39, ok45, ok46, ok47, ok113, ok114, ok115, ok116, ok117, ok122, ok137, ok139, ok140, ok141, ok151, ok152, ok153, ok154, ok155, ok156, ok157, ok158, ok162, ok177, ok179, ok180, ok181, ok182, ok185, ok186, ok187, ok188, ok189, ok193, ok205, ok207, ok208, ok209, ok210, ok211, ok212, ok213, ok225, fun _ h => by cases h⟩
/-- cubit/rat.Quo -/
def e16 : Entry := ⟨14, [(.agg #[(.string ⟨#[49, 50, 55]⟩), (.string ⟨#[49]⟩)]), (.agg #[(.string ⟨#[53, 48, 48, 48]⟩), (.string ⟨#[49]⟩)])], .flat (.tuple #[(.agg #[(.string ⟨#[49, 50, 55]⟩), (.string ⟨#[53, 48, 48, 48]⟩)]), (.int .i64 0)])⟩
def lK16 : List Entry := []
theorem lK16_ok : ∀ e ∈ lK16, EntryOK Tryz.prog e := fun _ h => by cases h
theorem k16 : EntryOK Tryz.prog e16 := known_run tabK14_ok lK16_ok (fuel := 100000) (n := 60) (by kernel_rfl) (by kernel_rfl)
/-- cubit/rat.Of -/
def e17 : Entry := ⟨124, [(.int .i64 381)], .flat (.agg #[(.string ⟨#[51, 56, 49]⟩), (.string ⟨#[49]⟩)])⟩
def lK17 : List Entry := []
theorem lK17_ok : ∀ e ∈ lK17, EntryOK Tryz.prog e := fun _ h => by cases h
theorem k17 : EntryOK Tryz.prog e17 := known_run tabK124_ok lK17_ok (fuel := 100000) (n := 60) (by kernel_rfl) (by kernel_rfl)
/-- cubit/rat.Of -/
def e18 : Entry := ⟨124, [(.int .i64 1250)], .flat (.agg #[(.string ⟨#[49, 50, 53, 48]⟩), (.string ⟨#[49]⟩)])⟩
def lK18 : List Entry := []
theorem lK18_ok : ∀ e ∈ lK18, EntryOK Tryz.prog e := fun _ h => by cases h
theorem k18 : EntryOK Tryz.prog e18 := known_run tabK124_ok lK18_ok (fuel := 100000) (n := 60) (by kernel_rfl) (by kernel_rfl)
/-- cubit/rat.Quo -/
def e19 : Entry := ⟨14, [(.agg #[(.string ⟨#[51, 56, 49]⟩), (.string ⟨#[49]⟩)]), (.agg #[(.string ⟨#[49, 50, 53, 48]⟩), (.string ⟨#[49]⟩)])], .flat (.tuple #[(.agg #[(.string ⟨#[51, 56, 49]⟩), (.string ⟨#[49, 50, 53, 48]⟩)]), (.int .i64 0)])⟩
def lK19 : List Entry := []
theorem lK19_ok : ∀ e ∈ lK19, EntryOK Tryz.prog e := fun _ h => by cases h
theorem k19 : EntryOK Tryz.prog e19 := known_run tabK14_ok lK19_ok (fuel := 100000) (n := 60) (by kernel_rfl) (by kernel_rfl)
/-- cubit/rat.Of -/
def e20 : Entry := ⟨124, [(.int .i64 1143)], .flat (.agg #[(.string ⟨#[49, 49, 52, 51]⟩), (.string ⟨#[49]⟩)])⟩
def lK20 : List Entry := []
theorem lK20_ok : ∀ e ∈ lK20, EntryOK Tryz.prog e := fun _ h => by cases h
theorem k20 : EntryOK Tryz.prog e20 := known_run tabK124_ok lK20_ok (fuel := 100000) (n := 60) (by kernel_rfl) (by kernel_rfl)
/-- cubit/rat.Of -/
def e21 : Entry := ⟨124, [(.int .i64 625)], .flat (.agg #[(.string ⟨#[54, 50, 53]⟩), (.string ⟨#[49]⟩)])⟩
def lK21 : List Entry := []
theorem lK21_ok : ∀ e ∈ lK21, EntryOK Tryz.prog e := fun _ h => by cases h
theorem k21 : EntryOK Tryz.prog e21 := known_run tabK124_ok lK21_ok (fuel := 100000) (n := 60) (by kernel_rfl) (by kernel_rfl)
/-- cubit/rat.Quo -/
def e22 : Entry := ⟨14, [(.agg #[(.string ⟨#[49, 49, 52, 51]⟩), (.string ⟨#[49]⟩)]), (.agg #[(.string ⟨#[54, 50, 53]⟩), (.string ⟨#[49]⟩)])], .flat (.tuple #[(.agg #[(.string ⟨#[49, 49, 52, 51]⟩), (.string ⟨#[54, 50, 53]⟩)]), (.int .i64 0)])⟩
def lK22 : List Entry := []
theorem lK22_ok : ∀ e ∈ lK22, EntryOK Tryz.prog e := fun _ h => by cases h
theorem k22 : EntryOK Tryz.prog e22 := known_run tabK14_ok lK22_ok (fuel := 100000) (n := 60) (by kernel_rfl) (by kernel_rfl)
/-- cubit/rat.Quo -/
def e23 : Entry := ⟨14, [(.agg #[(.string ⟨#[49, 50, 55]⟩), (.string ⟨#[49]⟩)]), (.agg #[(.string ⟨#[49, 50, 53, 48]⟩), (.string ⟨#[49]⟩)])], .flat (.tuple #[(.agg #[(.string ⟨#[49, 50, 55]⟩), (.string ⟨#[49, 50, 53, 48]⟩)]), (.int .i64 0)])⟩
def lK23 : List Entry := []
theorem lK23_ok : ∀ e ∈ lK23, EntryOK Tryz.prog e := fun _ h => by cases h
theorem k23 : EntryOK Tryz.prog e23 := known_run tabK14_ok lK23_ok (fuel := 100000) (n := 60) (by kernel_rfl) (by kernel_rfl)
end Go.Proofs.YtemgddekbdifeaaGreat.Am
