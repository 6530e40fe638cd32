/- What some calls come to. -/
import Derived.Test.YtemgddekbdifeaaGreatTa1
import Derived.KernelRfl
set_option maxRecDepth 1000000
namespace Go.Proofs.YtemgddekbdifeaaGreat.Am
def tabA2_124 : List (Nat × AFn) := [(124, F124), (140, F140), (155, F155), (157, F157), (179, F179), (180, F180), (181, F181), (189, F189)]
theorem tabA2_124_ok : ∀ p ∈ tabA2_124, FnOK Tryz.prog p := by
  unfold tabA2_124
  simp only [List.forall_mem_cons]
  exact ⟨ok124, ok140, ok155, ok157, ok179, ok180, ok181, ok189, fun _ h => by cases h⟩
/-- cubit/rat.Of -/
def e16 : Entry := ⟨124, [(.int .i64 20)], .flat (.agg #[(.string ⟨#[50, 48]⟩), (.string ⟨#[49]⟩)])⟩
def lK16 : List Entry := []
theorem lK16_ok : ∀ e ∈ lK16, EntryOK Tryz.prog e := fun _ h => by cases h
theorem k16 : EntryOK Tryz.prog e16 := known_run tabA2_124_ok lK16_ok (fuel := 100000) (n := 60) (by kernel_rfl) (by kernel_rfl)
def tabA2_14 : List (Nat × AFn) := [(14, F14), (39, F39), (45, F45), (46, F46), (47, F47), (113, F113), (114, F114), (115, F115), (116, F116), (117, F117), (122, F122), (137, F137), (139, F139), (140, F140), (141, F141), (151, F151), (152, F152), (153, F153), (154, F154), (155, F155), (156, F156), (157, F157), (158, F158), (162, F162), (177, F177), (179, F179), (180, F180), (181, F181), (182, F182), (185, F185), (186, F186), (187, F187), (188, F188), (189, F189), (193, F193), (205, F205), (207, F207), (208, F208), (209, F209), (210, F210), (211, F211), (212, F212), (213, F213), (225, F225)]
theorem tabA2_14_ok : ∀ p ∈ tabA2_14, FnOK Tryz.prog p := by
  unfold tabA2_14
  simp only [List.forall_mem_cons]
  exact ⟨ok14, ok39, ok45, ok46, ok47, ok113, ok114, ok115, ok116, ok117, ok122, ok137, ok139, ok140, ok141, ok151, ok152, ok153, ok154, ok155, ok156, ok157, ok158, ok162, ok177, ok179, ok180, ok181, ok182, ok185, ok186, ok187, ok188, ok189, ok193, ok205, ok207, ok208, ok209, ok210, ok211, ok212, ok213, ok225, fun _ h => by cases h⟩
/-- cubit/rat.Quo -/
def e17 : Entry := ⟨14, [(.agg #[(.string ⟨#[53, 52, 54, 51]⟩), (.string ⟨#[49]⟩)]), (.agg #[(.string ⟨#[50, 48]⟩), (.string ⟨#[49]⟩)])], .flat (.tuple #[(.agg #[(.string ⟨#[53, 52, 54, 51]⟩), (.string ⟨#[50, 48]⟩)]), (.int .i64 0)])⟩
def lK17 : List Entry := []
theorem lK17_ok : ∀ e ∈ lK17, EntryOK Tryz.prog e := fun _ h => by cases h
theorem k17 : EntryOK Tryz.prog e17 := known_run tabA2_14_ok lK17_ok (fuel := 100000) (n := 60) (by kernel_rfl) (by kernel_rfl)
def tabA2_112 : List (Nat × AFn) := [(112, F112)]
theorem tabA2_112_ok : ∀ p ∈ tabA2_112, FnOK Tryz.prog p := by
  unfold tabA2_112
  simp only [List.forall_mem_cons]
  exact ⟨ok112, fun _ h => by cases h⟩
/-- cubit/temps.number.rat -/
def e18 : Entry := ⟨112, [(.agg #[(.int .i64 5463), (.int .i64 20)])], .flat (.agg #[(.string ⟨#[53, 52, 54, 51]⟩), (.string ⟨#[50, 48]⟩)])⟩
def lK18 : List Entry := [e0, e1, e3, e7, e8, e9, e11, e13, e15, e16, e17]
theorem lK18_ok : ∀ e ∈ lK18, EntryOK Tryz.prog e := by
  unfold lK18
  simp only [List.forall_mem_cons]
  exact ⟨k0, k1, k3, k7, k8, k9, k11, k13, k15, k16, k17, fun _ h => by cases h⟩
theorem k18 : EntryOK Tryz.prog e18 := known_run tabA2_112_ok lK18_ok (fuel := 100000) (n := 60) (by kernel_rfl) (by kernel_rfl)
/-- cubit/rat.Of -/
def e19 : Entry := ⟨124, [(.int .i64 45967)], .flat (.agg #[(.string ⟨#[52, 53, 57, 54, 55]⟩), (.string ⟨#[49]⟩)])⟩
def lK19 : List Entry := []
theorem lK19_ok : ∀ e ∈ lK19, EntryOK Tryz.prog e := fun _ h => by cases h
theorem k19 : EntryOK Tryz.prog e19 := known_run tabA2_124_ok lK19_ok (fuel := 100000) (n := 60) (by kernel_rfl) (by kernel_rfl)
/-- cubit/rat.Of -/
def e20 : Entry := ⟨124, [(.int .i64 180)], .flat (.agg #[(.string ⟨#[49, 56, 48]⟩), (.string ⟨#[49]⟩)])⟩
def lK20 : List Entry := []
theorem lK20_ok : ∀ e ∈ lK20, EntryOK Tryz.prog e := fun _ h => by cases h
theorem k20 : EntryOK Tryz.prog e20 := known_run tabA2_124_ok lK20_ok (fuel := 100000) (n := 60) (by kernel_rfl) (by kernel_rfl)
/-- cubit/rat.Quo -/
def e21 : Entry := ⟨14, [(.agg #[(.string ⟨#[52, 53, 57, 54, 55]⟩), (.string ⟨#[49]⟩)]), (.agg #[(.string ⟨#[49, 56, 48]⟩), (.string ⟨#[49]⟩)])], .flat (.tuple #[(.agg #[(.string ⟨#[52, 53, 57, 54, 55]⟩), (.string ⟨#[49, 56, 48]⟩)]), (.int .i64 0)])⟩
def lK21 : List Entry := []
theorem lK21_ok : ∀ e ∈ lK21, EntryOK Tryz.prog e := fun _ h => by cases h
theorem k21 : EntryOK Tryz.prog e21 := known_run tabA2_14_ok lK21_ok (fuel := 100000) (n := 60) (by kernel_rfl) (by kernel_rfl)
/-- cubit/temps.number.rat -/
def e22 : Entry := ⟨112, [(.agg #[(.int .i64 45967), (.int .i64 180)])], .flat (.agg #[(.string ⟨#[52, 53, 57, 54, 55]⟩), (.string ⟨#[49, 56, 48]⟩)])⟩
def lK22 : List Entry := [e0, e1, e3, e7, e8, e9, e11, e13, e15, e16, e17, e19, e20, e21]
theorem lK22_ok : ∀ e ∈ lK22, EntryOK Tryz.prog e := by
  unfold lK22
  simp only [List.forall_mem_cons]
  exact ⟨k0, k1, k3, k7, k8, k9, k11, k13, k15, k16, k17, k19, k20, k21, fun _ h => by cases h⟩
theorem k22 : EntryOK Tryz.prog e22 := known_run tabA2_112_ok lK22_ok (fuel := 100000) (n := 60) (by kernel_rfl) (by kernel_rfl)
def tabA2_109 : List (Nat × AFn) := [(109, F109), (146, F146), (147, F147), (148, F148), (149, F149), (150, F150), (183, F183), (184, F184), (206, F206)]
theorem tabA2_109_ok : ∀ p ∈ tabA2_109, FnOK Tryz.prog p := by
  unfold tabA2_109
  simp only [List.forall_mem_cons]
  exact ⟨ok109, ok146, ok147, ok148, ok149, ok150, ok183, ok184, ok206, fun _ h => by cases h⟩
/-- cubit/temps.Units -/
def e23 : Entry := ⟨109, [], .sl [(.string ⟨#[114, 97, 110, 107, 105, 110, 101]⟩), (.string ⟨#[194, 176, 82]⟩), (.int .i64 0), (.int .i64 0), (.int .i64 0), (.int .i64 0), (.int .i64 1), (.int .i64 0), (.int .i64 0), (.int .i64 0), (.string ⟨#[53]⟩), (.string ⟨#[57]⟩), (.string ⟨#[48]⟩), (.string ⟨#[49]⟩), (.int .i64 0), (.string ⟨#[99, 101, 108, 115, 105, 117, 115]⟩), (.string ⟨#[194, 176, 67]⟩), (.int .i64 0), (.int .i64 0), (.int .i64 0), (.int .i64 0), (.int .i64 1), (.int .i64 0), (.int .i64 0), (.int .i64 0), (.string ⟨#[49]⟩), (.string ⟨#[49]⟩), (.string ⟨#[53, 52, 54, 51]⟩), (.string ⟨#[50, 48]⟩), (.int .i64 0), (.string ⟨#[102, 97, 104, 114, 101, 110, 104, 101, 105, 116]⟩), (.string ⟨#[194, 176, 70]⟩), (.int .i64 0), (.int .i64 0), (.int .i64 0), (.int .i64 0), (.int .i64 1), (.int .i64 0), (.int .i64 0), (.int .i64 0), (.string ⟨#[53]⟩), (.string ⟨#[57]⟩), (.string ⟨#[52, 53, 57, 54, 55]⟩), (.string ⟨#[49, 56, 48]⟩), (.int .i64 0)] 39 false 3 3⟩
def lK23 : List Entry := [e6, e10, e12, e14, e18, e22]
theorem lK23_ok : ∀ e ∈ lK23, EntryOK Tryz.prog e := by
  unfold lK23
  simp only [List.forall_mem_cons]
  exact ⟨k6, k10, k12, k14, k18, k22, fun _ h => by cases h⟩
theorem k23 : EntryOK Tryz.prog e23 := known_run tabA2_109_ok lK23_ok (fuel := 100000) (n := 60) (by kernel_rfl) (by kernel_rfl)
end Go.Proofs.YtemgddekbdifeaaGreat.Am
