/- What some calls come to. -/
import Derived.Test.YtemgddekbdifeaaGreatTa0
import Derived.KernelRfl
set_option maxRecDepth 1000000
namespace Go.Proofs.YtemgddekbdifeaaGreat.Am
def tabA1_124 : List (Nat × AFn) := [(124, F124), (140, F140), (155, F155), (157, F157), (179, F179), (180, F180), (181, F181), (189, F189)]
theorem tabA1_124_ok : ∀ p ∈ tabA1_124, FnOK Tryz.prog p := by
  unfold tabA1_124
  simp only [List.forall_mem_cons]
  exact ⟨ok124, ok140, ok155, ok157, ok179, ok180, ok181, ok189, fun _ h => by cases h⟩
/-- cubit/rat.Of -/
def e8 : Entry := ⟨124, [(.int .i64 9)], .flat (.agg #[(.string ⟨#[57]⟩), (.string ⟨#[49]⟩)])⟩
def lK8 : List Entry := []
theorem lK8_ok : ∀ e ∈ lK8, EntryOK Tryz.prog e := fun _ h => by cases h
theorem k8 : EntryOK Tryz.prog e8 := known_run tabA1_124_ok lK8_ok (fuel := 100000) (n := 60) (by kernel_rfl) (by kernel_rfl)
def tabA1_14 : List (Nat × AFn) := [(14, F14), (39, F39), (45, F45), (46, F46), (47, F47), (113, F113), (114, F114), (115, F115), (116, F116), (117, F117), (122, F122), (137, F137), (139, F139), (140, F140), (141, F141), (151, F151), (152, F152), (153, F153), (154, F154), (155, F155), (156, F156), (157, F157), (158, F158), (162, F162), (177, F177), (179, F179), (180, F180), (181, F181), (182, F182), (185, F185), (186, F186), (187, F187), (188, F188), (189, F189), (193, F193), (205, F205), (207, F207), (208, F208), (209, F209), (210, F210), (211, F211), (212, F212), (213, F213), (225, F225)]
theorem tabA1_14_ok : ∀ p ∈ tabA1_14, FnOK Tryz.prog p := by
  unfold tabA1_14
  simp only [List.forall_mem_cons]
  exact ⟨ok14, ok39, ok45, ok46, ok47, ok113, ok114, ok115, ok116, ok117, ok122, ok137, ok139, ok140, ok141, ok151, ok152, ok153, ok154, ok155, ok156, ok157, ok158, ok162, ok177, ok179, ok180, ok181, ok182, ok185, ok186, ok187, ok188, ok189, ok193, ok205, ok207, ok208, ok209, ok210, ok211, ok212, ok213, ok225, fun _ h => by cases h⟩
/-- cubit/rat.Quo -/
def e9 : Entry := ⟨14, [(.agg #[(.string ⟨#[53]⟩), (.string ⟨#[49]⟩)]), (.agg #[(.string ⟨#[57]⟩), (.string ⟨#[49]⟩)])], .flat (.tuple #[(.agg #[(.string ⟨#[53]⟩), (.string ⟨#[57]⟩)]), (.int .i64 0)])⟩
def lK9 : List Entry := []
theorem lK9_ok : ∀ e ∈ lK9, EntryOK Tryz.prog e := fun _ h => by cases h
theorem k9 : EntryOK Tryz.prog e9 := known_run tabA1_14_ok lK9_ok (fuel := 100000) (n := 60) (by kernel_rfl) (by kernel_rfl)
def tabA1_112 : List (Nat × AFn) := [(112, F112)]
theorem tabA1_112_ok : ∀ p ∈ tabA1_112, FnOK Tryz.prog p := by
  unfold tabA1_112
  simp only [List.forall_mem_cons]
  exact ⟨ok112, fun _ h => by cases h⟩
/-- cubit/temps.number.rat -/
def e10 : Entry := ⟨112, [(.agg #[(.int .i64 5), (.int .i64 9)])], .flat (.agg #[(.string ⟨#[53]⟩), (.string ⟨#[57]⟩)])⟩
def lK10 : List Entry := [e0, e1, e3, e7, e8, e9]
theorem lK10_ok : ∀ e ∈ lK10, EntryOK Tryz.prog e := by
  unfold lK10
  simp only [List.forall_mem_cons]
  exact ⟨k0, k1, k3, k7, k8, k9, fun _ h => by cases h⟩
theorem k10 : EntryOK Tryz.prog e10 := known_run tabA1_112_ok lK10_ok (fuel := 100000) (n := 60) (by kernel_rfl) (by kernel_rfl)
/-- cubit/rat.Quo -/
def e11 : Entry := ⟨14, [(.agg #[(.string ⟨#[48]⟩), (.string ⟨#[49]⟩)]), (.agg #[(.string ⟨#[49]⟩), (.string ⟨#[49]⟩)])], .flat (.tuple #[(.agg #[(.string ⟨#[48]⟩), (.string ⟨#[49]⟩)]), (.int .i64 0)])⟩
def lK11 : List Entry := []
theorem lK11_ok : ∀ e ∈ lK11, EntryOK Tryz.prog e := fun _ h => by cases h
theorem k11 : EntryOK Tryz.prog e11 := known_run tabA1_14_ok lK11_ok (fuel := 100000) (n := 60) (by kernel_rfl) (by kernel_rfl)
/-- cubit/temps.number.rat -/
def e12 : Entry := ⟨112, [(.agg #[(.int .i64 0), (.int .i64 1)])], .flat (.agg #[(.string ⟨#[48]⟩), (.string ⟨#[49]⟩)])⟩
def lK12 : List Entry := [e0, e1, e3, e7, e8, e9, e11]
theorem lK12_ok : ∀ e ∈ lK12, EntryOK Tryz.prog e := by
  unfold lK12
  simp only [List.forall_mem_cons]
  exact ⟨k0, k1, k3, k7, k8, k9, k11, fun _ h => by cases h⟩
theorem k12 : EntryOK Tryz.prog e12 := known_run tabA1_112_ok lK12_ok (fuel := 100000) (n := 60) (by kernel_rfl) (by kernel_rfl)
/-- cubit/rat.Quo -/
def e13 : Entry := ⟨14, [(.agg #[(.string ⟨#[49]⟩), (.string ⟨#[49]⟩)]), (.agg #[(.string ⟨#[49]⟩), (.string ⟨#[49]⟩)])], .flat (.tuple #[(.agg #[(.string ⟨#[49]⟩), (.string ⟨#[49]⟩)]), (.int .i64 0)])⟩
def lK13 : List Entry := []
theorem lK13_ok : ∀ e ∈ lK13, EntryOK Tryz.prog e := fun _ h => by cases h
theorem k13 : EntryOK Tryz.prog e13 := known_run tabA1_14_ok lK13_ok (fuel := 100000) (n := 60) (by kernel_rfl) (by kernel_rfl)
/-- cubit/temps.number.rat -/
def e14 : Entry := ⟨112, [(.agg #[(.int .i64 1), (.int .i64 1)])], .flat (.agg #[(.string ⟨#[49]⟩), (.string ⟨#[49]⟩)])⟩
def lK14 : List Entry := [e0, e1, e3, e7, e8, e9, e11, e13]
theorem lK14_ok : ∀ e ∈ lK14, EntryOK Tryz.prog e := by
  unfold lK14
  simp only [List.forall_mem_cons]
  exact ⟨k0, k1, k3, k7, k8, k9, k11, k13, fun _ h => by cases h⟩
theorem k14 : EntryOK Tryz.prog e14 := known_run tabA1_112_ok lK14_ok (fuel := 100000) (n := 60) (by kernel_rfl) (by kernel_rfl)
/-- cubit/rat.Of -/
def e15 : Entry := ⟨124, [(.int .i64 5463)], .flat (.agg #[(.string ⟨#[53, 52, 54, 51]⟩), (.string ⟨#[49]⟩)])⟩
def lK15 : List Entry := []
theorem lK15_ok : ∀ e ∈ lK15, EntryOK Tryz.prog e := fun _ h => by cases h
theorem k15 : EntryOK Tryz.prog e15 := known_run tabA1_124_ok lK15_ok (fuel := 100000) (n := 60) (by kernel_rfl) (by kernel_rfl)
end Go.Proofs.YtemgddekbdifeaaGreat.Am
