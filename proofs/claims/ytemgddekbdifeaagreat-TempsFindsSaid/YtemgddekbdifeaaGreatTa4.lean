/- What some calls come to. -/
import Derived.Test.YtemgddekbdifeaaGreatTa3
import Derived.KernelRfl
set_option maxRecDepth 1000000
namespace Go.Proofs.YtemgddekbdifeaaGreat.Am
def tabA4_124 : List (Nat × AFn) := [(124, F124), (140, F140), (155, F155), (157, F157), (179, F179), (180, F180), (181, F181), (189, F189)]
theorem tabA4_124_ok : ∀ p ∈ tabA4_124, FnOK Tryz.prog p := by
  unfold tabA4_124
  simp only [List.forall_mem_cons]
  exact ⟨ok124, ok140, ok155, ok157, ok179, ok180, ok181, ok189, fun _ h => by cases h⟩
/-- cubit/rat.Of -/
def e72 : Entry := ⟨124, [(.int .i64 6829)], .flat (.agg #[(.string ⟨#[54, 56, 50, 57]⟩), (.string ⟨#[49]⟩)])⟩
def lK72 : List Entry := []
theorem lK72_ok : ∀ e ∈ lK72, EntryOK Tryz.prog e := fun _ h => by cases h
theorem k72 : EntryOK Tryz.prog e72 := known_run tabA4_124_ok lK72_ok (fuel := 100000) (n := 60) (by kernel_rfl) (by kernel_rfl)
/-- cubit/rat.Of -/
def e73 : Entry := ⟨124, [(.int .i64 25)], .flat (.agg #[(.string ⟨#[50, 53]⟩), (.string ⟨#[49]⟩)])⟩
def lK73 : List Entry := []
theorem lK73_ok : ∀ e ∈ lK73, EntryOK Tryz.prog e := fun _ h => by cases h
theorem k73 : EntryOK Tryz.prog e73 := known_run tabA4_124_ok lK73_ok (fuel := 100000) (n := 60) (by kernel_rfl) (by kernel_rfl)
def tabA4_14 : List (Nat × AFn) := [(14, F14), (39, F39), (45, F45), (46, F46), (47, F47), (113, F113), (114, F114), (115, F115), (116, F116), (117, F117), (122, F122), (137, F137), (139, F139), (140, F140), (141, F141), (151, F151), (152, F152), (153, F153), (154, F154), (155, F155), (156, F156), (157, F157), (158, F158), (162, F162), (177, F177), (179, F179), (180, F180), (181, F181), (182, F182), (185, F185), (186, F186), (187, F187), (188, F188), (189, F189), (193, F193), (205, F205), (207, F207), (208, F208), (209, F209), (210, F210), (211, F211), (212, F212), (213, F213), (225, F225)]
theorem tabA4_14_ok : ∀ p ∈ tabA4_14, FnOK Tryz.prog p := by
  unfold tabA4_14
  simp only [List.forall_mem_cons]
  exact ⟨ok14, ok39, ok45, ok46, ok47, ok113, ok114, ok115, ok116, ok117, ok122, ok137, ok139, ok140, ok141, ok151, ok152, ok153, ok154, ok155, ok156, ok157, ok158, ok162, ok177, ok179, ok180, ok181, ok182, ok185, ok186, ok187, ok188, ok189, ok193, ok205, ok207, ok208, ok209, ok210, ok211, ok212, ok213, ok225, fun _ h => by cases h⟩
/-- cubit/rat.Quo -/
def e74 : Entry := ⟨14, [(.agg #[(.string ⟨#[54, 56, 50, 57]⟩), (.string ⟨#[49]⟩)]), (.agg #[(.string ⟨#[50, 53]⟩), (.string ⟨#[49]⟩)])], .flat (.tuple #[(.agg #[(.string ⟨#[54, 56, 50, 57]⟩), (.string ⟨#[50, 53]⟩)]), (.int .i64 0)])⟩
def lK74 : List Entry := []
theorem lK74_ok : ∀ e ∈ lK74, EntryOK Tryz.prog e := fun _ h => by cases h
theorem k74 : EntryOK Tryz.prog e74 := known_run tabA4_14_ok lK74_ok (fuel := 100000) (n := 60) (by kernel_rfl) (by kernel_rfl)
def tabA4_112 : List (Nat × AFn) := [(112, F112)]
theorem tabA4_112_ok : ∀ p ∈ tabA4_112, FnOK Tryz.prog p := by
  unfold tabA4_112
  simp only [List.forall_mem_cons]
  exact ⟨ok112, fun _ h => by cases h⟩
/-- cubit/temps.number.rat -/
def e75 : Entry := ⟨112, [(.agg #[(.int .i64 6829), (.int .i64 25)])], .flat (.agg #[(.string ⟨#[54, 56, 50, 57]⟩), (.string ⟨#[50, 53]⟩)])⟩
def lK75 : List Entry := [e0, e1, e3, e7, e8, e9, e11, e13, e15, e16, e17, e19, e20, e21, e72, e73, e74]
theorem lK75_ok : ∀ e ∈ lK75, EntryOK Tryz.prog e := by
  unfold lK75
  simp only [List.forall_mem_cons]
  exact ⟨k0, k1, k3, k7, k8, k9, k11, k13, k15, k16, k17, k19, k20, k21, k72, k73, k74, fun _ h => by cases h⟩
theorem k75 : EntryOK Tryz.prog e75 := known_run tabA4_112_ok lK75_ok (fuel := 100000) (n := 60) (by kernel_rfl) (by kernel_rfl)
def tabA4_110 : List (Nat × AFn) := [(110, F110)]
theorem tabA4_110_ok : ∀ p ∈ tabA4_110, FnOK Tryz.prog p := by
  unfold tabA4_110
  simp only [List.forall_mem_cons]
  exact ⟨ok110, fun _ h => by cases h⟩
/-- cubit/cubitref12.rat -/
def e77 : Entry := ⟨110, [(.string ⟨#[54, 56, 50, 57]⟩), (.string ⟨#[50, 53]⟩)], .flat (.agg #[(.string ⟨#[54, 56, 50, 57]⟩), (.string ⟨#[50, 53]⟩)])⟩
def lK77 : List Entry := []
theorem lK77_ok : ∀ e ∈ lK77, EntryOK Tryz.prog e := fun _ h => by cases h
theorem k77 : EntryOK Tryz.prog e77 := known_run tabA4_110_ok lK77_ok (fuel := 100000) (n := 60) (by kernel_rfl) (by kernel_rfl)
/-- cubit/rat.Of -/
def e97 : Entry := ⟨124, [(.int .i64 7463)], .flat (.agg #[(.string ⟨#[55, 52, 54, 51]⟩), (.string ⟨#[49]⟩)])⟩
def lK97 : List Entry := []
theorem lK97_ok : ∀ e ∈ lK97, EntryOK Tryz.prog e := fun _ h => by cases h
theorem k97 : EntryOK Tryz.prog e97 := known_run tabA4_124_ok lK97_ok (fuel := 100000) (n := 60) (by kernel_rfl) (by kernel_rfl)
/-- cubit/rat.Quo -/
def e98 : Entry := ⟨14, [(.agg #[(.string ⟨#[55, 52, 54, 51]⟩), (.string ⟨#[49]⟩)]), (.agg #[(.string ⟨#[50, 48]⟩), (.string ⟨#[49]⟩)])], .flat (.tuple #[(.agg #[(.string ⟨#[55, 52, 54, 51]⟩), (.string ⟨#[50, 48]⟩)]), (.int .i64 0)])⟩
def lK98 : List Entry := []
theorem lK98_ok : ∀ e ∈ lK98, EntryOK Tryz.prog e := fun _ h => by cases h
theorem k98 : EntryOK Tryz.prog e98 := known_run tabA4_14_ok lK98_ok (fuel := 100000) (n := 60) (by kernel_rfl) (by kernel_rfl)
/-- cubit/temps.number.rat -/
def e99 : Entry := ⟨112, [(.agg #[(.int .i64 7463), (.int .i64 20)])], .flat (.agg #[(.string ⟨#[55, 52, 54, 51]⟩), (.string ⟨#[50, 48]⟩)])⟩
def lK99 : List Entry := [e0, e1, e3, e7, e8, e9, e11, e13, e15, e16, e17, e19, e20, e21, e72, e73, e74, e97, e98]
theorem lK99_ok : ∀ e ∈ lK99, EntryOK Tryz.prog e := by
  unfold lK99
  simp only [List.forall_mem_cons]
  exact ⟨k0, k1, k3, k7, k8, k9, k11, k13, k15, k16, k17, k19, k20, k21, k72, k73, k74, k97, k98, fun _ h => by cases h⟩
theorem k99 : EntryOK Tryz.prog e99 := known_run tabA4_112_ok lK99_ok (fuel := 100000) (n := 60) (by kernel_rfl) (by kernel_rfl)
end Go.Proofs.YtemgddekbdifeaaGreat.Am
