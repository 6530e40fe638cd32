/- What some calls come to. -/
import Derived.Test.YtemgddekbdifeaaGreatTa2
import Derived.KernelRfl
set_option maxRecDepth 1000000
namespace Go.Proofs.YtemgddekbdifeaaGreat.Am
def tabA3_110 : List (Nat × AFn) := [(110, F110)]
theorem tabA3_110_ok : ∀ p ∈ tabA3_110, FnOK Tryz.prog p := by
  unfold tabA3_110
  simp only [List.forall_mem_cons]
  exact ⟨ok110, fun _ h => by cases h⟩
/-- cubit/cubitref12.rat -/
def e24 : Entry := ⟨110, [(.string ⟨#[53]⟩), (.string ⟨#[57]⟩)], .flat (.agg #[(.string ⟨#[53]⟩), (.string ⟨#[57]⟩)])⟩
def lK24 : List Entry := []
theorem lK24_ok : ∀ e ∈ lK24, EntryOK Tryz.prog e := fun _ h => by cases h
theorem k24 : EntryOK Tryz.prog e24 := known_run tabA3_110_ok lK24_ok (fuel := 100000) (n := 60) (by kernel_rfl) (by kernel_rfl)
/-- cubit/cubitref12.rat -/
def e25 : Entry := ⟨110, [(.string ⟨#[48]⟩), (.string ⟨#[49]⟩)], .flat (.agg #[(.string ⟨#[48]⟩), (.string ⟨#[49]⟩)])⟩
def lK25 : List Entry := []
theorem lK25_ok : ∀ e ∈ lK25, EntryOK Tryz.prog e := fun _ h => by cases h
theorem k25 : EntryOK Tryz.prog e25 := known_run tabA3_110_ok lK25_ok (fuel := 100000) (n := 60) (by kernel_rfl) (by kernel_rfl)
/-- cubit/cubitref12.rat -/
def e26 : Entry := ⟨110, [(.string ⟨#[49]⟩), (.string ⟨#[49]⟩)], .flat (.agg #[(.string ⟨#[49]⟩), (.string ⟨#[49]⟩)])⟩
def lK26 : List Entry := []
theorem lK26_ok : ∀ e ∈ lK26, EntryOK Tryz.prog e := fun _ h => by cases h
theorem k26 : EntryOK Tryz.prog e26 := known_run tabA3_110_ok lK26_ok (fuel := 100000) (n := 60) (by kernel_rfl) (by kernel_rfl)
/-- cubit/cubitref12.rat -/
def e27 : Entry := ⟨110, [(.string ⟨#[53, 52, 54, 51]⟩), (.string ⟨#[50, 48]⟩)], .flat (.agg #[(.string ⟨#[53, 52, 54, 51]⟩), (.string ⟨#[50, 48]⟩)])⟩
def lK27 : List Entry := []
theorem lK27_ok : ∀ e ∈ lK27, EntryOK Tryz.prog e := fun _ h => by cases h
theorem k27 : EntryOK Tryz.prog e27 := known_run tabA3_110_ok lK27_ok (fuel := 100000) (n := 60) (by kernel_rfl) (by kernel_rfl)
/-- cubit/cubitref12.rat -/
def e28 : Entry := ⟨110, [(.string ⟨#[52, 53, 57, 54, 55]⟩), (.string ⟨#[49, 56, 48]⟩)], .flat (.agg #[(.string ⟨#[52, 53, 57, 54, 55]⟩), (.string ⟨#[49, 56, 48]⟩)])⟩
def lK28 : List Entry := []
theorem lK28_ok : ∀ e ∈ lK28, EntryOK Tryz.prog e := fun _ h => by cases h
theorem k28 : EntryOK Tryz.prog e28 := known_run tabA3_110_ok lK28_ok (fuel := 100000) (n := 60) (by kernel_rfl) (by kernel_rfl)
def tabA3_36 : List (Nat × AFn) := [(36, F36)]
theorem tabA3_36_ok : ∀ p ∈ tabA3_36, FnOK Tryz.prog p := by
  unfold tabA3_36
  simp only [List.forall_mem_cons]
  exact ⟨ok36, fun _ h => by cases h⟩
/-- cubit/cubitref12.Units -/
def e29 : Entry := ⟨36, [], .sl [(.string ⟨#[114, 97, 110, 107, 105, 110, 101]⟩), (.string ⟨#[194, 176, 82]⟩), (.int .i64 0), (.int .i64 0), (.int .i64 0), (.int .i64 0), (.int .i64 1), (.int .i64 0), (.int .i64 0), (.int .i64 0), (.string ⟨#[53]⟩), (.string ⟨#[57]⟩), (.string ⟨#[48]⟩), (.string ⟨#[49]⟩), (.int .i64 0), (.string ⟨#[99, 101, 108, 115, 105, 117, 115]⟩), (.string ⟨#[194, 176, 67]⟩), (.int .i64 0), (.int .i64 0), (.int .i64 0), (.int .i64 0), (.int .i64 1), (.int .i64 0), (.int .i64 0), (.int .i64 0), (.string ⟨#[49]⟩), (.string ⟨#[49]⟩), (.string ⟨#[53, 52, 54, 51]⟩), (.string ⟨#[50, 48]⟩), (.int .i64 0), (.string ⟨#[102, 97, 104, 114, 101, 110, 104, 101, 105, 116]⟩), (.string ⟨#[194, 176, 70]⟩), (.int .i64 0), (.int .i64 0), (.int .i64 0), (.int .i64 0), (.int .i64 1), (.int .i64 0), (.int .i64 0), (.int .i64 0), (.string ⟨#[53]⟩), (.string ⟨#[57]⟩), (.string ⟨#[52, 53, 57, 54, 55]⟩), (.string ⟨#[49, 56, 48]⟩), (.int .i64 0)] 39 false 3 3⟩
def lK29 : List Entry := [e24, e25, e26, e27, e28]
theorem lK29_ok : ∀ e ∈ lK29, EntryOK Tryz.prog e := by
  unfold lK29
  simp only [List.forall_mem_cons]
  exact ⟨k24, k25, k26, k27, k28, fun _ h => by cases h⟩
theorem k29 : EntryOK Tryz.prog e29 := known_run tabA3_36_ok lK29_ok (fuel := 100000) (n := 60) (by kernel_rfl) (by kernel_rfl)
def tabA3_111 : List (Nat × AFn) := [(111, F111), (148, F148), (150, F150), (183, F183), (184, F184), (206, F206)]
theorem tabA3_111_ok : ∀ p ∈ tabA3_111, FnOK Tryz.prog p := by
  unfold tabA3_111
  simp only [List.forall_mem_cons]
  exact ⟨ok111, ok148, ok150, ok183, ok184, ok206, fun _ h => by cases h⟩
/-- cubit/temps.pointsMade -/
def e30 : Entry := ⟨111, [], .flat (.agg #[(.int .i64 0), (.int .i64 1), (.int .i64 5463), (.int .i64 20), (.int .i64 6829), (.int .i64 25), (.int .i64 7463), (.int .i64 20)])⟩
def lK30 : List Entry := []
theorem lK30_ok : ∀ e ∈ lK30, EntryOK Tryz.prog e := fun _ h => by cases h
theorem k30 : EntryOK Tryz.prog e30 := known_run tabA3_111_ok lK30_ok (fuel := 100000) (n := 60) (by kernel_rfl) (by kernel_rfl)
def tabA3_23 : List (Nat × AFn) := [(23, F23), (24, F24), (35, F35), (41, F41), (44, F44), (46, F46), (47, F47), (93, F93), (94, F94), (95, F95), (96, F96), (100, F100), (115, F115), (116, F116), (117, F117), (121, F121), (122, F122), (136, F136), (137, F137), (138, F138), (139, F139), (140, F140), (141, F141), (151, F151), (152, F152), (153, F153), (154, F154), (155, F155), (156, F156), (157, F157), (158, F158), (161, F161), (162, F162), (163, F163), (177, F177), (178, F178), (179, F179), (180, F180), (181, F181), (182, F182), (185, F185), (186, F186), (187, F187), (188, F188), (189, F189), (191, F191), (193, F193), (204, F204), (205, F205), (207, F207), (208, F208), (209, F209), (210, F210), (211, F211), (212, F212), (213, F213), (225, F225)]
theorem tabA3_23_ok : ∀ p ∈ tabA3_23, FnOK Tryz.prog p := by
  unfold tabA3_23
  simp only [List.forall_mem_cons]
  exact ⟨ok23, ok24, ok35, ok41, ok44, ok46, ok47, ok93, ok94, ok95, ok96, ok100, ok115, ok116, ok117, ok121, ok122, ok136, ok137, ok138, ok139, ok140, ok141, ok151, ok152, ok153, ok154, ok155, ok156, ok157, ok158, ok161, ok162, ok163, ok177, ok178, ok179, ok180, ok181, ok182, ok185, ok186, ok187, ok188, ok189, ok191, ok193, ok204, ok205, ok207, ok208, ok209, ok210, ok211, ok212, ok213, ok225, fun _ h => by cases h⟩
/-- cubit/cubitlaw12.awake -/
def e34 : Entry := ⟨23, [], .flat (.bool true)⟩
def lK34 : List Entry := [e6, e23]
theorem lK34_ok : ∀ e ∈ lK34, EntryOK Tryz.prog e := by
  unfold lK34
  simp only [List.forall_mem_cons]
  exact ⟨k6, k23, fun _ h => by cases h⟩
theorem k34 : EntryOK Tryz.prog e34 := known_run tabA3_23_ok lK34_ok (fuel := 100000) (n := 60) (by kernel_rfl) (by kernel_rfl)
end Go.Proofs.YtemgddekbdifeaaGreat.Am
