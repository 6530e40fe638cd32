/- What some calls come to. -/
import Derived.Test.YtemgddekbdifeaaGreatTFn1
import Derived.KernelRfl
set_option maxRecDepth 1000000
namespace Go.Proofs.YtemgddekbdifeaaGreat.Am
def tabA0_124 : List (Nat × AFn) := [(124, F124), (140, F140), (155, F155), (157, F157), (179, F179), (180, F180), (181, F181), (189, F189)]
theorem tabA0_124_ok : ∀ p ∈ tabA0_124, FnOK Tryz.prog p := by
  unfold tabA0_124
  simp only [List.forall_mem_cons]
  exact ⟨ok124, ok140, ok155, ok157, ok179, ok180, ok181, ok189, fun _ h => by cases h⟩
/-- cubit/rat.Of -/
def e0 : Entry := ⟨124, [(.int .i64 0)], .flat (.agg #[(.string ⟨#[48]⟩), (.string ⟨#[49]⟩)])⟩
def lK0 : List Entry := []
theorem lK0_ok : ∀ e ∈ lK0, EntryOK Tryz.prog e := fun _ h => by cases h
theorem k0 : EntryOK Tryz.prog e0 := known_run tabA0_124_ok lK0_ok (fuel := 100000) (n := 60) (by kernel_rfl) (by kernel_rfl)
/-- cubit/rat.Of -/
def e1 : Entry := ⟨124, [(.int .i64 1)], .flat (.agg #[(.string ⟨#[49]⟩), (.string ⟨#[49]⟩)])⟩
def lK1 : List Entry := []
theorem lK1_ok : ∀ e ∈ lK1, EntryOK Tryz.prog e := fun _ h => by cases h
theorem k1 : EntryOK Tryz.prog e1 := known_run tabA0_124_ok lK1_ok (fuel := 100000) (n := 60) (by kernel_rfl) (by kernel_rfl)
def tabA0_223 : List (Nat × AFn) := [(39, F39), (46, F46), (113, F113), (114, F114), (115, F115), (117, F117), (122, F122), (137, F137), (139, F139), (140, F140), (141, F141), (151, F151), (152, F152), (153, F153), (154, F154), (155, F155), (156, F156), (157, F157), (158, F158), (162, F162), (164, F164), (177, F177), (179, F179), (180, F180), (181, F181), (182, F182), (185, F185), (186, F186), (187, F187), (188, F188), (189, F189), (192, F192), (193, F193), (205, F205), (207, F207), (208, F208), (209, F209), (210, F210), (211, F211), (212, F212), (213, F213), (223, F223), (225, F225), (230, F230), (231, F231)]
theorem tabA0_223_ok : ∀ p ∈ tabA0_223, FnOK Tryz.prog p := by
  unfold tabA0_223
  simp only [List.forall_mem_cons]
  exact ⟨ok39, ok46, ok113, ok114, ok115, ok117, ok122, ok137, ok139, ok140, ok141, ok151, ok152, ok153, ok154, ok155, ok156, ok157, ok158, ok162, ok164, ok177, ok179, ok180, ok181, ok182, ok185, ok186, ok187, ok188, ok189, ok192, ok193, ok205, ok207, ok208, ok209, ok210, ok211, ok212, ok213, ok223, ok225, ok230, ok231, fun _ h => by cases h⟩
/-- cubit/rat.Inv -/
def e2 : Entry := ⟨223, [(.agg #[(.string ⟨#[49]⟩), (.string ⟨#[49]⟩)])], .flat (.tuple #[(.agg #[(.string ⟨#[49]⟩), (.string ⟨#[49]⟩)]), (.int .i64 0)])⟩
def lK2 : List Entry := []
theorem lK2_ok : ∀ e ∈ lK2, EntryOK Tryz.prog e := fun _ h => by cases h
theorem k2 : EntryOK Tryz.prog e2 := known_run tabA0_223_ok lK2_ok (fuel := 100000) (n := 60) (by kernel_rfl) (by kernel_rfl)
/-- cubit/rat.Of -/
def e3 : Entry := ⟨124, [(.int .i64 1000)], .flat (.agg #[(.string ⟨#[49, 48, 48, 48]⟩), (.string ⟨#[49]⟩)])⟩
def lK3 : List Entry := []
theorem lK3_ok : ∀ e ∈ lK3, EntryOK Tryz.prog e := fun _ h => by cases h
theorem k3 : EntryOK Tryz.prog e3 := known_run tabA0_124_ok lK3_ok (fuel := 100000) (n := 60) (by kernel_rfl) (by kernel_rfl)
/-- cubit/rat.Inv -/
def e4 : Entry := ⟨223, [(.agg #[(.string ⟨#[49, 48, 48, 48]⟩), (.string ⟨#[49]⟩)])], .flat (.tuple #[(.agg #[(.string ⟨#[49]⟩), (.string ⟨#[49, 48, 48, 48]⟩)]), (.int .i64 0)])⟩
def lK4 : List Entry := []
theorem lK4_ok : ∀ e ∈ lK4, EntryOK Tryz.prog e := fun _ h => by cases h
theorem k4 : EntryOK Tryz.prog e4 := known_run tabA0_223_ok lK4_ok (fuel := 100000) (n := 60) (by kernel_rfl) (by kernel_rfl)
def tabA0_170 : List (Nat × AFn) := [(170, F170), (195, F195), (196, F196), (197, F197), (198, F198), (199, F199), (200, F200), (201, F201), (202, F202), (203, F203), (224, F224)]
theorem tabA0_170_ok : ∀ p ∈ tabA0_170, FnOK Tryz.prog p := by
  unfold tabA0_170
  simp only [List.forall_mem_cons]
  exact ⟨ok170, ok195, ok196, ok197, ok198, ok199, ok200, ok201, ok202, ok203, ok224, fun _ h => by cases h⟩
/-- cubit/base.Units -/
def e5 : Entry := ⟨170, [], .sl [(.string ⟨#[98, 105, 116]⟩), (.string ⟨#[98]⟩), (.int .i64 0), (.int .i64 0), (.int .i64 0), (.int .i64 0), (.int .i64 0), (.int .i64 0), (.int .i64 0), (.int .i64 1), (.string ⟨#[49]⟩), (.string ⟨#[49]⟩), (.string ⟨#[48]⟩), (.string ⟨#[49]⟩), (.int .i64 3), (.string ⟨#[109, 111, 108, 101]⟩), (.string ⟨#[109, 111, 108]⟩), (.int .i64 0), (.int .i64 0), (.int .i64 0), (.int .i64 0), (.int .i64 0), (.int .i64 1), (.int .i64 0), (.int .i64 0), (.string ⟨#[49]⟩), (.string ⟨#[49]⟩), (.string ⟨#[48]⟩), (.string ⟨#[49]⟩), (.int .i64 1), (.string ⟨#[115, 101, 99, 111, 110, 100]⟩), (.string ⟨#[115]⟩), (.int .i64 0), (.int .i64 0), (.int .i64 1), (.int .i64 0), (.int .i64 0), (.int .i64 0), (.int .i64 0), (.int .i64 0), (.string ⟨#[49]⟩), (.string ⟨#[49]⟩), (.string ⟨#[48]⟩), (.string ⟨#[49]⟩), (.int .i64 1), (.string ⟨#[97, 109, 112, 101, 114, 101]⟩), (.string ⟨#[65]⟩), (.int .i64 0), (.int .i64 0), (.int .i64 0), (.int .i64 1), (.int .i64 0), (.int .i64 0), (.int .i64 0), (.int .i64 0), (.string ⟨#[49]⟩), (.string ⟨#[49]⟩), (.string ⟨#[48]⟩), (.string ⟨#[49]⟩), (.int .i64 1), (.string ⟨#[109, 101, 116, 114, 101]⟩), (.string ⟨#[109]⟩), (.int .i64 1), (.int .i64 0), (.int .i64 0), (.int .i64 0), (.int .i64 0), (.int .i64 0), (.int .i64 0), (.int .i64 0), (.string ⟨#[49]⟩), (.string ⟨#[49]⟩), (.string ⟨#[48]⟩), (.string ⟨#[49]⟩), (.int .i64 1), (.string ⟨#[103, 114, 97, 109]⟩), (.string ⟨#[103]⟩), (.int .i64 0), (.int .i64 1), (.int .i64 0), (.int .i64 0), (.int .i64 0), (.int .i64 0), (.int .i64 0), (.int .i64 0), (.string ⟨#[49]⟩), (.string ⟨#[49, 48, 48, 48]⟩), (.string ⟨#[48]⟩), (.string ⟨#[49]⟩), (.int .i64 1), (.string ⟨#[99, 97, 110, 100, 101, 108, 97]⟩), (.string ⟨#[99, 100]⟩), (.int .i64 0), (.int .i64 0), (.int .i64 0), (.int .i64 0), (.int .i64 0), (.int .i64 0), (.int .i64 1), (.int .i64 0), (.string ⟨#[49]⟩), (.string ⟨#[49]⟩), (.string ⟨#[48]⟩), (.string ⟨#[49]⟩), (.int .i64 1), (.string ⟨#[107, 101, 108, 118, 105, 110]⟩), (.string ⟨#[75]⟩), (.int .i64 0), (.int .i64 0), (.int .i64 0), (.int .i64 0), (.int .i64 1), (.int .i64 0), (.int .i64 0), (.int .i64 0), (.string ⟨#[49]⟩), (.string ⟨#[49]⟩), (.string ⟨#[48]⟩), (.string ⟨#[49]⟩), (.int .i64 1)] 39 false 8 8⟩
def lK5 : List Entry := [e0, e1, e2, e3, e4]
theorem lK5_ok : ∀ e ∈ lK5, EntryOK Tryz.prog e := by
  unfold lK5
  simp only [List.forall_mem_cons]
  exact ⟨k0, k1, k2, k3, k4, fun _ h => by cases h⟩
theorem k5 : EntryOK Tryz.prog e5 := known_run tabA0_170_ok lK5_ok (fuel := 100000) (n := 60) (by kernel_rfl) (by kernel_rfl)
def tabA0_128 : List (Nat × AFn) := [(128, F128), (171, F171), (172, F172)]
theorem tabA0_128_ok : ∀ p ∈ tabA0_128, FnOK Tryz.prog p := by
  unfold tabA0_128
  simp only [List.forall_mem_cons]
  exact ⟨ok128, ok171, ok172, fun _ h => by cases h⟩
/-- cubit/base.Find -/
def e6 : Entry := ⟨128, [(.string ⟨#[75]⟩)], .flat (.tuple #[(.agg #[(.string ⟨#[107, 101, 108, 118, 105, 110]⟩), (.string ⟨#[75]⟩), (.int .i64 0), (.int .i64 0), (.int .i64 0), (.int .i64 0), (.int .i64 1), (.int .i64 0), (.int .i64 0), (.int .i64 0), (.string ⟨#[49]⟩), (.string ⟨#[49]⟩), (.string ⟨#[48]⟩), (.string ⟨#[49]⟩), (.int .i64 1)]), (.bool true)])⟩
def lK6 : List Entry := [e5]
theorem lK6_ok : ∀ e ∈ lK6, EntryOK Tryz.prog e := by
  unfold lK6
  simp only [List.forall_mem_cons]
  exact ⟨k5, fun _ h => by cases h⟩
theorem k6 : EntryOK Tryz.prog e6 := known_run tabA0_128_ok lK6_ok (fuel := 100000) (n := 60) (by kernel_rfl) (by kernel_rfl)
/-- cubit/rat.Of -/
def e7 : Entry := ⟨124, [(.int .i64 5)], .flat (.agg #[(.string ⟨#[53]⟩), (.string ⟨#[49]⟩)])⟩
def lK7 : List Entry := []
theorem lK7_ok : ∀ e ∈ lK7, EntryOK Tryz.prog e := fun _ h => by cases h
theorem k7 : EntryOK Tryz.prog e7 := known_run tabA0_124_ok lK7_ok (fuel := 100000) (n := 60) (by kernel_rfl) (by kernel_rfl)
end Go.Proofs.YtemgddekbdifeaaGreat.Am
