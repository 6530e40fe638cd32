/- What some calls come to. -/
import Derived.Test.YtemgddekbdifeaaGreatKe7
import Derived.KernelRfl
set_option maxRecDepth 1000000
namespace Go.Proofs.YtemgddekbdifeaaGreat.Am
/-- cubit/rat.Quo -/
def e64 : Entry := ⟨14, [(.agg #[(.string ⟨#[56]⟩), (.string ⟨#[49]⟩)]), (.agg #[(.string ⟨#[49]⟩), (.string ⟨#[49]⟩)])], .flat (.tuple #[(.agg #[(.string ⟨#[56]⟩), (.string ⟨#[49]⟩)]), (.int .i64 0)])⟩
def lK64 : List Entry := []
theorem lK64_ok : ∀ e ∈ lK64, EntryOK Tryz.prog e := fun _ h => by cases h
theorem k64 : EntryOK Tryz.prog e64 := known_run tabK14_ok lK64_ok (fuel := 100000) (n := 60) (by kernel_rfl) (by kernel_rfl)
def tabK160 : List (Nat × AFn) := [(160, F160)]
theorem tabK160_ok : ∀ p ∈ tabK160, FnOK Tryz.prog p := by
  unfold tabK160
  simp only [List.forall_mem_cons]
  exact ⟨ok160, fun _ h => by cases h⟩
/-- cubit/si.Units -/
def e65 : Entry := ⟨160, [], .sl [(.string ⟨#[110, 101, 119, 116, 111, 110]⟩), (.string ⟨#[78]⟩), (.int .i64 1), (.int .i64 1), (.int .i64 (-2)), (.int .i64 0), (.int .i64 0), (.int .i64 0), (.int .i64 0), (.int .i64 0), (.string ⟨#[49]⟩), (.string ⟨#[49]⟩), (.string ⟨#[48]⟩), (.string ⟨#[49]⟩), (.int .i64 1), (.string ⟨#[112, 97, 115, 99, 97, 108]⟩), (.string ⟨#[80, 97]⟩), (.int .i64 (-1)), (.int .i64 1), (.int .i64 (-2)), (.int .i64 0), (.int .i64 0), (.int .i64 0), (.int .i64 0), (.int .i64 0), (.string ⟨#[49]⟩), (.string ⟨#[49]⟩), (.string ⟨#[48]⟩), (.string ⟨#[49]⟩), (.int .i64 1), (.string ⟨#[106, 111, 117, 108, 101]⟩), (.string ⟨#[74]⟩), (.int .i64 2), (.int .i64 1), (.int .i64 (-2)), (.int .i64 0), (.int .i64 0), (.int .i64 0), (.int .i64 0), (.int .i64 0), (.string ⟨#[49]⟩), (.string ⟨#[49]⟩), (.string ⟨#[48]⟩), (.string ⟨#[49]⟩), (.int .i64 1), (.string ⟨#[119, 97, 116, 116]⟩), (.string ⟨#[87]⟩), (.int .i64 2), (.int .i64 1), (.int .i64 (-3)), (.int .i64 0), (.int .i64 0), (.int .i64 0), (.int .i64 0), (.int .i64 0), (.string ⟨#[49]⟩), (.string ⟨#[49]⟩), (.string ⟨#[48]⟩), (.string ⟨#[49]⟩), (.int .i64 1), (.string ⟨#[99, 111, 117, 108, 111, 109, 98]⟩), (.string ⟨#[67]⟩), (.int .i64 0), (.int .i64 0), (.int .i64 1), (.int .i64 1), (.int .i64 0), (.int .i64 0), (.int .i64 0), (.int .i64 0), (.string ⟨#[49]⟩), (.string ⟨#[49]⟩), (.string ⟨#[48]⟩), (.string ⟨#[49]⟩), (.int .i64 1), (.string ⟨#[118, 111, 108, 116]⟩), (.string ⟨#[86]⟩), (.int .i64 2), (.int .i64 1), (.int .i64 (-3)), (.int .i64 (-1)), (.int .i64 0), (.int .i64 0), (.int .i64 0), (.int .i64 0), (.string ⟨#[49]⟩), (.string ⟨#[49]⟩), (.string ⟨#[48]⟩), (.string ⟨#[49]⟩), (.int .i64 1), (.string ⟨#[102, 97, 114, 97, 100]⟩), (.string ⟨#[70]⟩), (.int .i64 (-2)), (.int .i64 (-1)), (.int .i64 4), (.int .i64 2), (.int .i64 0), (.int .i64 0), (.int .i64 0), (.int .i64 0), (.string ⟨#[49]⟩), (.string ⟨#[49]⟩), (.string ⟨#[48]⟩), (.string ⟨#[49]⟩), (.int .i64 1), (.string ⟨#[111, 104, 109]⟩), (.string ⟨#[206, 169]⟩), (.int .i64 2), (.int .i64 1), (.int .i64 (-3)), (.int .i64 (-2)), (.int .i64 0), (.int .i64 0), (.int .i64 0), (.int .i64 0), (.string ⟨#[49]⟩), (.string ⟨#[49]⟩), (.string ⟨#[48]⟩), (.string ⟨#[49]⟩), (.int .i64 1), (.string ⟨#[115, 105, 101, 109, 101, 110, 115]⟩), (.string ⟨#[83]⟩), (.int .i64 (-2)), (.int .i64 (-1)), (.int .i64 3), (.int .i64 2), (.int .i64 0), (.int .i64 0), (.int .i64 0), (.int .i64 0), (.string ⟨#[49]⟩), (.string ⟨#[49]⟩), (.string ⟨#[48]⟩), (.string ⟨#[49]⟩), (.int .i64 1), (.string ⟨#[119, 101, 98, 101, 114]⟩), (.string ⟨#[87, 98]⟩), (.int .i64 2), (.int .i64 1), (.int .i64 (-2)), (.int .i64 (-1)), (.int .i64 0), (.int .i64 0), (.int .i64 0), (.int .i64 0), (.string ⟨#[49]⟩), (.string ⟨#[49]⟩), (.string ⟨#[48]⟩), (.string ⟨#[49]⟩), (.int .i64 1), (.string ⟨#[116, 101, 115, 108, 97]⟩), (.string ⟨#[84]⟩), (.int .i64 0), (.int .i64 1), (.int .i64 (-2)), (.int .i64 (-1)), (.int .i64 0), (.int .i64 0), (.int .i64 0), (.int .i64 0), (.string ⟨#[49]⟩), (.string ⟨#[49]⟩), (.string ⟨#[48]⟩), (.string ⟨#[49]⟩), (.int .i64 1), (.string ⟨#[104, 101, 110, 114, 121]⟩), (.string ⟨#[72]⟩), (.int .i64 2), (.int .i64 1), (.int .i64 (-2)), (.int .i64 (-2)), (.int .i64 0), (.int .i64 0), (.int .i64 0), (.int .i64 0), (.string ⟨#[49]⟩), (.string ⟨#[49]⟩), (.string ⟨#[48]⟩), (.string ⟨#[49]⟩), (.int .i64 1), (.string ⟨#[104, 101, 114, 116, 122]⟩), (.string ⟨#[72, 122]⟩), (.int .i64 0), (.int .i64 0), (.int .i64 (-1)), (.int .i64 0), (.int .i64 0), (.int .i64 0), (.int .i64 0), (.int .i64 0), (.string ⟨#[49]⟩), (.string ⟨#[49]⟩), (.string ⟨#[48]⟩), (.string ⟨#[49]⟩), (.int .i64 1), (.string ⟨#[98, 101, 99, 113, 117, 101, 114, 101, 108]⟩), (.string ⟨#[66, 113]⟩), (.int .i64 0), (.int .i64 0), (.int .i64 (-1)), (.int .i64 0), (.int .i64 0), (.int .i64 0), (.int .i64 0), (.int .i64 0), (.string ⟨#[49]⟩), (.string ⟨#[49]⟩), (.string ⟨#[48]⟩), (.string ⟨#[49]⟩), (.int .i64 1), (.string ⟨#[103, 114, 97, 121]⟩), (.string ⟨#[71, 121]⟩), (.int .i64 2), (.int .i64 0), (.int .i64 (-2)), (.int .i64 0), (.int .i64 0), (.int .i64 0), (.int .i64 0), (.int .i64 0), (.string ⟨#[49]⟩), (.string ⟨#[49]⟩), (.string ⟨#[48]⟩), (.string ⟨#[49]⟩), (.int .i64 1), (.string ⟨#[115, 105, 101, 118, 101, 114, 116]⟩), (.string ⟨#[83, 118]⟩), (.int .i64 2), (.int .i64 0), (.int .i64 (-2)), (.int .i64 0), (.int .i64 0), (.int .i64 0), (.int .i64 0), (.int .i64 0), (.string ⟨#[49]⟩), (.string ⟨#[49]⟩), (.string ⟨#[48]⟩), (.string ⟨#[49]⟩), (.int .i64 1), (.string ⟨#[107, 97, 116, 97, 108]⟩), (.string ⟨#[107, 97, 116]⟩), (.int .i64 0), (.int .i64 0), (.int .i64 (-1)), (.int .i64 0), (.int .i64 0), (.int .i64 1), (.int .i64 0), (.int .i64 0), (.string ⟨#[49]⟩), (.string ⟨#[49]⟩), (.string ⟨#[48]⟩), (.string ⟨#[49]⟩), (.int .i64 1), (.string ⟨#[114, 97, 100, 105, 97, 110]⟩), (.string ⟨#[114, 97, 100]⟩), (.int .i64 0), (.int .i64 0), (.int .i64 0), (.int .i64 0), (.int .i64 0), (.int .i64 0), (.int .i64 0), (.int .i64 0), (.string ⟨#[49]⟩), (.string ⟨#[49]⟩), (.string ⟨#[48]⟩), (.string ⟨#[49]⟩), (.int .i64 1), (.string ⟨#[115, 116, 101, 114, 97, 100, 105, 97, 110]⟩), (.string ⟨#[115, 114]⟩), (.int .i64 0), (.int .i64 0), (.int .i64 0), (.int .i64 0), (.int .i64 0), (.int .i64 0), (.int .i64 0), (.int .i64 0), (.string ⟨#[49]⟩), (.string ⟨#[49]⟩), (.string ⟨#[48]⟩), (.string ⟨#[49]⟩), (.int .i64 1), (.string ⟨#[108, 117, 109, 101, 110]⟩), (.string ⟨#[108, 109]⟩), (.int .i64 0), (.int .i64 0), (.int .i64 0), (.int .i64 0), (.int .i64 0), (.int .i64 0), (.int .i64 1), (.int .i64 0), (.string ⟨#[49]⟩), (.string ⟨#[49]⟩), (.string ⟨#[48]⟩), (.string ⟨#[49]⟩), (.int .i64 1), (.string ⟨#[108, 117, 120]⟩), (.string ⟨#[108, 120]⟩), (.int .i64 (-2)), (.int .i64 0), (.int .i64 0), (.int .i64 0), (.int .i64 0), (.int .i64 0), (.int .i64 1), (.int .i64 0), (.string ⟨#[49]⟩), (.string ⟨#[49]⟩), (.string ⟨#[48]⟩), (.string ⟨#[49]⟩), (.int .i64 1), (.string ⟨#[109, 105, 110, 117, 116, 101]⟩), (.string ⟨#[109, 105, 110]⟩), (.int .i64 0), (.int .i64 0), (.int .i64 1), (.int .i64 0), (.int .i64 0), (.int .i64 0), (.int .i64 0), (.int .i64 0), (.string ⟨#[54, 48]⟩), (.string ⟨#[49]⟩), (.string ⟨#[48]⟩), (.string ⟨#[49]⟩), (.int .i64 0), (.string ⟨#[104, 111, 117, 114]⟩), (.string ⟨#[104]⟩), (.int .i64 0), (.int .i64 0), (.int .i64 1), (.int .i64 0), (.int .i64 0), (.int .i64 0), (.int .i64 0), (.int .i64 0), (.string ⟨#[51, 54, 48, 48]⟩), (.string ⟨#[49]⟩), (.string ⟨#[48]⟩), (.string ⟨#[49]⟩), (.int .i64 0), (.string ⟨#[100, 97, 121]⟩), (.string ⟨#[100]⟩), (.int .i64 0), (.int .i64 0), (.int .i64 1), (.int .i64 0), (.int .i64 0), (.int .i64 0), (.int .i64 0), (.int .i64 0), (.string ⟨#[56, 54, 52, 48, 48]⟩), (.string ⟨#[49]⟩), (.string ⟨#[48]⟩), (.string ⟨#[49]⟩), (.int .i64 0), (.string ⟨#[108, 105, 116, 114, 101]⟩), (.string ⟨#[76]⟩), (.int .i64 3), (.int .i64 0), (.int .i64 0), (.int .i64 0), (.int .i64 0), (.int .i64 0), (.int .i64 0), (.int .i64 0), (.string ⟨#[49]⟩), (.string ⟨#[49, 48, 48, 48]⟩), (.string ⟨#[48]⟩), (.string ⟨#[49]⟩), (.int .i64 1), (.string ⟨#[116, 111, 110, 110, 101]⟩), (.string ⟨#[116]⟩), (.int .i64 0), (.int .i64 1), (.int .i64 0), (.int .i64 0), (.int .i64 0), (.int .i64 0), (.int .i64 0), (.int .i64 0), (.string ⟨#[49, 48, 48, 48]⟩), (.string ⟨#[49]⟩), (.string ⟨#[48]⟩), (.string ⟨#[49]⟩), (.int .i64 1), (.string ⟨#[98, 97, 114]⟩), (.string ⟨#[98, 97, 114]⟩), (.int .i64 (-1)), (.int .i64 1), (.int .i64 (-2)), (.int .i64 0), (.int .i64 0), (.int .i64 0), (.int .i64 0), (.int .i64 0), (.string ⟨#[49, 48, 48, 48, 48, 48]⟩), (.string ⟨#[49]⟩), (.string ⟨#[48]⟩), (.string ⟨#[49]⟩), (.int .i64 1), (.string ⟨#[104, 101, 99, 116, 97, 114, 101]⟩), (.string ⟨#[104, 97]⟩), (.int .i64 2), (.int .i64 0), (.int .i64 0), (.int .i64 0), (.int .i64 0), (.int .i64 0), (.int .i64 0), (.int .i64 0), (.string ⟨#[49, 48, 48, 48, 48]⟩), (.string ⟨#[49]⟩), (.string ⟨#[48]⟩), (.string ⟨#[49]⟩), (.int .i64 0), (.string ⟨#[98, 121, 116, 101]⟩), (.string ⟨#[66]⟩), (.int .i64 0), (.int .i64 0), (.int .i64 0), (.int .i64 0), (.int .i64 0), (.int .i64 0), (.int .i64 0), (.int .i64 1), (.string ⟨#[56]⟩), (.string ⟨#[49]⟩), (.string ⟨#[48]⟩), (.string ⟨#[49]⟩), (.int .i64 3)] 39 true 29 29⟩
def lK65 : List Entry := [e0, e1, e3, e14, e15, e16, e17, e18, e19, e20, e21, e22, e23, e24, e25, e27, e28, e29, e32, e33, e34, e35, e37, e38, e39, e49, e50, e51, e52, e53, e54, e55, e56, e57, e58, e59, e60, e61, e62, e63, e64]
theorem lK65_ok : ∀ e ∈ lK65, EntryOK Tryz.prog e := by
  unfold lK65
  simp only [List.forall_mem_cons]
  exact ⟨k0, k1, k3, k14, k15, k16, k17, k18, k19, k20, k21, k22, k23, k24, k25, k27, k28, k29, k32, k33, k34, k35, k37, k38, k39, k49, k50, k51, k52, k53, k54, k55, k56, k57, k58, k59, k60, k61, k62, k63, k64, fun _ h => by cases h⟩
theorem k65 : EntryOK Tryz.prog e65 := known_run tabK160_ok lK65_ok (fuel := 100000) (n := 60) (by kernel_rfl) (by kernel_rfl)
/-- cubit/trad.below -/
def e66 : Entry := ⟨62, [(.string ⟨#[112, 97, 115, 99, 97, 108]⟩)], .flat (.agg #[(.int .i64 (-1)), (.int .i64 1), (.int .i64 (-2)), (.int .i64 0), (.int .i64 0), (.int .i64 0), (.int .i64 0), (.int .i64 0)])⟩
def lK66 : List Entry := [e5, e65]
theorem lK66_ok : ∀ e ∈ lK66, EntryOK Tryz.prog e := by
  unfold lK66
  simp only [List.forall_mem_cons]
  exact ⟨k5, k65, fun _ h => by cases h⟩
theorem k66 : EntryOK Tryz.prog e66 := known_run tabK62_ok lK66_ok (fuel := 100000) (n := 60) (by kernel_rfl) (by kernel_rfl)
def tabK76 : List (Nat × AFn) := [(76, F76)]
theorem tabK76_ok : ∀ p ∈ tabK76, FnOK Tryz.prog p := by
  unfold tabK76
  simp only [List.forall_mem_cons]
  exact ⟨ok76, fun _ h => by cases h⟩
/-- cubit/trad.atmosphereMade -/
def e67 : Entry := ⟨76, [], .flat (.agg #[(.int .i64 101325), (.int .i64 1)])⟩
def lK67 : List Entry := []
theorem lK67_ok : ∀ e ∈ lK67, EntryOK Tryz.prog e := fun _ h => by cases h
theorem k67 : EntryOK Tryz.prog e67 := known_run tabK76_ok lK67_ok (fuel := 100000) (n := 60) (by kernel_rfl) (by kernel_rfl)
/-- cubit/rat.Of -/
def e68 : Entry := ⟨124, [(.int .i64 101325)], .flat (.agg #[(.string ⟨#[49, 48, 49, 51, 50, 53]⟩), (.string ⟨#[49]⟩)])⟩
def lK68 : List Entry := []
theorem lK68_ok : ∀ e ∈ lK68, EntryOK Tryz.prog e := fun _ h => by cases h
theorem k68 : EntryOK Tryz.prog e68 := known_run tabK124_ok lK68_ok (fuel := 100000) (n := 60) (by kernel_rfl) (by kernel_rfl)
/-- cubit/rat.Quo -/
def e69 : Entry := ⟨14, [(.agg #[(.string ⟨#[49, 48, 49, 51, 50, 53]⟩), (.string ⟨#[49]⟩)]), (.agg #[(.string ⟨#[49]⟩), (.string ⟨#[49]⟩)])], .flat (.tuple #[(.agg #[(.string ⟨#[49, 48, 49, 51, 50, 53]⟩), (.string ⟨#[49]⟩)]), (.int .i64 0)])⟩
def lK69 : List Entry := []
theorem lK69_ok : ∀ e ∈ lK69, EntryOK Tryz.prog e := fun _ h => by cases h
theorem k69 : EntryOK Tryz.prog e69 := known_run tabK14_ok lK69_ok (fuel := 100000) (n := 60) (by kernel_rfl) (by kernel_rfl)
/-- cubit/trad.below -/
def e70 : Entry := ⟨62, [(.string ⟨#[106, 111, 117, 108, 101]⟩)], .flat (.agg #[(.int .i64 2), (.int .i64 1), (.int .i64 (-2)), (.int .i64 0), (.int .i64 0), (.int .i64 0), (.int .i64 0), (.int .i64 0)])⟩
def lK70 : List Entry := [e5, e65]
theorem lK70_ok : ∀ e ∈ lK70, EntryOK Tryz.prog e := by
  unfold lK70
  simp only [List.forall_mem_cons]
  exact ⟨k5, k65, fun _ h => by cases h⟩
theorem k70 : EntryOK Tryz.prog e70 := known_run tabK62_ok lK70_ok (fuel := 100000) (n := 60) (by kernel_rfl) (by kernel_rfl)
def tabK77 : List (Nat × AFn) := [(77, F77)]
theorem tabK77_ok : ∀ p ∈ tabK77, FnOK Tryz.prog p := by
  unfold tabK77
  simp only [List.forall_mem_cons]
  exact ⟨ok77, fun _ h => by cases h⟩
/-- cubit/trad.calorieMade -/
def e71 : Entry := ⟨77, [], .flat (.agg #[(.int .i64 523), (.int .i64 125)])⟩
def lK71 : List Entry := []
theorem lK71_ok : ∀ e ∈ lK71, EntryOK Tryz.prog e := fun _ h => by cases h
theorem k71 : EntryOK Tryz.prog e71 := known_run tabK77_ok lK71_ok (fuel := 100000) (n := 60) (by kernel_rfl) (by kernel_rfl)
end Go.Proofs.YtemgddekbdifeaaGreat.Am
