/- What some calls come to. -/
import Derived.Test.YtemgddekbdifeaaGreatTb0
import Derived.Test.YtemgddekbdifeaaGreatTb1
import Derived.Test.YtemgddekbdifeaaGreatTb2
import Derived.Test.YtemgddekbdifeaaGreatTb3
import Derived.KernelRfl
set_option maxRecDepth 1000000
namespace Go.Proofs.YtemgddekbdifeaaGreat.Am
def tabD1_38 : List (Nat × AFn) := [(30, F30), (33, F33), (34, F34), (38, F38), (97, F97), (108, F108)]
theorem tabD1_38_ok : ∀ p ∈ tabD1_38, FnOK Tryz.prog p := by
  unfold tabD1_38
  simp only [List.forall_mem_cons]
  exact ⟨ok30, ok33, ok34, ok38, ok97, ok108, fun _ h => by cases h⟩
/-- cubit/cubitref12.Fixed -/
def e54 : Entry := ⟨38, [(.string ⟨#[105, 99, 101]⟩), (.string ⟨#[114, 97, 110, 107, 105, 110, 101]⟩)], .flat (.tuple #[(.agg #[(.string ⟨#[52, 57, 49, 54, 55]⟩), (.string ⟨#[49, 48, 48]⟩)]), (.int .i64 0)])⟩
def lK54 : List Entry := [e24, e25, e26, e27, e28, e29, e32, e38, e43, e48, e53, e58, e63, e68, e77, e78, e83, e88, e93, e101, e102, e107, e112, e117]
theorem lK54_ok : ∀ e ∈ lK54, EntryOK Tryz.prog e := by
  unfold lK54
  simp only [List.forall_mem_cons]
  exact ⟨k24, k25, k26, k27, k28, k29, k32, k38, k43, k48, k53, k58, k63, k68, k77, k78, k83, k88, k93, k101, k102, k107, k112, k117, fun _ h => by cases h⟩
theorem k54 : EntryOK Tryz.prog e54 := known_run tabD1_38_ok lK54_ok (fuel := 100000) (n := 60) (by kernel_rfl) (by kernel_rfl)
/-- cubit/cubitref12.Fixed -/
def e56 : Entry := ⟨38, [(.string ⟨#[105, 99, 101]⟩), (.string ⟨#[194, 176, 82]⟩)], .flat (.tuple #[(.agg #[(.string ⟨#[52, 57, 49, 54, 55]⟩), (.string ⟨#[49, 48, 48]⟩)]), (.int .i64 0)])⟩
def lK56 : List Entry := [e24, e25, e26, e27, e28, e29, e32, e38, e43, e48, e53, e58, e63, e68, e77, e78, e83, e88, e93, e101, e102, e107, e112, e117]
theorem lK56_ok : ∀ e ∈ lK56, EntryOK Tryz.prog e := by
  unfold lK56
  simp only [List.forall_mem_cons]
  exact ⟨k24, k25, k26, k27, k28, k29, k32, k38, k43, k48, k53, k58, k63, k68, k77, k78, k83, k88, k93, k101, k102, k107, k112, k117, fun _ h => by cases h⟩
theorem k56 : EntryOK Tryz.prog e56 := known_run tabD1_38_ok lK56_ok (fuel := 100000) (n := 60) (by kernel_rfl) (by kernel_rfl)
/-- cubit/cubitref12.Fixed -/
def e59 : Entry := ⟨38, [(.string ⟨#[105, 99, 101]⟩), (.string ⟨#[99, 101, 108, 115, 105, 117, 115]⟩)], .flat (.tuple #[(.agg #[(.string ⟨#[48]⟩), (.string ⟨#[49]⟩)]), (.int .i64 0)])⟩
def lK59 : List Entry := [e24, e25, e26, e27, e28, e29, e32, e38, e43, e48, e53, e58, e63, e68, e77, e78, e83, e88, e93, e101, e102, e107, e112, e117]
theorem lK59_ok : ∀ e ∈ lK59, EntryOK Tryz.prog e := by
  unfold lK59
  simp only [List.forall_mem_cons]
  exact ⟨k24, k25, k26, k27, k28, k29, k32, k38, k43, k48, k53, k58, k63, k68, k77, k78, k83, k88, k93, k101, k102, k107, k112, k117, fun _ h => by cases h⟩
theorem k59 : EntryOK Tryz.prog e59 := known_run tabD1_38_ok lK59_ok (fuel := 100000) (n := 60) (by kernel_rfl) (by kernel_rfl)
/-- cubit/cubitref12.Fixed -/
def e61 : Entry := ⟨38, [(.string ⟨#[105, 99, 101]⟩), (.string ⟨#[194, 176, 67]⟩)], .flat (.tuple #[(.agg #[(.string ⟨#[48]⟩), (.string ⟨#[49]⟩)]), (.int .i64 0)])⟩
def lK61 : List Entry := [e24, e25, e26, e27, e28, e29, e32, e38, e43, e48, e53, e58, e63, e68, e77, e78, e83, e88, e93, e101, e102, e107, e112, e117]
theorem lK61_ok : ∀ e ∈ lK61, EntryOK Tryz.prog e := by
  unfold lK61
  simp only [List.forall_mem_cons]
  exact ⟨k24, k25, k26, k27, k28, k29, k32, k38, k43, k48, k53, k58, k63, k68, k77, k78, k83, k88, k93, k101, k102, k107, k112, k117, fun _ h => by cases h⟩
theorem k61 : EntryOK Tryz.prog e61 := known_run tabD1_38_ok lK61_ok (fuel := 100000) (n := 60) (by kernel_rfl) (by kernel_rfl)
/-- cubit/cubitref12.Fixed -/
def e64 : Entry := ⟨38, [(.string ⟨#[105, 99, 101]⟩), (.string ⟨#[102, 97, 104, 114, 101, 110, 104, 101, 105, 116]⟩)], .flat (.tuple #[(.agg #[(.string ⟨#[51, 50]⟩), (.string ⟨#[49]⟩)]), (.int .i64 0)])⟩
def lK64 : List Entry := [e24, e25, e26, e27, e28, e29, e32, e38, e43, e48, e53, e58, e63, e68, e77, e78, e83, e88, e93, e101, e102, e107, e112, e117]
theorem lK64_ok : ∀ e ∈ lK64, EntryOK Tryz.prog e := by
  unfold lK64
  simp only [List.forall_mem_cons]
  exact ⟨k24, k25, k26, k27, k28, k29, k32, k38, k43, k48, k53, k58, k63, k68, k77, k78, k83, k88, k93, k101, k102, k107, k112, k117, fun _ h => by cases h⟩
theorem k64 : EntryOK Tryz.prog e64 := known_run tabD1_38_ok lK64_ok (fuel := 100000) (n := 60) (by kernel_rfl) (by kernel_rfl)
/-- cubit/cubitref12.Fixed -/
def e66 : Entry := ⟨38, [(.string ⟨#[105, 99, 101]⟩), (.string ⟨#[194, 176, 70]⟩)], .flat (.tuple #[(.agg #[(.string ⟨#[51, 50]⟩), (.string ⟨#[49]⟩)]), (.int .i64 0)])⟩
def lK66 : List Entry := [e24, e25, e26, e27, e28, e29, e32, e38, e43, e48, e53, e58, e63, e68, e77, e78, e83, e88, e93, e101, e102, e107, e112, e117]
theorem lK66_ok : ∀ e ∈ lK66, EntryOK Tryz.prog e := by
  unfold lK66
  simp only [List.forall_mem_cons]
  exact ⟨k24, k25, k26, k27, k28, k29, k32, k38, k43, k48, k53, k58, k63, k68, k77, k78, k83, k88, k93, k101, k102, k107, k112, k117, fun _ h => by cases h⟩
theorem k66 : EntryOK Tryz.prog e66 := known_run tabD1_38_ok lK66_ok (fuel := 100000) (n := 60) (by kernel_rfl) (by kernel_rfl)
/-- cubit/cubitref12.Fixed -/
def e69 : Entry := ⟨38, [(.string ⟨#[105, 99, 101]⟩), (.string ⟨#[107, 101, 108, 118, 105, 110]⟩)], .flat (.tuple #[(.agg #[(.string ⟨#[53, 52, 54, 51]⟩), (.string ⟨#[50, 48]⟩)]), (.int .i64 0)])⟩
def lK69 : List Entry := [e24, e25, e26, e27, e28, e29, e32, e38, e43, e48, e53, e58, e63, e68, e77, e78, e83, e88, e93, e101, e102, e107, e112, e117]
theorem lK69_ok : ∀ e ∈ lK69, EntryOK Tryz.prog e := by
  unfold lK69
  simp only [List.forall_mem_cons]
  exact ⟨k24, k25, k26, k27, k28, k29, k32, k38, k43, k48, k53, k58, k63, k68, k77, k78, k83, k88, k93, k101, k102, k107, k112, k117, fun _ h => by cases h⟩
theorem k69 : EntryOK Tryz.prog e69 := known_run tabD1_38_ok lK69_ok (fuel := 100000) (n := 60) (by kernel_rfl) (by kernel_rfl)
/-- cubit/cubitref12.Fixed -/
def e71 : Entry := ⟨38, [(.string ⟨#[105, 99, 101]⟩), (.string ⟨#[75]⟩)], .flat (.tuple #[(.agg #[(.string ⟨#[53, 52, 54, 51]⟩), (.string ⟨#[50, 48]⟩)]), (.int .i64 0)])⟩
def lK71 : List Entry := [e24, e25, e26, e27, e28, e29, e32, e38, e43, e48, e53, e58, e63, e68, e77, e78, e83, e88, e93, e101, e102, e107, e112, e117]
theorem lK71_ok : ∀ e ∈ lK71, EntryOK Tryz.prog e := by
  unfold lK71
  simp only [List.forall_mem_cons]
  exact ⟨k24, k25, k26, k27, k28, k29, k32, k38, k43, k48, k53, k58, k63, k68, k77, k78, k83, k88, k93, k101, k102, k107, k112, k117, fun _ h => by cases h⟩
theorem k71 : EntryOK Tryz.prog e71 := known_run tabD1_38_ok lK71_ok (fuel := 100000) (n := 60) (by kernel_rfl) (by kernel_rfl)
end Go.Proofs.YtemgddekbdifeaaGreat.Am
