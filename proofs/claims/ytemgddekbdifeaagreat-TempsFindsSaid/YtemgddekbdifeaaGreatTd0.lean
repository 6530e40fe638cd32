/- What some calls come to. -/
import Derived.Test.YtemgddekbdifeaaGreatTb0
import Derived.Test.YtemgddekbdifeaaGreatTb1
import Derived.Test.YtemgddekbdifeaaGreatTb2
import Derived.Test.YtemgddekbdifeaaGreatTb3
import Derived.KernelRfl
set_option maxRecDepth 1000000
namespace Go.Proofs.YtemgddekbdifeaaGreat.Am
def tabD0_38 : List (Nat × AFn) := [(30, F30), (33, F33), (34, F34), (38, F38), (97, F97), (108, F108)]
theorem tabD0_38_ok : ∀ p ∈ tabD0_38, FnOK Tryz.prog p := by
  unfold tabD0_38
  simp only [List.forall_mem_cons]
  exact ⟨ok30, ok33, ok34, ok38, ok97, ok108, fun _ h => by cases h⟩
/-- cubit/cubitref12.Fixed -/
def e33 : Entry := ⟨38, [(.string ⟨#[97, 98, 115, 111, 108, 117, 116, 101]⟩), (.string ⟨#[114, 97, 110, 107, 105, 110, 101]⟩)], .flat (.tuple #[(.agg #[(.string ⟨#[48]⟩), (.string ⟨#[49]⟩)]), (.int .i64 0)])⟩
def lK33 : List Entry := [e24, e25, e26, e27, e28, e29, e32, e38, e43, e48, e53, e58, e63, e68, e77, e78, e83, e88, e93, e101, e102, e107, e112, e117]
theorem lK33_ok : ∀ e ∈ lK33, EntryOK Tryz.prog e := by
  unfold lK33
  simp only [List.forall_mem_cons]
  exact ⟨k24, k25, k26, k27, k28, k29, k32, k38, k43, k48, k53, k58, k63, k68, k77, k78, k83, k88, k93, k101, k102, k107, k112, k117, fun _ h => by cases h⟩
theorem k33 : EntryOK Tryz.prog e33 := known_run tabD0_38_ok lK33_ok (fuel := 100000) (n := 60) (by kernel_rfl) (by kernel_rfl)
/-- cubit/cubitref12.Fixed -/
def e36 : Entry := ⟨38, [(.string ⟨#[97, 98, 115, 111, 108, 117, 116, 101]⟩), (.string ⟨#[194, 176, 82]⟩)], .flat (.tuple #[(.agg #[(.string ⟨#[48]⟩), (.string ⟨#[49]⟩)]), (.int .i64 0)])⟩
def lK36 : List Entry := [e24, e25, e26, e27, e28, e29, e32, e38, e43, e48, e53, e58, e63, e68, e77, e78, e83, e88, e93, e101, e102, e107, e112, e117]
theorem lK36_ok : ∀ e ∈ lK36, EntryOK Tryz.prog e := by
  unfold lK36
  simp only [List.forall_mem_cons]
  exact ⟨k24, k25, k26, k27, k28, k29, k32, k38, k43, k48, k53, k58, k63, k68, k77, k78, k83, k88, k93, k101, k102, k107, k112, k117, fun _ h => by cases h⟩
theorem k36 : EntryOK Tryz.prog e36 := known_run tabD0_38_ok lK36_ok (fuel := 100000) (n := 60) (by kernel_rfl) (by kernel_rfl)
/-- cubit/cubitref12.Fixed -/
def e39 : Entry := ⟨38, [(.string ⟨#[97, 98, 115, 111, 108, 117, 116, 101]⟩), (.string ⟨#[99, 101, 108, 115, 105, 117, 115]⟩)], .flat (.tuple #[(.agg #[(.string ⟨#[45, 53, 52, 54, 51]⟩), (.string ⟨#[50, 48]⟩)]), (.int .i64 0)])⟩
def lK39 : List Entry := [e24, e25, e26, e27, e28, e29, e32, e38, e43, e48, e53, e58, e63, e68, e77, e78, e83, e88, e93, e101, e102, e107, e112, e117]
theorem lK39_ok : ∀ e ∈ lK39, EntryOK Tryz.prog e := by
  unfold lK39
  simp only [List.forall_mem_cons]
  exact ⟨k24, k25, k26, k27, k28, k29, k32, k38, k43, k48, k53, k58, k63, k68, k77, k78, k83, k88, k93, k101, k102, k107, k112, k117, fun _ h => by cases h⟩
theorem k39 : EntryOK Tryz.prog e39 := known_run tabD0_38_ok lK39_ok (fuel := 100000) (n := 60) (by kernel_rfl) (by kernel_rfl)
/-- cubit/cubitref12.Fixed -/
def e41 : Entry := ⟨38, [(.string ⟨#[97, 98, 115, 111, 108, 117, 116, 101]⟩), (.string ⟨#[194, 176, 67]⟩)], .flat (.tuple #[(.agg #[(.string ⟨#[45, 53, 52, 54, 51]⟩), (.string ⟨#[50, 48]⟩)]), (.int .i64 0)])⟩
def lK41 : List Entry := [e24, e25, e26, e27, e28, e29, e32, e38, e43, e48, e53, e58, e63, e68, e77, e78, e83, e88, e93, e101, e102, e107, e112, e117]
theorem lK41_ok : ∀ e ∈ lK41, EntryOK Tryz.prog e := by
  unfold lK41
  simp only [List.forall_mem_cons]
  exact ⟨k24, k25, k26, k27, k28, k29, k32, k38, k43, k48, k53, k58, k63, k68, k77, k78, k83, k88, k93, k101, k102, k107, k112, k117, fun _ h => by cases h⟩
theorem k41 : EntryOK Tryz.prog e41 := known_run tabD0_38_ok lK41_ok (fuel := 100000) (n := 60) (by kernel_rfl) (by kernel_rfl)
/-- cubit/cubitref12.Fixed -/
def e44 : Entry := ⟨38, [(.string ⟨#[97, 98, 115, 111, 108, 117, 116, 101]⟩), (.string ⟨#[102, 97, 104, 114, 101, 110, 104, 101, 105, 116]⟩)], .flat (.tuple #[(.agg #[(.string ⟨#[45, 52, 53, 57, 54, 55]⟩), (.string ⟨#[49, 48, 48]⟩)]), (.int .i64 0)])⟩
def lK44 : List Entry := [e24, e25, e26, e27, e28, e29, e32, e38, e43, e48, e53, e58, e63, e68, e77, e78, e83, e88, e93, e101, e102, e107, e112, e117]
theorem lK44_ok : ∀ e ∈ lK44, EntryOK Tryz.prog e := by
  unfold lK44
  simp only [List.forall_mem_cons]
  exact ⟨k24, k25, k26, k27, k28, k29, k32, k38, k43, k48, k53, k58, k63, k68, k77, k78, k83, k88, k93, k101, k102, k107, k112, k117, fun _ h => by cases h⟩
theorem k44 : EntryOK Tryz.prog e44 := known_run tabD0_38_ok lK44_ok (fuel := 100000) (n := 60) (by kernel_rfl) (by kernel_rfl)
/-- cubit/cubitref12.Fixed -/
def e46 : Entry := ⟨38, [(.string ⟨#[97, 98, 115, 111, 108, 117, 116, 101]⟩), (.string ⟨#[194, 176, 70]⟩)], .flat (.tuple #[(.agg #[(.string ⟨#[45, 52, 53, 57, 54, 55]⟩), (.string ⟨#[49, 48, 48]⟩)]), (.int .i64 0)])⟩
def lK46 : List Entry := [e24, e25, e26, e27, e28, e29, e32, e38, e43, e48, e53, e58, e63, e68, e77, e78, e83, e88, e93, e101, e102, e107, e112, e117]
theorem lK46_ok : ∀ e ∈ lK46, EntryOK Tryz.prog e := by
  unfold lK46
  simp only [List.forall_mem_cons]
  exact ⟨k24, k25, k26, k27, k28, k29, k32, k38, k43, k48, k53, k58, k63, k68, k77, k78, k83, k88, k93, k101, k102, k107, k112, k117, fun _ h => by cases h⟩
theorem k46 : EntryOK Tryz.prog e46 := known_run tabD0_38_ok lK46_ok (fuel := 100000) (n := 60) (by kernel_rfl) (by kernel_rfl)
/-- cubit/cubitref12.Fixed -/
def e49 : Entry := ⟨38, [(.string ⟨#[97, 98, 115, 111, 108, 117, 116, 101]⟩), (.string ⟨#[107, 101, 108, 118, 105, 110]⟩)], .flat (.tuple #[(.agg #[(.string ⟨#[48]⟩), (.string ⟨#[49]⟩)]), (.int .i64 0)])⟩
def lK49 : List Entry := [e24, e25, e26, e27, e28, e29, e32, e38, e43, e48, e53, e58, e63, e68, e77, e78, e83, e88, e93, e101, e102, e107, e112, e117]
theorem lK49_ok : ∀ e ∈ lK49, EntryOK Tryz.prog e := by
  unfold lK49
  simp only [List.forall_mem_cons]
  exact ⟨k24, k25, k26, k27, k28, k29, k32, k38, k43, k48, k53, k58, k63, k68, k77, k78, k83, k88, k93, k101, k102, k107, k112, k117, fun _ h => by cases h⟩
theorem k49 : EntryOK Tryz.prog e49 := known_run tabD0_38_ok lK49_ok (fuel := 100000) (n := 60) (by kernel_rfl) (by kernel_rfl)
/-- cubit/cubitref12.Fixed -/
def e51 : Entry := ⟨38, [(.string ⟨#[97, 98, 115, 111, 108, 117, 116, 101]⟩), (.string ⟨#[75]⟩)], .flat (.tuple #[(.agg #[(.string ⟨#[48]⟩), (.string ⟨#[49]⟩)]), (.int .i64 0)])⟩
def lK51 : List Entry := [e24, e25, e26, e27, e28, e29, e32, e38, e43, e48, e53, e58, e63, e68, e77, e78, e83, e88, e93, e101, e102, e107, e112, e117]
theorem lK51_ok : ∀ e ∈ lK51, EntryOK Tryz.prog e := by
  unfold lK51
  simp only [List.forall_mem_cons]
  exact ⟨k24, k25, k26, k27, k28, k29, k32, k38, k43, k48, k53, k58, k63, k68, k77, k78, k83, k88, k93, k101, k102, k107, k112, k117, fun _ h => by cases h⟩
theorem k51 : EntryOK Tryz.prog e51 := known_run tabD0_38_ok lK51_ok (fuel := 100000) (n := 60) (by kernel_rfl) (by kernel_rfl)
end Go.Proofs.YtemgddekbdifeaaGreat.Am
