/- What some calls come to. -/
import Derived.Test.YtemgddekbdifeaaGreatTb0
import Derived.Test.YtemgddekbdifeaaGreatTb1
import Derived.Test.YtemgddekbdifeaaGreatTb2
import Derived.Test.YtemgddekbdifeaaGreatTb3
import Derived.KernelRfl
set_option maxRecDepth 1000000
namespace Go.Proofs.YtemgddekbdifeaaGreat.Am
def tabD2_38 : List (Nat × AFn) := [(30, F30), (33, F33), (34, F34), (38, F38), (97, F97), (108, F108)]
theorem tabD2_38_ok : ∀ p ∈ tabD2_38, FnOK Tryz.prog p := by
  unfold tabD2_38
  simp only [List.forall_mem_cons]
  exact ⟨ok30, ok33, ok34, ok38, ok97, ok108, fun _ h => by cases h⟩
/-- cubit/cubitref12.Fixed -/
def e79 : Entry := ⟨38, [(.string ⟨#[116, 114, 105, 112, 108, 101]⟩), (.string ⟨#[114, 97, 110, 107, 105, 110, 101]⟩)], .flat (.tuple #[(.agg #[(.string ⟨#[54, 49, 52, 54, 49]⟩), (.string ⟨#[49, 50, 53]⟩)]), (.int .i64 0)])⟩
def lK79 : List Entry := [e24, e25, e26, e27, e28, e29, e32, e38, e43, e48, e53, e58, e63, e68, e77, e78, e83, e88, e93, e101, e102, e107, e112, e117]
theorem lK79_ok : ∀ e ∈ lK79, EntryOK Tryz.prog e := by
  unfold lK79
  simp only [List.forall_mem_cons]
  exact ⟨k24, k25, k26, k27, k28, k29, k32, k38, k43, k48, k53, k58, k63, k68, k77, k78, k83, k88, k93, k101, k102, k107, k112, k117, fun _ h => by cases h⟩
theorem k79 : EntryOK Tryz.prog e79 := known_run tabD2_38_ok lK79_ok (fuel := 100000) (n := 60) (by kernel_rfl) (by kernel_rfl)
/-- cubit/cubitref12.Fixed -/
def e81 : Entry := ⟨38, [(.string ⟨#[116, 114, 105, 112, 108, 101]⟩), (.string ⟨#[194, 176, 82]⟩)], .flat (.tuple #[(.agg #[(.string ⟨#[54, 49, 52, 54, 49]⟩), (.string ⟨#[49, 50, 53]⟩)]), (.int .i64 0)])⟩
def lK81 : List Entry := [e24, e25, e26, e27, e28, e29, e32, e38, e43, e48, e53, e58, e63, e68, e77, e78, e83, e88, e93, e101, e102, e107, e112, e117]
theorem lK81_ok : ∀ e ∈ lK81, EntryOK Tryz.prog e := by
  unfold lK81
  simp only [List.forall_mem_cons]
  exact ⟨k24, k25, k26, k27, k28, k29, k32, k38, k43, k48, k53, k58, k63, k68, k77, k78, k83, k88, k93, k101, k102, k107, k112, k117, fun _ h => by cases h⟩
theorem k81 : EntryOK Tryz.prog e81 := known_run tabD2_38_ok lK81_ok (fuel := 100000) (n := 60) (by kernel_rfl) (by kernel_rfl)
/-- cubit/cubitref12.Fixed -/
def e84 : Entry := ⟨38, [(.string ⟨#[116, 114, 105, 112, 108, 101]⟩), (.string ⟨#[99, 101, 108, 115, 105, 117, 115]⟩)], .flat (.tuple #[(.agg #[(.string ⟨#[49]⟩), (.string ⟨#[49, 48, 48]⟩)]), (.int .i64 0)])⟩
def lK84 : List Entry := [e24, e25, e26, e27, e28, e29, e32, e38, e43, e48, e53, e58, e63, e68, e77, e78, e83, e88, e93, e101, e102, e107, e112, e117]
theorem lK84_ok : ∀ e ∈ lK84, EntryOK Tryz.prog e := by
  unfold lK84
  simp only [List.forall_mem_cons]
  exact ⟨k24, k25, k26, k27, k28, k29, k32, k38, k43, k48, k53, k58, k63, k68, k77, k78, k83, k88, k93, k101, k102, k107, k112, k117, fun _ h => by cases h⟩
theorem k84 : EntryOK Tryz.prog e84 := known_run tabD2_38_ok lK84_ok (fuel := 100000) (n := 60) (by kernel_rfl) (by kernel_rfl)
/-- cubit/cubitref12.Fixed -/
def e86 : Entry := ⟨38, [(.string ⟨#[116, 114, 105, 112, 108, 101]⟩), (.string ⟨#[194, 176, 67]⟩)], .flat (.tuple #[(.agg #[(.string ⟨#[49]⟩), (.string ⟨#[49, 48, 48]⟩)]), (.int .i64 0)])⟩
def lK86 : List Entry := [e24, e25, e26, e27, e28, e29, e32, e38, e43, e48, e53, e58, e63, e68, e77, e78, e83, e88, e93, e101, e102, e107, e112, e117]
theorem lK86_ok : ∀ e ∈ lK86, EntryOK Tryz.prog e := by
  unfold lK86
  simp only [List.forall_mem_cons]
  exact ⟨k24, k25, k26, k27, k28, k29, k32, k38, k43, k48, k53, k58, k63, k68, k77, k78, k83, k88, k93, k101, k102, k107, k112, k117, fun _ h => by cases h⟩
theorem k86 : EntryOK Tryz.prog e86 := known_run tabD2_38_ok lK86_ok (fuel := 100000) (n := 60) (by kernel_rfl) (by kernel_rfl)
/-- cubit/cubitref12.Fixed -/
def e89 : Entry := ⟨38, [(.string ⟨#[116, 114, 105, 112, 108, 101]⟩), (.string ⟨#[102, 97, 104, 114, 101, 110, 104, 101, 105, 116]⟩)], .flat (.tuple #[(.agg #[(.string ⟨#[49, 54, 48, 48, 57]⟩), (.string ⟨#[53, 48, 48]⟩)]), (.int .i64 0)])⟩
def lK89 : List Entry := [e24, e25, e26, e27, e28, e29, e32, e38, e43, e48, e53, e58, e63, e68, e77, e78, e83, e88, e93, e101, e102, e107, e112, e117]
theorem lK89_ok : ∀ e ∈ lK89, EntryOK Tryz.prog e := by
  unfold lK89
  simp only [List.forall_mem_cons]
  exact ⟨k24, k25, k26, k27, k28, k29, k32, k38, k43, k48, k53, k58, k63, k68, k77, k78, k83, k88, k93, k101, k102, k107, k112, k117, fun _ h => by cases h⟩
theorem k89 : EntryOK Tryz.prog e89 := known_run tabD2_38_ok lK89_ok (fuel := 100000) (n := 60) (by kernel_rfl) (by kernel_rfl)
/-- cubit/cubitref12.Fixed -/
def e91 : Entry := ⟨38, [(.string ⟨#[116, 114, 105, 112, 108, 101]⟩), (.string ⟨#[194, 176, 70]⟩)], .flat (.tuple #[(.agg #[(.string ⟨#[49, 54, 48, 48, 57]⟩), (.string ⟨#[53, 48, 48]⟩)]), (.int .i64 0)])⟩
def lK91 : List Entry := [e24, e25, e26, e27, e28, e29, e32, e38, e43, e48, e53, e58, e63, e68, e77, e78, e83, e88, e93, e101, e102, e107, e112, e117]
theorem lK91_ok : ∀ e ∈ lK91, EntryOK Tryz.prog e := by
  unfold lK91
  simp only [List.forall_mem_cons]
  exact ⟨k24, k25, k26, k27, k28, k29, k32, k38, k43, k48, k53, k58, k63, k68, k77, k78, k83, k88, k93, k101, k102, k107, k112, k117, fun _ h => by cases h⟩
theorem k91 : EntryOK Tryz.prog e91 := known_run tabD2_38_ok lK91_ok (fuel := 100000) (n := 60) (by kernel_rfl) (by kernel_rfl)
/-- cubit/cubitref12.Fixed -/
def e94 : Entry := ⟨38, [(.string ⟨#[116, 114, 105, 112, 108, 101]⟩), (.string ⟨#[107, 101, 108, 118, 105, 110]⟩)], .flat (.tuple #[(.agg #[(.string ⟨#[54, 56, 50, 57]⟩), (.string ⟨#[50, 53]⟩)]), (.int .i64 0)])⟩
def lK94 : List Entry := [e24, e25, e26, e27, e28, e29, e32, e38, e43, e48, e53, e58, e63, e68, e77, e78, e83, e88, e93, e101, e102, e107, e112, e117]
theorem lK94_ok : ∀ e ∈ lK94, EntryOK Tryz.prog e := by
  unfold lK94
  simp only [List.forall_mem_cons]
  exact ⟨k24, k25, k26, k27, k28, k29, k32, k38, k43, k48, k53, k58, k63, k68, k77, k78, k83, k88, k93, k101, k102, k107, k112, k117, fun _ h => by cases h⟩
theorem k94 : EntryOK Tryz.prog e94 := known_run tabD2_38_ok lK94_ok (fuel := 100000) (n := 60) (by kernel_rfl) (by kernel_rfl)
/-- cubit/cubitref12.Fixed -/
def e96 : Entry := ⟨38, [(.string ⟨#[116, 114, 105, 112, 108, 101]⟩), (.string ⟨#[75]⟩)], .flat (.tuple #[(.agg #[(.string ⟨#[54, 56, 50, 57]⟩), (.string ⟨#[50, 53]⟩)]), (.int .i64 0)])⟩
def lK96 : List Entry := [e24, e25, e26, e27, e28, e29, e32, e38, e43, e48, e53, e58, e63, e68, e77, e78, e83, e88, e93, e101, e102, e107, e112, e117]
theorem lK96_ok : ∀ e ∈ lK96, EntryOK Tryz.prog e := by
  unfold lK96
  simp only [List.forall_mem_cons]
  exact ⟨k24, k25, k26, k27, k28, k29, k32, k38, k43, k48, k53, k58, k63, k68, k77, k78, k83, k88, k93, k101, k102, k107, k112, k117, fun _ h => by cases h⟩
theorem k96 : EntryOK Tryz.prog e96 := known_run tabD2_38_ok lK96_ok (fuel := 100000) (n := 60) (by kernel_rfl) (by kernel_rfl)
end Go.Proofs.YtemgddekbdifeaaGreat.Am
