/- What some calls come to. -/
import Derived.Test.YtemgddekbdifeaaGreatTb0
import Derived.Test.YtemgddekbdifeaaGreatTb1
import Derived.Test.YtemgddekbdifeaaGreatTb2
import Derived.Test.YtemgddekbdifeaaGreatTb3
import Derived.KernelRfl
set_option maxRecDepth 1000000
namespace Go.Proofs.YtemgddekbdifeaaGreat.Am
def tabD3_38 : List (Nat × AFn) := [(30, F30), (33, F33), (34, F34), (38, F38), (97, F97), (108, F108)]
theorem tabD3_38_ok : ∀ p ∈ tabD3_38, FnOK Tryz.prog p := by
  unfold tabD3_38
  simp only [List.forall_mem_cons]
  exact ⟨ok30, ok33, ok34, ok38, ok97, ok108, fun _ h => by cases h⟩
/-- cubit/cubitref12.Fixed -/
def e103 : Entry := ⟨38, [(.string ⟨#[98, 111, 105, 108, 105, 110, 103]⟩), (.string ⟨#[114, 97, 110, 107, 105, 110, 101]⟩)], .flat (.tuple #[(.agg #[(.string ⟨#[54, 55, 49, 54, 55]⟩), (.string ⟨#[49, 48, 48]⟩)]), (.int .i64 0)])⟩
def lK103 : List Entry := [e24, e25, e26, e27, e28, e29, e32, e38, e43, e48, e53, e58, e63, e68, e77, e78, e83, e88, e93, e101, e102, e107, e112, e117]
theorem lK103_ok : ∀ e ∈ lK103, EntryOK Tryz.prog e := by
  unfold lK103
  simp only [List.forall_mem_cons]
  exact ⟨k24, k25, k26, k27, k28, k29, k32, k38, k43, k48, k53, k58, k63, k68, k77, k78, k83, k88, k93, k101, k102, k107, k112, k117, fun _ h => by cases h⟩
theorem k103 : EntryOK Tryz.prog e103 := known_run tabD3_38_ok lK103_ok (fuel := 100000) (n := 60) (by kernel_rfl) (by kernel_rfl)
/-- cubit/cubitref12.Fixed -/
def e105 : Entry := ⟨38, [(.string ⟨#[98, 111, 105, 108, 105, 110, 103]⟩), (.string ⟨#[194, 176, 82]⟩)], .flat (.tuple #[(.agg #[(.string ⟨#[54, 55, 49, 54, 55]⟩), (.string ⟨#[49, 48, 48]⟩)]), (.int .i64 0)])⟩
def lK105 : List Entry := [e24, e25, e26, e27, e28, e29, e32, e38, e43, e48, e53, e58, e63, e68, e77, e78, e83, e88, e93, e101, e102, e107, e112, e117]
theorem lK105_ok : ∀ e ∈ lK105, EntryOK Tryz.prog e := by
  unfold lK105
  simp only [List.forall_mem_cons]
  exact ⟨k24, k25, k26, k27, k28, k29, k32, k38, k43, k48, k53, k58, k63, k68, k77, k78, k83, k88, k93, k101, k102, k107, k112, k117, fun _ h => by cases h⟩
theorem k105 : EntryOK Tryz.prog e105 := known_run tabD3_38_ok lK105_ok (fuel := 100000) (n := 60) (by kernel_rfl) (by kernel_rfl)
/-- cubit/cubitref12.Fixed -/
def e108 : Entry := ⟨38, [(.string ⟨#[98, 111, 105, 108, 105, 110, 103]⟩), (.string ⟨#[99, 101, 108, 115, 105, 117, 115]⟩)], .flat (.tuple #[(.agg #[(.string ⟨#[49, 48, 48]⟩), (.string ⟨#[49]⟩)]), (.int .i64 0)])⟩
def lK108 : List Entry := [e24, e25, e26, e27, e28, e29, e32, e38, e43, e48, e53, e58, e63, e68, e77, e78, e83, e88, e93, e101, e102, e107, e112, e117]
theorem lK108_ok : ∀ e ∈ lK108, EntryOK Tryz.prog e := by
  unfold lK108
  simp only [List.forall_mem_cons]
  exact ⟨k24, k25, k26, k27, k28, k29, k32, k38, k43, k48, k53, k58, k63, k68, k77, k78, k83, k88, k93, k101, k102, k107, k112, k117, fun _ h => by cases h⟩
theorem k108 : EntryOK Tryz.prog e108 := known_run tabD3_38_ok lK108_ok (fuel := 100000) (n := 60) (by kernel_rfl) (by kernel_rfl)
/-- cubit/cubitref12.Fixed -/
def e110 : Entry := ⟨38, [(.string ⟨#[98, 111, 105, 108, 105, 110, 103]⟩), (.string ⟨#[194, 176, 67]⟩)], .flat (.tuple #[(.agg #[(.string ⟨#[49, 48, 48]⟩), (.string ⟨#[49]⟩)]), (.int .i64 0)])⟩
def lK110 : List Entry := [e24, e25, e26, e27, e28, e29, e32, e38, e43, e48, e53, e58, e63, e68, e77, e78, e83, e88, e93, e101, e102, e107, e112, e117]
theorem lK110_ok : ∀ e ∈ lK110, EntryOK Tryz.prog e := by
  unfold lK110
  simp only [List.forall_mem_cons]
  exact ⟨k24, k25, k26, k27, k28, k29, k32, k38, k43, k48, k53, k58, k63, k68, k77, k78, k83, k88, k93, k101, k102, k107, k112, k117, fun _ h => by cases h⟩
theorem k110 : EntryOK Tryz.prog e110 := known_run tabD3_38_ok lK110_ok (fuel := 100000) (n := 60) (by kernel_rfl) (by kernel_rfl)
/-- cubit/cubitref12.Fixed -/
def e113 : Entry := ⟨38, [(.string ⟨#[98, 111, 105, 108, 105, 110, 103]⟩), (.string ⟨#[102, 97, 104, 114, 101, 110, 104, 101, 105, 116]⟩)], .flat (.tuple #[(.agg #[(.string ⟨#[50, 49, 50]⟩), (.string ⟨#[49]⟩)]), (.int .i64 0)])⟩
def lK113 : List Entry := [e24, e25, e26, e27, e28, e29, e32, e38, e43, e48, e53, e58, e63, e68, e77, e78, e83, e88, e93, e101, e102, e107, e112, e117]
theorem lK113_ok : ∀ e ∈ lK113, EntryOK Tryz.prog e := by
  unfold lK113
  simp only [List.forall_mem_cons]
  exact ⟨k24, k25, k26, k27, k28, k29, k32, k38, k43, k48, k53, k58, k63, k68, k77, k78, k83, k88, k93, k101, k102, k107, k112, k117, fun _ h => by cases h⟩
theorem k113 : EntryOK Tryz.prog e113 := known_run tabD3_38_ok lK113_ok (fuel := 100000) (n := 60) (by kernel_rfl) (by kernel_rfl)
/-- cubit/cubitref12.Fixed -/
def e115 : Entry := ⟨38, [(.string ⟨#[98, 111, 105, 108, 105, 110, 103]⟩), (.string ⟨#[194, 176, 70]⟩)], .flat (.tuple #[(.agg #[(.string ⟨#[50, 49, 50]⟩), (.string ⟨#[49]⟩)]), (.int .i64 0)])⟩
def lK115 : List Entry := [e24, e25, e26, e27, e28, e29, e32, e38, e43, e48, e53, e58, e63, e68, e77, e78, e83, e88, e93, e101, e102, e107, e112, e117]
theorem lK115_ok : ∀ e ∈ lK115, EntryOK Tryz.prog e := by
  unfold lK115
  simp only [List.forall_mem_cons]
  exact ⟨k24, k25, k26, k27, k28, k29, k32, k38, k43, k48, k53, k58, k63, k68, k77, k78, k83, k88, k93, k101, k102, k107, k112, k117, fun _ h => by cases h⟩
theorem k115 : EntryOK Tryz.prog e115 := known_run tabD3_38_ok lK115_ok (fuel := 100000) (n := 60) (by kernel_rfl) (by kernel_rfl)
/-- cubit/cubitref12.Fixed -/
def e118 : Entry := ⟨38, [(.string ⟨#[98, 111, 105, 108, 105, 110, 103]⟩), (.string ⟨#[107, 101, 108, 118, 105, 110]⟩)], .flat (.tuple #[(.agg #[(.string ⟨#[55, 52, 54, 51]⟩), (.string ⟨#[50, 48]⟩)]), (.int .i64 0)])⟩
def lK118 : List Entry := [e24, e25, e26, e27, e28, e29, e32, e38, e43, e48, e53, e58, e63, e68, e77, e78, e83, e88, e93, e101, e102, e107, e112, e117]
theorem lK118_ok : ∀ e ∈ lK118, EntryOK Tryz.prog e := by
  unfold lK118
  simp only [List.forall_mem_cons]
  exact ⟨k24, k25, k26, k27, k28, k29, k32, k38, k43, k48, k53, k58, k63, k68, k77, k78, k83, k88, k93, k101, k102, k107, k112, k117, fun _ h => by cases h⟩
theorem k118 : EntryOK Tryz.prog e118 := known_run tabD3_38_ok lK118_ok (fuel := 100000) (n := 60) (by kernel_rfl) (by kernel_rfl)
/-- cubit/cubitref12.Fixed -/
def e120 : Entry := ⟨38, [(.string ⟨#[98, 111, 105, 108, 105, 110, 103]⟩), (.string ⟨#[75]⟩)], .flat (.tuple #[(.agg #[(.string ⟨#[55, 52, 54, 51]⟩), (.string ⟨#[50, 48]⟩)]), (.int .i64 0)])⟩
def lK120 : List Entry := [e24, e25, e26, e27, e28, e29, e32, e38, e43, e48, e53, e58, e63, e68, e77, e78, e83, e88, e93, e101, e102, e107, e112, e117]
theorem lK120_ok : ∀ e ∈ lK120, EntryOK Tryz.prog e := by
  unfold lK120
  simp only [List.forall_mem_cons]
  exact ⟨k24, k25, k26, k27, k28, k29, k32, k38, k43, k48, k53, k58, k63, k68, k77, k78, k83, k88, k93, k101, k102, k107, k112, k117, fun _ h => by cases h⟩
theorem k120 : EntryOK Tryz.prog e120 := known_run tabD3_38_ok lK120_ok (fuel := 100000) (n := 60) (by kernel_rfl) (by kernel_rfl)
end Go.Proofs.YtemgddekbdifeaaGreat.Am
