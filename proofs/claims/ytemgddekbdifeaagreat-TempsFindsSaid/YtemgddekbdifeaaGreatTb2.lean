/- What some calls come to. -/
import Derived.Test.YtemgddekbdifeaaGreatTa5
import Derived.KernelRfl
set_option maxRecDepth 1000000
namespace Go.Proofs.YtemgddekbdifeaaGreat.Am
def tabB2_99 : List (Nat × AFn) := [(29, F29), (30, F30), (31, F31), (33, F33), (92, F92), (99, F99), (101, F101), (102, F102), (103, F103), (104, F104), (105, F105), (106, F106), (107, F107), (108, F108), (135, F135), (142, F142), (143, F143), (144, F144), (145, F145), (174, F174), (175, F175), (176, F176)]
theorem tabB2_99_ok : ∀ p ∈ tabB2_99, FnOK Tryz.prog p := by
  unfold tabB2_99
  simp only [List.forall_mem_cons]
  exact ⟨ok29, ok30, ok31, ok33, ok92, ok99, ok101, ok102, ok103, ok104, ok105, ok106, ok107, ok108, ok135, ok142, ok143, ok144, ok145, ok174, ok175, ok176, fun _ h => by cases h⟩
/-- cubit/cubitref12.In -/
def e78 : Entry := ⟨99, [(.agg #[(.string ⟨#[114, 97, 110, 107, 105, 110, 101]⟩), (.string ⟨#[194, 176, 82]⟩), (.int .i64 0), (.int .i64 0), (.int .i64 0), (.int .i64 0), (.int .i64 1), (.int .i64 0), (.int .i64 0), (.int .i64 0), (.string ⟨#[53]⟩), (.string ⟨#[57]⟩), (.string ⟨#[48]⟩), (.string ⟨#[49]⟩), (.int .i64 0)]), (.agg #[(.bool false), (.string ⟨#[54, 56, 50, 57]⟩), (.string ⟨#[50, 53]⟩)])], .flat (.agg #[(.bool false), (.string ⟨#[54, 49, 52, 54, 49]⟩), (.string ⟨#[49, 50, 53]⟩)])⟩
def lK78 : List Entry := []
theorem lK78_ok : ∀ e ∈ lK78, EntryOK Tryz.prog e := fun _ h => by cases h
theorem k78 : EntryOK Tryz.prog e78 := known_run tabB2_99_ok lK78_ok (fuel := 100000) (n := 60) (by kernel_rfl) (by kernel_rfl)
/-- cubit/cubitref12.In -/
def e83 : Entry := ⟨99, [(.agg #[(.string ⟨#[99, 101, 108, 115, 105, 117, 115]⟩), (.string ⟨#[194, 176, 67]⟩), (.int .i64 0), (.int .i64 0), (.int .i64 0), (.int .i64 0), (.int .i64 1), (.int .i64 0), (.int .i64 0), (.int .i64 0), (.string ⟨#[49]⟩), (.string ⟨#[49]⟩), (.string ⟨#[53, 52, 54, 51]⟩), (.string ⟨#[50, 48]⟩), (.int .i64 0)]), (.agg #[(.bool false), (.string ⟨#[54, 56, 50, 57]⟩), (.string ⟨#[50, 53]⟩)])], .flat (.agg #[(.bool false), (.string ⟨#[49]⟩), (.string ⟨#[49, 48, 48]⟩)])⟩
def lK83 : List Entry := []
theorem lK83_ok : ∀ e ∈ lK83, EntryOK Tryz.prog e := fun _ h => by cases h
theorem k83 : EntryOK Tryz.prog e83 := known_run tabB2_99_ok lK83_ok (fuel := 100000) (n := 60) (by kernel_rfl) (by kernel_rfl)
/-- cubit/cubitref12.In -/
def e88 : Entry := ⟨99, [(.agg #[(.string ⟨#[102, 97, 104, 114, 101, 110, 104, 101, 105, 116]⟩), (.string ⟨#[194, 176, 70]⟩), (.int .i64 0), (.int .i64 0), (.int .i64 0), (.int .i64 0), (.int .i64 1), (.int .i64 0), (.int .i64 0), (.int .i64 0), (.string ⟨#[53]⟩), (.string ⟨#[57]⟩), (.string ⟨#[52, 53, 57, 54, 55]⟩), (.string ⟨#[49, 56, 48]⟩), (.int .i64 0)]), (.agg #[(.bool false), (.string ⟨#[54, 56, 50, 57]⟩), (.string ⟨#[50, 53]⟩)])], .flat (.agg #[(.bool false), (.string ⟨#[49, 54, 48, 48, 57]⟩), (.string ⟨#[53, 48, 48]⟩)])⟩
def lK88 : List Entry := []
theorem lK88_ok : ∀ e ∈ lK88, EntryOK Tryz.prog e := fun _ h => by cases h
theorem k88 : EntryOK Tryz.prog e88 := known_run tabB2_99_ok lK88_ok (fuel := 100000) (n := 60) (by kernel_rfl) (by kernel_rfl)
/-- cubit/cubitref12.In -/
def e93 : Entry := ⟨99, [(.agg #[(.string ⟨#[107, 101, 108, 118, 105, 110]⟩), (.string ⟨#[75]⟩), (.int .i64 0), (.int .i64 0), (.int .i64 0), (.int .i64 0), (.int .i64 1), (.int .i64 0), (.int .i64 0), (.int .i64 0), (.string ⟨#[49]⟩), (.string ⟨#[49]⟩), (.string ⟨#[48]⟩), (.string ⟨#[49]⟩), (.int .i64 1)]), (.agg #[(.bool false), (.string ⟨#[54, 56, 50, 57]⟩), (.string ⟨#[50, 53]⟩)])], .flat (.agg #[(.bool false), (.string ⟨#[54, 56, 50, 57]⟩), (.string ⟨#[50, 53]⟩)])⟩
def lK93 : List Entry := []
theorem lK93_ok : ∀ e ∈ lK93, EntryOK Tryz.prog e := fun _ h => by cases h
theorem k93 : EntryOK Tryz.prog e93 := known_run tabB2_99_ok lK93_ok (fuel := 100000) (n := 60) (by kernel_rfl) (by kernel_rfl)
end Go.Proofs.YtemgddekbdifeaaGreat.Am
