/- What some calls come to. -/
import Derived.Test.YtemgddekbdifeaaGreatTa5
import Derived.KernelRfl
set_option maxRecDepth 1000000
namespace Go.Proofs.YtemgddekbdifeaaGreat.Am
def tabB3_99 : List (Nat × AFn) := [(29, F29), (30, F30), (31, F31), (33, F33), (92, F92), (99, F99), (101, F101), (102, F102), (103, F103), (104, F104), (105, F105), (106, F106), (107, F107), (108, F108), (135, F135), (142, F142), (143, F143), (144, F144), (145, F145), (174, F174), (175, F175), (176, F176)]
theorem tabB3_99_ok : ∀ p ∈ tabB3_99, FnOK Tryz.prog p := by
  unfold tabB3_99
  simp only [List.forall_mem_cons]
  exact ⟨ok29, ok30, ok31, ok33, ok92, ok99, ok101, ok102, ok103, ok104, ok105, ok106, ok107, ok108, ok135, ok142, ok143, ok144, ok145, ok174, ok175, ok176, fun _ h => by cases h⟩
/-- cubit/cubitref12.In -/
def e102 : Entry := ⟨99, [(.agg #[(.string ⟨#[114, 97, 110, 107, 105, 110, 101]⟩), (.string ⟨#[194, 176, 82]⟩), (.int .i64 0), (.int .i64 0), (.int .i64 0), (.int .i64 0), (.int .i64 1), (.int .i64 0), (.int .i64 0), (.int .i64 0), (.string ⟨#[53]⟩), (.string ⟨#[57]⟩), (.string ⟨#[48]⟩), (.string ⟨#[49]⟩), (.int .i64 0)]), (.agg #[(.bool false), (.string ⟨#[55, 52, 54, 51]⟩), (.string ⟨#[50, 48]⟩)])], .flat (.agg #[(.bool false), (.string ⟨#[54, 55, 49, 54, 55]⟩), (.string ⟨#[49, 48, 48]⟩)])⟩
def lK102 : List Entry := []
theorem lK102_ok : ∀ e ∈ lK102, EntryOK Tryz.prog e := fun _ h => by cases h
theorem k102 : EntryOK Tryz.prog e102 := known_run tabB3_99_ok lK102_ok (fuel := 100000) (n := 60) (by kernel_rfl) (by kernel_rfl)
/-- cubit/cubitref12.In -/
def e107 : Entry := ⟨99, [(.agg #[(.string ⟨#[99, 101, 108, 115, 105, 117, 115]⟩), (.string ⟨#[194, 176, 67]⟩), (.int .i64 0), (.int .i64 0), (.int .i64 0), (.int .i64 0), (.int .i64 1), (.int .i64 0), (.int .i64 0), (.int .i64 0), (.string ⟨#[49]⟩), (.string ⟨#[49]⟩), (.string ⟨#[53, 52, 54, 51]⟩), (.string ⟨#[50, 48]⟩), (.int .i64 0)]), (.agg #[(.bool false), (.string ⟨#[55, 52, 54, 51]⟩), (.string ⟨#[50, 48]⟩)])], .flat (.agg #[(.bool false), (.string ⟨#[49, 48, 48]⟩), (.string ⟨#[49]⟩)])⟩
def lK107 : List Entry := []
theorem lK107_ok : ∀ e ∈ lK107, EntryOK Tryz.prog e := fun _ h => by cases h
theorem k107 : EntryOK Tryz.prog e107 := known_run tabB3_99_ok lK107_ok (fuel := 100000) (n := 60) (by kernel_rfl) (by kernel_rfl)
/-- cubit/cubitref12.In -/
def e112 : Entry := ⟨99, [(.agg #[(.string ⟨#[102, 97, 104, 114, 101, 110, 104, 101, 105, 116]⟩), (.string ⟨#[194, 176, 70]⟩), (.int .i64 0), (.int .i64 0), (.int .i64 0), (.int .i64 0), (.int .i64 1), (.int .i64 0), (.int .i64 0), (.int .i64 0), (.string ⟨#[53]⟩), (.string ⟨#[57]⟩), (.string ⟨#[52, 53, 57, 54, 55]⟩), (.string ⟨#[49, 56, 48]⟩), (.int .i64 0)]), (.agg #[(.bool false), (.string ⟨#[55, 52, 54, 51]⟩), (.string ⟨#[50, 48]⟩)])], .flat (.agg #[(.bool false), (.string ⟨#[50, 49, 50]⟩), (.string ⟨#[49]⟩)])⟩
def lK112 : List Entry := []
theorem lK112_ok : ∀ e ∈ lK112, EntryOK Tryz.prog e := fun _ h => by cases h
theorem k112 : EntryOK Tryz.prog e112 := known_run tabB3_99_ok lK112_ok (fuel := 100000) (n := 60) (by kernel_rfl) (by kernel_rfl)
/-- cubit/cubitref12.In -/
def e117 : Entry := ⟨99, [(.agg #[(.string ⟨#[107, 101, 108, 118, 105, 110]⟩), (.string ⟨#[75]⟩), (.int .i64 0), (.int .i64 0), (.int .i64 0), (.int .i64 0), (.int .i64 1), (.int .i64 0), (.int .i64 0), (.int .i64 0), (.string ⟨#[49]⟩), (.string ⟨#[49]⟩), (.string ⟨#[48]⟩), (.string ⟨#[49]⟩), (.int .i64 1)]), (.agg #[(.bool false), (.string ⟨#[55, 52, 54, 51]⟩), (.string ⟨#[50, 48]⟩)])], .flat (.agg #[(.bool false), (.string ⟨#[55, 52, 54, 51]⟩), (.string ⟨#[50, 48]⟩)])⟩
def lK117 : List Entry := []
theorem lK117_ok : ∀ e ∈ lK117, EntryOK Tryz.prog e := fun _ h => by cases h
theorem k117 : EntryOK Tryz.prog e117 := known_run tabB3_99_ok lK117_ok (fuel := 100000) (n := 60) (by kernel_rfl) (by kernel_rfl)
end Go.Proofs.YtemgddekbdifeaaGreat.Am
