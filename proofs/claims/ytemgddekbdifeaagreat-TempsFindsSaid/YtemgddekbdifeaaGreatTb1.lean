/- What some calls come to. -/
import Derived.Test.YtemgddekbdifeaaGreatTa5
import Derived.KernelRfl
set_option maxRecDepth 1000000
namespace Go.Proofs.YtemgddekbdifeaaGreat.Am
def tabB1_99 : List (Nat × AFn) := [(29, F29), (30, F30), (31, F31), (33, F33), (92, F92), (99, F99), (101, F101), (102, F102), (103, F103), (104, F104), (105, F105), (106, F106), (107, F107), (108, F108), (135, F135), (142, F142), (143, F143), (144, F144), (145, F145), (174, F174), (175, F175), (176, F176)]
theorem tabB1_99_ok : ∀ p ∈ tabB1_99, FnOK Tryz.prog p := by
  unfold tabB1_99
  simp only [List.forall_mem_cons]
  exact ⟨ok29, ok30, ok31, ok33, ok92, ok99, ok101, ok102, ok103, ok104, ok105, ok106, ok107, ok108, ok135, ok142, ok143, ok144, ok145, ok174, ok175, ok176, fun _ h => by cases h⟩
/-- cubit/cubitref12.In -/
def e53 : Entry := ⟨99, [(.agg #[(.string ⟨#[114, 97, 110, 107, 105, 110, 101]⟩), (.string ⟨#[194, 176, 82]⟩), (.int .i64 0), (.int .i64 0), (.int .i64 0), (.int .i64 0), (.int .i64 1), (.int .i64 0), (.int .i64 0), (.int .i64 0), (.string ⟨#[53]⟩), (.string ⟨#[57]⟩), (.string ⟨#[48]⟩), (.string ⟨#[49]⟩), (.int .i64 0)]), (.agg #[(.bool false), (.string ⟨#[53, 52, 54, 51]⟩), (.string ⟨#[50, 48]⟩)])], .flat (.agg #[(.bool false), (.string ⟨#[52, 57, 49, 54, 55]⟩), (.string ⟨#[49, 48, 48]⟩)])⟩
def lK53 : List Entry := []
theorem lK53_ok : ∀ e ∈ lK53, EntryOK Tryz.prog e := fun _ h => by cases h
theorem k53 : EntryOK Tryz.prog e53 := known_run tabB1_99_ok lK53_ok (fuel := 100000) (n := 60) (by kernel_rfl) (by kernel_rfl)
/-- cubit/cubitref12.In -/
def e58 : Entry := ⟨99, [(.agg #[(.string ⟨#[99, 101, 108, 115, 105, 117, 115]⟩), (.string ⟨#[194, 176, 67]⟩), (.int .i64 0), (.int .i64 0), (.int .i64 0), (.int .i64 0), (.int .i64 1), (.int .i64 0), (.int .i64 0), (.int .i64 0), (.string ⟨#[49]⟩), (.string ⟨#[49]⟩), (.string ⟨#[53, 52, 54, 51]⟩), (.string ⟨#[50, 48]⟩), (.int .i64 0)]), (.agg #[(.bool false), (.string ⟨#[53, 52, 54, 51]⟩), (.string ⟨#[50, 48]⟩)])], .flat (.agg #[(.bool false), (.string ⟨#[48]⟩), (.string ⟨#[49]⟩)])⟩
def lK58 : List Entry := []
theorem lK58_ok : ∀ e ∈ lK58, EntryOK Tryz.prog e := fun _ h => by cases h
theorem k58 : EntryOK Tryz.prog e58 := known_run tabB1_99_ok lK58_ok (fuel := 100000) (n := 60) (by kernel_rfl) (by kernel_rfl)
/-- cubit/cubitref12.In -/
def e63 : Entry := ⟨99, [(.agg #[(.string ⟨#[102, 97, 104, 114, 101, 110, 104, 101, 105, 116]⟩), (.string ⟨#[194, 176, 70]⟩), (.int .i64 0), (.int .i64 0), (.int .i64 0), (.int .i64 0), (.int .i64 1), (.int .i64 0), (.int .i64 0), (.int .i64 0), (.string ⟨#[53]⟩), (.string ⟨#[57]⟩), (.string ⟨#[52, 53, 57, 54, 55]⟩), (.string ⟨#[49, 56, 48]⟩), (.int .i64 0)]), (.agg #[(.bool false), (.string ⟨#[53, 52, 54, 51]⟩), (.string ⟨#[50, 48]⟩)])], .flat (.agg #[(.bool false), (.string ⟨#[51, 50]⟩), (.string ⟨#[49]⟩)])⟩
def lK63 : List Entry := []
theorem lK63_ok : ∀ e ∈ lK63, EntryOK Tryz.prog e := fun _ h => by cases h
theorem k63 : EntryOK Tryz.prog e63 := known_run tabB1_99_ok lK63_ok (fuel := 100000) (n := 60) (by kernel_rfl) (by kernel_rfl)
/-- cubit/cubitref12.In -/
def e68 : Entry := ⟨99, [(.agg #[(.string ⟨#[107, 101, 108, 118, 105, 110]⟩), (.string ⟨#[75]⟩), (.int .i64 0), (.int .i64 0), (.int .i64 0), (.int .i64 0), (.int .i64 1), (.int .i64 0), (.int .i64 0), (.int .i64 0), (.string ⟨#[49]⟩), (.string ⟨#[49]⟩), (.string ⟨#[48]⟩), (.string ⟨#[49]⟩), (.int .i64 1)]), (.agg #[(.bool false), (.string ⟨#[53, 52, 54, 51]⟩), (.string ⟨#[50, 48]⟩)])], .flat (.agg #[(.bool false), (.string ⟨#[53, 52, 54, 51]⟩), (.string ⟨#[50, 48]⟩)])⟩
def lK68 : List Entry := []
theorem lK68_ok : ∀ e ∈ lK68, EntryOK Tryz.prog e := fun _ h => by cases h
theorem k68 : EntryOK Tryz.prog e68 := known_run tabB1_99_ok lK68_ok (fuel := 100000) (n := 60) (by kernel_rfl) (by kernel_rfl)
end Go.Proofs.YtemgddekbdifeaaGreat.Am
