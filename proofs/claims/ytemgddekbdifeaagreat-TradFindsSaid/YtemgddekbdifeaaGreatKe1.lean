/- What some calls come to. -/
import Derived.Test.YtemgddekbdifeaaGreatKe0
import Derived.KernelRfl
set_option maxRecDepth 1000000
namespace Go.Proofs.YtemgddekbdifeaaGreat.Am
/-- cubit/trad.below -/
def e8 : Entry := ⟨62, [(.string ⟨#[115, 101, 99, 111, 110, 100]⟩)], .flat (.agg #[(.int .i64 0), (.int .i64 0), (.int .i64 1), (.int .i64 0), (.int .i64 0), (.int .i64 0), (.int .i64 0), (.int .i64 0)])⟩
def lK8 : List Entry := [e5]
theorem lK8_ok : ∀ e ∈ lK8, EntryOK Tryz.prog e := by
  unfold lK8
  simp only [List.forall_mem_cons]
  exact ⟨k5, fun _ h => by cases h⟩
theorem k8 : EntryOK Tryz.prog e8 := known_run tabK62_ok lK8_ok (fuel := 100000) (n := 60) (by kernel_rfl) (by kernel_rfl)
def tabK66 : List (Nat × AFn) := [(66, F66)]
theorem tabK66_ok : ∀ p ∈ tabK66, FnOK Tryz.prog p := by
  unfold tabK66
  simp only [List.forall_mem_cons]
  exact ⟨ok66, fun _ h => by cases h⟩
/-- cubit/trad.inchMade -/
def e9 : Entry := ⟨66, [], .flat (.agg #[(.int .i64 127), (.int .i64 5000)])⟩
def lK9 : List Entry := []
theorem lK9_ok : ∀ e ∈ lK9, EntryOK Tryz.prog e := fun _ h => by cases h
theorem k9 : EntryOK Tryz.prog e9 := known_run tabK66_ok lK9_ok (fuel := 100000) (n := 60) (by kernel_rfl) (by kernel_rfl)
def tabK68 : List (Nat × AFn) := [(68, F68), (131, F131), (132, F132), (173, F173)]
theorem tabK68_ok : ∀ p ∈ tabK68, FnOK Tryz.prog p := by
  unfold tabK68
  simp only [List.forall_mem_cons]
  exact ⟨ok68, ok131, ok132, ok173, fun _ h => by cases h⟩
/-- cubit/trad.footMade -/
def e10 : Entry := ⟨68, [], .flat (.agg #[(.int .i64 381), (.int .i64 1250)])⟩
def lK10 : List Entry := [e9]
theorem lK10_ok : ∀ e ∈ lK10, EntryOK Tryz.prog e := by
  unfold lK10
  simp only [List.forall_mem_cons]
  exact ⟨k9, fun _ h => by cases h⟩
theorem k10 : EntryOK Tryz.prog e10 := known_run tabK68_ok lK10_ok (fuel := 100000) (n := 60) (by kernel_rfl) (by kernel_rfl)
def tabK69 : List (Nat × AFn) := [(69, F69), (131, F131), (132, F132), (173, F173)]
theorem tabK69_ok : ∀ p ∈ tabK69, FnOK Tryz.prog p := by
  unfold tabK69
  simp only [List.forall_mem_cons]
  exact ⟨ok69, ok131, ok132, ok173, fun _ h => by cases h⟩
/-- cubit/trad.fathomMade -/
def e11 : Entry := ⟨69, [], .flat (.agg #[(.int .i64 1143), (.int .i64 625)])⟩
def lK11 : List Entry := [e10]
theorem lK11_ok : ∀ e ∈ lK11, EntryOK Tryz.prog e := by
  unfold lK11
  simp only [List.forall_mem_cons]
  exact ⟨k10, fun _ h => by cases h⟩
theorem k11 : EntryOK Tryz.prog e11 := known_run tabK69_ok lK11_ok (fuel := 100000) (n := 60) (by kernel_rfl) (by kernel_rfl)
def tabK70 : List (Nat × AFn) := [(70, F70), (131, F131), (132, F132), (173, F173)]
theorem tabK70_ok : ∀ p ∈ tabK70, FnOK Tryz.prog p := by
  unfold tabK70
  simp only [List.forall_mem_cons]
  exact ⟨ok70, ok131, ok132, ok173, fun _ h => by cases h⟩
/-- cubit/trad.handMade -/
def e12 : Entry := ⟨70, [], .flat (.agg #[(.int .i64 127), (.int .i64 1250)])⟩
def lK12 : List Entry := [e9]
theorem lK12_ok : ∀ e ∈ lK12, EntryOK Tryz.prog e := by
  unfold lK12
  simp only [List.forall_mem_cons]
  exact ⟨k9, fun _ h => by cases h⟩
theorem k12 : EntryOK Tryz.prog e12 := known_run tabK70_ok lK12_ok (fuel := 100000) (n := 60) (by kernel_rfl) (by kernel_rfl)
def tabK71 : List (Nat × AFn) := [(71, F71)]
theorem tabK71_ok : ∀ p ∈ tabK71, FnOK Tryz.prog p := by
  unfold tabK71
  simp only [List.forall_mem_cons]
  exact ⟨ok71, fun _ h => by cases h⟩
/-- cubit/trad.nauticalMade -/
def e13 : Entry := ⟨71, [], .flat (.agg #[(.int .i64 1852), (.int .i64 1)])⟩
def lK13 : List Entry := []
theorem lK13_ok : ∀ e ∈ lK13, EntryOK Tryz.prog e := fun _ h => by cases h
theorem k13 : EntryOK Tryz.prog e13 := known_run tabK71_ok lK13_ok (fuel := 100000) (n := 60) (by kernel_rfl) (by kernel_rfl)
/-- cubit/rat.Of -/
def e14 : Entry := ⟨124, [(.int .i64 127)], .flat (.agg #[(.string ⟨#[49, 50, 55]⟩), (.string ⟨#[49]⟩)])⟩
def lK14 : List Entry := []
theorem lK14_ok : ∀ e ∈ lK14, EntryOK Tryz.prog e := fun _ h => by cases h
theorem k14 : EntryOK Tryz.prog e14 := known_run tabK124_ok lK14_ok (fuel := 100000) (n := 60) (by kernel_rfl) (by kernel_rfl)
/-- cubit/rat.Of -/
def e15 : Entry := ⟨124, [(.int .i64 5000)], .flat (.agg #[(.string ⟨#[53, 48, 48, 48]⟩), (.string ⟨#[49]⟩)])⟩
def lK15 : List Entry := []
theorem lK15_ok : ∀ e ∈ lK15, EntryOK Tryz.prog e := fun _ h => by cases h
theorem k15 : EntryOK Tryz.prog e15 := known_run tabK124_ok lK15_ok (fuel := 100000) (n := 60) (by kernel_rfl) (by kernel_rfl)
end Go.Proofs.YtemgddekbdifeaaGreat.Am
