/- What some calls come to. -/
import Derived.Test.YthofghhfcmbbfaaFn1
import Derived.KernelRfl
set_option maxRecDepth 1000000
namespace Go.Proofs.Ythofghhfcmbbfaa.Am
def tabK50 : List (Nat × AFn) := [(50, F50), (70, F70), (71, F71), (72, F72), (73, F73)]
theorem tabK50_ok : ∀ p ∈ tabK50, FnOK Try.prog p := by
  unfold tabK50
  simp only [List.forall_mem_cons]
  exact ⟨ok50, ok70, ok71, ok72, ok73, fun _ h => by cases h⟩
/-- cubit/si.forces -/
def e0 : Entry := ⟨50, [], .flat (.agg #[(.int .i64 2), (.int .i64 1), (.int .i64 1), (.int .i64 (-2)), (.int .i64 0), (.int .i64 0), (.int .i64 0), (.int .i64 0), (.int .i64 0), (.int .i64 (-1)), (.int .i64 1), (.int .i64 (-2)), (.int .i64 0), (.int .i64 0), (.int .i64 0), (.int .i64 0), (.int .i64 0), (.int .i64 0), (.int .i64 0), (.int .i64 0), (.int .i64 0), (.int .i64 0), (.int .i64 0), (.int .i64 0), (.int .i64 0), (.int .i64 0), (.int .i64 0), (.int .i64 0), (.int .i64 0), (.int .i64 0), (.int .i64 0), (.int .i64 0), (.int .i64 0), (.int .i64 0), (.int .i64 0), (.int .i64 0), (.int .i64 0), (.int .i64 0), (.int .i64 0), (.int .i64 0), (.int .i64 0), (.int .i64 0), (.int .i64 0), (.int .i64 0), (.int .i64 0), (.int .i64 0), (.int .i64 0), (.int .i64 0), (.int .i64 0), (.int .i64 0), (.int .i64 0), (.int .i64 0), (.int .i64 0), (.int .i64 0), (.int .i64 0), (.int .i64 0), (.int .i64 0), (.int .i64 0), (.int .i64 0), (.int .i64 0), (.int .i64 0), (.int .i64 0), (.int .i64 0), (.int .i64 0), (.int .i64 0)])⟩
def lK0 : List Entry := []
theorem lK0_ok : ∀ e ∈ lK0, EntryOK Try.prog e := fun _ h => by cases h
theorem k0 : EntryOK Try.prog e0 := known_run tabK50_ok lK0_ok (fuel := 100000) (n := 60) (by kernel_rfl) (by kernel_rfl)
def tabK51 : List (Nat × AFn) := [(51, F51), (70, F70), (71, F71), (72, F72)]
theorem tabK51_ok : ∀ p ∈ tabK51, FnOK Try.prog p := by
  unfold tabK51
  simp only [List.forall_mem_cons]
  exact ⟨ok51, ok70, ok71, ok72, fun _ h => by cases h⟩
/-- cubit/si.energies -/
def e1 : Entry := ⟨51, [], .flat (.agg #[(.int .i64 1), (.int .i64 2), (.int .i64 1), (.int .i64 (-2)), (.int .i64 0), (.int .i64 0), (.int .i64 0), (.int .i64 0), (.int .i64 0), (.int .i64 0), (.int .i64 0), (.int .i64 0), (.int .i64 0), (.int .i64 0), (.int .i64 0), (.int .i64 0), (.int .i64 0), (.int .i64 0), (.int .i64 0), (.int .i64 0), (.int .i64 0), (.int .i64 0), (.int .i64 0), (.int .i64 0), (.int .i64 0), (.int .i64 0), (.int .i64 0), (.int .i64 0), (.int .i64 0), (.int .i64 0), (.int .i64 0), (.int .i64 0), (.int .i64 0), (.int .i64 0), (.int .i64 0), (.int .i64 0), (.int .i64 0), (.int .i64 0), (.int .i64 0), (.int .i64 0), (.int .i64 0), (.int .i64 0), (.int .i64 0), (.int .i64 0), (.int .i64 0), (.int .i64 0), (.int .i64 0), (.int .i64 0), (.int .i64 0), (.int .i64 0), (.int .i64 0), (.int .i64 0), (.int .i64 0), (.int .i64 0), (.int .i64 0), (.int .i64 0), (.int .i64 0), (.int .i64 0), (.int .i64 0), (.int .i64 0), (.int .i64 0), (.int .i64 0), (.int .i64 0), (.int .i64 0), (.int .i64 0)])⟩
def lK1 : List Entry := [e0]
theorem lK1_ok : ∀ e ∈ lK1, EntryOK Try.prog e := by
  unfold lK1
  simp only [List.forall_mem_cons]
  exact ⟨k0, fun _ h => by cases h⟩
theorem k1 : EntryOK Try.prog e1 := known_run tabK51_ok lK1_ok (fuel := 100000) (n := 60) (by kernel_rfl) (by kernel_rfl)
def tabK52 : List (Nat × AFn) := [(52, F52), (71, F71), (72, F72), (73, F73)]
theorem tabK52_ok : ∀ p ∈ tabK52, FnOK Try.prog p := by
  unfold tabK52
  simp only [List.forall_mem_cons]
  exact ⟨ok52, ok71, ok72, ok73, fun _ h => by cases h⟩
/-- cubit/si.powers -/
def e2 : Entry := ⟨52, [], .flat (.agg #[(.int .i64 1), (.int .i64 2), (.int .i64 1), (.int .i64 (-3)), (.int .i64 0), (.int .i64 0), (.int .i64 0), (.int .i64 0), (.int .i64 0), (.int .i64 0), (.int .i64 0), (.int .i64 0), (.int .i64 0), (.int .i64 0), (.int .i64 0), (.int .i64 0), (.int .i64 0), (.int .i64 0), (.int .i64 0), (.int .i64 0), (.int .i64 0), (.int .i64 0), (.int .i64 0), (.int .i64 0), (.int .i64 0), (.int .i64 0), (.int .i64 0), (.int .i64 0), (.int .i64 0), (.int .i64 0), (.int .i64 0), (.int .i64 0), (.int .i64 0), (.int .i64 0), (.int .i64 0), (.int .i64 0), (.int .i64 0), (.int .i64 0), (.int .i64 0), (.int .i64 0), (.int .i64 0), (.int .i64 0), (.int .i64 0), (.int .i64 0), (.int .i64 0), (.int .i64 0), (.int .i64 0), (.int .i64 0), (.int .i64 0), (.int .i64 0), (.int .i64 0), (.int .i64 0), (.int .i64 0), (.int .i64 0), (.int .i64 0), (.int .i64 0), (.int .i64 0), (.int .i64 0), (.int .i64 0), (.int .i64 0), (.int .i64 0), (.int .i64 0), (.int .i64 0), (.int .i64 0), (.int .i64 0)])⟩
def lK2 : List Entry := [e1]
theorem lK2_ok : ∀ e ∈ lK2, EntryOK Try.prog e := by
  unfold lK2
  simp only [List.forall_mem_cons]
  exact ⟨k1, fun _ h => by cases h⟩
theorem k2 : EntryOK Try.prog e2 := known_run tabK52_ok lK2_ok (fuel := 100000) (n := 60) (by kernel_rfl) (by kernel_rfl)
def tabK53 : List (Nat × AFn) := [(53, F53), (70, F70), (71, F71), (72, F72), (73, F73)]
theorem tabK53_ok : ∀ p ∈ tabK53, FnOK Try.prog p := by
  unfold tabK53
  simp only [List.forall_mem_cons]
  exact ⟨ok53, ok70, ok71, ok72, ok73, fun _ h => by cases h⟩
/-- cubit/si.electrics -/
def e3 : Entry := ⟨53, [], .flat (.agg #[(.int .i64 8), (.int .i64 0), (.int .i64 0), (.int .i64 1), (.int .i64 1), (.int .i64 0), (.int .i64 0), (.int .i64 0), (.int .i64 0), (.int .i64 2), (.int .i64 1), (.int .i64 (-3)), (.int .i64 (-1)), (.int .i64 0), (.int .i64 0), (.int .i64 0), (.int .i64 0), (.int .i64 (-2)), (.int .i64 (-1)), (.int .i64 4), (.int .i64 2), (.int .i64 0), (.int .i64 0), (.int .i64 0), (.int .i64 0), (.int .i64 2), (.int .i64 1), (.int .i64 (-3)), (.int .i64 (-2)), (.int .i64 0), (.int .i64 0), (.int .i64 0), (.int .i64 0), (.int .i64 (-2)), (.int .i64 (-1)), (.int .i64 3), (.int .i64 2), (.int .i64 0), (.int .i64 0), (.int .i64 0), (.int .i64 0), (.int .i64 2), (.int .i64 1), (.int .i64 (-2)), (.int .i64 (-1)), (.int .i64 0), (.int .i64 0), (.int .i64 0), (.int .i64 0), (.int .i64 0), (.int .i64 1), (.int .i64 (-2)), (.int .i64 (-1)), (.int .i64 0), (.int .i64 0), (.int .i64 0), (.int .i64 0), (.int .i64 2), (.int .i64 1), (.int .i64 (-2)), (.int .i64 (-2)), (.int .i64 0), (.int .i64 0), (.int .i64 0), (.int .i64 0)])⟩
def lK3 : List Entry := [e2]
theorem lK3_ok : ∀ e ∈ lK3, EntryOK Try.prog e := by
  unfold lK3
  simp only [List.forall_mem_cons]
  exact ⟨k2, fun _ h => by cases h⟩
theorem k3 : EntryOK Try.prog e3 := known_run tabK53_ok lK3_ok (fuel := 100000) (n := 60) (by kernel_rfl) (by kernel_rfl)
def tabK54 : List (Nat × AFn) := [(54, F54), (71, F71), (72, F72)]
theorem tabK54_ok : ∀ p ∈ tabK54, FnOK Try.prog p := by
  unfold tabK54
  simp only [List.forall_mem_cons]
  exact ⟨ok54, ok71, ok72, fun _ h => by cases h⟩
/-- cubit/si.frequencies -/
def e4 : Entry := ⟨54, [], .flat (.agg #[(.int .i64 1), (.int .i64 0), (.int .i64 0), (.int .i64 (-1)), (.int .i64 0), (.int .i64 0), (.int .i64 0), (.int .i64 0), (.int .i64 0), (.int .i64 0), (.int .i64 0), (.int .i64 0), (.int .i64 0), (.int .i64 0), (.int .i64 0), (.int .i64 0), (.int .i64 0), (.int .i64 0), (.int .i64 0), (.int .i64 0), (.int .i64 0), (.int .i64 0), (.int .i64 0), (.int .i64 0), (.int .i64 0), (.int .i64 0), (.int .i64 0), (.int .i64 0), (.int .i64 0), (.int .i64 0), (.int .i64 0), (.int .i64 0), (.int .i64 0), (.int .i64 0), (.int .i64 0), (.int .i64 0), (.int .i64 0), (.int .i64 0), (.int .i64 0), (.int .i64 0), (.int .i64 0), (.int .i64 0), (.int .i64 0), (.int .i64 0), (.int .i64 0), (.int .i64 0), (.int .i64 0), (.int .i64 0), (.int .i64 0), (.int .i64 0), (.int .i64 0), (.int .i64 0), (.int .i64 0), (.int .i64 0), (.int .i64 0), (.int .i64 0), (.int .i64 0), (.int .i64 0), (.int .i64 0), (.int .i64 0), (.int .i64 0), (.int .i64 0), (.int .i64 0), (.int .i64 0), (.int .i64 0)])⟩
def lK4 : List Entry := []
theorem lK4_ok : ∀ e ∈ lK4, EntryOK Try.prog e := fun _ h => by cases h
theorem k4 : EntryOK Try.prog e4 := known_run tabK54_ok lK4_ok (fuel := 100000) (n := 60) (by kernel_rfl) (by kernel_rfl)
def tabK55 : List (Nat × AFn) := [(55, F55), (70, F70), (71, F71), (72, F72), (73, F73)]
theorem tabK55_ok : ∀ p ∈ tabK55, FnOK Try.prog p := by
  unfold tabK55
  simp only [List.forall_mem_cons]
  exact ⟨ok55, ok70, ok71, ok72, ok73, fun _ h => by cases h⟩
/-- cubit/si.raysMade -/
def e5 : Entry := ⟨55, [], .flat (.agg #[(.int .i64 4), (.int .i64 0), (.int .i64 0), (.int .i64 (-1)), (.int .i64 0), (.int .i64 0), (.int .i64 0), (.int .i64 0), (.int .i64 0), (.int .i64 2), (.int .i64 0), (.int .i64 (-2)), (.int .i64 0), (.int .i64 0), (.int .i64 0), (.int .i64 0), (.int .i64 0), (.int .i64 2), (.int .i64 0), (.int .i64 (-2)), (.int .i64 0), (.int .i64 0), (.int .i64 0), (.int .i64 0), (.int .i64 0), (.int .i64 0), (.int .i64 0), (.int .i64 (-1)), (.int .i64 0), (.int .i64 0), (.int .i64 1), (.int .i64 0), (.int .i64 0), (.int .i64 0), (.int .i64 0), (.int .i64 0), (.int .i64 0), (.int .i64 0), (.int .i64 0), (.int .i64 0), (.int .i64 0), (.int .i64 0), (.int .i64 0), (.int .i64 0), (.int .i64 0), (.int .i64 0), (.int .i64 0), (.int .i64 0), (.int .i64 0), (.int .i64 0), (.int .i64 0), (.int .i64 0), (.int .i64 0), (.int .i64 0), (.int .i64 0), (.int .i64 0), (.int .i64 0), (.int .i64 0), (.int .i64 0), (.int .i64 0), (.int .i64 0), (.int .i64 0), (.int .i64 0), (.int .i64 0), (.int .i64 0)])⟩
def lK5 : List Entry := [e1, e4]
theorem lK5_ok : ∀ e ∈ lK5, EntryOK Try.prog e := by
  unfold lK5
  simp only [List.forall_mem_cons]
  exact ⟨k1, k4, fun _ h => by cases h⟩
theorem k5 : EntryOK Try.prog e5 := known_run tabK55_ok lK5_ok (fuel := 100000) (n := 60) (by kernel_rfl) (by kernel_rfl)
def tabK56 : List (Nat × AFn) := [(56, F56), (72, F72)]
theorem tabK56_ok : ∀ p ∈ tabK56, FnOK Try.prog p := by
  unfold tabK56
  simp only [List.forall_mem_cons]
  exact ⟨ok56, ok72, fun _ h => by cases h⟩
/-- cubit/si.planes -/
def e6 : Entry := ⟨56, [], .flat (.agg #[(.int .i64 2), (.int .i64 0), (.int .i64 0), (.int .i64 0), (.int .i64 0), (.int .i64 0), (.int .i64 0), (.int .i64 0), (.int .i64 0), (.int .i64 0), (.int .i64 0), (.int .i64 0), (.int .i64 0), (.int .i64 0), (.int .i64 0), (.int .i64 0), (.int .i64 0), (.int .i64 0), (.int .i64 0), (.int .i64 0), (.int .i64 0), (.int .i64 0), (.int .i64 0), (.int .i64 0), (.int .i64 0), (.int .i64 0), (.int .i64 0), (.int .i64 0), (.int .i64 0), (.int .i64 0), (.int .i64 0), (.int .i64 0), (.int .i64 0), (.int .i64 0), (.int .i64 0), (.int .i64 0), (.int .i64 0), (.int .i64 0), (.int .i64 0), (.int .i64 0), (.int .i64 0), (.int .i64 0), (.int .i64 0), (.int .i64 0), (.int .i64 0), (.int .i64 0), (.int .i64 0), (.int .i64 0), (.int .i64 0), (.int .i64 0), (.int .i64 0), (.int .i64 0), (.int .i64 0), (.int .i64 0), (.int .i64 0), (.int .i64 0), (.int .i64 0), (.int .i64 0), (.int .i64 0), (.int .i64 0), (.int .i64 0), (.int .i64 0), (.int .i64 0), (.int .i64 0), (.int .i64 0)])⟩
def lK6 : List Entry := []
theorem lK6_ok : ∀ e ∈ lK6, EntryOK Try.prog e := fun _ h => by cases h
theorem k6 : EntryOK Try.prog e6 := known_run tabK56_ok lK6_ok (fuel := 100000) (n := 60) (by kernel_rfl) (by kernel_rfl)
def tabK57 : List (Nat × AFn) := [(57, F57), (70, F70), (71, F71), (72, F72), (73, F73)]
theorem tabK57_ok : ∀ p ∈ tabK57, FnOK Try.prog p := by
  unfold tabK57
  simp only [List.forall_mem_cons]
  exact ⟨ok57, ok70, ok71, ok72, ok73, fun _ h => by cases h⟩
/-- cubit/si.lights -/
def e7 : Entry := ⟨57, [], .flat (.agg #[(.int .i64 2), (.int .i64 0), (.int .i64 0), (.int .i64 0), (.int .i64 0), (.int .i64 0), (.int .i64 0), (.int .i64 1), (.int .i64 0), (.int .i64 (-2)), (.int .i64 0), (.int .i64 0), (.int .i64 0), (.int .i64 0), (.int .i64 0), (.int .i64 1), (.int .i64 0), (.int .i64 0), (.int .i64 0), (.int .i64 0), (.int .i64 0), (.int .i64 0), (.int .i64 0), (.int .i64 0), (.int .i64 0), (.int .i64 0), (.int .i64 0), (.int .i64 0), (.int .i64 0), (.int .i64 0), (.int .i64 0), (.int .i64 0), (.int .i64 0), (.int .i64 0), (.int .i64 0), (.int .i64 0), (.int .i64 0), (.int .i64 0), (.int .i64 0), (.int .i64 0), (.int .i64 0), (.int .i64 0), (.int .i64 0), (.int .i64 0), (.int .i64 0), (.int .i64 0), (.int .i64 0), (.int .i64 0), (.int .i64 0), (.int .i64 0), (.int .i64 0), (.int .i64 0), (.int .i64 0), (.int .i64 0), (.int .i64 0), (.int .i64 0), (.int .i64 0), (.int .i64 0), (.int .i64 0), (.int .i64 0), (.int .i64 0), (.int .i64 0), (.int .i64 0), (.int .i64 0), (.int .i64 0)])⟩
def lK7 : List Entry := [e6]
theorem lK7_ok : ∀ e ∈ lK7, EntryOK Try.prog e := by
  unfold lK7
  simp only [List.forall_mem_cons]
  exact ⟨k6, fun _ h => by cases h⟩
theorem k7 : EntryOK Try.prog e7 := known_run tabK57_ok lK7_ok (fuel := 100000) (n := 60) (by kernel_rfl) (by kernel_rfl)
end Go.Proofs.Ythofghhfcmbbfaa.Am
