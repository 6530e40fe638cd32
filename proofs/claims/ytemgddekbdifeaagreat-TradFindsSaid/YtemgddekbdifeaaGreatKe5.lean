/- What some calls come to. -/
import Derived.Test.YtemgddekbdifeaaGreatKe4
import Derived.KernelRfl
set_option maxRecDepth 1000000
namespace Go.Proofs.YtemgddekbdifeaaGreat.Am
def tabK214 : List (Nat × AFn) := [(214, F214), (226, F226), (227, F227), (228, F228), (229, F229)]
theorem tabK214_ok : ∀ p ∈ tabK214, FnOK Tryz.prog p := by
  unfold tabK214
  simp only [List.forall_mem_cons]
  exact ⟨ok214, ok226, ok227, ok228, ok229, fun _ h => by cases h⟩
/-- cubit/si.forces -/
def e40 : Entry := ⟨214, [], .flat (.agg #[(.int .i64 2), (.int .i64 1), (.int .i64 1), (.int .i64 (-2)), (.int .i64 0), (.int .i64 0), (.int .i64 0), (.int .i64 0), (.int .i64 0), (.int .i64 (-1)), (.int .i64 1), (.int .i64 (-2)), (.int .i64 0), (.int .i64 0), (.int .i64 0), (.int .i64 0), (.int .i64 0), (.int .i64 0), (.int .i64 0), (.int .i64 0), (.int .i64 0), (.int .i64 0), (.int .i64 0), (.int .i64 0), (.int .i64 0), (.int .i64 0), (.int .i64 0), (.int .i64 0), (.int .i64 0), (.int .i64 0), (.int .i64 0), (.int .i64 0), (.int .i64 0), (.int .i64 0), (.int .i64 0), (.int .i64 0), (.int .i64 0), (.int .i64 0), (.int .i64 0), (.int .i64 0), (.int .i64 0), (.int .i64 0), (.int .i64 0), (.int .i64 0), (.int .i64 0), (.int .i64 0), (.int .i64 0), (.int .i64 0), (.int .i64 0), (.int .i64 0), (.int .i64 0), (.int .i64 0), (.int .i64 0), (.int .i64 0), (.int .i64 0), (.int .i64 0), (.int .i64 0), (.int .i64 0), (.int .i64 0), (.int .i64 0), (.int .i64 0), (.int .i64 0), (.int .i64 0), (.int .i64 0), (.int .i64 0)])⟩
def lK40 : List Entry := []
theorem lK40_ok : ∀ e ∈ lK40, EntryOK Tryz.prog e := fun _ h => by cases h
theorem k40 : EntryOK Tryz.prog e40 := known_run tabK214_ok lK40_ok (fuel := 100000) (n := 60) (by kernel_rfl) (by kernel_rfl)
def tabK215 : List (Nat × AFn) := [(215, F215), (226, F226), (227, F227), (228, F228)]
theorem tabK215_ok : ∀ p ∈ tabK215, FnOK Tryz.prog p := by
  unfold tabK215
  simp only [List.forall_mem_cons]
  exact ⟨ok215, ok226, ok227, ok228, fun _ h => by cases h⟩
/-- cubit/si.energies -/
def e41 : Entry := ⟨215, [], .flat (.agg #[(.int .i64 1), (.int .i64 2), (.int .i64 1), (.int .i64 (-2)), (.int .i64 0), (.int .i64 0), (.int .i64 0), (.int .i64 0), (.int .i64 0), (.int .i64 0), (.int .i64 0), (.int .i64 0), (.int .i64 0), (.int .i64 0), (.int .i64 0), (.int .i64 0), (.int .i64 0), (.int .i64 0), (.int .i64 0), (.int .i64 0), (.int .i64 0), (.int .i64 0), (.int .i64 0), (.int .i64 0), (.int .i64 0), (.int .i64 0), (.int .i64 0), (.int .i64 0), (.int .i64 0), (.int .i64 0), (.int .i64 0), (.int .i64 0), (.int .i64 0), (.int .i64 0), (.int .i64 0), (.int .i64 0), (.int .i64 0), (.int .i64 0), (.int .i64 0), (.int .i64 0), (.int .i64 0), (.int .i64 0), (.int .i64 0), (.int .i64 0), (.int .i64 0), (.int .i64 0), (.int .i64 0), (.int .i64 0), (.int .i64 0), (.int .i64 0), (.int .i64 0), (.int .i64 0), (.int .i64 0), (.int .i64 0), (.int .i64 0), (.int .i64 0), (.int .i64 0), (.int .i64 0), (.int .i64 0), (.int .i64 0), (.int .i64 0), (.int .i64 0), (.int .i64 0), (.int .i64 0), (.int .i64 0)])⟩
def lK41 : List Entry := [e40]
theorem lK41_ok : ∀ e ∈ lK41, EntryOK Tryz.prog e := by
  unfold lK41
  simp only [List.forall_mem_cons]
  exact ⟨k40, fun _ h => by cases h⟩
theorem k41 : EntryOK Tryz.prog e41 := known_run tabK215_ok lK41_ok (fuel := 100000) (n := 60) (by kernel_rfl) (by kernel_rfl)
def tabK216 : List (Nat × AFn) := [(216, F216), (227, F227), (228, F228), (229, F229)]
theorem tabK216_ok : ∀ p ∈ tabK216, FnOK Tryz.prog p := by
  unfold tabK216
  simp only [List.forall_mem_cons]
  exact ⟨ok216, ok227, ok228, ok229, fun _ h => by cases h⟩
/-- cubit/si.powers -/
def e42 : Entry := ⟨216, [], .flat (.agg #[(.int .i64 1), (.int .i64 2), (.int .i64 1), (.int .i64 (-3)), (.int .i64 0), (.int .i64 0), (.int .i64 0), (.int .i64 0), (.int .i64 0), (.int .i64 0), (.int .i64 0), (.int .i64 0), (.int .i64 0), (.int .i64 0), (.int .i64 0), (.int .i64 0), (.int .i64 0), (.int .i64 0), (.int .i64 0), (.int .i64 0), (.int .i64 0), (.int .i64 0), (.int .i64 0), (.int .i64 0), (.int .i64 0), (.int .i64 0), (.int .i64 0), (.int .i64 0), (.int .i64 0), (.int .i64 0), (.int .i64 0), (.int .i64 0), (.int .i64 0), (.int .i64 0), (.int .i64 0), (.int .i64 0), (.int .i64 0), (.int .i64 0), (.int .i64 0), (.int .i64 0), (.int .i64 0), (.int .i64 0), (.int .i64 0), (.int .i64 0), (.int .i64 0), (.int .i64 0), (.int .i64 0), (.int .i64 0), (.int .i64 0), (.int .i64 0), (.int .i64 0), (.int .i64 0), (.int .i64 0), (.int .i64 0), (.int .i64 0), (.int .i64 0), (.int .i64 0), (.int .i64 0), (.int .i64 0), (.int .i64 0), (.int .i64 0), (.int .i64 0), (.int .i64 0), (.int .i64 0), (.int .i64 0)])⟩
def lK42 : List Entry := [e41]
theorem lK42_ok : ∀ e ∈ lK42, EntryOK Tryz.prog e := by
  unfold lK42
  simp only [List.forall_mem_cons]
  exact ⟨k41, fun _ h => by cases h⟩
theorem k42 : EntryOK Tryz.prog e42 := known_run tabK216_ok lK42_ok (fuel := 100000) (n := 60) (by kernel_rfl) (by kernel_rfl)
def tabK217 : List (Nat × AFn) := [(217, F217), (226, F226), (227, F227), (228, F228), (229, F229)]
theorem tabK217_ok : ∀ p ∈ tabK217, FnOK Tryz.prog p := by
  unfold tabK217
  simp only [List.forall_mem_cons]
  exact ⟨ok217, ok226, ok227, ok228, ok229, fun _ h => by cases h⟩
/-- cubit/si.electrics -/
def e43 : Entry := ⟨217, [], .flat (.agg #[(.int .i64 8), (.int .i64 0), (.int .i64 0), (.int .i64 1), (.int .i64 1), (.int .i64 0), (.int .i64 0), (.int .i64 0), (.int .i64 0), (.int .i64 2), (.int .i64 1), (.int .i64 (-3)), (.int .i64 (-1)), (.int .i64 0), (.int .i64 0), (.int .i64 0), (.int .i64 0), (.int .i64 (-2)), (.int .i64 (-1)), (.int .i64 4), (.int .i64 2), (.int .i64 0), (.int .i64 0), (.int .i64 0), (.int .i64 0), (.int .i64 2), (.int .i64 1), (.int .i64 (-3)), (.int .i64 (-2)), (.int .i64 0), (.int .i64 0), (.int .i64 0), (.int .i64 0), (.int .i64 (-2)), (.int .i64 (-1)), (.int .i64 3), (.int .i64 2), (.int .i64 0), (.int .i64 0), (.int .i64 0), (.int .i64 0), (.int .i64 2), (.int .i64 1), (.int .i64 (-2)), (.int .i64 (-1)), (.int .i64 0), (.int .i64 0), (.int .i64 0), (.int .i64 0), (.int .i64 0), (.int .i64 1), (.int .i64 (-2)), (.int .i64 (-1)), (.int .i64 0), (.int .i64 0), (.int .i64 0), (.int .i64 0), (.int .i64 2), (.int .i64 1), (.int .i64 (-2)), (.int .i64 (-2)), (.int .i64 0), (.int .i64 0), (.int .i64 0), (.int .i64 0)])⟩
def lK43 : List Entry := [e42]
theorem lK43_ok : ∀ e ∈ lK43, EntryOK Tryz.prog e := by
  unfold lK43
  simp only [List.forall_mem_cons]
  exact ⟨k42, fun _ h => by cases h⟩
theorem k43 : EntryOK Tryz.prog e43 := known_run tabK217_ok lK43_ok (fuel := 100000) (n := 60) (by kernel_rfl) (by kernel_rfl)
def tabK218 : List (Nat × AFn) := [(218, F218), (227, F227), (228, F228)]
theorem tabK218_ok : ∀ p ∈ tabK218, FnOK Tryz.prog p := by
  unfold tabK218
  simp only [List.forall_mem_cons]
  exact ⟨ok218, ok227, ok228, fun _ h => by cases h⟩
/-- cubit/si.frequencies -/
def e44 : Entry := ⟨218, [], .flat (.agg #[(.int .i64 1), (.int .i64 0), (.int .i64 0), (.int .i64 (-1)), (.int .i64 0), (.int .i64 0), (.int .i64 0), (.int .i64 0), (.int .i64 0), (.int .i64 0), (.int .i64 0), (.int .i64 0), (.int .i64 0), (.int .i64 0), (.int .i64 0), (.int .i64 0), (.int .i64 0), (.int .i64 0), (.int .i64 0), (.int .i64 0), (.int .i64 0), (.int .i64 0), (.int .i64 0), (.int .i64 0), (.int .i64 0), (.int .i64 0), (.int .i64 0), (.int .i64 0), (.int .i64 0), (.int .i64 0), (.int .i64 0), (.int .i64 0), (.int .i64 0), (.int .i64 0), (.int .i64 0), (.int .i64 0), (.int .i64 0), (.int .i64 0), (.int .i64 0), (.int .i64 0), (.int .i64 0), (.int .i64 0), (.int .i64 0), (.int .i64 0), (.int .i64 0), (.int .i64 0), (.int .i64 0), (.int .i64 0), (.int .i64 0), (.int .i64 0), (.int .i64 0), (.int .i64 0), (.int .i64 0), (.int .i64 0), (.int .i64 0), (.int .i64 0), (.int .i64 0), (.int .i64 0), (.int .i64 0), (.int .i64 0), (.int .i64 0), (.int .i64 0), (.int .i64 0), (.int .i64 0), (.int .i64 0)])⟩
def lK44 : List Entry := []
theorem lK44_ok : ∀ e ∈ lK44, EntryOK Tryz.prog e := fun _ h => by cases h
theorem k44 : EntryOK Tryz.prog e44 := known_run tabK218_ok lK44_ok (fuel := 100000) (n := 60) (by kernel_rfl) (by kernel_rfl)
def tabK219 : List (Nat × AFn) := [(219, F219), (226, F226), (227, F227), (228, F228), (229, F229)]
theorem tabK219_ok : ∀ p ∈ tabK219, FnOK Tryz.prog p := by
  unfold tabK219
  simp only [List.forall_mem_cons]
  exact ⟨ok219, ok226, ok227, ok228, ok229, fun _ h => by cases h⟩
/-- cubit/si.raysMade -/
def e45 : Entry := ⟨219, [], .flat (.agg #[(.int .i64 4), (.int .i64 0), (.int .i64 0), (.int .i64 (-1)), (.int .i64 0), (.int .i64 0), (.int .i64 0), (.int .i64 0), (.int .i64 0), (.int .i64 2), (.int .i64 0), (.int .i64 (-2)), (.int .i64 0), (.int .i64 0), (.int .i64 0), (.int .i64 0), (.int .i64 0), (.int .i64 2), (.int .i64 0), (.int .i64 (-2)), (.int .i64 0), (.int .i64 0), (.int .i64 0), (.int .i64 0), (.int .i64 0), (.int .i64 0), (.int .i64 0), (.int .i64 (-1)), (.int .i64 0), (.int .i64 0), (.int .i64 1), (.int .i64 0), (.int .i64 0), (.int .i64 0), (.int .i64 0), (.int .i64 0), (.int .i64 0), (.int .i64 0), (.int .i64 0), (.int .i64 0), (.int .i64 0), (.int .i64 0), (.int .i64 0), (.int .i64 0), (.int .i64 0), (.int .i64 0), (.int .i64 0), (.int .i64 0), (.int .i64 0), (.int .i64 0), (.int .i64 0), (.int .i64 0), (.int .i64 0), (.int .i64 0), (.int .i64 0), (.int .i64 0), (.int .i64 0), (.int .i64 0), (.int .i64 0), (.int .i64 0), (.int .i64 0), (.int .i64 0), (.int .i64 0), (.int .i64 0), (.int .i64 0)])⟩
def lK45 : List Entry := [e41, e44]
theorem lK45_ok : ∀ e ∈ lK45, EntryOK Tryz.prog e := by
  unfold lK45
  simp only [List.forall_mem_cons]
  exact ⟨k41, k44, fun _ h => by cases h⟩
theorem k45 : EntryOK Tryz.prog e45 := known_run tabK219_ok lK45_ok (fuel := 100000) (n := 60) (by kernel_rfl) (by kernel_rfl)
def tabK220 : List (Nat × AFn) := [(220, F220), (228, F228)]
theorem tabK220_ok : ∀ p ∈ tabK220, FnOK Tryz.prog p := by
  unfold tabK220
  simp only [List.forall_mem_cons]
  exact ⟨ok220, ok228, fun _ h => by cases h⟩
/-- cubit/si.planes -/
def e46 : Entry := ⟨220, [], .flat (.agg #[(.int .i64 2), (.int .i64 0), (.int .i64 0), (.int .i64 0), (.int .i64 0), (.int .i64 0), (.int .i64 0), (.int .i64 0), (.int .i64 0), (.int .i64 0), (.int .i64 0), (.int .i64 0), (.int .i64 0), (.int .i64 0), (.int .i64 0), (.int .i64 0), (.int .i64 0), (.int .i64 0), (.int .i64 0), (.int .i64 0), (.int .i64 0), (.int .i64 0), (.int .i64 0), (.int .i64 0), (.int .i64 0), (.int .i64 0), (.int .i64 0), (.int .i64 0), (.int .i64 0), (.int .i64 0), (.int .i64 0), (.int .i64 0), (.int .i64 0), (.int .i64 0), (.int .i64 0), (.int .i64 0), (.int .i64 0), (.int .i64 0), (.int .i64 0), (.int .i64 0), (.int .i64 0), (.int .i64 0), (.int .i64 0), (.int .i64 0), (.int .i64 0), (.int .i64 0), (.int .i64 0), (.int .i64 0), (.int .i64 0), (.int .i64 0), (.int .i64 0), (.int .i64 0), (.int .i64 0), (.int .i64 0), (.int .i64 0), (.int .i64 0), (.int .i64 0), (.int .i64 0), (.int .i64 0), (.int .i64 0), (.int .i64 0), (.int .i64 0), (.int .i64 0), (.int .i64 0), (.int .i64 0)])⟩
def lK46 : List Entry := []
theorem lK46_ok : ∀ e ∈ lK46, EntryOK Tryz.prog e := fun _ h => by cases h
theorem k46 : EntryOK Tryz.prog e46 := known_run tabK220_ok lK46_ok (fuel := 100000) (n := 60) (by kernel_rfl) (by kernel_rfl)
def tabK221 : List (Nat × AFn) := [(221, F221), (226, F226), (227, F227), (228, F228), (229, F229)]
theorem tabK221_ok : ∀ p ∈ tabK221, FnOK Tryz.prog p := by
  unfold tabK221
  simp only [List.forall_mem_cons]
  exact ⟨ok221, ok226, ok227, ok228, ok229, fun _ h => by cases h⟩
/-- cubit/si.lights -/
def e47 : Entry := ⟨221, [], .flat (.agg #[(.int .i64 2), (.int .i64 0), (.int .i64 0), (.int .i64 0), (.int .i64 0), (.int .i64 0), (.int .i64 0), (.int .i64 1), (.int .i64 0), (.int .i64 (-2)), (.int .i64 0), (.int .i64 0), (.int .i64 0), (.int .i64 0), (.int .i64 0), (.int .i64 1), (.int .i64 0), (.int .i64 0), (.int .i64 0), (.int .i64 0), (.int .i64 0), (.int .i64 0), (.int .i64 0), (.int .i64 0), (.int .i64 0), (.int .i64 0), (.int .i64 0), (.int .i64 0), (.int .i64 0), (.int .i64 0), (.int .i64 0), (.int .i64 0), (.int .i64 0), (.int .i64 0), (.int .i64 0), (.int .i64 0), (.int .i64 0), (.int .i64 0), (.int .i64 0), (.int .i64 0), (.int .i64 0), (.int .i64 0), (.int .i64 0), (.int .i64 0), (.int .i64 0), (.int .i64 0), (.int .i64 0), (.int .i64 0), (.int .i64 0), (.int .i64 0), (.int .i64 0), (.int .i64 0), (.int .i64 0), (.int .i64 0), (.int .i64 0), (.int .i64 0), (.int .i64 0), (.int .i64 0), (.int .i64 0), (.int .i64 0), (.int .i64 0), (.int .i64 0), (.int .i64 0), (.int .i64 0), (.int .i64 0)])⟩
def lK47 : List Entry := [e46]
theorem lK47_ok : ∀ e ∈ lK47, EntryOK Tryz.prog e := by
  unfold lK47
  simp only [List.forall_mem_cons]
  exact ⟨k46, fun _ h => by cases h⟩
theorem k47 : EntryOK Tryz.prog e47 := known_run tabK221_ok lK47_ok (fuel := 100000) (n := 60) (by kernel_rfl) (by kernel_rfl)
end Go.Proofs.YtemgddekbdifeaaGreat.Am
