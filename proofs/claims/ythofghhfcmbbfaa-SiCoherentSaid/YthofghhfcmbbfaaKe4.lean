/- What some calls come to. -/
import Derived.Test.YthofghhfcmbbfaaKe3
import Derived.KernelRfl
set_option maxRecDepth 1000000
namespace Go.Proofs.Ythofghhfcmbbfaa.Am
def tabK12 : List (Nat × AFn) := [(12, F12), (25, F25), (26, F26), (27, F27), (28, F28), (29, F29), (30, F30), (31, F31), (32, F32), (33, F33), (49, F49)]
theorem tabK12_ok : ∀ p ∈ tabK12, FnOK Try.prog p := by
  unfold tabK12
  simp only [List.forall_mem_cons]
  exact ⟨ok12, ok25, ok26, ok27, ok28, ok29, ok30, ok31, ok32, ok33, ok49, fun _ h => by cases h⟩
/-- cubit/base.Units -/
def e32 : Entry := ⟨12, [], .sl [(.string ⟨#[98, 105, 116]⟩), (.string ⟨#[98]⟩), (.int .i64 0), (.int .i64 0), (.int .i64 0), (.int .i64 0), (.int .i64 0), (.int .i64 0), (.int .i64 0), (.int .i64 1), (.string ⟨#[49]⟩), (.string ⟨#[49]⟩), (.string ⟨#[48]⟩), (.string ⟨#[49]⟩), (.int .i64 3), (.string ⟨#[109, 111, 108, 101]⟩), (.string ⟨#[109, 111, 108]⟩), (.int .i64 0), (.int .i64 0), (.int .i64 0), (.int .i64 0), (.int .i64 0), (.int .i64 1), (.int .i64 0), (.int .i64 0), (.string ⟨#[49]⟩), (.string ⟨#[49]⟩), (.string ⟨#[48]⟩), (.string ⟨#[49]⟩), (.int .i64 1), (.string ⟨#[115, 101, 99, 111, 110, 100]⟩), (.string ⟨#[115]⟩), (.int .i64 0), (.int .i64 0), (.int .i64 1), (.int .i64 0), (.int .i64 0), (.int .i64 0), (.int .i64 0), (.int .i64 0), (.string ⟨#[49]⟩), (.string ⟨#[49]⟩), (.string ⟨#[48]⟩), (.string ⟨#[49]⟩), (.int .i64 1), (.string ⟨#[97, 109, 112, 101, 114, 101]⟩), (.string ⟨#[65]⟩), (.int .i64 0), (.int .i64 0), (.int .i64 0), (.int .i64 1), (.int .i64 0), (.int .i64 0), (.int .i64 0), (.int .i64 0), (.string ⟨#[49]⟩), (.string ⟨#[49]⟩), (.string ⟨#[48]⟩), (.string ⟨#[49]⟩), (.int .i64 1), (.string ⟨#[109, 101, 116, 114, 101]⟩), (.string ⟨#[109]⟩), (.int .i64 1), (.int .i64 0), (.int .i64 0), (.int .i64 0), (.int .i64 0), (.int .i64 0), (.int .i64 0), (.int .i64 0), (.string ⟨#[49]⟩), (.string ⟨#[49]⟩), (.string ⟨#[48]⟩), (.string ⟨#[49]⟩), (.int .i64 1), (.string ⟨#[103, 114, 97, 109]⟩), (.string ⟨#[103]⟩), (.int .i64 0), (.int .i64 1), (.int .i64 0), (.int .i64 0), (.int .i64 0), (.int .i64 0), (.int .i64 0), (.int .i64 0), (.string ⟨#[49]⟩), (.string ⟨#[49, 48, 48, 48]⟩), (.string ⟨#[48]⟩), (.string ⟨#[49]⟩), (.int .i64 1), (.string ⟨#[99, 97, 110, 100, 101, 108, 97]⟩), (.string ⟨#[99, 100]⟩), (.int .i64 0), (.int .i64 0), (.int .i64 0), (.int .i64 0), (.int .i64 0), (.int .i64 0), (.int .i64 1), (.int .i64 0), (.string ⟨#[49]⟩), (.string ⟨#[49]⟩), (.string ⟨#[48]⟩), (.string ⟨#[49]⟩), (.int .i64 1), (.string ⟨#[107, 101, 108, 118, 105, 110]⟩), (.string ⟨#[75]⟩), (.int .i64 0), (.int .i64 0), (.int .i64 0), (.int .i64 0), (.int .i64 1), (.int .i64 0), (.int .i64 0), (.int .i64 0), (.string ⟨#[49]⟩), (.string ⟨#[49]⟩), (.string ⟨#[48]⟩), (.string ⟨#[49]⟩), (.int .i64 1)] 30 false 8 8⟩
def lK32 : List Entry := [e10, e12, e13, e15, e17, e19, e22, e24, e26, e30, e31]
theorem lK32_ok : ∀ e ∈ lK32, EntryOK Try.prog e := by
  unfold lK32
  simp only [List.forall_mem_cons]
  exact ⟨k10, k12, k13, k15, k17, k19, k22, k24, k26, k30, k31, fun _ h => by cases h⟩
theorem k32 : EntryOK Try.prog e32 := known_run tabK12_ok lK32_ok (fuel := 100000) (n := 60) (by kernel_rfl) (by kernel_rfl)
def tabK45 : List (Nat × AFn) := [(45, F45), (59, F59), (63, F63), (64, F64), (65, F65), (66, F66), (74, F74), (75, F75), (76, F76), (77, F77), (78, F78), (79, F79), (80, F80), (81, F81), (82, F82), (83, F83), (85, F85), (86, F86), (87, F87), (88, F88), (89, F89), (90, F90), (91, F91), (92, F92), (93, F93), (94, F94), (95, F95), (96, F96), (97, F97), (98, F98), (99, F99), (100, F100), (101, F101), (102, F102), (103, F103), (104, F104), (105, F105), (106, F106), (107, F107), (108, F108), (109, F109), (110, F110), (111, F111)]
theorem tabK45_ok : ∀ p ∈ tabK45, FnOK Try.prog p := by
  unfold tabK45
  simp only [List.forall_mem_cons]
  exact ⟨ok45, ok59, ok63, ok64, ok65, ok66, ok74, ok75, ok76, ok77, ok78, ok79, ok80, ok81, ok82, ok83, ok85, ok86, ok87, ok88, ok89, ok90, ok91, ok92, ok93, ok94, ok95, ok96, ok97, ok98, ok99, ok100, ok101, ok102, ok103, ok104, ok105, ok106, ok107, ok108, ok109, ok110, ok111, fun _ h => by cases h⟩
/-- cubit/rat.Mul -/
def e33 : Entry := ⟨45, [(.agg #[(.string ⟨#[49]⟩), (.string ⟨#[49]⟩)]), (.agg #[(.string ⟨#[49]⟩), (.string ⟨#[49]⟩)])], .flat (.tuple #[(.agg #[(.string ⟨#[49]⟩), (.string ⟨#[49]⟩)]), (.int .i64 0)])⟩
def lK33 : List Entry := []
theorem lK33_ok : ∀ e ∈ lK33, EntryOK Try.prog e := fun _ h => by cases h
theorem k33 : EntryOK Try.prog e33 := known_run tabK45_ok lK33_ok (fuel := 100000) (n := 60) (by kernel_rfl) (by kernel_rfl)
def tabK14 : List (Nat × AFn) := [(14, F14)]
theorem tabK14_ok : ∀ p ∈ tabK14, FnOK Try.prog p := by
  unfold tabK14
  simp only [List.forall_mem_cons]
  exact ⟨ok14, fun _ h => by cases h⟩
/-- cubit/cubitref09.Units -/
def e34 : Entry := ⟨14, [], .sl [(.string ⟨#[98, 105, 116]⟩), (.string ⟨#[98]⟩), (.int .i64 0), (.int .i64 0), (.int .i64 0), (.int .i64 0), (.int .i64 0), (.int .i64 0), (.int .i64 0), (.int .i64 1), (.string ⟨#[49]⟩), (.string ⟨#[49]⟩), (.string ⟨#[48]⟩), (.string ⟨#[49]⟩), (.int .i64 3), (.string ⟨#[109, 111, 108, 101]⟩), (.string ⟨#[109, 111, 108]⟩), (.int .i64 0), (.int .i64 0), (.int .i64 0), (.int .i64 0), (.int .i64 0), (.int .i64 1), (.int .i64 0), (.int .i64 0), (.string ⟨#[49]⟩), (.string ⟨#[49]⟩), (.string ⟨#[48]⟩), (.string ⟨#[49]⟩), (.int .i64 1), (.string ⟨#[115, 101, 99, 111, 110, 100]⟩), (.string ⟨#[115]⟩), (.int .i64 0), (.int .i64 0), (.int .i64 1), (.int .i64 0), (.int .i64 0), (.int .i64 0), (.int .i64 0), (.int .i64 0), (.string ⟨#[49]⟩), (.string ⟨#[49]⟩), (.string ⟨#[48]⟩), (.string ⟨#[49]⟩), (.int .i64 1), (.string ⟨#[97, 109, 112, 101, 114, 101]⟩), (.string ⟨#[65]⟩), (.int .i64 0), (.int .i64 0), (.int .i64 0), (.int .i64 1), (.int .i64 0), (.int .i64 0), (.int .i64 0), (.int .i64 0), (.string ⟨#[49]⟩), (.string ⟨#[49]⟩), (.string ⟨#[48]⟩), (.string ⟨#[49]⟩), (.int .i64 1), (.string ⟨#[109, 101, 116, 114, 101]⟩), (.string ⟨#[109]⟩), (.int .i64 1), (.int .i64 0), (.int .i64 0), (.int .i64 0), (.int .i64 0), (.int .i64 0), (.int .i64 0), (.int .i64 0), (.string ⟨#[49]⟩), (.string ⟨#[49]⟩), (.string ⟨#[48]⟩), (.string ⟨#[49]⟩), (.int .i64 1), (.string ⟨#[103, 114, 97, 109]⟩), (.string ⟨#[103]⟩), (.int .i64 0), (.int .i64 1), (.int .i64 0), (.int .i64 0), (.int .i64 0), (.int .i64 0), (.int .i64 0), (.int .i64 0), (.string ⟨#[49]⟩), (.string ⟨#[49, 48, 48, 48]⟩), (.string ⟨#[48]⟩), (.string ⟨#[49]⟩), (.int .i64 1), (.string ⟨#[99, 97, 110, 100, 101, 108, 97]⟩), (.string ⟨#[99, 100]⟩), (.int .i64 0), (.int .i64 0), (.int .i64 0), (.int .i64 0), (.int .i64 0), (.int .i64 0), (.int .i64 1), (.int .i64 0), (.string ⟨#[49]⟩), (.string ⟨#[49]⟩), (.string ⟨#[48]⟩), (.string ⟨#[49]⟩), (.int .i64 1), (.string ⟨#[107, 101, 108, 118, 105, 110]⟩), (.string ⟨#[75]⟩), (.int .i64 0), (.int .i64 0), (.int .i64 0), (.int .i64 0), (.int .i64 1), (.int .i64 0), (.int .i64 0), (.int .i64 0), (.string ⟨#[49]⟩), (.string ⟨#[49]⟩), (.string ⟨#[48]⟩), (.string ⟨#[49]⟩), (.int .i64 1)] 30 false 8 8⟩
def lK34 : List Entry := []
theorem lK34_ok : ∀ e ∈ lK34, EntryOK Try.prog e := fun _ h => by cases h
theorem k34 : EntryOK Try.prog e34 := known_run tabK14_ok lK34_ok (fuel := 100000) (n := 60) (by kernel_rfl) (by kernel_rfl)
end Go.Proofs.Ythofghhfcmbbfaa.Am
